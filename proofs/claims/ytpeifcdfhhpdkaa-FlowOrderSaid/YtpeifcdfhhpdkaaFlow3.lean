/- flow: Next. No condition. -/
import Derived.Test.YtpeifcdfhhpdkaaFlow2
namespace Go.Proofs.Ytpeifcdfhhpdkaa.Tw
set_option linter.unusedVariables false
set_option linter.unusedSimpArgs false
open Go Go.RowKit Go.MapKept
attribute [local go_sem] Oper.semAt_some

section
variable {w0 w : World} {CR F : HP} {sa : Option Addr} {n c : Nat} {l : List AIn}
theorem flow_next (h : Sat w0 w F) (pc : Int) :
    Calls Try.prog 28 #[.slice sa n c, .int .i64 pc] w fun e w' => ∃ pcb lb, e = .returned (.func (.func 45) #[] #[.pointer (some ⟨pcb, 0, none⟩), .pointer (some ⟨lb, 0, none⟩)]) ∧ Sat w0 w' (pt pcb (.cells #[.int .i64 pc] 3 (0, 0)) * (pt lb (.cells #[.slice sa n c] 22 (0, 0)) * F)) := by
  have h1 := (h.alloc (.cells #[.slice sa n c] 22)).alloc (.cells #[.int .i64 pc] 3)
  rw [size_alloc'] at h1
  go_enter Try.func28, Try.ntmps28
  go_wp2
  go_ret
  exact ⟨_, _, rfl, h1⟩
/-- what a loop has collected, in a box -/
def outR (ob : Nat) (L : List Int) : HP := ex fun a : Option Addr => ex fun c : Nat => pt ob (.cells #[.slice a L.length c] 24 (0, 0)) * slc 3 1 a L.length c (L.map ival)
theorem Sat.openOut {ob : Nat} {L : List Int} (h : Sat w0 w (outR ob L * F)) : ∃ a c, Sat w0 w (pt ob (.cells #[.slice a L.length c] 24 (0, 0)) * (slc 3 1 a L.length c (L.map ival) * F)) := by
  obtain ⟨a, h⟩ := h.elim_ex
  obtain ⟨c, h⟩ := h.elim_ex
  exact ⟨a, c, h.assoc⟩
theorem Sat.shutOut {ob : Nat} {L : List Int} {a : Option Addr} {k c : Nat} (hk : L.length = k) (h : Sat w0 w (pt ob (.cells #[.slice a k c] 24 (0, 0)) * (slc 3 1 a k c (L.map ival) * F))) : Sat w0 w (outR ob L * F) := by
  subst hk
  exact Sat.intro_ex a (Sat.intro_ex c h.unassoc)
theorem nextL_length (l : List AIn) (pc : Int) : (nextL l pc).length ≤ 2 := by
  unfold nextL
  split
  · split
    · simp
    · have hw : ∀ n x, (wi n x).length ≤ 1 := fun n x => by unfold wi; split <;> simp
      split
      · simp
      · split
        · exact Nat.le_trans (hw _ _) (by omega)
        · split
          · rw [List.length_append]
            have := hw l.length (pc + 1)
            split
            · simp; omega
            · have := hw l.length ‹AIn›.b; omega
          · exact Nat.le_trans (hw _ _) (by omega)
  · simp
set_option maxRecDepth 100000 in
set_option maxHeartbeats 4000000 in
theorem flow_Next (hC : CodeAt w0 CR sa n l) (hcap : n ≤ c) (hn : n ≤ 1000000000) (pc : Int) (h : Sat w0 w (CR * F)) :
    Calls Try.prog 13 #[.slice sa n c, .int .i64 pc] w fun e w' => ∃ a c', e = .returned (.slice a (nextL l pc).length c') ∧ Sat w0 w' (slc 3 1 a (nextL l pc).length c' ((sortI (nextL l pc)).map ival) * (CR * F)) := by
  rw [← callsIn_wide (n := 6)]
  have h1 : 1 ≤ 6 := by omega
  have ha := h.alloc (.cells #[.slice none 0 0] 24)
  generalize hob : w.heap.size = ob at *
  have HN := Lib.hid (callsIn_wide (n := 5) |>.2 (flow_next (sa := sa) (n := n) (c := c) ha pc))
  refine callsIn_of_wp_marks Try.func13 rfl trivial ?_
  simp only [Try.ntmps13, List.size_toArray, List.length_cons, List.length_nil, Nat.reduceAdd, Nat.reduceSub, Array.replicate_succ, Array.replicate_zero, List.push_toArray, List.append_toArray, List.nil_append, List.cons_append]
  try rw [hob]
  gi_wp2
  refine ⟨trivial, HN.out.mono ?_⟩
  rintro e w1 ⟨pcb, lb, rfl, h2⟩
  have h3 : Sat w0 w1 (outR ob [] * (shR pcb lb pc sa n c CR * F)) := by
    refine Sat.shutOut (a := none) (k := 0) (c := 0) rfl ?_
    refine (h2.nilSlc (T := 3) (sz := 1)).cast ?_
    unfold shR
    simp only [List.map_nil]
    ac_rfl
  gi_wp2
  refine wpIn_rangeFunc_sep (w0 := w0) (n := 6) h1 (gf := 45) (lb := #[.pointer (some ⟨pcb, 0, none⟩), .pointer (some ⟨lb, 0, none⟩)]) rfl (enters_of Try.func45 (by kernel_rfl) rfl)
    (next_seq (m := 3) hC hcap pcb lb pc hn) (fun _ => rfl) (fun pre => outR ob pre) (fun _ _ => wh False 1) h3
    (fun x => { tmps := #[.slice sa n c, .int .i64 pc, undef, undef, .slice none 0 0, .pointer (some ⟨ob, 0, none⟩), .int .i64 x, .slice sa n c, .int .i64 pc, .func (.func 45) #[] #[.pointer (some ⟨pcb, 0, none⟩), .pointer (some ⟨lb, 0, none⟩)], .int .i64 x, undef, undef, undef, undef, undef, undef, undef], defers := [] }) ?assign ?body ?done ?stop
  case assign =>
    intro l x W K hK
    gi_wp2
    exact hK
  case body =>
    intro lid pre x W G hs hok
    obtain ⟨a, c', h4⟩ := hs.openOut
    have hlen : pre.length ≤ 1000 := by
      obtain ⟨post, e⟩ := hok
      have := nextL_length l pc
      rw [e, List.length_append] at this; omega
    have c0 : W.cell? ⟨ob, 0, none⟩ = some (.slice a pre.length c') := Sat.cell (T := 24) (cs := #[.slice a pre.length c']) h4 0 rfl
    have f0 : W.frozen? ⟨ob, 0, none⟩ = false := Sat.free (T := 24) (cs := #[.slice a pre.length c']) h4 0
    have h5 := h4.alloc (.cells #[.int .i64 x] 3)
    have b0 : (W.alloc (.cells #[.int .i64 x] 3)).cell? ⟨W.heap.size, 0, none⟩ = some (.int .i64 x) := Sat.cell (T := 3) (cs := #[.int .i64 x]) h5 0 rfl
    gi_wp2_with (gi_at_builtin; refine wpListIn_push rfl _ _ rfl a pre.length c' pre rfl h5.p3 W.heap.size 1 x rfl b0 (by omega) ?_; intro a2 c2 w4 h6; have c4 : w4.cell? ⟨ob, 0, none⟩ = some (.slice a pre.length c') := Sat.cell (T := 24) (cs := #[.slice a pre.length c']) h6.p3 0 rfl; have f4 : w4.frozen? ⟨ob, 0, none⟩ = false := Sat.free (T := 24) (cs := #[.slice a pre.length c']) h6.p3 0)
    have h7 := (Sat.store (T := 24) (cs := #[.slice a pre.length c']) h6.p3 (i := 0) (.slice a2 (pre.length + 1) c2)).p3.drop
    show Sat w0 _ _
    exact Sat.shutOut (by simp) h7
  case done =>
    intro D xs W hS hs
    subst hS
    obtain ⟨a, c', h4⟩ := hs.p2.openOut
    have hlen := nextL_length l pc
    have c0 : W.cell? ⟨ob, 0, none⟩ = some (.slice a (nextL l pc).length c') := Sat.cell (T := 24) (cs := #[.slice a (nextL l pc).length c']) h4 0 rfl
    have HS := Lib.hid (callsIn_wide (n := 5) |>.2 (sort_sat h4.p2 rfl (by omega)))
    generalize hL : nextL l pc = L at *
    gi_wp2
    refine ⟨trivial, HS.out.mono ?_⟩
    rintro e w5 ⟨rfl, h5⟩
    have c5 : w5.cell? ⟨ob, 0, none⟩ = some (.slice a L.length c') := Sat.cell (T := 24) (cs := #[.slice a L.length c']) h5.p2 0 rfl
    have hK := h5.p3.blk
    gi_wp2
    have h6 := (h5.p3.putObj (.deferred none)).drop.p2.drop
    have h7 : Sat w0 (w5.putObj D (.deferred none)) (pt pcb (.cells #[.int .i64 pc] 3 (0, 0)) * (pt lb (.cells #[.slice sa n c] 22 (0, 0)) * (slc 3 1 a L.length c' ((sortI L).map ival) * (CR * F)))) := h6.cast (by unfold shR; ac_rfl)
    refine ⟨by simp, .inl ⟨_, _, rfl, run_takeDeferred hK, ?_⟩⟩
    refine ⟨_, results_tmp rfl _ _ _, ?_⟩
    rw [hL]
    exact ⟨a, c', rfl, h7.drop.drop⟩
  case stop =>
    intro D c2 pre W _ hs
    exact (hs.p2.elim_wh).1.elim
end
end Go.Proofs.Ytpeifcdfhhpdkaa.Tw
