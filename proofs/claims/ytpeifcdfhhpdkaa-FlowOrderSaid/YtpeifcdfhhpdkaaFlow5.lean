/- flow: From. No condition. -/
import Derived.Test.YtpeifcdfhhpdkaaFlow4
namespace Go.Proofs.Ytpeifcdfhhpdkaa.Tw
set_option linter.unusedVariables false
set_option linter.unusedSimpArgs false
open Go Go.RowKit Go.MapKept
attribute [local go_sem] Oper.semAt_some

/-- From's frame at its loop -/
def FAct (sa : Option Addr) (n c : Nat) (pc : Int) (sb ob mb : Nat) (k : Int) (u8 u22 u23 u24 u25 u26 u27 u28 u29 u30 u31 u32 u33 u34 u35 u36 u37 u38 u39 u40 u41 u42 u43 u44 u45 u46 u47 : Value) (Ds : List Nat) : Act := { tmps := #[.slice sa n c, .int .i64 pc, undef, undef, .slice none 0 0, .pointer (some ⟨sb, 0, none⟩), .pointer (some ⟨ob, 0, none⟩), .int .i64 k, u8, .int .i64 pc, .bool false, .bool false, .int .i64 pc, .slice sa n c, .int .i64 n, .bool false, .bool false, .map (some mb), .int .i64 pc, .map (some mb), .int .i64 pc, .slice (some ⟨sb + 1, 0, none⟩) 1 1, u22, u23, u24, u25, u26, u27, u28, u29, u30, u31, u32, u33, u34, u35, u36, u37, u38, u39, u40, u41, u42, u43, u44, u45, u46, u47], defers := defsL Ds }
def FInv (w0 : World) (CR F : HP) (l : List AIn) (B : List Int) (sa : Option Addr) (n c : Nat) (pc : Int) (sb ob mb : Nat) (a : Act) (W : World) : Prop :=
  ∃ (k : Nat) (out : List Int) (Ds : List Nat) (u8 u22 u23 u24 u25 u26 u27 u28 u29 u30 u31 u32 u33 u34 u35 u36 u37 u38 u39 u40 u41 u42 u43 u44 u45 u46 u47 : Value), a = FAct sa n c pc sb ob mb k u8 u22 u23 u24 u25 u26 u27 u28 u29 u30 u31 u32 u33 u34 u35 u36 u37 u38 u39 u40 u41 u42 u43 u44 u45 u46 u47 Ds ∧ (bfs l (n - k) k out = B ∧ Places n out ∧ k ≤ out.length) ∧ Sat w0 W (defsR Ds * (outR ob out * (seenR sb out * (CR * F))))
def slotLeft (n i : Nat) (a : Act) (_ : World) : Nat := match a.tmps.getD i undef with
  | .int _ x => n - x.toNat
  | _ => 0
section
variable {w0 w : World} {CR F : HP} {sa : Option Addr} {n c : Nat} {l : List AIn}
theorem Sat.shutSeen {sb m : Nat} {L : List Int} (h : Sat w0 w (pt sb (.cells #[.map (some m)] 63 (0, 0)) * (mapR (.int .i64) (Value.int .i64) m (seenL L) * F))) : Sat w0 w (seenR sb L * F) :=
  Sat.intro_ex m h.unassoc
theorem Sat.openSeen {sb : Nat} {L : List Int} (h : Sat w0 w (seenR sb L * F)) : ∃ m, Sat w0 w (pt sb (.cells #[.map (some m)] 63 (0, 0)) * (mapR (.int .i64) (Value.int .i64) m (seenL L) * F)) := by
  obtain ⟨m, h⟩ := h.elim_ex
  exact ⟨m, h.assoc⟩
theorem addAll_length : ∀ (out ns : List Int), out.length ≤ (addAll out ns).length
  | out, [] => Nat.le_refl _
  | out, y :: ns => by
    refine Nat.le_trans ?_ (addAll_length (add1 out y) ns)
    unfold add1
    split
    · exact Nat.le_refl _
    · simp
theorem zero_intF (w : World) : (zeroValue 3).run Try.prog w = .ok (.int .i64 0) w := by kernel_rfl
theorem seen_look {m : Nat} {L : List Int} (y : Int) (h : Sat w0 w (mapR (.int .i64) (Value.int .i64) m (seenL L) * F)) :
    (Instr.lookup 63 (.map (some m)) (.int .i64 y) false).run Try.prog w = .ok (.int .i64 (if y ∈ L then 1 else 0)) w := by
  have := run_lookup (keys_int .i64) h Try.underlying63 Try.underlying3 (zero_intF w) y
  rw [mget_seen] at this
  split at this <;> rename_i hy
  · rw [if_pos hy]; exact this
  · rw [if_neg hy]; exact this
set_option maxRecDepth 100000 in
set_option maxHeartbeats 4000000 in
theorem flow_From (hC : CodeAt w0 CR sa n l) (hcap : n ≤ c) (hn : n ≤ 1000000000) (pc : Int) (h : Sat w0 w (CR * F)) :
    Calls Try.prog 16 #[.slice sa n c, .int .i64 pc] w fun e w' => ∃ a c', e = .returned (.slice a (fromL l pc).length c') ∧ Sat w0 w' (slc 3 1 a (fromL l pc).length c' ((fromL l pc).map ival) * (CR * F)) := by
  rw [← callsIn_wide (n := 6)]
  have h1 : 1 ≤ 6 := by omega
  have hln := hC.1
  by_cases hb : inr n pc = false
  · have e : fromL l pc = [] := by unfold fromL; rw [hln, hb]; rfl
    rw [e]
    clear e
    unfold inr at hb
    by_cases h0 : pc < 0
    · refine callsIn_of_wp_marks Try.func16 rfl trivial ?_
      simp only [Try.ntmps16, List.size_toArray, List.length_cons, List.length_nil, Nat.reduceAdd, Nat.reduceSub, Array.replicate_succ, Array.replicate_zero, List.push_toArray, List.append_toArray, List.nil_append, List.cons_append]
      gi_wp2
      refine ⟨_, results_tmp rfl _ _ _, ?_⟩
      exact ⟨none, 0, rfl, h.nilSlc⟩
    · have hge : (n : Int) ≤ pc := by
        have h1 : (0 : Int) ≤ pc := by omega
        simp [h1] at hb
        exact hb
      refine callsIn_of_wp_marks Try.func16 rfl trivial ?_
      simp only [Try.ntmps16, List.size_toArray, List.length_cons, List.length_nil, Nat.reduceAdd, Nat.reduceSub, Array.replicate_succ, Array.replicate_zero, List.push_toArray, List.append_toArray, List.nil_append, List.cons_append]
      gi_wp2
      refine ⟨_, results_tmp rfl _ _ _, ?_⟩
      exact ⟨none, 0, rfl, h.nilSlc⟩
  have hi : inr n pc = true := by simpa using hb
  clear hb
  have hlt : ¬ pc < 0 := by unfold inr at hi; simp at hi; omega
  have hlt2 : ¬ (n : Int) ≤ pc := by unfold inr at hi; simp at hi; omega
  have e : fromL l pc = sortI (bfs l n 0 [pc]) := by unfold fromL; rw [hln, hi]; rfl
  have HE := Lib.hid e
  have HI := Lib.hid hi
  clear e hi
  have hmm := @run_makeMap Try.prog
  have hm1 := h.newMap (d := .int .i64) (kv := Value.int .i64)
  obtain ⟨wm, hup0, hm2⟩ := run_mapUpdate (P := Try.prog) (t := 63) (keys_int .i64) hm1 Try.underlying63 Try.underlying3 pc (ival 1)
  have hup : (Instr.mapUpdate 63 (.map (some w.heap.size)) (.int .i64 pc) (.int .i64 1)).run Try.prog (w.alloc (.map #[] 0)) = .ok () wm := hup0
  clear hup0 hm1
  generalize hmb : w.heap.size = mb at *
  refine callsIn_of_wp_marks Try.func16 rfl trivial ?_
  simp only [Try.ntmps16, List.size_toArray, List.length_cons, List.length_nil, Nat.reduceAdd, Nat.reduceSub, Array.replicate_succ, Array.replicate_zero, List.push_toArray, List.append_toArray, List.nil_append, List.cons_append]
  gi_wp2
  try rw [hmb]
  have h2 := ((hm2.alloc (.cells #[.map (some mb)] 63)).alloc (.cells #[.int .i64 pc] 3)).alloc (.cells #[.slice (some ⟨wm.heap.size + 1, 0, none⟩) 1 1] 24)
  simp only [size_alloc'] at h2
  generalize hsb : wm.heap.size = sb at *
  generalize hob : sb + 1 + 1 = ob at *
  generalize hW : ((wm.alloc (.cells #[.map (some mb)] 63)).alloc (.cells #[.int .i64 pc] 3)).alloc (.cells #[.slice (some ⟨sb + 1, 0, none⟩) 1 1] 24) = W at *
  have h3 : Sat w0 W (defsR [] * (outR ob [pc] * (seenR sb [pc] * (CR * F)))) := by
    have h5 : Sat w0 W (slc 3 1 (some ⟨sb + 1, 0, none⟩) 1 1 ([pc].map ival) * (pt ob (.cells #[.slice (some ⟨sb + 1, 0, none⟩) 1 1] 24 (0, 0)) * (pt sb (.cells #[.map (some mb)] 63 (0, 0)) * (mapR (.int .i64) (Value.int .i64) mb (seenL [pc]) * (CR * F))))) :=
      Sat.shutSlc (cur := #[.int .i64 pc]) h2.p2 (Nat.le_refl _) (by unfold maxLen; omega) (by simp) rfl
    have h6 := (Sat.shutOut (L := [pc]) rfl h5.p2)
    have h7 : Sat w0 W (pt sb (.cells #[.map (some mb)] 63 (0, 0)) * (mapR (.int .i64) (Value.int .i64) mb (seenL [pc]) * (outR ob [pc] * (CR * F)))) := h6.cast (by ac_rfl)
    exact h7.shutSeen.p2.cast (by show _ = (1 : HP) * _; rw [one_mul])
  clear h2 hm2 hup
  refine wpIn_loop (FInv w0 CR F l (bfs l n 0 [pc]) sa n c pc sb ob mb) (slotLeft n 7) ⟨0, [pc], [], _, _, _, _, _, _, _, _, _, _, _, _, _, _, _, _, _, _, _, _, _, _, _, _, _, _, _, rfl, ⟨rfl, ⟨by simp, fun x hx => by simp at hx; subst hx; exact HI.out⟩, by simp⟩, h3⟩ ?_
  clear h3 hW
  rintro a W ⟨k, out, Ds, u8, u22, u23, u24, u25, u26, u27, u28, u29, u30, u31, u32, u33, u34, u35, u36, u37, u38, u39, u40, u41, u42, u43, u44, u45, u46, u47, rfl, ⟨hB, hP, hk⟩, hs⟩
  unfold FAct
  obtain ⟨oa, oc, h4⟩ := hs.p2.openOut
  have c0 : W.cell? ⟨ob, 0, none⟩ = some (.slice oa out.length oc) := Sat.cell (T := 24) (cs := #[.slice oa out.length oc]) h4 0 rfl
  by_cases hke : k = out.length
  · have hout : bfs l (n - k) k out = out := by
      subst hke
      cases n - out.length with
      | zero => rfl
      | succ f => unfold bfs; rw [List.getElem?_eq_none (Nat.le_refl _)]
    rw [hout] at hB
    rw [← hB] at HE
    have hlen := hP.le
    have HS := Lib.hid (callsIn_wide (n := 5) |>.2 (sort_sat h4.p2 rfl (by omega)))
    clear hout hB hk
    subst hke
    generalize hL : out.length = m at *
    gi_wp2
    refine ⟨trivial, HS.out.mono ?_⟩
    rintro e w5 ⟨rfl, h5⟩
    have c5 : w5.cell? ⟨ob, 0, none⟩ = some (.slice oa m oc) := Sat.cell (T := 24) (cs := #[.slice oa m oc]) h5.p2 0 rfl
    gi_wp2
    have h6 : Sat w0 w5 (defsR Ds * (pt ob (.cells #[.slice oa m oc] 24 (0, 0)) * (seenR sb out * (slc 3 1 oa m oc ((sortI out).map ival) * (CR * F))))) := h5.cast (by ac_rfl)
    refine leaves_defs Ds w5 h6 fun w7 h7 => ⟨_, results_tmp rfl _ _ _, ?_⟩
    have hlen2 : (sortI out).length = m := by rw [← hL]; exact List.length_mergeSort _
    rw [HE.out, hlen2]
    exact ⟨oa, oc, rfl, h7.drop.drop⟩
  · have hkl : k < out.length := by omega
    obtain ⟨x, hx⟩ : ∃ x, out[k]? = some x := ⟨out[k]'hkl, List.getElem?_eq_getElem _⟩
    obtain ⟨g, off, rfl, d0, _⟩ := intCells h4.p2 hx
    have hlen := hP.le
    have hnx : bfs l (n - k) k out = bfs l (n - (k + 1)) (k + 1) (addAll out (nextL l x)) := by
      obtain ⟨f, hf⟩ : ∃ f, n - k = f + 1 := ⟨n - k - 1, by omega⟩
      rw [hf, show n - (k + 1) = f by omega]
      show (match out[k]? with | none => out | some x => bfs l f (k + 1) (addAll out (nextL l x))) = _
      rw [hx]
    rw [hnx] at hB
    have HB := Lib.hid hB
    have HX := Lib.hid hx
    have HP' := Lib.hid hP
    have HN := Lib.hid (callsIn_wide (n := 5) |>.2 (flow_next (sa := sa) (n := n) (c := c) h4 x))
    clear hnx hB hx hP
    have hkl' : (k : Int) < (out.length : Int) := by omega
    gi_wp2
    refine ⟨trivial, HN.out.mono ?_⟩
    rintro e w1 ⟨pcb, lb, rfl, h5⟩
    have h6 : Sat w0 w1 ((outR ob (addAll out []) * seenR sb (addAll out [])) * (shR pcb lb x sa n c CR * (defsR Ds * F))) := by
      have : Sat w0 w1 (pt ob (.cells #[.slice (some ⟨g, off, none⟩) out.length oc] 24 (0, 0)) * (slc 3 1 (some ⟨g, off, none⟩) out.length oc (out.map ival) * (seenR sb out * (shR pcb lb x sa n c CR * (defsR Ds * F))))) := h5.cast (by unfold shR; ac_rfl)
      exact (Sat.shutOut rfl this).unassoc
    gi_wp2
    refine wpIn_rangeFunc_sep (w0 := w0) (n := 6) h1 (gf := 45) (lb := #[.pointer (some ⟨pcb, 0, none⟩), .pointer (some ⟨lb, 0, none⟩)]) rfl (enters_of Try.func45 (by kernel_rfl) rfl)
      (next_seq (m := 3) hC hcap pcb lb x hn) (fun _ => rfl) (fun pre => outR ob (addAll out pre) * seenR sb (addAll out pre)) (fun _ _ => wh False 1) h6
      (fun y => { tmps := #[.slice sa n c, .int .i64 pc, undef, undef, .slice none 0 0, .pointer (some ⟨sb, 0, none⟩), .pointer (some ⟨ob, 0, none⟩), .int .i64 k, .int .i64 y, .int .i64 pc, .bool false, .bool false, .int .i64 pc, .slice sa n c, .int .i64 n, .bool false, .bool false, .map (some mb), .int .i64 pc, .map (some mb), .int .i64 pc, .slice (some ⟨sb + 1, 0, none⟩) 1 1, .int .i64 k, .slice (some ⟨g, off, none⟩) out.length oc, .int .i64 out.length, .bool true, u26, u27, .slice sa n c, .slice (some ⟨g, off, none⟩) out.length oc, .int .i64 k, .pointer (some ⟨g, off + k, none⟩), .int .i64 x, .func (.func 45) #[] #[.pointer (some ⟨pcb, 0, none⟩), .pointer (some ⟨lb, 0, none⟩)], .int .i64 y, u35, u36, u37, u38, u39, u40, u41, u42, u43, u44, u45, u46, u47], defers := [] }) ?assign ?body ?done ?stop
    case assign =>
      intro l x W K hK
      gi_wp2
      exact hK
    case body =>
      intro lid pre y W G hs hok
      have hsA := hs.assoc
      have hPO : Places n (addAll out pre) := HP'.out.addAll fun z hz => by
        obtain ⟨post, e⟩ := hok
        rw [← hln]; exact nextL_inr (by rw [e]; exact List.mem_append_left _ hz)
      have hOl := hPO.le
      have e2 : addAll out (pre ++ [y]) = add1 (addAll out pre) y := addAll_snoc _ _ _
      have HE2 := Lib.hid e2
      clear e2 hok hPO
      generalize hO : addAll out pre = O at *
      obtain ⟨a, c', h7⟩ := hsA.openOut
      obtain ⟨m, h8⟩ := h7.p3.openSeen
      have s0 : W.cell? ⟨sb, 0, none⟩ = some (.map (some m)) := Sat.cell (T := 63) (cs := #[.map (some m)]) h8 0 rfl
      have hl := seen_look y h8.p2
      by_cases hy : y ∈ O
      · rw [if_pos hy] at hl
        have h9 : Sat w0 W ((outR ob (add1 O y) * seenR sb (add1 O y)) * (shR pcb lb x sa n c CR * G)) := by
          unfold add1; rw [if_pos hy]; exact hs
        clear h7 h8 hsA hs
        gi_wp2
        show Sat w0 _ ((outR ob (addAll out (pre ++ [y])) * seenR sb (addAll out (pre ++ [y]))) * (shR pcb lb x sa n c CR * G))
        rw [HE2.out]; exact h9
      · rw [if_neg hy] at hl
        obtain ⟨wm2, hup0, h9⟩ := run_mapUpdate (P := Try.prog) (t := 63) (keys_int .i64) h8.p2 Try.underlying63 Try.underlying3 y (ival 1)
        have hup : (Instr.mapUpdate 63 (.map (some m)) (.int .i64 y) (.int .i64 1)).run Try.prog W = .ok () wm2 := hup0
        rw [mset_seen hy] at h9
        have g0 : wm2.cell? ⟨ob, 0, none⟩ = some (.slice a O.length c') := Sat.cell (T := 24) (cs := #[.slice a O.length c']) h9.p3 0 rfl
        have h10 := h9.alloc (.cells #[.int .i64 y] 3)
        have b0 : (wm2.alloc (.cells #[.int .i64 y] 3)).cell? ⟨wm2.heap.size, 0, none⟩ = some (.int .i64 y) := Sat.cell (T := 3) (cs := #[.int .i64 y]) h10 0 rfl
        clear hup0 h7 hsA hs
        gi_wp2_with (gi_at_builtin; refine wpListIn_push rfl _ _ rfl a O.length c' O rfl h10.p5 wm2.heap.size 1 y rfl b0 (by omega) ?_; intro a2 c2 w4 h11; have c4 : w4.cell? ⟨ob, 0, none⟩ = some (.slice a O.length c') := Sat.cell (T := 24) (cs := #[.slice a O.length c']) h11.p5 0 rfl; have f4 : w4.frozen? ⟨ob, 0, none⟩ = false := Sat.free (T := 24) (cs := #[.slice a O.length c']) h11.p5 0)
        have h12 := Sat.store (T := 24) (cs := #[.slice a O.length c']) h11.p5 (i := 0) (.slice a2 (O.length + 1) c2)
        have h13 := (Sat.shutOut (L := O ++ [y]) (by simp) h12).drop2
        show Sat w0 _ ((outR ob (addAll out (pre ++ [y])) * seenR sb (addAll out (pre ++ [y]))) * (shR pcb lb x sa n c CR * G))
        rw [HE2.out]
        unfold add1
        rw [if_neg hy]
        have h14 : Sat w0 (w4.setCell ⟨ob, 0, none⟩ (.slice a2 (O.length + 1) c2)) (pt sb (.cells #[.map (some m)] 63 (0, 0)) * (mapR (.int .i64) (Value.int .i64) m (seenL (O ++ [y])) * (outR ob (O ++ [y]) * (shR pcb lb x sa n c CR * G)))) := h13.cast (by ac_rfl)
        exact h14.shutSeen.p2.unassoc
    case done =>
      intro D xs W hS hs
      subst hS
      gi_wp2
      have hsF : Sat w0 W (defsR (D :: Ds) * (outR ob (addAll out (nextL l x)) * (seenR sb (addAll out (nextL l x)) * (CR * F)))) := by
        have : Sat w0 W (pt pcb (.cells #[.int .i64 x] 3 (0, 0)) * (pt lb (.cells #[.slice sa n c] 22 (0, 0)) * (defsR (D :: Ds) * (outR ob (addAll out (nextL l x)) * (seenR sb (addAll out (nextL l x)) * (CR * F)))))) := hs.cast (by
          show _ = pt pcb _ * (pt lb _ * ((pt D (.deferred (some [])) * defsR Ds) * _))
          unfold shR; ac_rfl)
        exact this.drop.drop
      have hgrow := addAll_length out (nextL l x)
      refine ⟨⟨k + 1, addAll out (nextL l x), D :: Ds, _, _, _, _, _, _, _, _, _, _, _, _, _, _, _, _, _, _, _, _, _, _, _, _, _, _, _, rfl, ⟨HB.out, HP'.out.addAll fun z hz => by rw [← hln]; exact nextL_inr hz, by omega⟩, hsF⟩, ?_⟩
      show n - ((k : Int) + 1).toNat < n - ((k : Nat) : Int).toNat
      omega
    case stop =>
      intro D c2 pre W _ hs
      exact (hs.p2.elim_wh).1.elim
end
end Go.Proofs.Ytpeifcdfhhpdkaa.Tw
