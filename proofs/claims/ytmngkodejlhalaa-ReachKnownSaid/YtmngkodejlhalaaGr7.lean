/- reach: marked, those, From, Lost. No condition. -/
import Derived.Test.YtmngkodejlhalaaGr6
namespace Go.Proofs.Ytmngkodejlhalaa.Tw
set_option linter.unusedVariables false
set_option linter.unusedSimpArgs false
open Go Go.RowKit Go.MapKept

def seenL (L : List Int) : List (Int × Value) := L.map fun x => (x, ival 1)
theorem mget_seen (L : List Int) (x : Int) : mget (seenL L) x = if x ∈ L then some (ival 1) else none := by
  induction L with
  | nil => rfl
  | cons y L ih =>
    unfold mget seenL at *
    simp only [List.map_cons, List.find?_cons]
    by_cases h : y = x
    · subst h; simp
    · have h' : ¬ x = y := fun e => h e.symm
      simp only [h, decide_false, List.mem_cons, h', false_or]
      exact ih
theorem mset_seen {L : List Int} {x : Int} (h : x ∉ L) : mset (seenL L) x (ival 1) = seenL (L ++ [x]) := by
  unfold mset
  rw [mget_seen, if_neg h]
  simp [seenL]
abbrev seenR (m : Nat) (L : List Int) : HP := mapR (.int .i64) (Value.int .i64) m (seenL L)
theorem run_store_fn {P : Program} {w : World} {a : Addr} {m : Mode} (f : Fn) (x y : Array Value) : (store a (.func f x y) m).run P w = stored P w a (.func f x y) m := run_store P w a _ m rfl
attribute [local go_sem] run_store_fn
theorem zero_int (w : World) : (zeroValue 3).run Try.prog w = .ok (.int .i64 0) w := by kernel_rfl
section
variable {w0 w : World} {SR F : HP} {ga : Option Addr} {n c : Nat} {X : List XObj}
theorem look_seen {m : Nat} {L : List Int} (h : Sat w0 w (seenR m L * F)) (x : Int) : (Instr.lookup 60 (.map (some m)) (.int .i64 x) false).run Try.prog w = .ok (.int .i64 (if x ∈ L then 1 else 0)) w := by
  have := run_lookup (keys_int .i64) h Try.underlying60 Try.underlying3 (zero_int w) x
  rw [this, mget_seen]
  by_cases hx : x ∈ L <;> simp [hx, ival]
theorem boxM {b m : Nat} (h : Sat w0 w (pt b (.cells #[.map (some m)] 60 (0, 0)) * F)) : w.cell? ⟨b, 0, none⟩ = some (.map (some m)) := Sat.cell (T := 60) (cs := #[.map (some m)]) h 0 rfl
theorem boxF {b : Nat} {v : Value} (h : Sat w0 w (pt b (.cells #[v] 96 (0, 0)) * F)) : w.cell? ⟨b, 0, none⟩ = some v := Sat.cell (T := 96) (cs := #[v]) h 0 rfl
/-- what the search in depth has captured -/
def markC (gb sb kb : Nat) (ga : Option Addr) (n c m : Nat) : HP := pt gb (.cells #[.slice ga n c] 24 (0, 0)) * (pt sb (.cells #[.map (some m)] 60 (0, 0)) * pt kb (.cells #[.func (.func 107) #[] #[.pointer (some ⟨gb, 0, none⟩), .pointer (some ⟨sb, 0, none⟩), .pointer (some ⟨kb, 0, none⟩)]] 96 (0, 0)))
theorem markC_cells {gb sb kb m : Nat} (h : Sat w0 w (markC gb sb kb ga n c m * F)) : w.cell? ⟨gb, 0, none⟩ = some (.slice ga n c) ∧ w.cell? ⟨sb, 0, none⟩ = some (.map (some m)) ∧ w.cell? ⟨kb, 0, none⟩ = some (.func (.func 107) #[] #[.pointer (some ⟨gb, 0, none⟩), .pointer (some ⟨sb, 0, none⟩), .pointer (some ⟨kb, 0, none⟩)]) := by
  have h' : Sat w0 w (pt gb (.cells #[.slice ga n c] 24 (0, 0)) * (pt sb (.cells #[.map (some m)] 60 (0, 0)) * (pt kb (.cells #[.func (.func 107) #[] #[.pointer (some ⟨gb, 0, none⟩), .pointer (some ⟨sb, 0, none⟩), .pointer (some ⟨kb, 0, none⟩)]] 96 (0, 0)) * F))) := h.cast (by unfold markC; ac_rfl)
  exact ⟨boxG h', boxM h'.p2, boxF h'.p3⟩
theorem unseen_mono {L : List AObj} {s s' : List Int} (h : ∀ x ∈ s, x ∈ s') : unseen L s' ≤ unseen L s := by
  unfold unseen
  rw [← List.countP_eq_length_filter, ← List.countP_eq_length_filter]
  refine List.countP_mono_left fun i _ hi => ?_
  simp only [Bool.not_eq_true', decide_eq_false_iff_not] at hi ⊢
  exact fun hm => hi (h _ hm)
def markStep (L : List AObj) (f : Nat) (s : List Int) (n : Int) : List Int := if n ∈ s then s else markF L f (s ++ [n]) ((kids L n).filter (thereG L))
theorem markF_foldl (L : List AObj) (f : Nat) (seen l : List Int) : markF L (f + 1) seen l = l.foldl (markStep L f) seen := rfl
theorem foldl_take {α β : Type} (g : α → β → α) (s : α) {l : List β} {k : Nat} {x : β} (h : l[k]? = some x) : (l.take (k + 1)).foldl g s = g ((l.take k).foldl g s) x := by
  rw [List.take_add_one, h, List.foldl_append]; rfl
set_option maxRecDepth 100000 in
set_option maxHeartbeats 2000000 in
theorem mark_fn {gb sb kb m : Nat} (hG : SrcO w0 SR ga n c X) (hok : okG (X.map (·.1)) = true) : ∀ (f : Nat) (w : World) (F : HP) (seen : List Int) (a : Option Addr) (cl : Nat) (l : List AVal), SrcV w0 SR a l.length cl l → l.length ≤ 1000000 → unseen (X.map (·.1)) seen + 1 ≤ f →
    Sat w0 w (markC gb sb kb ga n c m * (seenR m seen * (SR * F))) →
    Calls Try.prog 107 #[.slice a l.length cl, .pointer (some ⟨gb, 0, none⟩), .pointer (some ⟨sb, 0, none⟩), .pointer (some ⟨kb, 0, none⟩)] w fun e w' => e = .returned (.tuple #[]) ∧ Sat w0 w' (markC gb sb kb ga n c m * (seenR m (markF (X.map (·.1)) f seen ((refsV l).filter (thereG (X.map (·.1))))) * (SR * F)))
  | 0, _, _, _, _, _, _, _, _, hf, _ => by omega
  | f + 1, w, F, seen, a, cl, l, hS, hn, hf, h => by
    have IH := Lib.hid (mark_fn (gb := gb) (sb := sb) (kb := kb) (m := m) hG hok f)
    rw [markF_foldl]
    have hrl : (refsV l).length ≤ 1000000 := by have h1 := refsV_len l l.length; rw [List.take_of_length_le (Nat.le_refl _)] at h1; omega
    have hth : ∀ (k : Nat) (x : Int), ((refsV l).filter (thereG (X.map (·.1))))[k]? = some x → thereG (X.map (·.1)) x = true := fun k x hx => (List.mem_filter.1 (List.mem_of_getElem? hx)).2
    have hfl : ((refsV l).filter (thereG (X.map (·.1)))).length ≤ 1000000 := by have := List.length_filter_le (thereG (X.map (·.1))) (refsV l); omega
    obtain ⟨c0, c1, c2⟩ := markC_cells h
    have HS := Lib.hid hS
    have HG := Lib.hid hG
    have HF := Lib.hid hf
    have HOK := Lib.hid hok
    have HTH := Lib.hid hth
    clear hS hok hth hf
    have hx := h.drew
    obtain ⟨ls, hls⟩ : ∃ ls, (refsV l).filter (thereG (X.map (·.1))) = ls := ⟨_, rfl⟩
    rw [hls] at hfl HTH ⊢
    have HLS := Lib.hid hls
    clear hls
    clear hG
    go_enter Try.func107, Try.ntmps107
    go_wp2_with fail
    go_region_held3 (fun w' => w'.cell? ⟨gb, 0, none⟩ = some (.slice ga n c)) (assumption) (first
      | (go_at_call 27; with_reducible refine (val_Refs hx.p3 HS.out hn).mono ?_; rintro e w2 ⟨ra, rc, rfl, h2⟩; have e0 := (markC_cells h2.p3).1)
      | (go_at_call 50; with_reducible refine (reach_there h2 HG.out rfl hrl HLS.out).mono ?_; rintro e w3 ⟨rfl, h3⟩; have e1 := (markC_cells h3.p3).1))
    clear h hx h2 e0 c0 c1 c2
    go_wp2_with fail
    go_loopw [12] (fun iv wr => ∃ (k : Nat) (s : List Int), iv = .int .i64 k ∧ k ≤ ls.length ∧ Hid ((ls.take k).foldl (markStep (X.map (·.1)) f) seen = s) ∧ Hid (unseen (X.map (·.1)) s ≤ unseen (X.map (·.1)) seen) ∧ Sat w0 wr (slc 3 1 ra ls.length rc (ls.map ival) * (markC gb sb kb ga n c m * (seenR m s * (SR * F))))) (fun iv _ => ls.length - (intOf iv).toNat)
    case atStart => exact ⟨0, seen, rfl, by omega, Lib.hid rfl, Lib.hid (Nat.le_refl _), h3.cast (by ac_rfl)⟩
    case round =>
      obtain ⟨k, s, rfl, hk, HSt, HU, hs⟩ := hrel
      obtain ⟨d0, d1, d2⟩ := markC_cells hs.p2
      by_cases hlt : k < ls.length
      · obtain ⟨x, hx⟩ : ∃ x, ls[k]? = some x := ⟨ls[k], List.getElem?_eq_getElem hlt⟩
        obtain ⟨g, off, rfl, e0, _⟩ := intCells hs hx
        have hfo := foldl_take (markStep (X.map (·.1)) f) seen hx
        rw [HSt.out] at hfo
        have hlk := look_seen hs.p3 x
        have hcap := hs.slcCap
        by_cases hm : x ∈ s
        · rw [if_pos hm] at hlk
          have HFO := Lib.hid (hfo.trans (show markStep (X.map (·.1)) f s x = s from if_pos hm))
          clear hfo hm hx
          go_wp2_with fail
          go_roundw
          case rel => exact ⟨k + 1, s, by go_num, by omega, HFO, HU, hs⟩
          case measure => simp [intOf]; omega
        · rw [if_neg hm] at hlk
          have HFO := Lib.hid (hfo.trans (show markStep (X.map (·.1)) f s x = _ from if_neg hm))
          have hthx := HTH.out k x hx
          have hu1 := unseen_add hm hthx
          have hu2 := HU.out
          have hu3 := HF.out
          have hu4 : Hid (unseen (X.map (·.1)) (s ++ [x]) + 1 ≤ f) := Lib.hid (by omega)
          have HMF := Lib.hid (markF_ok HOK.out f (s ++ [x]) ((kids (X.map (·.1)) x).filter (thereG (X.map (·.1)))) (fun z hz => (List.mem_filter.1 hz).2) hu4.out)
          have HMS := Lib.hid (mset_seen hm)
          have hu5 : Hid (unseen (X.map (·.1)) (markF (X.map (·.1)) f (s ++ [x]) ((kids (X.map (·.1)) x).filter (thereG (X.map (·.1))))) ≤ unseen (X.map (·.1)) seen) := Lib.hid (by
            have := unseen_mono (L := X.map (·.1)) HMF.out.sub
            have := hu4.out
            omega)
          clear hfo hx hm hu1 hu2 hu3
          have hrg := thereG_range hthx
          rw [List.length_map, HG.out.len] at hrg
          obtain ⟨j, rfl⟩ : ∃ j : Nat, x = (j : Int) + 1 := ⟨(x - 1).toNat, by omega⟩
          have hjn : j < n := by omega
          clear hthx
          go_wp2_with (at_mapUpdate; refine wpList_mapUpdate rfl _ _ _ _ rfl (keys_int .i64) Try.underlying60 Try.underlying3 m (seenL s) rfl hs.p3 _ rfl (.int .i64 1) rfl ?_; intro w5 h5)
          have h6 : Sat w0 w5 (seenR m (s ++ [(j : Int) + 1]) * _) := h5.cast (by unfold seenR; rw [← HMS.out]; rfl)
          obtain ⟨q0, q1, q2⟩ := markC_cells h6.p3
          obtain ⟨y, hy, g2, off2, rfl, y0, y1, y2, y3, y4⟩ := HG.out.at h6.p4 hjn
          have hsl := HG.out.slots y (List.mem_of_getElem? hy)
          have hkd : kids (X.map (·.1)) ((j : Int) + 1) = refsV y.1.slots := kids_nat (by rw [List.getElem?_map, hy]; rfl)
          rw [hkd] at HFO hu5
          obtain ⟨⟨yk, yc, ys, yt, ym⟩, sa, sc⟩ := y
          dsimp only at y0 y1 y2 y3 y4 hsl hkd HFO hu5
          have hj1 : (j : Int) + 1 - 1 = j := by omega
          have hj2 : (0 : Int) ≤ (j : Int) := by omega
          have hj3 : (j : Int) < (n : Int) := by omega
          have hj4 : IntKind.i64.wrap (j : Int) = j := IntWalk.i64_in _ (by have := HG.out.small; omega)
          clear hkd hy hrg hjn d0 d1 d2 e0 hcap hlk h5 HMF
          have h7 : Sat w0 w5.drew (markC gb sb kb (some ⟨g2, off2, none⟩) n c m * (seenR m (s ++ [(j : Int) + 1]) * (SR * (slc 3 1 (some ⟨g, off, none⟩) ls.length rc (ls.map ival) * F)))) := h6.drew.cast (by ac_rfl)
          have HI := Lib.hid (IH.out w5.drew _ (s ++ [(j : Int) + 1]) sa sc ys hsl.1 hsl.2 hu4.out h7)
          clear h6 h7 hs h3
          refine wp_region_tail 8 (by kernel_rfl) (by kernel_rfl) ?_
          simp only [List.take_succ_cons, List.take_zero, List.drop_succ_cons, List.drop_zero]
          iterate 8 still_step
          refine wpStill_nil ?_
          go_wp2_with fail
          refine HI.out.mono ?_
          rintro e w8 ⟨rfl, h8⟩
          clear q0 q1 q2 y0 y1 y2 y3 y4 hj4
          go_wp2_with fail
          go_roundw
          case rel => exact ⟨k + 1, _, by go_num, by omega, HFO, hu5, h8.cast (by ac_rfl)⟩
          case measure => simp [intOf]; omega
      · have hkn : k = ls.length := by omega
        subst hkn
        have e := HSt.out
        rw [List.take_of_length_le (Nat.le_refl _)] at e
        have HE := Lib.hid e
        clear e
        go_wp2_with fail
        go_end0
        exact ⟨rfl, by rw [HE.out]; exact hs.drop⟩
set_option maxHeartbeats 1000000 in
theorem reach_marked (hG : SrcO w0 SR ga n c X) (hok : okG (X.map (·.1)) = true) {a : Option Addr} {cl : Nat} {l : List AVal} (hS : SrcV w0 SR a l.length cl l) (hn : l.length ≤ 1000000) (h : Sat w0 w (SR * F)) :
    Calls Try.prog 83 #[.agg #[.slice ga n c], .slice a l.length cl] w fun e w' => ∃ m, e = .returned (.map (some m)) ∧ Sat w0 w' (seenR m (markL (X.map (·.1)) (refsV l)) * (SR * F)) := by
  have h1 : Sat w0 _ (seenR (w.alloc (.cells #[.slice ga n c] 24)).heap.size [] * _) := ((h.alloc (.cells #[.slice ga n c] 24)).newMap (d := .int .i64) (kv := Value.int .i64))
  rw [size_alloc] at h1
  generalize hgb : w.heap.size = gb at *
  have h2 := (h1.alloc (.cells #[.map (some (gb + 1))] 60))
  rw [size_alloc, size_alloc, hgb] at h2
  have h3 := (h2.alloc (.cells #[.func (.func 107) #[] #[.pointer (some ⟨gb, 0, none⟩), .pointer (some ⟨gb + 1 + 1, 0, none⟩), .pointer (some ⟨gb + 1 + 1 + 1, 0, none⟩)]] 96))
  rw [size_alloc, size_alloc, size_alloc, hgb] at h3
  have h4 : Sat w0 _ (markC gb (gb + 1 + 1) (gb + 1 + 1 + 1) ga n c (gb + 1) * (seenR (gb + 1) [] * (SR * F))) := h3.cast (by unfold markC; ac_rfl)
  obtain ⟨c0, c1, c2⟩ := markC_cells h4
  have HI := Lib.hid (mark_fn hG hok ((X.map (·.1)).length + 1) _ _ [] a cl l hS hn (by have := unseen_le (X.map (·.1)) []; omega) h4)
  clear h1 h2 h3 h4 hS hok h
  have hmm := @run_makeMap Try.prog
  go_enter Try.func83, Try.ntmps83
  try rw [hgb]
  go_wp2_with fail
  refine HI.out.mono ?_
  rintro e w5 ⟨rfl, h5⟩
  obtain ⟨d0, d1, d2⟩ := markC_cells h5
  go_wp2_with fail
  go_ret
  refine ⟨gb + 1, rfl, ?_⟩
  have hth : ((refsV l).filter (thereG (X.map (·.1)))) = ((refsV l).filter (thereG (X.map (·.1)))) := rfl
  exact h5.drop
end
end Go.Proofs.Ytmngkodejlhalaa.Tw
