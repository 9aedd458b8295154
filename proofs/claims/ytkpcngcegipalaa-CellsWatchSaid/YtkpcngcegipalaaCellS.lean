/- The heap of cells: Lay, of values that lie anywhere; Swap, At, Lay, whatever they are asked. No condition. -/
import Derived.Test.YtkpcngcegipalaaTot
namespace Go.Proofs.Ytkpcngcegipalaa.Tw
set_option linter.unusedVariables false
set_option linter.unusedSimpArgs false
open Go Go.RowKit Go.MapKept

theorem clone_valsS {w0 w : World} {F SR : HP} {a : Option Addr} {n c : Nat} {l : List AVal} (h : Sat w0 w (SR * F)) (hS : SrcV w0 SR a n c l) (hn : n ≤ 2000000000) :
    Calls Try.prog 81 #[.slice a n c] w fun e w' => ∃ a' c', e = .returned (.slice a' n c') ∧ (a' = none → a = none) ∧ Sat w0 w' (slc 28 2 a' n c' (avcells l) * (SR * F)) := by
  obtain ⟨i0, hi, hz0, hz1, hz2⟩ := info_parts info_val
  have hq : ∀ (w : World) (a : Option Addr) (n c : Nat), (binOp .eql 37 (.slice a n c) (.slice none 0 0)).run Try.prog w = .ok (.bool a.isNone) w := fun w a n c => Lib.run_eql_slice_nil w _ _ _ _ _ 0 0 Try.underlying37
  obtain ⟨hS1, hS2, hS3, hS4⟩ := hS
  cases a with
  | none =>
    obtain ⟨rfl, rfl⟩ := hS3 rfl
    have : l = [] := List.eq_nil_of_length_eq_zero hS2
    subst this
    go_enter Try.func81, Try.ntmps81
    go_wp2
    go_ret
    exact ⟨none, 0, rfl, h.nilSlc⟩
  | some ad =>
    have he := emptySlcV h
    have hcl : ∀ j u, (avcells l)[j]? = some u → (w.alloc (.cells #[] 28)).cell? (ad.add j) = some u := by
      intro j u hj
      have hjl : j < (avcells l).length := (List.getElem?_eq_some_iff.1 hj).1
      rw [avcells_length] at hjl
      have hx : l[j / 2]? = some (l[j / 2]'(by omega)) := List.getElem?_eq_getElem _
      obtain ⟨e0, e1⟩ := avcells_get l _ _ hx
      obtain ⟨g, off, q1, d0, d1⟩ := hS1 _ _ he.p2 _ _ hx
      cases q1
      rw [addr_add]
      rcases Nat.mod_two_eq_zero_or_one j with hm | hm
      · have : j = j / 2 * 2 := by omega
        rw [this] at hj ⊢
        rw [e0] at hj; cases hj
        exact d0
      · have : j = j / 2 * 2 + 1 := by omega
        rw [this] at hj ⊢
        rw [e1] at hj; cases hj
        rw [← Nat.add_assoc]; exact d1
    have hn63 := hS4.1
    go_enter Try.func81, Try.ntmps81
    go_wp2_with (at_builtin; refine wpList_append rfl _ _ 37 rfl i0 (.agg #[.int .i64 0, .int .i64 0]) 16 Try.underlying37 hi hz0 hz1 hz2 rfl (some ⟨w.heap.size, 0, none⟩) 0 0 [] rfl he ad n c (avcells l) rfl (by rw [avcells_length, hS2]) hcl (oneCell_avcells l) (by unfold maxLen; omega) (by omega) ?_; intro a' c' w1 hs1 hne)
    go_ret
    rw [Nat.zero_add, List.nil_append] at hs1
    refine ⟨a', c', ?_, ?_, hs1⟩
    · rfl
    · intro e; exact absurd (hne e).1 (by simp)
set_option maxRecDepth 100000 in
set_option maxHeartbeats 2000000 in
theorem heap_LayS_no {w0 w : World} {m : Hp} {p : Nat} {A : AHeap} {F SR : HP} (n : Int) {a : Option Addr} {sn c : Nat} {s : List AVal} (h : Sat w0 w (heapR m p A * (SR * F))) (hS : SrcV w0 SR a sn c s) (hn : sn ≤ 1000000000) {o : AObj} (ho : A.objs n = some o) (hno : layB A o s = false) :
    Calls Try.prog 66 #[.pointer (some ⟨p, 0, none⟩), .int .i64 n, .slice a sn c] w fun e w' => e = .returned (.int .i64 2) ∧ Sat w0 w' (heapR m p A * (SR * F)) := by
  obtain ⟨pb, mb, O, qa, qc, ba, bc, fa, fc, fv, op0⟩ := h.openHeap
  have op := op0.alloc (.cells #[.pointer (some ⟨p, 0, none⟩)] 22)
  generalize hbx : w.heap.size = bx at *
  obtain ⟨b, l, r, eO, hl, e3⟩ := op.obj ho
  have HF := Lib.hid (heap_find op e3)
  obtain ⟨sa, sc, G, hG⟩ := op.objCells eO
  have c0 : (w.alloc (.cells #[.pointer (some ⟨p, 0, none⟩)] 22)).cell? ⟨b, 0, none⟩ = some (.int .i64 o.kind) := hG.cell 0 rfl
  have hC := containsFunc_valS (fun v => !thereV A v) 116 #[.pointer (some ⟨bx, 0, none⟩)] (enters_of Try.func116 (by kernel_rfl) rfl) (lay_fn op bx) ((op.closed.p3).cast (show _ = SR * ((pt bx (.cells #[.pointer (some ⟨p, 0, none⟩)] 22 (0, 0)) * openR p A pb mb O qa qc ba bc fa fc fv) * F) by ac_rfl)) hS hn
  clear ho eO e3 hG
  by_cases hk : o.kind = 5
  · have hk' : (o.kind == 5) = true := by simpa using hk
    clear hno hk hC
    go_enter Try.func66, Try.ntmps66
    try rw [hbx]
    go_wp2_with fail
    refine HF.out.mono ?_
    rintro e w' ⟨rfl, rfl⟩
    go_wp2_with fail
    go_ret
    exact ⟨rfl, op.unframe.shut⟩
  · have hk' : (o.kind == 5) = false := by simpa using hk
    have hany : s.any (fun v => !thereV A v) = true := by
      unfold layB at hno
      simp only [hk, decide_false, Bool.not_false, Bool.true_and] at hno
      rw [List.any_eq_not_all_not]
      simp [hno]
    rw [hany] at hC
    have HC := Lib.hid hC
    clear hno hk hC hany
    go_enter Try.func66, Try.ntmps66
    try rw [hbx]
    go_wp2_with fail
    refine HF.out.mono ?_
    rintro e w' ⟨rfl, rfl⟩
    go_wp2_with fail
    refine HC.out.mono ?_
    rintro e w2 ⟨rfl, h2⟩
    have op2 := op.opens (G := SR * F) ((h2.p2.assoc.drop).cast (by ac_rfl))
    go_wp2_with fail
    go_ret
    exact ⟨rfl, op2.shut⟩
set_option maxRecDepth 100000 in
set_option maxHeartbeats 2000000 in
theorem heap_LayS {w0 w : World} {m : Hp} {p : Nat} {A : AHeap} {F SR : HP} (n : Int) {a : Option Addr} {sn c : Nat} {s : List AVal} (h : Sat w0 w (heapR m p A * (SR * F))) (K : Knows m F) (hS : SrcV w0 SR a sn c s) (hn : sn ≤ 1000000000) {o : AObj} (ho : A.objs n = some o) (hyes : layB A o s = true) :
    Calls Try.prog 66 #[.pointer (some ⟨p, 0, none⟩), .int .i64 n, .slice a sn c] w fun e w' => e = .returned (.int .i64 0) ∧ Sat w0 w' (heapR m p (A.lay n o s) * (SR * F)) := by
  obtain ⟨pb, mb, O, qa, qc, ba, bc, fa, fc, fv, op0⟩ := h.openHeap
  have op := op0.alloc (.cells #[.pointer (some ⟨p, 0, none⟩)] 22)
  generalize hbx : w.heap.size = bx at *
  obtain ⟨b, l, r, eO, hl, e3⟩ := op.obj ho
  have HF := Lib.hid (heap_find op e3)
  obtain ⟨sa, sc, G, hG⟩ := op.objCells eO
  have c0 : (w.alloc (.cells #[.pointer (some ⟨p, 0, none⟩)] 22)).cell? ⟨b, 0, none⟩ = some (.int .i64 o.kind) := hG.cell 0 rfl
  have hC := containsFunc_valS (fun v => !thereV A v) 116 #[.pointer (some ⟨bx, 0, none⟩)] (enters_of Try.func116 (by kernel_rfl) rfl) (lay_fn op bx) ((op.closed.p3).cast (show _ = SR * ((pt bx (.cells #[.pointer (some ⟨p, 0, none⟩)] 22 (0, 0)) * openR p A pb mb O qa qc ba bc fa fc fv) * F) by ac_rfl)) hS hn
  unfold layB at hyes
  simp only [Bool.and_eq_true, Bool.not_eq_true', decide_eq_false_iff_not] at hyes
  obtain ⟨hk, hall⟩ := hyes
  have hk' : (o.kind == 5) = false := by simpa using hk
  have hany : s.any (fun v => !thereV A v) = false := by
    rw [List.any_eq_false]
    intro v hv
    have := List.all_eq_true.1 hall v hv
    simp [this]
  rw [hany] at hC
  have HC := Lib.hid hC
  have HO := Lib.hid eO
  clear ho eO e3 hG hk hC hany hall
  have hsl := hS.2.1
  subst hsl
  go_enter Try.func66, Try.ntmps66
  try rw [hbx]
  go_wp2_with fail
  refine HF.out.mono ?_
  rintro e w' ⟨rfl, rfl⟩
  go_wp2_with fail
  refine HC.out.mono ?_
  rintro e w2 ⟨rfl, h2⟩
  have HCl := Lib.hid (clone_valsS h2 hS (by omega))
  go_wp2_with fail
  refine HCl.out.mono ?_
  rintro e w3 ⟨a', c', rfl, hnil, h3⟩
  have op3 := op.opens (G := pt bx (.cells #[.pointer (some ⟨p, 0, none⟩)] 22 (0, 0)) * (slc 28 2 a' s.length c' (avcells s) * (SR * F))) (h3.cast (by ac_rfl))
  obtain ⟨sa1, sc1, hT1⟩ := op3.takeObj HO.out
  have c2 : w3.cell? ⟨b, 2, none⟩ = some (.slice sa1 o.slots.length sc1) := hT1.cell 2 rfl
  have f2 := hT1.free 2
  have hs4 := (hT1.store (i := 2) (.slice a' s.length c')).p2.drop
  rw [restR_frame, restR_frame] at hs4
  have op4 := op3.putTurned { o with slots := s } HO.out hl (a := a') (c := c') (G := pt bx (.cells #[.pointer (some ⟨p, 0, none⟩)] 22 (0, 0)) * (SR * F)) (by rw [restR_frame]; exact hs4.cast (by ac_rfl))
  have HT := Lib.hid (heap_touch op4 K.left.left n)
  have x0 : (w3.setCell ⟨b, 2, none⟩ (.slice a' s.length c')).cell? ⟨bx, 0, none⟩ = some (.pointer (some ⟨p, 0, none⟩)) := Sat.cell (T := 22) (cs := #[.pointer (some ⟨p, 0, none⟩)]) op4.front 0 rfl
  clear hT1 hs4 h3
  go_wp2_with fail
  refine HT.out.mono ?_
  rintro e w5 ⟨rfl, op5⟩
  go_wp2_with fail
  go_ret
  exact ⟨rfl, op5.unframe.shut⟩
end Go.Proofs.Ytkpcngcegipalaa.Tw
