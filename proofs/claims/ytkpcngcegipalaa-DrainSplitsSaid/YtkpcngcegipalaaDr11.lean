/- the honest hand of drain's laws: a move that pushes. No condition. -/
import Derived.Test.YtkpcngcegipalaaDr10
namespace Go.Proofs.Ytkpcngcegipalaa.Tw
set_option linter.unusedVariables false
set_option linter.unusedSimpArgs false
open Go Go.RowKit Go.MapKept

section
variable {w0 w : World} {b p : Nat} {l : List AVal} {A : AHeap} {B : Int} {F : HP}
set_option maxRecDepth 100000 in
set_option maxHeartbeats 2000000 in
theorem hd_do1 (H : HW A B) (hB : B ≤ 1000000) (h : Sat w0 w (heapR mN p A * (handL b p l * F))) (hl : l.length ≤ 1000000) (K a c : Nat) (hK : K < 256) (ha : a < 256) (hc : c < 256) (h0 : K % 7 = 1) :
    Calls Try.prog 98 #[.pointer (some ⟨b, 0, none⟩), .agg #[.int .u8 K, .int .u8 a, .int .u8 c]] w fun e w' => e = .returned (.tuple #[]) ∧ Sat w0 w' (heapR mN p (A.pushF (lookV l c).n (lookV l a)) * (handL b p (if A.pushE (lookV l c).n (lookV l a) = 0 then takeL l a else takeL l a ++ [lookV l a]) * F)) := by
  have hmk : (K : Int).tmod 7 = 1 := by rw [Int.tmod_eq_emod_of_nonneg (by omega)]; omega
  have h1 := h.alloc (.cells #[.int .u8 K, .int .u8 a, .int .u8 c] 153)
  generalize hxb : w.heap.size = xb at *
  have HL := Lib.hid (hd_look h1.p3 hl c hc)
  have hlt := takeL_le l a
  generalize lookV l c = to at *
  generalize hv : lookV l a = v at *
  generalize hpe : A.pushE to.n v = pe at *
  have hr0 : pe = 0 → (if pe = 0 then takeL l a else takeL l a ++ [v]) = takeL l a := fun e => if_pos e
  have hr1 : pe ≠ 0 → (if pe = 0 then takeL l a else takeL l a ++ [v]) = takeL l a ++ [v] := fun e => if_neg e
  generalize (if pe = 0 then takeL l a else takeL l a ++ [v]) = r at *
  have HR := Lib.hid (And.intro hr0 hr1)
  clear h1 h hr0 hr1
  go_enter Try.func98, Try.ntmps98
  try rw [hxb]
  go_wp2_with fail
  refine HL.out.mono ?_
  rintro e w2 ⟨rfl, h2⟩
  have h3 := h2.alloc (.cells #[.int .i64 to.kind, .int .i64 to.n] 28)
  have y1 : (w2.alloc (.cells #[.int .i64 to.kind, .int .i64 to.n] 28)).cell? ⟨xb, 1, none⟩ = some (.int .u8 a) := Sat.cell (T := 153) (cs := #[.int .u8 K, .int .u8 a, .int .u8 c]) h3.p3 1 rfl
  generalize htb : w2.heap.size = tb at *
  have HT := hd_take h3.p2 hl a ha
  rw [hv] at HT
  have HT := Lib.hid HT
  generalize takeL l a = l2 at *
  clear h2 h3
  go_wp2_with fail
  refine HT.out.mono ?_
  rintro e w3 ⟨rfl, h4⟩
  have h5 := h4.alloc (.cells #[.int .i64 v.kind, .int .i64 v.n] 28)
  generalize hvb : w3.heap.size = vb at *
  obtain ⟨la, lc, h6⟩ := h5.p2.openHand
  have c0 := h6.cell 0 rfl
  have c1 := h6.cell 1 rfl
  have t1 := (val2' h6.p4).2.1
  have v0 := (val2' h6.p3).1
  have v1 := (val2' h6.p3).2.1
  have hP := t_Push H hB (knowsN _) h6.drew.p6 to.n v
  rw [hpe] at hP
  have HP := Lib.hid hP
  clear hP h4 h5 h6
  go_wp2_with fail
  refine wp_region_tail 7 (by kernel_rfl) (by kernel_rfl) ?_
  simp only [List.take_succ_cons, List.take_zero, List.drop_succ_cons, List.drop_zero]
  iterate 7 still_step
  refine wpStill_nil ?_
  go_wp2_with fail
  refine HP.out.mono ?_
  rintro e w4 ⟨rfl, h7⟩
  have d1 : w4.cell? ⟨b, 1, none⟩ = some (.slice la l2.length lc) := h7.p2.cell 1 rfl
  by_cases hz : pe = 0
  · subst hz
    go_wp2_with fail
    go_end0
    refine ⟨rfl, ?_⟩
    rw [HR.out.1 (by trivial)]
    exact ((h7.p4.drop.p4.drop.p4.drop.q3).shutHand rfl).p2
  · have hz2 : (pe != 0) = true := by simpa using hz
    have HZ := Lib.hid hz
    have e0 := (val2' h7.p4).1
    have e1 := (val2' h7.p4).2.1
    have h8 := h7.alloc (.cells #[.int .i64 v.kind, .int .i64 v.n] 28)
    have b0 := (val2' h8).1
    have b1 := (val2' h8).2.1
    have g1 : (w4.alloc (.cells #[.int .i64 v.kind, .int .i64 v.n] 28)).cell? ⟨b, 1, none⟩ = some (.slice la l2.length lc) := h8.p3.cell 1 rfl
    clear hz
    go_wp2_with fail
    go_region_law ((refine step_of rfl (wp_pushVal _ _ rfl la l2.length lc l2 (by simp [Act.eval, Act.put]) h8.drew.p4 w4.heap.size 1 v (by simp [Act.eval, Act.put]) b0 b1 (by omega) ?_); intro a' c' w5 h9; have f5 := h9.p4.free 1; have q5 : w5.cell? ⟨b, 1, none⟩ = some (.slice la l2.length lc) := h9.p4.cell 1 rfl))
    all_goals
      have h10 := h9.p4.store (i := 1) (.slice a' (l2.length + 1) c')
      go_wp2_with fail
      go_end0
      rw [HR.out.2 HZ.out]
      have h11 : Sat w0 (w5.setCell ⟨b, 1, none⟩ (.slice a' (l2.length + 1) c')) (row b 77 #[.pointer (some ⟨p, 0, none⟩), .slice a' (l2.length + 1) c'] * _) := h10.p3.drop.p4.drop.p4.drop.p4.drop
      exact ⟨rfl, (h11.shutHand (by simp)).p2⟩
end
end Go.Proofs.Ytkpcngcegipalaa.Tw
