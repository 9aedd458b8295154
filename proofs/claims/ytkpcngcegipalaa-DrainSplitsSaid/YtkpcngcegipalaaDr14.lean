/- the honest hand of drain's laws: a move that keeps. No condition. -/
import Derived.Test.YtkpcngcegipalaaDr10
namespace Go.Proofs.Ytkpcngcegipalaa.Tw
set_option linter.unusedVariables false
set_option linter.unusedSimpArgs false
open Go Go.RowKit Go.MapKept

section
variable {w0 w : World} {b p : Nat} {l : List AVal} {A : AHeap} {B : Int} {F : HP}
theorem keep_to {v : AVal} {pe : Int} (hpe : cntE A v = pe) (h : Calls Try.prog 59 #[.pointer (some ⟨p, 0, none⟩), .agg #[.int .i64 v.kind, .int .i64 v.n]] w fun e w' => e = .returned (.int .i64 (cntE A v)) ∧ Sat w0 w' (heapR mN p (A.keep v) * F)) :
    Calls Try.prog 59 #[.pointer (some ⟨p, 0, none⟩), .agg #[.int .i64 v.kind, .int .i64 v.n]] w fun e w' => e = .returned (.int .i64 pe) ∧ Sat w0 w' (heapR mN p (A.keep v) * F) := by subst hpe; exact h
set_option maxRecDepth 100000 in
set_option maxHeartbeats 2000000 in
theorem hd_do4 (H : HW A B) (hB : B ≤ 1000000) (h : Sat w0 w (heapR mN p A * (handL b p l * F))) (hl : l.length ≤ 1000000) (K a c : Nat) (hK : K < 256) (ha : a < 256) (hc : c < 256) (h0 : K % 7 = 4) :
    Calls Try.prog 98 #[.pointer (some ⟨b, 0, none⟩), .agg #[.int .u8 K, .int .u8 a, .int .u8 c]] w fun e w' => e = .returned (.tuple #[]) ∧ Sat w0 w' (heapR mN p (A.keep (lookV l a)) * (handL b p (if cntE A (lookV l a) = 0 ∧ refV (lookV l a) = true then l ++ [lookV l a] else l) * F)) := by
  have hmk : (K : Int).tmod 7 = 4 := by rw [Int.tmod_eq_emod_of_nonneg (by omega)]; omega
  have h1 := h.alloc (.cells #[.int .u8 K, .int .u8 a, .int .u8 c] 153)
  generalize hxb : w.heap.size = xb at *
  have x1 : (w.alloc (.cells #[.int .u8 K, .int .u8 a, .int .u8 c] 153)).cell? ⟨xb, 1, none⟩ = some (.int .u8 a) := Sat.cell (T := 153) (cs := #[.int .u8 K, .int .u8 a, .int .u8 c]) h1 1 rfl
  have HT := Lib.hid (hd_look h1.p3 hl a ha)
  generalize hu : lookV l a = v at *
  generalize hpe : cntE A v = pe at *
  generalize hrf : refV v = rf at *
  have hr0 : (pe = 0 ∧ rf = true) → (if pe = 0 ∧ rf = true then l ++ [v] else l) = l ++ [v] := fun e => if_pos e
  have hr1 : ¬ (pe = 0 ∧ rf = true) → (if pe = 0 ∧ rf = true then l ++ [v] else l) = l := fun e => if_neg e
  generalize (if pe = 0 ∧ rf = true then l ++ [v] else l) = r at *
  have HR := Lib.hid (And.intro hr0 hr1)
  clear h1 h hr0 hr1
  go_enter Try.func98, Try.ntmps98
  try rw [hxb]
  go_wp2_with fail
  refine HT.out.mono ?_
  rintro e w2 ⟨rfl, h3⟩
  have h4 := h3.alloc (.cells #[.int .i64 v.kind, .int .i64 v.n] 28)
  have v0 := (val2' h4).1
  have v1 := (val2' h4).2.1
  have k0 := h4.p2.handH
  have HKp := Lib.hid (keep_to hpe (t_Keep H hB (knowsN _) h4.drew.p4 v))
  clear h3 h4
  generalize htb : w2.heap.size = tb at *
  go_wp2_with fail
  refine wp_region_tail 5 (by kernel_rfl) (by kernel_rfl) ?_
  simp only [List.take_succ_cons, List.take_zero, List.drop_succ_cons, List.drop_zero]
  iterate 5 still_step
  refine wpStill_nil ?_
  go_wp2_with fail
  refine HKp.out.mono ?_
  rintro e w3 ⟨rfl, h5⟩
  have y0 := (val2' h5.p2).1
  have y1 := (val2' h5.p2).2.1
  by_cases hz : pe = 0
  · have HZ := Lib.hid hz
    subst hz
    go_wp2_with fail
    refine (val_Ref v h5).mono ?_
    rw [hrf]
    rintro e w6 ⟨rfl, h7⟩
    clear h5
    cases rf with
    | true =>
      obtain ⟨la, lc, h8⟩ := h7.p3.openHand
      have e0 := (val2' h8.p4).1
      have e1 := (val2' h8.p4).2.1
      have e2 : w6.cell? ⟨b, 1, none⟩ = some (.slice la l.length lc) := h8.cell 1 rfl
      have h9 := h8.alloc (.cells #[.int .i64 v.kind, .int .i64 v.n] 28)
      have b0 := (val2' h9).1
      have b1 := (val2' h9).2.1
      have g1 : (w6.alloc (.cells #[.int .i64 v.kind, .int .i64 v.n] 28)).cell? ⟨b, 1, none⟩ = some (.slice la l.length lc) := h9.p2.cell 1 rfl
      clear h7 h8
      go_wp2_with fail
      go_region_law ((refine step_of rfl (wp_pushVal _ _ rfl la l.length lc l (by simp [Act.eval, Act.put]) h9.drew.p3 w6.heap.size 1 v (by simp [Act.eval, Act.put]) b0 b1 (by omega) ?_); intro a' c' w7 h10; have f5 := h10.p3.free 1; have q5 : w7.cell? ⟨b, 1, none⟩ = some (.slice la l.length lc) := h10.p3.cell 1 rfl))
      all_goals
        have h11 := h10.p3.store (i := 1) (.slice a' (l.length + 1) c')
        go_wp2_with fail
        go_end0
        rw [HR.out.1 (by first | exact ⟨HZ.out, rfl⟩ | exact ⟨trivial, trivial⟩ | trivial)]
        have h12 : Sat w0 (w7.setCell ⟨b, 1, none⟩ (.slice a' (l.length + 1) c')) (row b 77 #[.pointer (some ⟨p, 0, none⟩), .slice a' (l.length + 1) c'] * _) := h11.p3.drop.p4.drop.p4.drop
        exact ⟨rfl, (h12.shutHand (by simp)).p2⟩
    | false =>
      go_wp2_with fail
      go_end0
      rw [HR.out.2 (by first | (rintro ⟨_, e⟩; cases e; done) | simp)]
      exact ⟨rfl, h7.p2.drop.p3.drop⟩
  · have hz2 : (pe == 0) = false := by simpa using hz
    have HZ := Lib.hid hz
    clear hz
    go_wp2_with fail
    go_end0
    rw [HR.out.2 (by rintro ⟨e, _⟩; exact HZ.out e)]
    exact ⟨rfl, h5.p2.drop.p3.drop⟩
end
end Go.Proofs.Ytkpcngcegipalaa.Tw
