/- the honest hand of drain's laws: moves that drop, mark, drain. No condition. -/
import Derived.Test.YtkpcngcegipalaaDr10
namespace Go.Proofs.Ytkpcngcegipalaa.Tw
set_option linter.unusedVariables false
set_option linter.unusedSimpArgs false
open Go Go.RowKit Go.MapKept

section
variable {w0 w : World} {b p : Nat} {l : List AVal} {A : AHeap} {B : Int} {F : HP}
set_option maxRecDepth 100000 in
set_option maxHeartbeats 2000000 in
theorem hd_do3 (H : HW A B) (hB : B ≤ 1000000) (h : Sat w0 w (heapR mN p A * (handL b p l * F))) (hl : l.length ≤ 1000000) (K a c : Nat) (hK : K < 256) (ha : a < 256) (hc : c < 256) (h0 : K % 7 = 3) :
    Calls Try.prog 98 #[.pointer (some ⟨b, 0, none⟩), .agg #[.int .u8 K, .int .u8 a, .int .u8 c]] w fun e w' => e = .returned (.tuple #[]) ∧ Sat w0 w' (heapR mN p (A.drop (lookV l a)) * (handL b p (takeL l a) * F)) := by
  have hmk : (K : Int).tmod 7 = 3 := by rw [Int.tmod_eq_emod_of_nonneg (by omega)]; omega
  have h1 := h.alloc (.cells #[.int .u8 K, .int .u8 a, .int .u8 c] 153)
  generalize hxb : w.heap.size = xb at *
  obtain ⟨la, lc, h2⟩ := h1.p3.openHand
  have c0 : (w.alloc (.cells #[.int .u8 K, .int .u8 a, .int .u8 c] 153)).cell? ⟨b, 0, none⟩ = some (.pointer (some ⟨p, 0, none⟩)) := h2.cell 0 rfl
  clear h2
  have HT := Lib.hid (hd_take h1.p3.drew hl a ha)
  clear h1 h
  go_enter Try.func98, Try.ntmps98
  try rw [hxb]
  go_wp2_with fail
  go_region_law (first
    | (refine step_of rfl ?_; go_simp; go_at_call 139; refine HT.out.mono ?_; rintro e w2 ⟨rfl, h3⟩; have k0 := h3.handH)
    | (refine step_of rfl ?_; go_simp; go_at_call 19; refine (t_Drop H hB (knowsN _) h3.p3 (lookV l a)).mono ?_; rintro e w3 ⟨rfl, h4⟩))
  all_goals
    go_wp2_with fail
    go_end0
    exact ⟨rfl, h4.p3.drop⟩
set_option maxRecDepth 100000 in
set_option maxHeartbeats 2000000 in
theorem hd_do5 (H : HW A B) (hB : B ≤ 1000000) (h : Sat w0 w (heapR mN p A * (handL b p l * F))) (hl : l.length ≤ 1000000) (K a c : Nat) (hK : K < 256) (ha : a < 256) (hc : c < 256) (h0 : K % 7 = 5) :
    Calls Try.prog 98 #[.pointer (some ⟨b, 0, none⟩), .agg #[.int .u8 K, .int .u8 a, .int .u8 c]] w fun e w' => e = .returned (.tuple #[]) ∧ Sat w0 w' (heapR mN p (A.mark (lookV l a).n) * (handL b p (l) * F)) := by
  have hmk : (K : Int).tmod 7 = 5 := by rw [Int.tmod_eq_emod_of_nonneg (by omega)]; omega
  have h1 := h.alloc (.cells #[.int .u8 K, .int .u8 a, .int .u8 c] 153)
  generalize hxb : w.heap.size = xb at *
  obtain ⟨la, lc, h2⟩ := h1.p3.openHand
  have c0 : (w.alloc (.cells #[.int .u8 K, .int .u8 a, .int .u8 c] 153)).cell? ⟨b, 0, none⟩ = some (.pointer (some ⟨p, 0, none⟩)) := h2.cell 0 rfl
  clear h2
  have HT := Lib.hid (hd_look h1.p3.drew hl a ha)
  clear h1 h
  go_enter Try.func98, Try.ntmps98
  try rw [hxb]
  go_wp2_with fail
  go_region_law (first
    | (refine step_of rfl ?_; go_simp; go_at_call 138; refine HT.out.mono ?_; rintro e w2 ⟨rfl, h3⟩; have k0 := h3.handH; have hfv := run_field_val1 (lookV l a).kind (lookV l a).n w2)
    | (refine step_of rfl ?_; go_simp; go_at_call 62; refine (t_Mark H hB (knowsN _) h3.p3 (lookV l a).n).mono ?_; rintro e w3 ⟨rfl, h4⟩))
  all_goals
    go_wp2_with fail
    go_end0
    exact ⟨rfl, h4.p3.drop⟩
set_option maxRecDepth 100000 in
set_option maxHeartbeats 2000000 in
theorem hd_do6 (H : HW A B) (hB : B ≤ 1000000) (h : Sat w0 w (heapR mN p A * (handL b p l * F))) (hl : l.length ≤ 1000000) (K a c : Nat) (hK : K < 256) (ha : a < 256) (hc : c < 256) (h0 : K % 7 = 6) :
    Calls Try.prog 98 #[.pointer (some ⟨b, 0, none⟩), .agg #[.int .u8 K, .int .u8 a, .int .u8 c]] w fun e w' => e = .returned (.tuple #[]) ∧ Sat w0 w' (heapR mN p ((drainN (a % 8) A).2) * (handL b p (l) * F)) := by
  have hmk : (K : Int).tmod 7 = 6 := by rw [Int.tmod_eq_emod_of_nonneg (by omega)]; omega
  have h1 := h.alloc (.cells #[.int .u8 K, .int .u8 a, .int .u8 c] 153)
  generalize hxb : w.heap.size = xb at *
  have hma : (a : Int).tmod 8 = ((a % 8 : Nat) : Int) := by rw [Int.tmod_eq_emod_of_nonneg (by omega)]; omega
  have hw : IntKind.i64.wrap ((a % 8 : Nat) : Int) = ((a % 8 : Nat) : Int) := IntWalk.i64_in _ (by omega)
  have hm8 : a % 8 < 8 := Nat.mod_lt _ (by omega)
  obtain ⟨la, lc, h2⟩ := h1.p3.openHand
  have c0 : (w.alloc (.cells #[.int .u8 K, .int .u8 a, .int .u8 c] 153)).cell? ⟨b, 0, none⟩ = some (.pointer (some ⟨p, 0, none⟩)) := h2.cell 0 rfl
  clear h2
  have HD := w_Drain H hB ((a % 8 : Nat) : Int) (by omega) h1.drew.p2
  rw [Int.toNat_natCast] at HD
  have HD := Lib.hid HD
  have x1 : (w.alloc (.cells #[.int .u8 K, .int .u8 a, .int .u8 c] 153)).cell? ⟨xb, 1, none⟩ = some (.int .u8 a) := Sat.cell (T := 153) (cs := #[.int .u8 K, .int .u8 a, .int .u8 c]) h1 1 rfl
  clear h1 h
  generalize a % 8 = a8 at *
  go_enter Try.func98, Try.ntmps98
  try rw [hxb]
  go_wp2_with fail
  refine wp_region_tail 8 (by kernel_rfl) (by kernel_rfl) ?_
  simp only [List.take_succ_cons, List.take_zero, List.drop_succ_cons, List.drop_zero]
  iterate 8 still_step
  refine wpStill_nil ?_
  go_wp2_with fail
  refine HD.out.mono ?_
  rintro e w3 ⟨rfl, h4⟩
  go_wp2_with fail
  go_end0
  exact ⟨rfl, h4.p2.drop⟩
end
end Go.Proofs.Ytkpcngcegipalaa.Tw
