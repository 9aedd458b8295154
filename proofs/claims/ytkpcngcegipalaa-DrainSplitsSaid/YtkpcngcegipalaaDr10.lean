/- the honest hand of drain's laws: its plain model; one move that makes. No condition. -/
import Derived.Test.YtkpcngcegipalaaDr9
namespace Go.Proofs.Ytkpcngcegipalaa.Tw
set_option linter.unusedVariables false
set_option linter.unusedSimpArgs false
open Go Go.RowKit Go.MapKept

def kindOf (a : Nat) : Int := match a % 5 with
  | 0 => 6
  | 1 => 9
  | 2 => 5
  | 3 => 7
  | _ => 6
def txs : ByteArray := ByteArray.mk #[115]
def moveA (A : AHeap) (l : List AVal) (K a b : Nat) : AHeap := match K % 7 with
  | 0 => A.makeF (kindOf a) txs
  | 1 => A.pushF (lookV l b).n (lookV l a)
  | 2 => A.popF (lookV l a).n
  | 3 => A.drop (lookV l a)
  | 4 => A.keep (lookV l a)
  | 5 => A.mark (lookV l a).n
  | _ => (drainN (a % 8) A).2
def moveL (A : AHeap) (l : List AVal) (K a b : Nat) : List AVal := match K % 7 with
  | 0 => l ++ [A.makeV (kindOf a) txs]
  | 1 => if A.pushE (lookV l b).n (lookV l a) = 0 then takeL l a else takeL l a ++ [lookV l a]
  | 2 => if A.popE (lookV l a).n = 0 ∧ refV (lookV l a) = true then l ++ [A.popV (lookV l a).n] else l
  | 3 => takeL l a
  | 4 => if cntE A (lookV l a) = 0 ∧ refV (lookV l a) = true then l ++ [lookV l a] else l
  | _ => l
theorem takeL_le (l : List AVal) (n : Nat) : (takeL l n).length ≤ l.length := List.length_eraseIdx_le _ _
theorem moveL_le (A : AHeap) (l : List AVal) (K a b : Nat) : (moveL A l K a b).length ≤ l.length + 1 := by
  have := takeL_le l a
  unfold moveL
  split <;> (try split) <;> simp <;> omega
theorem HW.move {A : AHeap} {B : Int} (h : HW A B) (hB : 1 ≤ B) (l : List AVal) (K a b : Nat) : HW (moveA A l K a b) (B + 1) := by
  unfold moveA
  split
  · exact h.make hB _ _
  · exact h.push _ _
  · exact (h.pop _).mono (by omega)
  · exact (h.drop _).mono (by omega)
  · exact h.keep _
  · exact h.mark _
  · exact (h.drain _).mono (by omega)
section
variable {w0 w : World} {b p : Nat} {l : List AVal} {A : AHeap} {B : Int} {F : HP}
theorem Sat.handH {W : World} {G : HP} {l : List AVal} (h : Sat w0 W (handL b p l * G)) : W.cell? ⟨b, 0, none⟩ = some (.pointer (some ⟨p, 0, none⟩)) := by
  obtain ⟨la, lc, h2⟩ := h.openHand
  exact h2.cell 0 rfl
theorem run_field_val1 (k n : Int) (w : World) : (Instr.field 28 (Value.agg #[.int .i64 k, .int .i64 n]) 1).run Try.prog w = .ok (.int .i64 n) w := by kernel_rfl
theorem kindCell {W : World} {G : HP} {ob : Nat} (a : Nat) (h : Sat w0 W (pt ob (.cells #[.int .i64 6, .int .i64 9, .int .i64 5, .int .i64 7, .int .i64 6] 178 (0, 0)) * G)) : W.cell? ⟨ob, a % 5, none⟩ = some (.int .i64 (kindOf a)) := by
  refine Sat.cell (T := 178) (cs := #[.int .i64 6, .int .i64 9, .int .i64 5, .int .i64 7, .int .i64 6]) h (a % 5) ?_
  have hlt : a % 5 < 5 := Nat.mod_lt _ (by omega)
  unfold kindOf
  generalize a % 5 = k at *
  match k, hlt with
  | 0, _ => rfl
  | 1, _ => rfl
  | 2, _ => rfl
  | 3, _ => rfl
  | 4, _ => rfl
set_option maxRecDepth 100000 in
set_option maxHeartbeats 2000000 in
theorem hd_do0 (H : HW A B) (hB : B ≤ 1000000) (h : Sat w0 w (heapR mN p A * (handL b p l * F))) (hl : l.length ≤ 1000000) (K a c : Nat) (hK : K < 256) (ha : a < 256) (hc : c < 256) (h0 : K % 7 = 0) :
    Calls Try.prog 98 #[.pointer (some ⟨b, 0, none⟩), .agg #[.int .u8 K, .int .u8 a, .int .u8 c]] w fun e w' => e = .returned (.tuple #[]) ∧ Sat w0 w' (heapR mN p (A.makeF (kindOf a) txs) * (handL b p (l ++ [A.makeV (kindOf a) txs]) * F)) := by
  have hmk : (K : Int).tmod 7 = 0 := by rw [Int.tmod_eq_emod_of_nonneg (by omega)]; omega
  have hma : (a : Int).tmod 5 = ((a % 5 : Nat) : Int) := by rw [Int.tmod_eq_emod_of_nonneg (by omega)]; omega
  have h1 := h.alloc (.cells #[.int .u8 K, .int .u8 a, .int .u8 c] 153)
  generalize hxb : w.heap.size = xb at *
  have h2 := h1.alloc (.cells #[.int .i64 6, .int .i64 9, .int .i64 5, .int .i64 7, .int .i64 6] 178)
  rw [size_alloc, hxb] at h2
  obtain ⟨la, lc, h3⟩ := h2.p4.openHand
  have c0 := h3.cell 0 rfl
  have c1 := h3.cell 1 rfl
  have x1 : ((w.alloc (.cells #[.int .u8 K, .int .u8 a, .int .u8 c] 153)).alloc (.cells #[.int .i64 6, .int .i64 9, .int .i64 5, .int .i64 7, .int .i64 6] 178)).cell? ⟨xb, 1, none⟩ = some (.int .u8 a) := Sat.cell (T := 153) (cs := #[.int .u8 K, .int .u8 a, .int .u8 c]) h2.p2 1 rfl
  have kc := kindCell a h2
  have hma5 : ((a % 5 : Nat) : Int) < 5 := by have := Nat.mod_lt a (show 5 > 0 by omega); omega
  have HM := Lib.hid (t_Make H hB h3.drew.p5 (kindOf a) txs)
  have H3 := Lib.hid h3
  clear h1 h2 h3 h
  generalize hv : A.makeV (kindOf a) txs = v at *
  generalize ha5 : a % 5 = a5 at *
  go_enter Try.func98, Try.ntmps98
  try rw [hxb]
  go_wp2_with fail
  go_region_law (first
    | (refine step_of rfl (wp_pushVal _ _ rfl la l.length lc l (by simp [Act.eval, Act.put]) h5.p4 w3.heap.size 1 v (by simp [Act.eval, Act.put]) b0 b1 (by omega) ?_); intro a' c' w4 h6; have f4 := h6.p4.free 1; have q4 : w4.cell? ⟨b, 1, none⟩ = some (.slice la l.length lc) := h6.p4.cell 1 rfl)
    | (refine step_of rfl ?_; go_simp; go_at_call 25; refine HM.out.mono ?_; rintro e w3 ⟨rfl, h4⟩; have g1 : w3.cell? ⟨b, 1, none⟩ = some (.slice la l.length lc) := h4.p2.cell 1 rfl; have h5 := h4.alloc (.cells #[.int .i64 v.kind, .int .i64 v.n] 28); have b0 := (val2' h5).1; have b1 := (val2' h5).2.1; have g2 : (w3.alloc (.cells #[.int .i64 v.kind, .int .i64 v.n] 28)).cell? ⟨b, 1, none⟩ = some (.slice la l.length lc) := h5.p3.cell 1 rfl))
  all_goals
    have h7 := h6.p4.store (i := 1) (.slice a' (l.length + 1) c')
    go_wp2_with fail
    go_end0
    have h8 : Sat w0 (w4.setCell ⟨b, 1, none⟩ (.slice a' (l.length + 1) c')) (row b 77 #[.pointer (some ⟨p, 0, none⟩), .slice a' (l.length + 1) c'] * _) := h7.p3.drop.p4.drop.p4.drop
    exact ⟨rfl, (h8.shutHand (by simp)).p2⟩
end
end Go.Proofs.Ytkpcngcegipalaa.Tw
