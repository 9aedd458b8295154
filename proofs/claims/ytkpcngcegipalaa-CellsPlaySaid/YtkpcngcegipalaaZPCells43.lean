/- tallowlaw13: slots and do, for any act; two heaps beside two others. No condition. -/
import Derived.Test.YtkpcngcegipalaaZPCells39
import Derived.Test.YtkpcngcegipalaaZPCells40
import Derived.Test.YtkpcngcegipalaaZPCells41
import Derived.Test.YtkpcngcegipalaaZPCells42
import Derived.ProofKit
import Derived.OpenShut
import Derived.ChangeOld
namespace Go.Proofs.Ytkpcngcegipalaa.Tw
set_option linter.unusedVariables false
set_option linter.unusedSimpArgs false
open Go Go.RowKit Go.MapKept

section
variable {w0 w : World} {F XK SR : HP} {m : Hp} {p q : Nat} {A : AHeap} {B : Int} {l : List AVal}
theorem p_slots (H0 : HW A B) (hB : B ≤ 1000000) (hW : A.watch.length ≤ 1000000) (KX : Knows m XK) (h : Sat w0 w (heapR m p A * (refR13 q A * (XK * (SR * F))))) (what xn xi vk vn : Int) (la : Option Addr) (lc : Nat) (xtx : ByteArray) (hS : SrcV w0 SR la l.length lc l) :
    Calls Try.prog 113 #[.pointer (some ⟨p, 0, none⟩), .pointer (some ⟨q, 0, none⟩), .agg #[.int .i64 what, .int .i64 xn, .int .i64 xi, .int .i64 vk, .int .i64 vn, .slice la l.length lc, .string xtx]] w fun e w' => e = .returned (.bool true) ∧ Sat w0 w' (heapR m p (slotP A ⟨what, xn, xi, ⟨vk, vn⟩, l, xtx⟩) * (refR13 q (slotP A ⟨what, xn, xi, ⟨vk, vn⟩, l, xtx⟩) * (XK * (SR * F)))) := by
  unfold slotP
  dsimp only
  by_cases h0 : what.tmod 5 = 0
  · rw [if_pos h0]; exact p_slots_0 H0 hB hW KX h xn xi vk vn la _ lc xtx what h0
  rw [if_neg h0]
  by_cases h1 : what.tmod 5 = 1
  · rw [if_pos h1]; exact p_slots_1 H0 hB hW KX h xn xi vk vn la _ lc xtx what h1
  rw [if_neg h1]
  by_cases h2 : what.tmod 5 = 2
  · rw [if_pos h2]; exact p_slots_2 H0 hB hW KX h xn xi vk vn la _ lc xtx what h2
  rw [if_neg h2]
  by_cases h3 : what.tmod 5 = 3
  · rw [if_pos h3]; exact p_slots_3 H0 hB hW KX h xn xi vk vn la _ lc xtx what h3
  rw [if_neg h3]
  exact p_slots_4 H0 hB hW KX h xn xi vk vn la lc xtx what (by simpa using h0) (by simpa using h1) (by simpa using h2) (by simpa using h3) hS
set_option maxRecDepth 100000 in
set_option maxHeartbeats 4000000 in
theorem p_do_s (H0 : HW A B) (hB : B ≤ 1000000) (hW : A.watch.length ≤ 1000000) (KX : Knows m XK) (h : Sat w0 w (heapR m p A * (refR13 q A * (XK * (SR * F))))) (what xn xi vk vn : Int) (la : Option Addr) (lc : Nat) (xtx : ByteArray) (hS : SrcV w0 SR la l.length lc l)
    (hn : what < 0 ∨ 13 < what) :
    Calls Try.prog 56 #[.pointer (some ⟨p, 0, none⟩), .pointer (some ⟨q, 0, none⟩), .agg #[.int .i64 what, .int .i64 xn, .int .i64 xi, .int .i64 vk, .int .i64 vn, .slice la l.length lc, .string xtx]] w fun e w' => e = .returned (.bool true) ∧ Sat w0 w' (heapR m p (slotP A ⟨what, xn, xi, ⟨vk, vn⟩, l, xtx⟩) * (refR13 q (slotP A ⟨what, xn, xi, ⟨vk, vn⟩, l, xtx⟩) * (XK * (SR * F)))) := by
  have h1 : Sat w0 (w.alloc (.cells #[.int .i64 what, .int .i64 xn, .int .i64 xi, .int .i64 vk, .int .i64 vn, .slice la l.length lc, .string xtx] 100)) (heapR m p A * (refR13 q A * (XK * (SR * (pt w.heap.size (.cells #[.int .i64 what, .int .i64 xn, .int .i64 xi, .int .i64 vk, .int .i64 vn, .slice la l.length lc, .string xtx] 100 (0, 0)) * F))))) := (h.alloc (.cells #[.int .i64 what, .int .i64 xn, .int .i64 xi, .int .i64 vk, .int .i64 vn, .slice la l.length lc, .string xtx] 100)).cast (by ac_rfl)
  generalize hxb : w.heap.size = xb at *
  have ⟨c0, c1, c2, c3, c4, c5, c6⟩ := act7 (h1.cast (show _ = pt xb (.cells #[.int .i64 what, .int .i64 xn, .int .i64 xi, .int .i64 vk, .int .i64 vn, .slice la l.length lc, .string xtx] 100 (0, 0)) * (heapR m p A * (refR13 q A * (XK * (SR * F)))) by ac_rfl))
  have n0 : (what == 0) = false := by simp; omega
  have n1 : (what == 1) = false := by simp; omega
  have n2 : (what == 2) = false := by simp; omega
  have n3 : (what == 3) = false := by simp; omega
  have n4 : (what == 4) = false := by simp; omega
  have n5 : (what == 5) = false := by simp; omega
  have n6 : (what == 6) = false := by simp; omega
  have n7 : (what == 7) = false := by simp; omega
  have n8 : (what == 8) = false := by simp; omega
  have n9 : (what == 9) = false := by simp; omega
  have n10 : (what == 10) = false := by simp; omega
  have n11 : (what == 11) = false := by simp; omega
  have n12 : (what == 12) = false := by simp; omega
  have n13 : (what == 13) = false := by simp; omega
  have HC := Lib.hid (p_slots H0 hB hW KX h1 what xn xi vk vn la lc xtx hS)
  clear h h1 H0 KX hS
  go_enter Try.func56, Try.ntmps56
  go_wp2_with fail
  refine HC.out.mono ?_
  rintro e w1 ⟨rfl, h2⟩
  go_wp2_with fail
  go_ret
  exact ⟨rfl, Sat.drop (P := pt xb (.cells #[.int .i64 what, .int .i64 xn, .int .i64 xi, .int .i64 vk, .int .i64 vn, .slice la l.length lc, .string xtx] 100 (0, 0))) (h2.cast (by ac_rfl))⟩
theorem p_do (H0 : HW A B) (hB : B ≤ 1000000) (hW : A.watch.length ≤ 1000000) (KX : Knows m XK) (h : Sat w0 w (heapR m p A * (refR13 q A * (XK * (SR * F))))) (what xn xi vk vn : Int) (la : Option Addr) (lc : Nat) (xtx : ByteArray) (hS : SrcV w0 SR la l.length lc l) :
    Calls Try.prog 56 #[.pointer (some ⟨p, 0, none⟩), .pointer (some ⟨q, 0, none⟩), .agg #[.int .i64 what, .int .i64 xn, .int .i64 xi, .int .i64 vk, .int .i64 vn, .slice la l.length lc, .string xtx]] w fun e w' => e = .returned (.bool true) ∧ ∃ m' G, Knows m' (G * XK) ∧ Sat w0 w' (heapR m' p (actPl A ⟨what, xn, xi, ⟨vk, vn⟩, l, xtx⟩) * (refR13 q (actPl A ⟨what, xn, xi, ⟨vk, vn⟩, l, xtx⟩) * (G * XK * (SR * F)))) := by
  by_cases hn : what < 0 ∨ 13 < what
  · have e : actPl A ⟨what, xn, xi, ⟨vk, vn⟩, l, xtx⟩ = slotP A ⟨what, xn, xi, ⟨vk, vn⟩, l, xtx⟩ := by unfold actPl; dsimp only; rw [if_neg (by omega), if_neg (by omega)]
    rw [e]
    refine (p_do_s H0 hB hW KX h what xn xi vk vn la lc xtx hS hn).mono ?_
    rintro e w1 ⟨rfl, h2⟩
    exact ⟨rfl, m, 1, KX.left, by rw [one_mul]; exact h2⟩
  have hr : what = 0 ∨ what = 1 ∨ what = 2 ∨ what = 3 ∨ what = 4 ∨ what = 5 ∨ what = 6 ∨ what = 7 ∨ what = 8 ∨ what = 9 ∨ what = 10 ∨ what = 11 ∨ what = 12 ∨ what = 13 := by omega
  clear hn
  rcases hr with rfl | rfl | rfl | rfl | rfl | rfl | rfl | rfl | rfl | rfl | rfl | rfl | rfl | rfl
  · have e : actPl A ⟨0, xn, xi, ⟨vk, vn⟩, l, xtx⟩ = A.makeF xi (txc xtx 5000) := by simp [actPl, actA]
    rw [e]
    refine (p_do_0 H0 hB hW KX h xn xi vk vn la _ lc xtx).mono ?_
    rintro e w1 ⟨rfl, h2⟩
    exact ⟨rfl, m, 1, KX.left, by rw [one_mul]; exact h2⟩
  · have e : actPl A ⟨1, xn, xi, ⟨vk, vn⟩, l, xtx⟩ = A.makeF xi (txc xtx 5000) := by simp [actPl, actA]
    rw [e]
    refine (p_do_1 H0 hB hW KX h xn xi vk vn la _ lc xtx).mono ?_
    rintro e w1 ⟨rfl, h2⟩
    exact ⟨rfl, m, 1, KX.left, by rw [one_mul]; exact h2⟩
  · have e : actPl A ⟨2, xn, xi, ⟨vk, vn⟩, l, xtx⟩ = A.keep ⟨vk, vn⟩ := by simp [actPl, actA]
    rw [e]
    refine (p_do_2 H0 hB hW KX h xn xi vk vn la _ lc xtx).mono ?_
    rintro e w1 ⟨rfl, h2⟩
    exact ⟨rfl, m, 1, KX.left, by rw [one_mul]; exact h2⟩
  · have e : actPl A ⟨3, xn, xi, ⟨vk, vn⟩, l, xtx⟩ = A.keep ⟨vk, vn⟩ := by simp [actPl, actA]
    rw [e]
    refine (p_do_3 H0 hB hW KX h xn xi vk vn la _ lc xtx).mono ?_
    rintro e w1 ⟨rfl, h2⟩
    exact ⟨rfl, m, 1, KX.left, by rw [one_mul]; exact h2⟩
  · have e : actPl A ⟨4, xn, xi, ⟨vk, vn⟩, l, xtx⟩ = A.drop ⟨vk, vn⟩ := by simp [actPl, actA]
    rw [e]
    refine (p_do_4 H0 hB hW KX h xn xi vk vn la _ lc xtx).mono ?_
    rintro e w1 ⟨rfl, h2⟩
    exact ⟨rfl, m, 1, KX.left, by rw [one_mul]; exact h2⟩
  · have e : actPl A ⟨5, xn, xi, ⟨vk, vn⟩, l, xtx⟩ = A.drop ⟨vk, vn⟩ := by simp [actPl, actA]
    rw [e]
    refine (p_do_5 H0 hB hW KX h xn xi vk vn la _ lc xtx).mono ?_
    rintro e w1 ⟨rfl, h2⟩
    exact ⟨rfl, m, 1, KX.left, by rw [one_mul]; exact h2⟩
  · have e : actPl A ⟨6, xn, xi, ⟨vk, vn⟩, l, xtx⟩ = A.drop ⟨vk, vn⟩ := by simp [actPl, actA]
    rw [e]
    refine (p_do_6 H0 hB hW KX h xn xi vk vn la _ lc xtx).mono ?_
    rintro e w1 ⟨rfl, h2⟩
    exact ⟨rfl, m, 1, KX.left, by rw [one_mul]; exact h2⟩
  · have e : actPl A ⟨7, xn, xi, ⟨vk, vn⟩, l, xtx⟩ = A.freeF xn := by simp [actPl, actA]
    rw [e]
    refine (p_do_7 H0 hB hW KX h xn xi vk vn la _ lc xtx).mono ?_
    rintro e w1 ⟨rfl, h2⟩
    exact ⟨rfl, m, 1, KX.left, by rw [one_mul]; exact h2⟩
  · have e : actPl A ⟨8, xn, xi, ⟨vk, vn⟩, l, xtx⟩ = A.mark xn := by simp [actPl, actA]
    rw [e]
    refine (p_do_8 H0 hB hW KX h xn xi vk vn la _ lc xtx).mono ?_
    rintro e w1 ⟨rfl, h2⟩
    exact ⟨rfl, m, 1, KX.left, by rw [one_mul]; exact h2⟩
  · have e : actPl A ⟨9, xn, xi, ⟨vk, vn⟩, l, xtx⟩ = A.finF xn := by simp [actPl, actA]
    rw [e]
    refine (p_do_9 H0 hB hW KX h xn xi vk vn la _ lc xtx).mono ?_
    rintro e w1 ⟨rfl, h2⟩
    exact ⟨rfl, m, 1, KX.left, by rw [one_mul]; exact h2⟩
  · have e : actPl A ⟨10, xn, xi, ⟨vk, vn⟩, l, xtx⟩ = A.nextF := by simp [actPl, actA]
    rw [e]
    refine (p_do_10 H0 hB hW KX h xn xi vk vn la _ lc xtx).mono ?_
    rintro e w1 ⟨rfl, h2⟩
    exact ⟨rfl, m, 1, KX.left, by rw [one_mul]; exact h2⟩
  · have e : actPl A ⟨11, xn, xi, ⟨vk, vn⟩, l, xtx⟩ = { A with buf := [] } := by simp [actPl, actA]
    rw [e]
    refine (p_do_11 H0 hB hW KX h xn xi vk vn la _ lc xtx).mono ?_
    rintro e w1 ⟨rfl, h2⟩
    exact ⟨rfl, m, 1, KX.left, by rw [one_mul]; exact h2⟩
  · have e : actPl A ⟨12, xn, xi, ⟨vk, vn⟩, l, xtx⟩ = A.suspF xn := by simp [actPl, actA]
    rw [e]
    refine (p_do_12 H0 hB hW KX h xn xi vk vn la _ lc xtx).mono ?_
    rintro e w1 ⟨rfl, h2⟩
    exact ⟨rfl, m, 1, KX.left, by rw [one_mul]; exact h2⟩
  · have e : actPl A ⟨13, xn, xi, ⟨vk, vn⟩, l, xtx⟩ = A.watchF [xn, xi] := by simp [actPl, actA]
    rw [e]
    refine (p_do_13 H0 hB hW KX h xn xi vk vn la _ lc xtx).mono ?_
    rintro e w1 ⟨rfl, m', G, hG, h2⟩
    exact ⟨rfl, m', G, hG.right, h2⟩
end
/-! the two heaps, beside two others -/
def othR (m2 : Hp) : Option (Nat × Nat × AHeap) → HP
  | none => 1
  | some (p, q, A) => heapR m2 p A * refR13 q A
def TT (p q : Nat) (A : AHeap) (c : Option (Nat × Nat × AHeap)) : HP := fun h => ∃ m m2 X, (Knows m X ∧ Knows m2 X) ∧ (heapR m p A * (refR13 q A * (othR m2 c * X))) h
section
variable {w0 w : World} {F SR : HP} {p q : Nat} {A : AHeap} {B : Int} {l : List AVal} {c : Option (Nat × Nat × AHeap)}
theorem Sat.openTT (h : Sat w0 w (TT p q A c * F)) : ∃ m m2 X, Knows m X ∧ Knows m2 X ∧ Sat w0 w (heapR m p A * (refR13 q A * (othR m2 c * (X * F)))) := by
  obtain ⟨h1, x, ⟨y, z, dj, rfl, ⟨m, m2, X, ⟨k1, k2⟩, hp⟩, hq⟩, r⟩ := h
  have h2 : Sat w0 w ((heapR m p A * (refR13 q A * (othR m2 c * X))) * F) := ⟨h1, _, ⟨y, z, dj, rfl, hp, hq⟩, r⟩
  exact ⟨m, m2, X, k1, k2, h2.cast (by ac_rfl)⟩
theorem Sat.shutTT {m m2 : Hp} {X : HP} (k1 : Knows m X) (k2 : Knows m2 X) (h : Sat w0 w (heapR m p A * (refR13 q A * (othR m2 c * (X * F))))) : Sat w0 w (TT p q A c * F) :=
  (h.cast (show _ = (heapR m p A * (refR13 q A * (othR m2 c * X))) * F by ac_rfl)).mono_l fun _ hq => ⟨m, m2, X, ⟨k1, k2⟩, hq⟩
theorem Sat.flipTT {p2 q2 : Nat} {A2 : AHeap} (h : Sat w0 w (TT p q A (some (p2, q2, A2)) * F)) : Sat w0 w (TT p2 q2 A2 (some (p, q, A)) * F) := by
  obtain ⟨m, m2, X, k1, k2, h2⟩ := h.openTT
  exact Sat.shutTT k2 k1 (h2.cast (by unfold othR; dsimp only; ac_rfl))
theorem tt_do (H0 : HW A B) (hB : B ≤ 1000000) (hW : A.watch.length ≤ 1000000) (h : Sat w0 w (TT p q A c * (SR * F))) (what xn xi vk vn : Int) (la : Option Addr) (lc : Nat) (xtx : ByteArray) (hS : SrcV w0 SR la l.length lc l) :
    Calls Try.prog 56 #[.pointer (some ⟨p, 0, none⟩), .pointer (some ⟨q, 0, none⟩), .agg #[.int .i64 what, .int .i64 xn, .int .i64 xi, .int .i64 vk, .int .i64 vn, .slice la l.length lc, .string xtx]] w fun e w' => e = .returned (.bool true) ∧ Sat w0 w' (TT p q (actPl A ⟨what, xn, xi, ⟨vk, vn⟩, l, xtx⟩) c * (SR * F)) := by
  obtain ⟨m, m2, X, k1, k2, h2⟩ := h.openTT
  refine (p_do H0 hB hW k1 (h2.cast (show _ = heapR m p A * (refR13 q A * (X * (SR * (othR m2 c * F)))) by ac_rfl)) what xn xi vk vn la lc xtx hS).mono ?_
  rintro e w1 ⟨rfl, m', G, hG, h3⟩
  exact ⟨rfl, Sat.shutTT hG (k2.left (G := G)) (h3.cast (by ac_rfl))⟩
theorem tt_lists (H0 : HW A B) (hB : B ≤ 1000000) (h : Sat w0 w (TT p q A c * F)) :
    Calls Try.prog 54 #[.pointer (some ⟨p, 0, none⟩), .pointer (some ⟨q, 0, none⟩)] w fun e w' => e = .returned (.bool true) ∧ Sat w0 w' (TT p q A c * F) := by
  obtain ⟨m, m2, X, k1, k2, h2⟩ := h.openTT
  refine (p_lists H0 hB h2).mono ?_
  rintro e w1 ⟨rfl, h3⟩
  exact ⟨rfl, Sat.shutTT k1 k2 h3⟩
theorem tt_Obj (H0 : HW A B) (hB : B ≤ 1000000) (h : Sat w0 w (TT p q A c * F)) (n : Int) {k ct mk : Int} {sl : List AVal} {tx : ByteArray} {sn : Nat} (ho : A.obj n = ⟨k, ct, sl, tx, mk⟩) (hsn : sl.length = sn) :
    Calls Try.prog 23 #[.pointer (some ⟨p, 0, none⟩), .int .i64 n] w fun e w' => ∃ a cc, e = .returned (.agg #[.int .i64 k, .int .i64 ct, .slice a sn cc, .string tx, .int .i64 mk]) ∧ Sat w0 w' (TT p q A c * F) := by
  obtain ⟨m, m2, X, k1, k2, h2⟩ := h.openTT
  refine (x_Obj H0 hB h2 n ho hsn).mono ?_
  rintro e w1 ⟨a, cc, rfl, h3⟩
  exact ⟨a, cc, rfl, Sat.shutTT k1 k2 h3.drop⟩
theorem tt_rObj (H0 : HW A B) (hB : B ≤ 1000000) (h : Sat w0 w (TT p q A c * F)) (n : Int) {k ct mk : Int} {sl : List AVal} {tx : ByteArray} {sn : Nat} (ho : A.obj n = ⟨k, ct, sl, tx, mk⟩) (hsn : sl.length = sn) :
    Calls Try.prog 57 #[.pointer (some ⟨q, 0, none⟩), .int .i64 n] w fun e w' => ∃ a cc, e = .returned (.agg #[.int .i64 k, .int .i64 ct, .slice a sn cc, .string tx, .int .i64 mk]) ∧ Sat w0 w' (TT p q A c * F) := by
  obtain ⟨m, m2, X, k1, k2, h2⟩ := h.openTT
  refine (r_Obj H0 hB h2.p2 n ho hsn).mono ?_
  rintro e w1 ⟨a, cc, rfl, h3⟩
  exact ⟨a, cc, rfl, Sat.shutTT k1 k2 (h3.drop.p2)⟩
end
end Go.Proofs.Ytkpcngcegipalaa.Tw
namespace Go.Proofs.Ytkpcngcegipalaa.Tw
set_option linter.unusedVariables false
set_option linter.unusedSimpArgs false
open Go Go.RowKit Go.MapKept Go.ChangeShapes Go.WideShapes Go.Deep

section
variable {H : Type} {enc : TypeId × Value → H} {w : World} {base : Nat} {held : Bool} {fuel : Nat} {cs : List Value} {x : DataW H × List MemPlace}
theorem open_recs_nil {P : Program} {T e : TypeId} (hT : P.underlying T = some (.slice e)) {spare : Nat → Bool} {len cap : Nat}
    (h : DataW.trod enc P w base spare held fuel T [.slice none len cap] = some x) : len = 0 ∧ cap = 0 := by
  rcases open_slice hT h with ⟨hcs, _⟩ | ⟨ad, l, c, m, n, D, Pl, hcs, _⟩
  · simp at hcs; exact hcs
  · simp at hcs
theorem val_cells {spare : Nat → Bool} (h : DataW.trod enc Try.prog w base spare held fuel 28 cs = some x) : ∃ v : AVal, cs = v.cells := by
  obtain ⟨y0, y1, n, _, hl, g0, g1⟩ := trod_struct2 Try.underlying28 h
  have h2 : Try.prog.cellsOf 28 = 2 := by kernel_rfl
  have k0 : Try.prog.cellsOf 3 = 1 := by kernel_rfl
  have k1 : Try.prog.cellsOf 2 = 1 := by kernel_rfl
  rw [h2] at hl
  obtain ⟨v0, v1, rfl⟩ : ∃ v0 v1, cs = [v0, v1] := by
    rcases cs with _ | ⟨v0, _ | ⟨v1, _ | ⟨v2, r⟩⟩⟩
    · simp at hl
    · simp at hl
    · exact ⟨v0, v1, rfl⟩
    · simp at hl
  simp only [k0, k1, List.drop_zero, List.drop_succ_cons, List.take_succ_cons, List.take_zero] at g0 g1
  obtain ⟨p, e0, _, _⟩ := DataW.trod_int Try.underlying3 g0
  obtain ⟨q, e1, _, _⟩ := DataW.trod_int Try.underlying2 g1
  simp at e0 e1
  exact ⟨⟨p, q⟩, by rw [e0, e1]; rfl⟩
/-- an argument that is a slice of values -/
theorem open_vals {a : Option Addr} {len cap : Nat} (h : DataW.trod enc Try.prog w base (fun _ => true) held fuel 37 [.slice a len cap] = some x) : ∃ l : List AVal, SrcV w (Old w) a len cap l := by
  obtain ⟨h1, h2, css, h3, h4, h5⟩ := open_recs Try.underlying37 (show Try.prog.cellsOf 28 = 2 by kernel_rfl) (by omega) (E := fun cs => ∃ v : AVal, True ∧ cs = v.cells) (fun _ _ _ hh => by obtain ⟨v, e⟩ := val_cells hh; exact ⟨v, trivial, e⟩) h
  obtain ⟨l, rfl, _⟩ := of_forall_ex (f := AVal.cells) (R := fun _ => True) css h4
  rw [List.length_map] at h3
  have e : (l.map AVal.cells).flatten = avcells l := by unfold avcells; rw [List.flatMap_def]
  rw [e] at h5
  refine ⟨l, fun w' G hs k y hk => ?_, h3, fun ea => ?_, h1, h2⟩
  · obtain ⟨e0, e1⟩ := avcells_get l k y hk
    obtain ⟨g, off, ea, c0⟩ := h5 w' G _ _ hs e0
    obtain ⟨g1, off1, ea1, c1⟩ := h5 w' G _ _ hs e1
    rw [ea] at ea1; cases ea1
    exact ⟨g, off, ea, c0, by rw [Nat.add_assoc]; exact c1⟩
  · subst ea
    exact open_recs_nil Try.underlying37 h
theorem act_cells (h : DataW.trod enc Try.prog w base (fun _ => true) held fuel 100 cs = some x) : ∃ r : RAct, SrcV w (Old w) r.la r.x.l.length r.lc r.x.l ∧ cs = rcells r := by
  obtain ⟨xs, n, _, rfl, hl, hlen, hf⟩ := DataW.trod_struct Try.underlying100 h
  have h7 : Try.prog.cellsOf 100 = 7 := by kernel_rfl
  have k0 : Try.prog.cellsOf 3 = 1 := by kernel_rfl
  have k3 : Try.prog.cellsOf 28 = 2 := by kernel_rfl
  have k4 : Try.prog.cellsOf 37 = 1 := by kernel_rfl
  have k5 : Try.prog.cellsOf 9 = 1 := by kernel_rfl
  rw [h7] at hl
  obtain ⟨v0, v1, v2, v3, v4, v5, v6, rfl⟩ : ∃ v0 v1 v2 v3 v4 v5 v6, cs = [v0, v1, v2, v3, v4, v5, v6] := by
    rcases cs with _ | ⟨v0, _ | ⟨v1, _ | ⟨v2, _ | ⟨v3, _ | ⟨v4, _ | ⟨v5, _ | ⟨v6, _ | ⟨v7, r⟩⟩⟩⟩⟩⟩⟩⟩ <;> simp at hl
    exact ⟨v0, v1, v2, v3, v4, v5, v6, rfl⟩
  obtain ⟨y0, y1, y2, y3, y4, y5, rfl⟩ : ∃ y0 y1 y2 y3 y4 y5, xs = [y0, y1, y2, y3, y4, y5] := by
    match xs, hlen with
    | [y0, y1, y2, y3, y4, y5], _ => exact ⟨y0, y1, y2, y3, y4, y5, rfl⟩
  have f0 : DataW.trod enc Try.prog w base (fun _ => true) held n 3 ([v0, v1, v2, v3, v4, v5, v6].drop 0 |>.take (Try.prog.cellsOf 3)) = some y0 := hf 0 _ rfl
  rw [k0] at f0
  replace f0 : DataW.trod enc Try.prog w base (fun _ => true) held n 3 [v0] = some y0 := f0
  have f1 : DataW.trod enc Try.prog w base (fun _ => true) held n 3 ([v0, v1, v2, v3, v4, v5, v6].drop 1 |>.take (Try.prog.cellsOf 3)) = some y1 := hf 1 _ rfl
  rw [k0] at f1
  replace f1 : DataW.trod enc Try.prog w base (fun _ => true) held n 3 [v1] = some y1 := f1
  have f2 : DataW.trod enc Try.prog w base (fun _ => true) held n 3 ([v0, v1, v2, v3, v4, v5, v6].drop 2 |>.take (Try.prog.cellsOf 3)) = some y2 := hf 2 _ rfl
  rw [k0] at f2
  replace f2 : DataW.trod enc Try.prog w base (fun _ => true) held n 3 [v2] = some y2 := f2
  have f3 : DataW.trod enc Try.prog w base (fun _ => true) held n 28 ([v0, v1, v2, v3, v4, v5, v6].drop 3 |>.take (Try.prog.cellsOf 28)) = some y3 := hf 3 _ rfl
  rw [k3] at f3
  replace f3 : DataW.trod enc Try.prog w base (fun _ => true) held n 28 [v3, v4] = some y3 := f3
  have f4 : DataW.trod enc Try.prog w base (fun _ => true) held n 37 ([v0, v1, v2, v3, v4, v5, v6].drop 5 |>.take (Try.prog.cellsOf 37)) = some y4 := hf 4 _ rfl
  rw [k4] at f4
  replace f4 : DataW.trod enc Try.prog w base (fun _ => true) held n 37 [v5] = some y4 := f4
  have f5 : DataW.trod enc Try.prog w base (fun _ => true) held n 9 ([v0, v1, v2, v3, v4, v5, v6].drop 6 |>.take (Try.prog.cellsOf 9)) = some y5 := hf 5 _ rfl
  rw [k5] at f5
  replace f5 : DataW.trod enc Try.prog w base (fun _ => true) held n 9 [v6] = some y5 := f5
  obtain ⟨p0, e0, _, _⟩ := DataW.trod_int Try.underlying3 f0
  obtain ⟨p1, e1, _, _⟩ := DataW.trod_int Try.underlying3 f1
  obtain ⟨p2, e2, _, _⟩ := DataW.trod_int Try.underlying3 f2
  obtain ⟨v, e3⟩ := val_cells f3
  obtain ⟨s, e5, _, _⟩ := DataW.trod_string Try.underlying9 f5
  obtain ⟨a, ln, c, rfl⟩ : ∃ a ln c, v5 = .slice a ln c := by
    rcases open_slice Try.underlying37 f4 with ⟨hcs, _⟩ | ⟨ad, l, c, m, n, D, Pl, hcs, _⟩
    · simp at hcs; exact ⟨_, _, _, hcs⟩
    · simp at hcs; exact ⟨_, _, _, hcs⟩
  obtain ⟨l, hS⟩ := open_vals f4
  have hln : l.length = ln := hS.2.1
  subst hln
  simp [AVal.cells] at e0 e1 e2 e3 e5
  refine ⟨⟨⟨p0, p1, p2, v, l, s⟩, a, c⟩, hS, ?_⟩
  rw [e0, e1, e2, e3.1, e3.2, e5]; rfl
/-- an argument: acts in a slice -/
def IsActs13 (w : World) (a : Option Addr) (len cap : Nat) (rs : List RAct) : Prop :=
  rs.length = len ∧ len ≤ cap ∧ cap ≤ maxLen ∧ (∀ r ∈ rs, SrcV w (Old w) r.la r.x.l.length r.lc r.x.l) ∧ ArgAt w (Old w) a (racells rs)
theorem open_acts13 {a : Option Addr} {len cap : Nat} (h : DataW.trod enc Try.prog w base (fun _ => true) held fuel 98 [.slice a len cap] = some x) : ∃ rs, IsActs13 w a len cap rs := by
  obtain ⟨h1, h2, css, h3, h4, h5⟩ := open_recs Try.underlying98 (show Try.prog.cellsOf 100 = 7 by kernel_rfl) (by omega) (fun _ _ _ hh => act_cells hh) h
  obtain ⟨rs, rfl, hr⟩ := of_forall_ex (f := rcells) (R := fun r => SrcV w (Old w) r.la r.x.l.length r.lc r.x.l) css h4
  rw [List.length_map] at h3
  exact ⟨rs, h3, h1, h2, hr, h5⟩
end
end Go.Proofs.Ytkpcngcegipalaa.Tw
