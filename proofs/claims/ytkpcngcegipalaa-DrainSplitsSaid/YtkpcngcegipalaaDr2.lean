/- drain: what a step does; the iterator over steps. No condition. -/
import Derived.Test.YtkpcngcegipalaaDr1
import Derived.Test.YtkpcngcegipalaaTot
import Derived.Test.YtkpcngcegipalaaRange
namespace Go.Proofs.Ytkpcngcegipalaa.Tw
set_option linter.unusedVariables false
set_option linter.unusedSimpArgs false
open Go Go.RowKit Go.MapKept
attribute [local go_sem] Oper.semAt_some

open Classical in
/-- a loop with a number that no slot holds, in a walk within -/
theorem wpIn_loop_ghost {F' : Fence} {nn : Nat} {P : Program} {Q : Exit → Act → World → Prop} {c : Code} (I : Nat → Act → World → Prop) {f : Nat} {a : Act} {w : World} (h0 : I f a w)
    (round : ∀ f a w, I f a w → c.wpIn F' nn P (Exit.then (fun a' w' => ∃ f', f' < f ∧ I f' a' w') Q) a w) : (Code.loop c).wpIn F' nn P Q a w := by
  have least : ∀ a w, (∃ f, I f a w) → ∃ m, I m a w ∧ ∀ k, k < m → ¬ I k a w := by
    intro a w ⟨f, hf⟩
    induction f using Nat.strongRecOn with
    | _ f ih =>
      by_cases h : ∃ k, k < f ∧ I k a w
      · obtain ⟨k, hk, hI⟩ := h
        exact ih k hk hI
      · exact ⟨f, hf, fun k hk hI => h ⟨k, hk, hI⟩⟩
  refine wpIn_loop (fun a w => ∃ f, I f a w) (fun a w => if h : ∃ f, I f a w then (least a w h).choose else 0) ⟨f, h0⟩ ?_
  intro a w h
  have hm := (least a w h).choose_spec
  refine wpIn_mono (round _ a w hm.1) ?_
  intro e a' w' q
  cases e <;> try exact q
  obtain ⟨f', hlt, hI⟩ := q
  refine ⟨⟨f', hI⟩, ?_⟩
  have h' : ∃ f, I f a' w' := ⟨f', hI⟩
  have hm' := (least a' w' h').choose_spec
  show (if h : ∃ f, I f a' w' then (least a' w' h).choose else 0) < (if h : ∃ f, I f a w then (least a w h).choose else 0)
  rw [dif_pos h', dif_pos h]
  refine Nat.lt_of_le_of_lt ?_ hlt
  exact Nat.le_of_not_lt fun hlt2 => hm'.2 _ hlt2 hI

section
variable {w0 w : World} {m : Hp} {p : Nat} {A : AHeap} {F X : HP} {B : Int}
theorem cntO_zero (A : AHeap) : cntO A ⟨0, 0⟩ = none := by unfold cntO refV; simp
theorem drop_zero' (A : AHeap) : A.drop ⟨0, 0⟩ = A := by unfold AHeap.drop; rw [cntO_zero]
theorem dr_waits (H : HW A B) (hB : B ≤ 1000000) (K : Knows m F) (h : Sat w0 w (heapR m p A * F)) (n : Int) :
    Calls Try.prog 136 #[.pointer (some ⟨p, 0, none⟩), .int .i64 n] w fun e w' => e = .returned (.tuple #[]) ∧ Sat w0 w' (heapR m p (A.finF n) * F) := by
  have HC := Lib.hid (t_Fin H hB K h n)
  go_enter Try.func136, Try.ntmps136
  go_wp2_with fail
  refine HC.out.mono ?_
  rintro e w' ⟨rfl, h2⟩
  go_wp2
  go_end0
  exact ⟨rfl, h2⟩
theorem dr_frees (H : HW A B) (hB : B ≤ 1000000) (K : Knows m F) (h : Sat w0 w (heapR m p A * F)) (n : Int) :
    Calls Try.prog 135 #[.pointer (some ⟨p, 0, none⟩), .int .i64 n] w fun e w' => e = .returned (.tuple #[]) ∧ Sat w0 w' (heapR m p (A.freeF n) * F) := by
  have HC := Lib.hid (t_Free H hB K h n)
  go_enter Try.func135, Try.ntmps135
  go_wp2_with fail
  refine HC.out.mono ?_
  rintro e w' ⟨rfl, h2⟩
  go_wp2
  go_end0
  exact ⟨rfl, h2⟩
theorem dr_empties (H : HW A B) (hB : B ≤ 1000000) (K : Knows m F) (h : Sat w0 w (heapR m p A * F)) (n : Int) (he : A.popE n = 0) :
    Calls Try.prog 137 #[.pointer (some ⟨p, 0, none⟩), .int .i64 n] w fun e w' => e = .returned (.tuple #[]) ∧ Sat w0 w' (heapR m p ((A.popF n).drop (A.popV n)) * F) := by
  have HC := Lib.hid (t_Pop H hB K h n)
  rw [he] at HC
  clear he
  generalize hv : A.popV n = v at *
  obtain ⟨vk, vn⟩ := v
  clear hv
  go_enter Try.func137, Try.ntmps137
  go_wp2_with fail
  refine HC.out.mono ?_
  rintro e w1 ⟨rfl, h2⟩
  have h3 := h2.alloc (.cells #[.int .i64 vk, .int .i64 vn] 28)
  have HD := Lib.hid (t_Drop (H.pop n) hB (K.left (G := pt w1.heap.size (.cells #[.int .i64 vk, .int .i64 vn] 28 (0, 0)))) h3.p2 ⟨vk, vn⟩)
  clear h2 h3
  go_wp2_with fail
  refine HD.out.mono ?_
  rintro e w2 ⟨rfl, h4⟩
  go_wp2
  go_end0
  exact ⟨rfl, h4.p2.drop⟩
end
end Go.Proofs.Ytkpcngcegipalaa.Tw
