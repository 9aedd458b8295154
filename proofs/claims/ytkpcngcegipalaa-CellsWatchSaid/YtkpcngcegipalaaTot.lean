/- The heap's methods, whatever they are asked. No condition. -/
import Derived.Test.YtkpcngcegipalaaHw
import Derived.Test.YtkpcngcegipalaaCell15
import Derived.IntWalk
namespace Go.Proofs.Ytkpcngcegipalaa.Tw
set_option linter.unusedVariables false
set_option linter.unusedSimpArgs false
open Go Go.RowKit Go.MapKept

theorem wrap_small {x : Int} (h1 : -2000000 ≤ x) (h2 : x ≤ 2000000) : IntKind.i64.wrap x = x := IntWalk.i64_in _ (by omega)
theorem cnt_rng {A : AHeap} {B : Int} (H : HW A B) {v : AVal} {o : AObj} (h : cntO A v = some o) : 0 ≤ o.count ∧ o.count ≤ B := by
  have := H.c _ o (cntO_some h)
  refine ⟨this.1, ?_⟩
  have h2 := this.2.1
  split at h2 <;> omega
section
variable {w0 w : World} {m : Hp} {p : Nat} {A : AHeap} {F : HP} {B : Int}
theorem t_Make (H : HW A B) (hB : B ≤ 1000000) (h : Sat w0 w (heapR m p A * F)) (k : Int) (tx : ByteArray) :
    Calls Try.prog 25 #[.pointer (some ⟨p, 0, none⟩), .int .i64 k, .string tx] w fun e w' => e = .returned (.agg #[.int .i64 (A.makeV k tx).kind, .int .i64 (A.makeV k tx).n]) ∧ Sat w0 w' (heapR m p (A.makeF k tx) * F) := by
  have ht := H.t
  unfold AHeap.makeV AHeap.makeF
  by_cases hok : makeOk k tx = true
  · rw [if_pos hok, if_pos hok]
    exact heap_Make h (by omega) k tx hok
  · rw [if_neg hok, if_neg hok]
    exact heap_Make_no h _ k tx (.inr (by simpa using hok))
theorem t_Keep (H : HW A B) (hB : B ≤ 1000000) (K : Knows m F) (h : Sat w0 w (heapR m p A * F)) (v : AVal) :
    Calls Try.prog 59 #[.pointer (some ⟨p, 0, none⟩), .agg #[.int .i64 v.kind, .int .i64 v.n]] w fun e w' => e = .returned (.int .i64 (cntE A v)) ∧ Sat w0 w' (heapR m p (A.keep v) * F) :=
  heap_Keep h K v fun o ho => by have := cnt_rng H ho; exact wrap_small (by omega) (by omega)
theorem t_Drop (H : HW A B) (hB : B ≤ 1000000) (K : Knows m F) (h : Sat w0 w (heapR m p A * F)) (v : AVal) :
    Calls Try.prog 19 #[.pointer (some ⟨p, 0, none⟩), .agg #[.int .i64 v.kind, .int .i64 v.n]] w fun e w' => e = .returned (.int .i64 (cntE A v)) ∧ Sat w0 w' (heapR m p (A.drop v) * F) :=
  heap_Drop h K v (fun o ho => by have := cnt_rng H ho; exact wrap_small (by omega) (by omega)) (by have := H.ql; omega) (by have := H.bl; omega)
theorem t_Free (H : HW A B) (hB : B ≤ 1000000) (K : Knows m F) (h : Sat w0 w (heapR m p A * F)) (n : Int) :
    Calls Try.prog 21 #[.pointer (some ⟨p, 0, none⟩), .int .i64 n] w fun e w' => e = .returned (.int .i64 (A.freeE n)) ∧ Sat w0 w' (heapR m p (A.freeF n) * F) := by
  have hql := H.ql
  have hfl := H.fl
  have ht := H.t
  unfold AHeap.freeE AHeap.freeF
  by_cases hb : A.freeB n = true
  · rw [if_pos hb, if_pos hb]
    unfold AHeap.freeB at hb
    simp only [Bool.and_eq_true, decide_eq_true_eq] at hb
    obtain ⟨hq, hs⟩ := hb
    obtain ⟨q, hQ⟩ : ∃ q, A.queue = n :: q := by
      cases e : A.queue with
      | nil => rw [e] at hq; cases hq
      | cons x q => rw [e] at hq; simp at hq; exact ⟨q, by rw [hq]⟩
    obtain ⟨o, ho, _⟩ := H.q1 n (by rw [hQ]; simp)
    unfold AHeap.obj at hs
    rw [ho] at hs
    exact heap_Free h K n hQ ho hs (by omega) (by omega) (by omega)
  · rw [if_neg hb, if_neg hb]
    refine heap_Free_no h n (by omega) ?_
    by_cases hq : A.queue.head? = some n
    · right
      obtain ⟨q, hQ⟩ : ∃ q, A.queue = n :: q := by
        cases e : A.queue with
        | nil => rw [e] at hq; cases hq
        | cons x q => rw [e] at hq; simp at hq; exact ⟨q, by rw [hq]⟩
      obtain ⟨o, ho, _⟩ := H.q1 n (by rw [hQ]; simp)
      refine ⟨o, ho, hq, ?_⟩
      unfold AHeap.freeB AHeap.obj at hb
      rw [ho] at hb
      simp [hq] at hb
      cases e : o.slots with
      | nil => exact absurd e hb
      | cons => simp
    · exact .inl hq
theorem t_Mark (H : HW A B) (hB : B ≤ 1000000) (K : Knows m F) (h : Sat w0 w (heapR m p A * F)) (n : Int) :
    Calls Try.prog 62 #[.pointer (some ⟨p, 0, none⟩), .int .i64 n] w fun e w' => e = .returned (.int .i64 (A.markN n)) ∧ Sat w0 w' (heapR m p (A.mark n) * F) :=
  heap_Mark h K n (by have := H.m; omega)
theorem t_Fin (H : HW A B) (hB : B ≤ 1000000) (K : Knows m F) (h : Sat w0 w (heapR m p A * F)) (n : Int) :
    Calls Try.prog 63 #[.pointer (some ⟨p, 0, none⟩), .int .i64 n] w fun e w' => e = .returned (.int .i64 (A.finE n)) ∧ Sat w0 w' (heapR m p (A.finF n) * F) := by
  have hql := H.ql
  have hfl := H.fl
  unfold AHeap.finE AHeap.finF
  cases hb : finB A n with
  | true =>
    unfold finB at hb
    cases ho : A.objs n with
    | none => rw [ho] at hb; cases hb
    | some o =>
      rw [ho] at hb
      have hm : 1 ≤ o.mark := by simpa using hb
      dsimp only
      rw [if_pos hm]
      have hc := H.c n o ho
      exact heap_Fin h K n ho hm (wrap_small (by omega) (by have := hc.2.1; split at this <;> omega)) (by omega) (by omega)
  | false =>
    refine (heap_Fin_no h n hb).mono ?_
    rintro e w' ⟨rfl, rfl⟩
    refine ⟨rfl, ?_⟩
    unfold finB at hb
    cases ho : A.objs n with
    | none => exact h
    | some o =>
      rw [ho] at hb
      dsimp only
      rw [if_neg (by simpa using hb)]
      exact h
theorem t_Next (H : HW A B) (hB : B ≤ 1000000) (h : Sat w0 w (heapR m p A * F)) :
    Calls Try.prog 42 #[.pointer (some ⟨p, 0, none⟩)] w fun e w' => e = .returned (.tuple #[.agg #[.int .i64 A.nextV.kind, .int .i64 A.nextV.n], .int .i64 A.nextM, .bool (!A.fins.isEmpty)]) ∧ Sat w0 w' (heapR m p A.nextF * F) := by
  have hfl := H.fl
  unfold AHeap.nextV AHeap.nextM AHeap.nextF
  cases hf : A.fins with
  | nil =>
    refine (heap_NextFin_no h hf).mono ?_
    rintro e w' ⟨rfl, h2⟩
    refine ⟨rfl, ?_⟩
    have : ({ A with fins := ([] : List (Int × Int)).tail } : AHeap) = A := by
      show { A with fins := [] } = A
      rw [← hf]
    rw [this]; exact h2
  | cons x q =>
    obtain ⟨o, ho, _⟩ := H.f1 x (by rw [hf]; simp)
    have e : (A.obj x.1).kind = o.kind := by unfold AHeap.obj; rw [ho]; rfl
    dsimp only
    rw [e]
    exact heap_NextFin h hf ho (by omega)
theorem t_Susp (H : HW A B) (hB : B ≤ 1000000) (h : Sat w0 w (heapR m p A * F)) (n : Int) :
    Calls Try.prog 64 #[.pointer (some ⟨p, 0, none⟩), .int .i64 n] w fun e w' => e = .returned (.int .i64 (if suspB A n then 0 else 2)) ∧ Sat w0 w' (heapR m p (A.suspF n) * F) := by
  have hbl := H.bl
  unfold AHeap.suspF
  cases hb : suspB A n with
  | true => exact heap_Suspect h n (by omega) hb
  | false =>
    refine (heap_Suspect_no h n (by omega) hb).mono ?_
    rintro e w' ⟨rfl, rfl⟩
    exact ⟨rfl, h⟩
theorem t_Push (H : HW A B) (hB : B ≤ 1000000) (K : Knows m F) (h : Sat w0 w (heapR m p A * F)) (n : Int) (v : AVal) :
    Calls Try.prog 33 #[.pointer (some ⟨p, 0, none⟩), .int .i64 n, .agg #[.int .i64 v.kind, .int .i64 v.n]] w fun e w' => e = .returned (.int .i64 (A.pushE n v)) ∧ Sat w0 w' (heapR m p (A.pushF n v) * F) := by
  unfold AHeap.pushE AHeap.pushF
  cases ho : A.objs n with
  | none => exact heap_Push_none h n v ho
  | some o =>
    have hc := H.c n o ho
    dsimp only
    cases hb : pushB A o v with
    | true => exact heap_Push h K n v ho hb (by omega)
    | false => exact heap_Push_no h n v ho hb
theorem t_Pop (H : HW A B) (hB : B ≤ 1000000) (K : Knows m F) (h : Sat w0 w (heapR m p A * F)) (n : Int) :
    Calls Try.prog 61 #[.pointer (some ⟨p, 0, none⟩), .int .i64 n] w fun e w' => e = .returned (.tuple #[.agg #[.int .i64 (A.popV n).kind, .int .i64 (A.popV n).n], .int .i64 (A.popE n)]) ∧ Sat w0 w' (heapR m p (A.popF n) * F) := by
  unfold AHeap.popV AHeap.popE AHeap.popF
  cases ho : A.objs n with
  | none => exact heap_Pop_none h n fun o ho2 => by rw [ho] at ho2; cases ho2
  | some o =>
    have hc := H.c n o ho
    dsimp only
    by_cases hs : o.slots = []
    · rw [if_pos hs, if_pos hs, hs]
      exact heap_Pop_none h n fun o2 ho2 => by rw [ho] at ho2; cases ho2; exact hs
    · rw [if_neg hs, if_neg hs]
      have e : o.slots = o.slots.dropLast ++ [o.slots.getLast hs] := (List.dropLast_concat_getLast hs).symm
      have e2 : o.slots.getLast? = some (o.slots.getLast hs) := List.getLast?_eq_some_getLast hs
      rw [e2]
      exact heap_Pop h K n ho e (by omega)
end
end Go.Proofs.Ytkpcngcegipalaa.Tw
