/- Steps of the release queue, plainly. No condition. -/
import Derived.Test.YtkpcngcegipalaaHw
namespace Go.Proofs.Ytkpcngcegipalaa.Tw
set_option linter.unusedVariables false
set_option linter.unusedSimpArgs false
open Go Go.RowKit Go.MapKept

/-- what a step does: 0 waits, 1 empties, 2 frees -/
def AHeap.kind1 (A : AHeap) (n : Int) : Nat := if 0 < (A.obj n).mark then 0 else if (A.obj n).slots = [] then 2 else 1
def AHeap.doF (A : AHeap) (k : Nat) (n : Int) : AHeap := match k with
  | 0 => A.finF n
  | 1 => (A.popF n).drop (A.popV n)
  | _ => A.freeF n
def AHeap.stepF (A : AHeap) : AHeap := match A.queue with
  | [] => A
  | n :: _ => A.doF (A.kind1 n) n
def stepN : Nat → AHeap → AHeap
  | 0, A => A
  | k + 1, A => (stepN k A).stepF
def drainN : Nat → AHeap → Nat × AHeap
  | 0, A => (0, A)
  | k + 1, A => if A.queue = [] then (0, A) else ((drainN k A.stepF).1 + 1, (drainN k A.stepF).2)
theorem stepN_succ (k : Nat) (A : AHeap) : stepN (k + 1) A = stepN k A.stepF := by
  induction k with
  | zero => rfl
  | succ k ih => show (stepN (k + 1) A).stepF = (stepN k A.stepF).stepF; rw [ih]
theorem stepN_add (j k : Nat) (A : AHeap) : stepN (j + k) A = stepN j (stepN k A) := by
  induction j with
  | zero => rw [Nat.zero_add]; rfl
  | succ j ih => rw [show j + 1 + k = (j + k) + 1 by omega]; show (stepN (j + k) A).stepF = (stepN j (stepN k A)).stepF; rw [ih]
theorem drainN_of : ∀ (n k : Nat) (A : AHeap), k ≤ n → (∀ i, i < k → (stepN i A).queue ≠ []) → (k = n ∨ (stepN k A).queue = []) → drainN n A = (k, stepN k A)
  | 0, k, A, hk, _, _ => by obtain rfl : k = 0 := by omega
                            rfl
  | n + 1, 0, A, _, _, h => by
    have h' : A.queue = [] := by
      rcases h with h | h
      · omega
      · exact h
    unfold drainN
    rw [if_pos h']; rfl
  | n + 1, k + 1, A, hk, hq, h => by
    have h0 : ¬ A.queue = [] := hq 0 (by omega)
    unfold drainN
    rw [if_neg h0, drainN_of n k A.stepF (by omega) (fun i hi => by rw [← stepN_succ]; exact hq (i + 1) (by omega)) (by rw [← stepN_succ]; rcases h with h | h; exact .inl (by omega); exact .inr h), stepN_succ]
theorem HW.step {A : AHeap} {B : Int} (h : HW A B) : HW A.stepF B := by
  unfold AHeap.stepF
  split
  · exact h
  · unfold AHeap.doF
    split
    · exact h.fin _
    · exact (h.pop _).drop _
    · exact h.free _
theorem HW.steps {A : AHeap} {B : Int} (h : HW A B) : ∀ k, HW (stepN k A) B
  | 0 => h
  | k + 1 => (HW.steps h k).step

/-- how much there is to do -/
def muO : Option AObj → Nat
  | none => 0
  | some o => 1 + o.slots.length + (if 1 ≤ o.mark then 1 else 0)
def sumTo (f : Int → Nat) : Nat → Nat
  | 0 => 0
  | k + 1 => sumTo f k + f ((k : Int) + 1)
theorem sumTo_congr {f g : Int → Nat} : ∀ (k : Nat), (∀ x : Int, 1 ≤ x → x ≤ k → f x = g x) → sumTo f k = sumTo g k
  | 0, _ => rfl
  | k + 1, h => by
    unfold sumTo
    rw [sumTo_congr k fun x h1 h2 => h x h1 (by omega), h ((k : Int) + 1) (by omega) (by omega)]
/-- one place turned -/
theorem sumTo_one {f g : Int → Nat} {n : Int} : ∀ (k : Nat), 1 ≤ n → n ≤ k → (∀ x, x ≠ n → f x = g x) → sumTo f k + g n = sumTo g k + f n
  | 0, h1, h2, _ => by omega
  | k + 1, h1, h2, h => by
    unfold sumTo
    by_cases e : n = (k : Int) + 1
    · rw [← e, sumTo_congr k fun x h3 h4 => h x (by omega)]; omega
    · have := sumTo_one k h1 (by omega) h
      rw [h ((k : Int) + 1) (fun q => e q.symm)]; omega
def AHeap.mu (A : AHeap) : Nat := sumTo (fun x => muO (A.objs x)) A.T.length
theorem mu_upd {A A' : AHeap} {B : Int} (H : HW A B) {n : Int} {o : AObj} {o' : Option AObj} (ho : A.objs n = some o) (hT : A'.T.length = A.T.length) (hobj : ∀ x, A'.objs x = if x = n then o' else A.objs x) : A'.mu + muO (some o) = A.mu + muO o' := by
  have hr := H.rng ho
  unfold AHeap.mu
  rw [hT]
  have := sumTo_one (f := fun x => muO (A'.objs x)) (g := fun x => muO (A.objs x)) (n := n) A.T.length hr.1 hr.2 (fun x hx => by rw [hobj, if_neg hx])
  rw [hobj n, if_pos rfl, ho] at this
  exact this
theorem drop_mu {A : AHeap} {B : Int} (H : HW A B) (v : AVal) : (A.drop v).mu = A.mu ∧ (A.drop v).T = A.T := by
  unfold AHeap.drop
  cases hc : cntO A v with
  | none => exact ⟨rfl, rfl⟩
  | some o =>
    have ho := cntO_some hc
    have key : ∀ A' : AHeap, A'.T = A.T → (∀ x, A'.objs x = if x = v.n then some { o with count := o.count - 1 } else A.objs x) → A'.mu = A.mu ∧ A'.T = A.T := fun A' hT hobj => by
      have := mu_upd (A' := A') H ho (by rw [hT]) hobj
      refine ⟨?_, hT⟩
      have e : muO (some { o with count := o.count - 1 }) = muO (some o) := rfl
      omega
    dsimp only
    split
    · exact key _ rfl fun x => rfl
    · split
      · exact key _ rfl fun x => rfl
      · exact key _ rfl fun x => rfl
theorem step_mu {A : AHeap} {B : Int} (H : HW A B) (hq : A.queue ≠ []) : A.stepF.mu + 1 = A.mu ∧ A.stepF.T.length = A.T.length := by
  unfold AHeap.stepF
  cases hQ : A.queue with
  | nil => exact absurd hQ hq
  | cons n q =>
    obtain ⟨o, ho, hc0⟩ := H.q1 n (by rw [hQ]; simp)
    have hob : A.obj n = o := by unfold AHeap.obj; rw [ho]; rfl
    dsimp only
    unfold AHeap.kind1
    rw [hob]
    by_cases hm : 0 < o.mark
    · rw [if_pos hm]
      show (A.finF n).mu + 1 = _ ∧ (A.finF n).T.length = _
      unfold AHeap.finF
      rw [ho]
      dsimp only
      rw [if_pos (by omega)]
      refine ⟨?_, rfl⟩
      have := mu_upd (A' := A.fin n o) H ho rfl (o' := some { o with count := o.count + 1, mark := -1 }) (fun x => rfl)
      unfold muO at this
      dsimp only at this
      rw [if_pos (show (1 : Int) ≤ o.mark by omega), if_neg (by omega)] at this
      omega
    · rw [if_neg hm]
      by_cases hs : o.slots = []
      · rw [if_pos hs]
        show (A.freeF n).mu + 1 = _ ∧ (A.freeF n).T.length = _
        unfold AHeap.freeF
        rw [if_pos (by unfold AHeap.freeB; rw [hob, hQ]; simp [hs])]
        have hT : (A.free n).T.length = A.T.length := giveT_length _ _
        refine ⟨?_, hT⟩
        have := mu_upd (A' := A.free n) H ho hT (o' := none) (fun x => rfl)
        unfold muO at this
        dsimp only at this
        rw [hs, if_neg (by omega)] at this
        simp at this
        omega
      · rw [if_neg hs]
        show ((A.popF n).drop (A.popV n)).mu + 1 = _ ∧ ((A.popF n).drop (A.popV n)).T.length = _
        obtain ⟨d1, d2⟩ := drop_mu (H.pop n) (A.popV n)
        rw [d1, d2]
        unfold AHeap.popF
        rw [ho]
        dsimp only
        rw [if_neg hs]
        refine ⟨?_, rfl⟩
        have := mu_upd (A' := (A.upd n { o with slots := o.slots.dropLast }).touch n) H ho rfl (o' := some { o with slots := o.slots.dropLast }) (fun x => rfl)
        have hl : 0 < o.slots.length := by cases e : o.slots with | nil => exact absurd e hs | cons => simp
        unfold muO at this
        dsimp only at this
        rw [List.length_dropLast] at this
        omega
theorem steps_mu {A : AHeap} {B : Int} (H : HW A B) : ∀ k, (∀ i, i < k → (stepN i A).queue ≠ []) → (stepN k A).mu + k = A.mu
  | 0, _ => rfl
  | k + 1, h => by
    have h1 := steps_mu H k fun i hi => h i (by omega)
    have h2 := step_mu (H.steps k) (h k (by omega))
    show ((stepN k A).stepF).mu + (k + 1) = A.mu
    omega
end Go.Proofs.Ytkpcngcegipalaa.Tw
