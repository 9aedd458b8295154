/- DrainChain: the chain, plainly. No condition. -/
import Derived.Test.YtkpcngcegipalaaDr16
namespace Go.Proofs.Ytkpcngcegipalaa.Tw
set_option linter.unusedVariables false
set_option linter.unusedSimpArgs false
open Go Go.RowKit Go.MapKept

def chO (m n : Int) (c : Int) : AObj := ⟨6, if n = m then c else 1, if n = 1 then [] else [⟨6, n - 1⟩], tx0, 0⟩
def chObjs (m : Nat) (c : Int) : Int → Option AObj := fun n => if 1 ≤ n ∧ n ≤ m then some (chO m n c) else none
structure Chain (A : AHeap) (m : Nat) (c : Int) (q : List Int) : Prop where
  objs : A.objs = chObjs m c
  queue : A.queue = q
  hw : HW A 10000
def chainN : Nat → AHeap
  | 0 => AHeap.empty.makeF 6 tx0
  | k + 1 => ((chainN k).makeF 6 tx0).pushF ((k : Int) + 2) ⟨6, (k : Int) + 1⟩
theorem make_tx0 (A : AHeap) : A.makeF 6 tx0 = A.make 6 tx0 := by
  unfold AHeap.makeF; rw [if_pos (by decide)]
theorem chO_one (m n : Int) : chO m n 1 = ⟨6, 1, if n = 1 then [] else [⟨6, n - 1⟩], tx0, 0⟩ := by unfold chO; split <;> rfl
theorem chO_not {m n : Int} (h : n ≠ m) (c : Int) : chO m n c = ⟨6, 1, if n = 1 then [] else [⟨6, n - 1⟩], tx0, 0⟩ := by unfold chO; rw [if_neg h]
theorem chO_at (m : Int) (c : Int) : chO m m c = ⟨6, c, if m = 1 then [] else [⟨6, m - 1⟩], tx0, 0⟩ := by unfold chO; rw [if_pos rfl]
theorem chObjs_in {m : Nat} {c n : Int} (h : 1 ≤ n ∧ n ≤ m) : chObjs m c n = some (chO m n c) := by unfold chObjs; rw [if_pos h]
theorem chObjs_out {m : Nat} {c n : Int} (h : ¬ (1 ≤ n ∧ n ≤ m)) : chObjs m c n = none := by unfold chObjs; rw [if_neg h]
theorem may6 {n : Int} (h1 : 1 ≤ n) (h2 : n ≤ 100000) : mayV ⟨6, n⟩ = true ∧ refV ⟨6, n⟩ = true := by
  have : mayV ⟨6, n⟩ = true := by
    unfold mayV within
    simp
    omega
  exact ⟨this, by unfold refV; rw [this]; rfl⟩
theorem there6 {A : AHeap} {n : Int} {o : AObj} (h1 : 1 ≤ n) (h2 : n ≤ 100000) (ho : A.objs n = some o) (hk : o.kind = 6) : thereV A ⟨6, n⟩ = true := by
  obtain ⟨e1, e2⟩ := may6 h1 h2
  unfold thereV
  rw [e1, e2]
  dsimp only
  rw [ho]
  simp [hk]
theorem ff_all : ∀ j, firstFree (List.replicate j true) = j := by
  intro j
  induction j with
  | zero => rfl
  | succ j ih => rw [List.replicate_succ]; simp only [firstFree, ih]; simp
theorem take_all (j : Nat) : takeT (List.replicate j true) = List.replicate (j + 1) true := by
  unfold takeT
  rw [ff_all, if_neg (by simp), List.replicate_succ']
theorem chainN_T : ∀ k, k ≤ 3000 → (chainN k).T = List.replicate (k + 1) true ∧ (chainN k).objs = chObjs (k + 1) 1 ∧ (chainN k).queue = [] ∧ HW (chainN k) (2 * k + 3)
  | 0, _ => by
    refine ⟨by decide, ?_, by decide, ?_⟩
    · funext n
      show (AHeap.empty.makeF 6 tx0).objs n = _
      rw [make_tx0]
      unfold chObjs chO AHeap.make
      show (if n = 1 then some (AObj.mk 6 1 [] _ 0) else none) = _
      by_cases e : n = 1
      · subst e; rfl
      · rw [if_neg e, if_neg (by omega)]
    · exact ((HW.empty.mono (show (0 : Int) ≤ 1 by omega)).make (by omega) 6 tx0).mono (by omega)
  | k + 1, hk => by
    obtain ⟨h1, h2, h3, h4⟩ := chainN_T k (by omega)
    have hfr : (chainN k).fresh = (k : Int) + 2 := by
      show ((firstFree (chainN k).T : Nat) : Int) + 1 = _
      rw [h1, ff_all]; omega
    have hT : ((chainN k).makeF 6 tx0).T = List.replicate (k + 2) true := by
      rw [make_tx0]
      show takeT (chainN k).T = _
      rw [h1, take_all]
    have hob : ∀ n, ((chainN k).makeF 6 tx0).objs n = if n = (k : Int) + 2 then some ⟨6, 1, [], tx0, 0⟩ else chObjs (k + 1) 1 n := fun n => by
      rw [make_tx0]
      show (if n = (chainN k).fresh then some _ else (chainN k).objs n) = _
      rw [hfr, h2]; rfl
    have hth : thereV ((chainN k).makeF 6 tx0) ⟨6, (k : Int) + 1⟩ = true := by
      refine there6 (o := chO (((k + 1 : Nat)) : Int) ((k : Int) + 1) 1) (by omega) (by omega) ?_ rfl
      rw [hob, if_neg (by omega)]
      unfold chObjs
      rw [if_pos (by omega)]
    have hp : ((chainN k).makeF 6 tx0).pushF ((k : Int) + 2) ⟨6, (k : Int) + 1⟩ = ((chainN k).makeF 6 tx0).push ((k : Int) + 2) ⟨6, 1, [], tx0, 0⟩ ⟨6, (k : Int) + 1⟩ := by
      unfold AHeap.pushF
      rw [hob, if_pos rfl]
      dsimp only
      rw [if_pos (by unfold pushB; rw [hth]; rfl)]
    refine ⟨?_, ?_, ?_, ?_⟩
    · show (((chainN k).makeF 6 tx0).pushF _ _).T = _
      rw [hp]; exact hT
    · show (((chainN k).makeF 6 tx0).pushF _ _).objs = _
      rw [hp]
      funext n
      show (if n = (k : Int) + 2 then some _ else ((chainN k).makeF 6 tx0).objs n) = _
      rw [hob]
      by_cases e : n = (k : Int) + 2
      · rw [if_pos e, chObjs_in (by omega), chO_one, if_neg (show ¬ n = 1 by omega)]
        show some (AObj.mk 6 1 ([] ++ [⟨6, (k : Int) + 1⟩]) tx0 0) = _
        rw [show n - 1 = (k : Int) + 1 by omega]; rfl
      · rw [if_neg e, if_neg e]
        by_cases e2 : 1 ≤ n ∧ n ≤ ((k + 1 : Nat) : Int)
        · rw [chObjs_in e2, chObjs_in (by omega), chO_one, chO_one]
        · rw [chObjs_out e2, chObjs_out (by omega)]
    · show (((chainN k).makeF 6 tx0).pushF _ _).queue = _
      rw [hp]
      show ((chainN k).makeF 6 tx0).queue = []
      rw [make_tx0]; exact h3
    · exact ((h4.make (by omega) 6 tx0).push _ _).mono (by omega)
/-- a chain, its first one let go -/
theorem chain_drop (k : Nat) (hk : k ≤ 3000) : Chain ((chainN k).drop ⟨6, (k : Int) + 1⟩) (k + 1) 0 [(k : Int) + 1] := by
  obtain ⟨h1, h2, h3, h4⟩ := chainN_T k hk
  have ho : (chainN k).objs ((k : Int) + 1) = some (chO ((k + 1 : Nat) : Int) ((k : Int) + 1) 1) := by
    rw [h2]; unfold chObjs; rw [if_pos (by omega)]
  have hc : cntO (chainN k) ⟨6, (k : Int) + 1⟩ = some (chO ((k + 1 : Nat) : Int) ((k : Int) + 1) 1) := by
    unfold cntO
    rw [(may6 (by omega) (by omega)).2, there6 (by omega) (by omega) ho rfl, if_pos (show (true && true) = true from rfl)]
    dsimp only
    rw [ho]
    have : (chO ((k + 1 : Nat) : Int) ((k : Int) + 1) 1).count = 1 := by unfold chO; dsimp only; rw [if_pos (by omega)]
    dsimp only
    rw [this]; rfl
  have hct : (chO ((k + 1 : Nat) : Int) ((k : Int) + 1) 1).count = 1 := by unfold chO; dsimp only; rw [if_pos (by omega)]
  have hd : (chainN k).drop ⟨6, (k : Int) + 1⟩ = { (chainN k).drop1 ((k : Int) + 1) (chO ((k + 1 : Nat) : Int) ((k : Int) + 1) 1) with queue := (chainN k).queue ++ [(k : Int) + 1], buf := (chainN k).buf.filter fun x => !decide ((k : Int) + 1 = x) } := by
    unfold AHeap.drop
    rw [hc]
    dsimp only
    rw [hct, if_pos (by omega)]
  refine ⟨?_, ?_, (h4.drop _).mono (by omega)⟩
  · rw [hd]
    funext n
    show (if n = (k : Int) + 1 then some _ else (chainN k).objs n) = _
    rw [h2]
    by_cases e : n = (k : Int) + 1
    · have e' : n = ((k + 1 : Nat) : Int) := by omega
      rw [if_pos e, chObjs_in (by omega), hct, chO_one, e', chO_at]
      rw [show (k : Int) + 1 = ((k + 1 : Nat) : Int) by omega]; rfl
    · rw [if_neg e]
      by_cases e2 : 1 ≤ n ∧ n ≤ ((k + 1 : Nat) : Int)
      · rw [chObjs_in e2, chObjs_in e2, chO_one, chO_not (by omega)]
      · rw [chObjs_out e2, chObjs_out e2]
  · rw [hd]
    show (chainN k).queue ++ _ = _
    rw [h3]; rfl
theorem chain_obj {A : AHeap} {m : Nat} {q : List Int} (h : Chain A m 0 q) {n : Int} (h1 : 1 ≤ n) (h2 : n ≤ m) : A.objs n = some (chO m n 0) := by
  rw [h.objs, chObjs_in ⟨h1, h2⟩]
/-- the last link -/
theorem chain_last {A : AHeap} (h : Chain A 1 0 [1]) : A.stepF.queue = [] ∧ ∀ n, A.stepF.objs n = none := by
  have ho := chain_obj h (n := 1) (by omega) (by omega)
  have hob : A.obj 1 = chO 1 1 0 := by unfold AHeap.obj; rw [ho]; rfl
  have hst : A.stepF = A.free 1 := by
    unfold AHeap.stepF
    rw [h.queue]
    dsimp only
    unfold AHeap.kind1
    rw [hob, if_neg (by decide), if_pos (by rfl)]
    show A.freeF 1 = _
    unfold AHeap.freeF
    rw [if_pos (by unfold AHeap.freeB; rw [hob, h.queue]; decide)]
  rw [hst]
  refine ⟨by show A.queue.tail = []; rw [h.queue]; rfl, fun n => ?_⟩
  show (if n = 1 then none else A.objs n) = none
  rw [h.objs]
  split
  · rfl
  · exact chObjs_out (by omega)
/-- one link more: two steps -/
theorem chain_two {A : AHeap} {m : Nat} (hm : 1 ≤ m) (hm2 : m ≤ 5000) (h : Chain A (m + 1) 0 [(m : Int) + 1]) : A.stepF.queue ≠ [] ∧ Chain A.stepF.stepF m 0 [(m : Int)] := by
  have ho := chain_obj h (n := (m : Int) + 1) (by omega) (by omega)
  have hsl : (chO ((m + 1 : Nat) : Int) ((m : Int) + 1) 0).slots = [⟨6, (m : Int)⟩] := by unfold chO; dsimp only; rw [if_neg (by omega)]; simp
  have hob : A.obj ((m : Int) + 1) = chO ((m + 1 : Nat) : Int) ((m : Int) + 1) 0 := by unfold AHeap.obj; rw [ho]; rfl
  have hpv : A.popV ((m : Int) + 1) = ⟨6, (m : Int)⟩ := by unfold AHeap.popV; rw [ho]; dsimp only; rw [hsl]; rfl
  have hpf : A.popF ((m : Int) + 1) = (A.upd ((m : Int) + 1) { chO ((m + 1 : Nat) : Int) ((m : Int) + 1) 0 with slots := [] }).touch ((m : Int) + 1) := by
    unfold AHeap.popF; rw [ho]; dsimp only; rw [hsl, if_neg (by simp)]; rfl
  have hst : A.stepF = (A.popF ((m : Int) + 1)).drop ⟨6, (m : Int)⟩ := by
    unfold AHeap.stepF
    rw [h.queue]
    dsimp only
    unfold AHeap.kind1
    rw [hob, if_neg (show ¬ 0 < (chO ((m + 1 : Nat) : Int) ((m : Int) + 1) 0).mark from (by show ¬ (0 : Int) < 0; omega)), hsl, if_neg (by simp)]
    show (A.popF _).drop (A.popV _) = _
    rw [hpv]
  generalize hA1 : A.popF ((m : Int) + 1) = A1 at *
  have hA1o : ∀ n, A1.objs n = if n = (m : Int) + 1 then some { chO ((m + 1 : Nat) : Int) ((m : Int) + 1) 0 with slots := [] } else A.objs n := fun n => by rw [hpf]; rfl
  have hA1q : A1.queue = [(m : Int) + 1] := by rw [hpf]; exact h.queue
  have ho2 : A1.objs (m : Int) = some (chO ((m + 1 : Nat) : Int) (m : Int) 0) := by rw [hA1o, if_neg (by omega)]; exact chain_obj h (by omega) (by omega)
  have hct : (chO ((m + 1 : Nat) : Int) (m : Int) 0).count = 1 := by unfold chO; dsimp only; rw [if_neg (by omega)]
  have hc : cntO A1 ⟨6, (m : Int)⟩ = some (chO ((m + 1 : Nat) : Int) (m : Int) 0) := by
    unfold cntO
    rw [(may6 (by omega) (by omega)).2, there6 (by omega) (by omega) ho2 rfl, if_pos (show (true && true) = true from rfl)]
    dsimp only
    rw [ho2]
    dsimp only
    rw [hct]; rfl
  have hd : A1.drop ⟨6, (m : Int)⟩ = { A1.drop1 (m : Int) (chO ((m + 1 : Nat) : Int) (m : Int) 0) with queue := A1.queue ++ [(m : Int)], buf := A1.buf.filter fun x => !decide ((m : Int) = x) } := by
    unfold AHeap.drop
    rw [hc]
    dsimp only
    rw [hct, if_pos (by omega)]
  have hq1 : A.stepF.queue = [(m : Int) + 1, (m : Int)] := by
    rw [hst, hd]
    show A1.queue ++ _ = _
    rw [hA1q]; rfl
  have hob1 : ∀ n, A.stepF.objs n = if n = (m : Int) then some { chO ((m + 1 : Nat) : Int) (m : Int) 0 with count := 0 } else A1.objs n := fun n => by
    rw [hst, hd]
    show (if n = (m : Int) then some _ else A1.objs n) = _
    rw [hct]; rfl
  have hw1 := h.hw.step
  refine ⟨by rw [hq1]; simp, ?_⟩
  generalize A.stepF = A2 at *
  have hob2 : A2.obj ((m : Int) + 1) = { chO ((m + 1 : Nat) : Int) ((m : Int) + 1) 0 with slots := [] } := by
    unfold AHeap.obj
    rw [hob1, if_neg (by omega), hA1o, if_pos rfl]; rfl
  have hst2 : A2.stepF = A2.free ((m : Int) + 1) := by
    unfold AHeap.stepF
    rw [hq1]
    dsimp only
    unfold AHeap.kind1
    rw [hob2, if_neg (by show ¬ (0 : Int) < 0; omega), if_pos rfl]
    show A2.freeF _ = _
    unfold AHeap.freeF
    rw [if_pos (by unfold AHeap.freeB; rw [hob2, hq1]; simp)]
  rw [hst2]
  refine ⟨?_, by show A2.queue.tail = _; rw [hq1]; rfl, by rw [← hst2]; exact hw1.step⟩
  funext n
  show (if n = (m : Int) + 1 then none else A2.objs n) = _
  rw [hob1, hA1o, h.objs]
  by_cases e : n = (m : Int) + 1
  · rw [if_pos e, chObjs_out (by omega)]
  · rw [if_neg e]
    by_cases e2 : n = (m : Int)
    · rw [if_pos e2, chObjs_in (by omega), e2, chO_at, chO_not (by omega)]
    · rw [if_neg e2, if_neg e]
      by_cases e3 : 1 ≤ n ∧ n ≤ (m : Int)
      · rw [chObjs_in (by omega), chObjs_in e3, chO_not (by omega), chO_not e2]
      · rw [chObjs_out (by omega), chObjs_out e3]
theorem chain_all : ∀ (m : Nat) (A : AHeap), m ≤ 5000 → Chain A (m + 1) 0 [(m : Int) + 1] → (∀ i, i < 2 * m + 1 → (stepN i A).queue ≠ []) ∧ (stepN (2 * m + 1) A).queue = [] ∧ ∀ n, (stepN (2 * m + 1) A).objs n = none
  | 0, A, _, h => by
    have h' : Chain A 1 0 [1] := h
    obtain ⟨h1, h2⟩ := chain_last h'
    refine ⟨fun i hi => ?_, h1, h2⟩
    obtain rfl : i = 0 := by omega
    show A.queue ≠ []
    rw [h'.queue]; simp
  | m + 1, A, hm, h => by
    have h' : Chain A ((m + 1) + 1) 0 [((m + 1 : Nat) : Int) + 1] := h
    obtain ⟨h1, h2⟩ := chain_two (by omega) (by omega) h'
    obtain ⟨g1, g2, g3⟩ := chain_all m A.stepF.stepF (by omega) (by
      have e : ((m + 1 : Nat) : Int) = (m : Int) + 1 := by omega
      rw [e] at h2; exact h2)
    refine ⟨fun i hi => ?_, ?_, ?_⟩
    · match i, hi with
      | 0, _ => show A.queue ≠ []; rw [h'.queue]; simp
      | 1, _ => exact h1
      | i + 2, hi => rw [stepN_succ, stepN_succ]; exact g1 i (by omega)
    · rw [show 2 * (m + 1) + 1 = (2 * m + 1) + 1 + 1 by omega, stepN_succ, stepN_succ]; exact g2
    · rw [show 2 * (m + 1) + 1 = (2 * m + 1) + 1 + 1 by omega, stepN_succ, stepN_succ]; exact g3
/-- what both drains do -/
theorem chain_drains (m : Nat) (hm : m ≤ 3000) : let A := (chainN m).drop ⟨6, (m : Int) + 1⟩
    drainN m A = (m, stepN m A) ∧ (stepN m A).queue ≠ [] ∧ drainN 1048576 (stepN m A) = (m + 1, stepN (2 * m + 1) A) ∧ (stepN (2 * m + 1) A).queue = [] ∧ (∀ n, (stepN (2 * m + 1) A).objs n = none) ∧ HW (stepN m A) 10000 ∧ HW (stepN (2 * m + 1) A) 10000 := by
  intro A
  have hc := chain_drop m hm
  obtain ⟨h1, h2, h3⟩ := chain_all m A (by omega) hc
  refine ⟨drainN_of m m A (Nat.le_refl _) (fun i hi => h1 i (by omega)) (.inl rfl), h1 m (by omega), ?_, h2, h3, hc.hw.steps m, hc.hw.steps _⟩
  have e : stepN (m + 1) (stepN m A) = stepN (2 * m + 1) A := by rw [← stepN_add, show m + 1 + m = 2 * m + 1 by omega]
  have := drainN_of 1048576 (m + 1) (stepN m A) (by omega) (fun i hi => by rw [← stepN_add]; exact h1 _ (by omega)) (.inr (by rw [e]; exact h2))
  rw [this, e]
theorem lastT_none {A : AHeap} {B : Int} (H : HW A B) (h : ∀ n, A.objs n = none) : lastT A.T = 0 := by
  refine Decidable.byContradiction fun hne => ?_
  have h1 := lastT_at A.T hne
  have h2 := H.ht ((lastT A.T : Nat) : Int)
  rw [h] at h2
  unfold tk at h2
  rw [show (((lastT A.T : Nat) : Int) - 1).toNat = lastT A.T - 1 by omega, h1] at h2
  simp at h2
  omega
end Go.Proofs.Ytkpcngcegipalaa.Tw
