/- Steps of the release queue, plainly. No condition. -/
import Derived.Test.YtkpcngcegipalaaZPIn13
import Derived.Test.YtkpcngcegipalaaZPIn2
import Derived.RangeFuncNested
import Derived.RangeFuncBound
import Derived.RangeFuncCalls
import Derived.RangeFuncLeaves
import Derived.RangeFuncWrites
import Derived.Shelf.Abstract
import Derived.Shelf.RegionOpen
import Derived.OwnWalkIn
import Derived.TacticsInMore
import Derived.LoopNIn
import Derived.LoopIn
import Derived.Test.YtkpcngcegipalaaZPIn14
namespace Go.Proofs.Ytkpcngcegipalaa.Tw
set_option linter.unusedVariables false
set_option linter.unusedSimpArgs false
open Go Go.RowKit Go.MapKept

/-- what a step does: 0 waits, 1 empties, 2 frees -/
def AHeap.kind1 (A : AHeap) (n : Int) : Nat := if 0 < (A.obj n).mark then 0 else if (A.obj n).slots = [] then 2 else 1
def AHeap.doF (A : AHeap) (k : Nat) (n : Int) : AHeap := match k with
  | 0 => A.finF n
  | 1 => (A.popF n).drop (A.popV n)
  | _ => A.freeF n
def AHeap.stepF (A : AHeap) : AHeap := match A.queue with
  | [] => A
  | n :: _ => A.doF (A.kind1 n) n
def stepN : Nat → AHeap → AHeap
  | 0, A => A
  | k + 1, A => (stepN k A).stepF
def drainN : Nat → AHeap → Nat × AHeap
  | 0, A => (0, A)
  | k + 1, A => if A.queue = [] then (0, A) else ((drainN k A.stepF).1 + 1, (drainN k A.stepF).2)
theorem stepN_succ (k : Nat) (A : AHeap) : stepN (k + 1) A = stepN k A.stepF := by
  induction k with
  | zero => rfl
  | succ k ih => show (stepN (k + 1) A).stepF = (stepN k A.stepF).stepF; rw [ih]
theorem stepN_add (j k : Nat) (A : AHeap) : stepN (j + k) A = stepN j (stepN k A) := by
  induction j with
  | zero => rw [Nat.zero_add]; rfl
  | succ j ih => rw [show j + 1 + k = (j + k) + 1 by omega]; show (stepN (j + k) A).stepF = (stepN j (stepN k A)).stepF; rw [ih]
theorem drainN_of : ∀ (n k : Nat) (A : AHeap), k ≤ n → (∀ i, i < k → (stepN i A).queue ≠ []) → (k = n ∨ (stepN k A).queue = []) → drainN n A = (k, stepN k A)
  | 0, k, A, hk, _, _ => by obtain rfl : k = 0 := by omega
                            rfl
  | n + 1, 0, A, _, _, h => by
    have h' : A.queue = [] := by
      rcases h with h | h
      · omega
      · exact h
    unfold drainN
    rw [if_pos h']; rfl
  | n + 1, k + 1, A, hk, hq, h => by
    have h0 : ¬ A.queue = [] := hq 0 (by omega)
    unfold drainN
    rw [if_neg h0, drainN_of n k A.stepF (by omega) (fun i hi => by rw [← stepN_succ]; exact hq (i + 1) (by omega)) (by rw [← stepN_succ]; rcases h with h | h; exact .inl (by omega); exact .inr h), stepN_succ]
theorem HW.step {A : AHeap} {B : Int} (h : HW A B) : HW A.stepF B := by
  unfold AHeap.stepF
  split
  · exact h
  · unfold AHeap.doF
    split
    · exact h.fin _
    · exact (h.pop _).drop _
    · exact h.free _
theorem HW.steps {A : AHeap} {B : Int} (h : HW A B) : ∀ k, HW (stepN k A) B
  | 0 => h
  | k + 1 => (HW.steps h k).step

/-- how much there is to do -/
def muO : Option AObj → Nat
  | none => 0
  | some o => 1 + o.slots.length + (if 1 ≤ o.mark then 1 else 0)
def sumTo (f : Int → Nat) : Nat → Nat
  | 0 => 0
  | k + 1 => sumTo f k + f ((k : Int) + 1)
theorem sumTo_congr {f g : Int → Nat} : ∀ (k : Nat), (∀ x : Int, 1 ≤ x → x ≤ k → f x = g x) → sumTo f k = sumTo g k
  | 0, _ => rfl
  | k + 1, h => by
    unfold sumTo
    rw [sumTo_congr k fun x h1 h2 => h x h1 (by omega), h ((k : Int) + 1) (by omega) (by omega)]
/-- one place turned -/
theorem sumTo_one {f g : Int → Nat} {n : Int} : ∀ (k : Nat), 1 ≤ n → n ≤ k → (∀ x, x ≠ n → f x = g x) → sumTo f k + g n = sumTo g k + f n
  | 0, h1, h2, _ => by omega
  | k + 1, h1, h2, h => by
    unfold sumTo
    by_cases e : n = (k : Int) + 1
    · rw [← e, sumTo_congr k fun x h3 h4 => h x (by omega)]; omega
    · have := sumTo_one k h1 (by omega) h
      rw [h ((k : Int) + 1) (fun q => e q.symm)]; omega
def AHeap.mu (A : AHeap) : Nat := sumTo (fun x => muO (A.objs x)) A.T.length
theorem mu_upd {A A' : AHeap} {B : Int} (H : HW A B) {n : Int} {o : AObj} {o' : Option AObj} (ho : A.objs n = some o) (hT : A'.T.length = A.T.length) (hobj : ∀ x, A'.objs x = if x = n then o' else A.objs x) : A'.mu + muO (some o) = A.mu + muO o' := by
  have hr := H.rng ho
  unfold AHeap.mu
  rw [hT]
  have := sumTo_one (f := fun x => muO (A'.objs x)) (g := fun x => muO (A.objs x)) (n := n) A.T.length hr.1 hr.2 (fun x hx => by rw [hobj, if_neg hx])
  rw [hobj n, if_pos rfl, ho] at this
  exact this
theorem drop_mu {A : AHeap} {B : Int} (H : HW A B) (v : AVal) : (A.drop v).mu = A.mu ∧ (A.drop v).T = A.T := by
  unfold AHeap.drop
  cases hc : cntO A v with
  | none => exact ⟨rfl, rfl⟩
  | some o =>
    have ho := cntO_some hc
    have key : ∀ A' : AHeap, A'.T = A.T → (∀ x, A'.objs x = if x = v.n then some { o with count := o.count - 1 } else A.objs x) → A'.mu = A.mu ∧ A'.T = A.T := fun A' hT hobj => by
      have := mu_upd (A' := A') H ho (by rw [hT]) hobj
      refine ⟨?_, hT⟩
      have e : muO (some { o with count := o.count - 1 }) = muO (some o) := rfl
      omega
    dsimp only
    split
    · exact key _ rfl fun x => rfl
    · split
      · exact key _ rfl fun x => rfl
      · exact key _ rfl fun x => rfl
theorem step_mu {A : AHeap} {B : Int} (H : HW A B) (hq : A.queue ≠ []) : A.stepF.mu + 1 = A.mu ∧ A.stepF.T.length = A.T.length := by
  unfold AHeap.stepF
  cases hQ : A.queue with
  | nil => exact absurd hQ hq
  | cons n q =>
    obtain ⟨o, ho, hc0⟩ := H.q1 n (by rw [hQ]; simp)
    have hob : A.obj n = o := by unfold AHeap.obj; rw [ho]; rfl
    dsimp only
    unfold AHeap.kind1
    rw [hob]
    by_cases hm : 0 < o.mark
    · rw [if_pos hm]
      show (A.finF n).mu + 1 = _ ∧ (A.finF n).T.length = _
      unfold AHeap.finF
      rw [ho]
      dsimp only
      rw [if_pos (by omega)]
      refine ⟨?_, rfl⟩
      have := mu_upd (A' := A.fin n o) H ho rfl (o' := some { o with count := o.count + 1, mark := -1 }) (fun x => rfl)
      unfold muO at this
      dsimp only at this
      rw [if_pos (show (1 : Int) ≤ o.mark by omega), if_neg (by omega)] at this
      omega
    · rw [if_neg hm]
      by_cases hs : o.slots = []
      · rw [if_pos hs]
        show (A.freeF n).mu + 1 = _ ∧ (A.freeF n).T.length = _
        unfold AHeap.freeF
        rw [if_pos (by unfold AHeap.freeB; rw [hob, hQ]; simp [hs])]
        have hT : (A.free n).T.length = A.T.length := giveT_length _ _
        refine ⟨?_, hT⟩
        have := mu_upd (A' := A.free n) H ho hT (o' := none) (fun x => rfl)
        unfold muO at this
        dsimp only at this
        rw [hs, if_neg (by omega)] at this
        simp at this
        omega
      · rw [if_neg hs]
        show ((A.popF n).drop (A.popV n)).mu + 1 = _ ∧ ((A.popF n).drop (A.popV n)).T.length = _
        obtain ⟨d1, d2⟩ := drop_mu (H.pop n) (A.popV n)
        rw [d1, d2]
        unfold AHeap.popF
        rw [ho]
        dsimp only
        rw [if_neg hs]
        refine ⟨?_, rfl⟩
        have := mu_upd (A' := (A.upd n { o with slots := o.slots.dropLast }).touch n) H ho rfl (o' := some { o with slots := o.slots.dropLast }) (fun x => rfl)
        have hl : 0 < o.slots.length := by cases e : o.slots with | nil => exact absurd e hs | cons => simp
        unfold muO at this
        dsimp only at this
        rw [List.length_dropLast] at this
        omega
theorem steps_mu {A : AHeap} {B : Int} (H : HW A B) : ∀ k, (∀ i, i < k → (stepN i A).queue ≠ []) → (stepN k A).mu + k = A.mu
  | 0, _ => rfl
  | k + 1, h => by
    have h1 := steps_mu H k fun i hi => h i (by omega)
    have h2 := step_mu (H.steps k) (h k (by omega))
    show ((stepN k A).stepF).mu + (k + 1) = A.mu
    omega
end Go.Proofs.Ytkpcngcegipalaa.Tw
namespace Go.Proofs.Ytkpcngcegipalaa.Tw
set_option linter.unusedVariables false
set_option linter.unusedSimpArgs false
open Go Go.RowKit Go.MapKept

theorem Sat.putObj {w0 w : World} {b : Nat} {o : Obj} {F : HP} (h : Sat w0 w (pt b o * F)) (o' : Obj) : Sat w0 (w.putObj b o') (pt b o' * F) := h.setObj o'

/-- an iterator, whatever is held beside: Sh what it shares with the rounds, J what the rounds hold beside; ok: what comes next -/
def SeqS {α : Type} (w0 : World) (n : Nat) (P : Program) (g : Nat) (lb : Array Value) (encs : α → Array Value) (Sh : List α → HP) (ok : List α → α → Prop) (S Sp : List α → Prop) : Prop :=
  ∀ (l : Nat) (J Jx : List α → HP) (W : World) (F : HP),
    (∀ pre x W1 G, Sat w0 W1 (J pre * (Sh pre * G)) → ok pre x → YieldAt Fence.wide (n - 1) P l (encs x) W1 fun e W' =>
      (e = .returned (.bool true) ∧ Sat w0 W' (J (pre ++ [x]) * (Sh (pre ++ [x]) * G))) ∨ (e = .returned (.bool false) ∧ Sat w0 W' (Jx (pre ++ [x]) * (Sh (pre ++ [x]) * G)))) →
    Sat w0 W (J [] * (Sh [] * F)) →
    CallsIn Fence.wide n P g (#[.func (.yield l) #[] #[]] ++ lb) W fun e W' => (∃ v, e = .returned v) ∧ ((∃ xs, S xs ∧ Sat w0 W' (J xs * (Sh xs * F))) ∨ (∃ pre, Sp pre ∧ Sat w0 W' (Jx pre * (Sh pre * F))))

/-- how the body of a round may be left -/
def sepPost {α : Type} (w0 : World) (I : List α → HP) (Ix : Code → List α → HP) (xs : List α) (G : HP) : Exit → Act → World → Prop
  | .normal, _, W' => Sat w0 W' (I xs * G)
  | .ret, _, W' => Sat w0 W' (Ix .ret xs * G)
  | .exit id, _, W' => Sat w0 W' (Ix (.exit id) xs * G)
  | .goto t, _, W' => Sat w0 W' (Ix (.goto t) xs * G)
  | .panic _, _, _ => False
  | .outgrown, _, _ => False

theorem wpIn_rangeFunc_sep {α : Type} {n : Nat} {P : Program} {g : Operand} {ps : Array Tmp} {assign body : Code} {Q : Exit → Act → World → Prop} {a : Act} {w0 w : World}
    (h1 : 1 ≤ n) {gf : Nat} {lb : Array Value} (hg : a.eval g = .func (.func gf) #[] lb) (eg : ∀ args w, (callFunc gf args).run P w = .ok (.enter gf args) w)
    {encs : α → Array Value} {Sh : List α → HP} {F : HP} {ok : List α → α → Prop} {S Sp : List α → Prop} (hseq : SeqS w0 (n - 1) P gf lb encs Sh ok S Sp) (hps : ∀ x, (encs x).size = ps.size)
    (I : List α → HP) (Ix : Code → List α → HP) (h0 : Sat w0 w (I [] * (Sh [] * F))) (a₁ : α → Act)
    (hassign : ∀ (l : Nat) (x : α) (W : World) (K : Act → World → Prop), K (a₁ x) W →
      assign.wpIn (Fence.wide.inRound l) (n - 1 - 1) P (Exit.then K (fun _ _ _ => False)) { tmps := (ps.zip (encs x)).foldl (fun t (p, v) => t.setIfInBounds p v) a.tmps, defers := [] } W)
    (hbody : ∀ (l : Nat) (pre : List α) (x : α) (W : World) (G : HP), Sat w0 W (I pre * (Sh pre * G)) → ok pre x → body.wpIn (Fence.wide.inRound l) (n - 1 - 1) P (sepPost w0 I Ix (pre ++ [x]) (Sh (pre ++ [x]) * G)) (a₁ x) W)
    (hdone : ∀ (D : Nat) (xs : List α) (W : World), S xs → Sat w0 W (pt D (.deferred (some [])) * (I xs * (Sh xs * F))) → Q .normal { a with defers := { target := .collected D, args := #[] } :: a.defers } W)
    (hstop : ∀ (D : Nat) (c : Code) (pre : List α) (W : World), Sp pre → Sat w0 W (pt D (.deferred (some [])) * (Ix c pre * (Sh pre * F))) → c.wpIn Fence.wide n P Q { a with defers := { target := .collected D, args := #[] } :: a.defers } W) :
    (Code.rangeFunc g ps assign body).wpIn Fence.wide n P Q a w := by
  refine wpIn_rangeFunc ?_
  intro fn hfn
  obtain ⟨rec, hrec⟩ : ∃ rec : LoopState → Option Code → Loop, rec = fun st pe => { state := st, pending := pe, fn, tmps := a.tmps, params := ps, assign, body, defers := w.heap.size } := ⟨_, rfl⟩
  obtain ⟨W1, hW1⟩ : ∃ W1, (w.alloc (.deferred (some []))).alloc (.loop (rec .ready none)) = W1 := ⟨_, rfl⟩
  have hs1 : Sat w0 W1 (pt (w.heap.size + 1) (.loop (rec .ready none)) * (pt w.heap.size (.deferred (some [])) * (I [] * (Sh [] * F)))) := by
    have := (h0.alloc (.deferred (some []))).alloc (.loop (rec .ready none))
    rw [World.size_alloc] at this
    rw [← hW1]; exact this
  refine ⟨w.heap.size + 1, [{ target := .collected w.heap.size, args := #[] }], W1, { target := .fn (.func gf) lb, args := #[.func (.yield (w.heap.size + 1)) #[] #[]] }, W1, gf,
    #[.func (.yield (w.heap.size + 1)) #[] #[]] ++ lb, W1, ?_, ?_, ?_, ?_, fun _ => h1, ?_⟩
  · rw [← hW1, hrec]; exact run_enterLoop_outer _ _ _ _ _
  · simp only [resolve, hg]
    simp [go_sem]
  · intro f' hf'; trivial
  · simp [invoke, go_sem, eg]
  · generalize hL : w.heap.size + 1 = L at *
    generalize hD : w.heap.size = D at *
    refine (hseq L (fun pre => pt L (.loop (rec .ready none)) * (pt D (.deferred (some [])) * I pre)) (fun pre => ex fun c => pt L (.loop (rec .done (some c))) * (pt D (.deferred (some [])) * Ix c pre)) W1 F ?_ (hs1.cast (by simp only [mul_assoc]))).mono ?_
    · rintro pre x W G hs hlen
      have hs2 : Sat w0 W (pt L (.loop (rec .ready none)) * (pt D (.deferred (some [])) * (I pre * (Sh pre * G)))) := hs.cast (by simp only [mul_assoc])
      have hl := hs2.blk
      have hy := run_yield (P := P) (args := encs x) hl (by rw [hrec]; exact hps x)
      rw [hrec] at hy
      have hs3 := hs2.putObj (.loop { rec .ready none with state := .busy })
      refine ⟨fn, _, assign, body, hy, roundIn_of_wpIn hfn (hassign _ x W _ ⟨_, run_beginRound hl (by rw [hrec]), ?_⟩)⟩
      have hp3 : Sat w0 (W.putObj L (.loop { rec .ready none with state := .busy })) (I pre * (Sh pre * (pt L (.loop { rec .ready none with state := .busy }) * (pt D (.deferred (some [])) * G)))) := hs3.cast (by ac_rfl)
      refine wpIn_mono (hbody _ pre x _ _ hp3 hlen) ?_
      have fin : ∀ (jump : Option Code) (W3 : World) (X : HP), Sat w0 W3 (X * (Sh (pre ++ [x]) * (pt L (.loop { rec .ready none with state := .busy }) * (pt D (.deferred (some [])) * G)))) →
          (Instr.endRound L jump).run P W3 = .ok (.bool jump.isNone) (W3.putObj L (.loop (rec (if jump.isNone then .ready else .done) jump))) ∧
          Sat w0 (W3.putObj L (.loop (rec (if jump.isNone then .ready else .done) jump))) (pt L (.loop (rec (if jump.isNone then .ready else .done) jump)) * (pt D (.deferred (some [])) * (X * (Sh (pre ++ [x]) * G)))) := fun jump W3 X h3 => by
        have h4 : Sat w0 W3 (pt L (.loop { rec .ready none with state := .busy }) * (pt D (.deferred (some [])) * (X * (Sh (pre ++ [x]) * G)))) := h3.cast (by ac_rfl)
        have := run_endRound (P := P) jump h4.blk
        refine ⟨?_, h4.putObj _⟩
        rw [hrec] at this ⊢
        exact this
      rintro e a3 W3 hp
      cases e with
      | normal =>
        obtain ⟨hr, h5⟩ := fin none W3 _ hp
        exact ⟨_, _, hr, .inl ⟨rfl, h5.cast (by simp only [Option.isNone_none, if_true, mul_assoc])⟩⟩
      | ret =>
        obtain ⟨hr, h5⟩ := fin (some .ret) W3 _ hp
        refine ⟨_, _, hr, .inr ⟨rfl, Sat.intro_ex Code.ret ?_⟩⟩
        exact h5.cast (by simp only [mul_assoc]; rfl)
      | exit id =>
        obtain ⟨hr, h5⟩ := fin (some (.exit id)) W3 _ hp
        refine ⟨_, _, hr, .inr ⟨rfl, Sat.intro_ex (Code.exit id) ?_⟩⟩
        exact h5.cast (by simp only [mul_assoc]; rfl)
      | goto t =>
        obtain ⟨hr, h5⟩ := fin (some (.goto t)) W3 _ hp
        refine ⟨_, _, hr, .inr ⟨rfl, Sat.intro_ex (Code.goto t) ?_⟩⟩
        exact h5.cast (by simp only [mul_assoc]; rfl)
      | panic ch => exact hp.elim
      | outgrown => exact hp.elim
    · rintro e W2 ⟨⟨v, rfl⟩, (⟨xs, hS, hs⟩ | ⟨pre, hSp, hs⟩)⟩
      · have hs2 : Sat w0 W2 (pt L (.loop (rec .ready none)) * (pt D (.deferred (some [])) * (I xs * (Sh xs * F)))) := hs.cast (by simp only [mul_assoc])
        have := run_endLoop (P := P) hs2.blk (by rw [hrec]; simp)
        refine ⟨none, _, ?_, hdone D xs _ hS (hs2.putObj (.loop { rec .ready none with state := .exhausted })).drop⟩
        rw [hrec] at this ⊢; exact this
      · obtain ⟨c, hc⟩ := hs.elim_ex
        have hs2 : Sat w0 W2 (pt L (.loop (rec .done (some c))) * (pt D (.deferred (some [])) * (Ix c pre * (Sh pre * F)))) := hc.cast (by simp only [mul_assoc])
        have := run_endLoop (P := P) hs2.blk (by rw [hrec]; simp)
        refine ⟨some c, _, ?_, hstop D c pre _ hSp (hs2.putObj (.loop { rec .done (some c) with state := .exhausted })).drop⟩
        rw [hrec] at this ⊢; exact this
end Go.Proofs.Ytkpcngcegipalaa.Tw
namespace Go.Proofs.Ytkpcngcegipalaa.Tw
set_option linter.unusedVariables false
set_option linter.unusedSimpArgs false
open Go Go.RowKit Go.MapKept
attribute [local go_sem] Oper.semAt_some

open Classical in
/-- a loop with a number that no slot holds, in a walk within -/
theorem wpIn_loop_ghost {F' : Fence} {nn : Nat} {P : Program} {Q : Exit → Act → World → Prop} {c : Code} (I : Nat → Act → World → Prop) {f : Nat} {a : Act} {w : World} (h0 : I f a w)
    (round : ∀ f a w, I f a w → c.wpIn F' nn P (Exit.then (fun a' w' => ∃ f', f' < f ∧ I f' a' w') Q) a w) : (Code.loop c).wpIn F' nn P Q a w := by
  have least : ∀ a w, (∃ f, I f a w) → ∃ m, I m a w ∧ ∀ k, k < m → ¬ I k a w := by
    intro a w ⟨f, hf⟩
    induction f using Nat.strongRecOn with
    | _ f ih =>
      by_cases h : ∃ k, k < f ∧ I k a w
      · obtain ⟨k, hk, hI⟩ := h
        exact ih k hk hI
      · exact ⟨f, hf, fun k hk hI => h ⟨k, hk, hI⟩⟩
  refine wpIn_loop (fun a w => ∃ f, I f a w) (fun a w => if h : ∃ f, I f a w then (least a w h).choose else 0) ⟨f, h0⟩ ?_
  intro a w h
  have hm := (least a w h).choose_spec
  refine wpIn_mono (round _ a w hm.1) ?_
  intro e a' w' q
  cases e <;> try exact q
  obtain ⟨f', hlt, hI⟩ := q
  refine ⟨⟨f', hI⟩, ?_⟩
  have h' : ∃ f, I f a' w' := ⟨f', hI⟩
  have hm' := (least a' w' h').choose_spec
  show (if h : ∃ f, I f a' w' then (least a' w' h).choose else 0) < (if h : ∃ f, I f a w then (least a w h).choose else 0)
  rw [dif_pos h', dif_pos h]
  refine Nat.lt_of_le_of_lt ?_ hlt
  exact Nat.le_of_not_lt fun hlt2 => hm'.2 _ hlt2 hI

section
variable {w0 w : World} {m : Hp} {p : Nat} {A : AHeap} {F X : HP} {B : Int}
theorem cntO_zero (A : AHeap) : cntO A ⟨0, 0⟩ = none := by unfold cntO refV; simp
theorem drop_zero' (A : AHeap) : A.drop ⟨0, 0⟩ = A := by unfold AHeap.drop; rw [cntO_zero]
theorem dr_waits (H : HW A B) (hB : B ≤ 1000000) (K : Knows m F) (h : Sat w0 w (heapR m p A * F)) (n : Int) :
    Calls Try.prog 136 #[.pointer (some ⟨p, 0, none⟩), .int .i64 n] w fun e w' => e = .returned (.tuple #[]) ∧ Sat w0 w' (heapR m p (A.finF n) * F) := by
  have HC := Lib.hid (t_Fin H hB K h n)
  go_enter Try.func136, Try.ntmps136
  go_wp2_with fail
  refine HC.out.mono ?_
  rintro e w' ⟨rfl, h2⟩
  go_wp2
  go_end0
  exact ⟨rfl, h2⟩
theorem dr_frees (H : HW A B) (hB : B ≤ 1000000) (K : Knows m F) (h : Sat w0 w (heapR m p A * F)) (n : Int) :
    Calls Try.prog 135 #[.pointer (some ⟨p, 0, none⟩), .int .i64 n] w fun e w' => e = .returned (.tuple #[]) ∧ Sat w0 w' (heapR m p (A.freeF n) * F) := by
  have HC := Lib.hid (t_Free H hB K h n)
  go_enter Try.func135, Try.ntmps135
  go_wp2_with fail
  refine HC.out.mono ?_
  rintro e w' ⟨rfl, h2⟩
  go_wp2
  go_end0
  exact ⟨rfl, h2⟩
theorem dr_empties (H : HW A B) (hB : B ≤ 1000000) (K : Knows m F) (h : Sat w0 w (heapR m p A * F)) (n : Int) (he : A.popE n = 0) :
    Calls Try.prog 137 #[.pointer (some ⟨p, 0, none⟩), .int .i64 n] w fun e w' => e = .returned (.tuple #[]) ∧ Sat w0 w' (heapR m p ((A.popF n).drop (A.popV n)) * F) := by
  have HC := Lib.hid (t_Pop H hB K h n)
  rw [he] at HC
  clear he
  generalize hv : A.popV n = v at *
  obtain ⟨vk, vn⟩ := v
  clear hv
  go_enter Try.func137, Try.ntmps137
  go_wp2_with fail
  refine HC.out.mono ?_
  rintro e w1 ⟨rfl, h2⟩
  have h3 := h2.alloc (.cells #[.int .i64 vk, .int .i64 vn] 28)
  have HD := Lib.hid (t_Drop (H.pop n) hB (K.left (G := pt w1.heap.size (.cells #[.int .i64 vk, .int .i64 vn] 28 (0, 0)))) h3.p2 ⟨vk, vn⟩)
  clear h2 h3
  go_wp2_with fail
  refine HD.out.mono ?_
  rintro e w2 ⟨rfl, h4⟩
  go_wp2
  go_end0
  exact ⟨rfl, h4.p2.drop⟩
end
end Go.Proofs.Ytkpcngcegipalaa.Tw
namespace Go.Proofs.Ytkpcngcegipalaa.Tw
set_option linter.unusedVariables false
set_option linter.unusedSimpArgs false
open Go Go.RowKit Go.MapKept
attribute [local go_sem] Oper.semAt_some

def doId : Nat → Nat
  | 0 => 136
  | 1 => 137
  | _ => 135
def stEnc (x : Int × Nat) : Array Value := #[.int .i64 x.1, .func (.func (doId x.2)) #[] #[]]
def stR (m : Hp) (p hb : Nat) (X : HP) (A : AHeap) (k : Nat) : HP := pt hb (.cells #[.pointer (some ⟨p, 0, none⟩)] 22 (0, 0)) * (heapR m p (stepN k A) * X)
def stOk (A : AHeap) (pre : List (Int × Nat)) (x : Int × Nat) : Prop := (∃ q, (stepN pre.length A).queue = x.1 :: q) ∧ x.2 = (stepN pre.length A).kind1 x.1
def DPost (w0 : World) (J Jx Sh : List (Int × Nat) → HP) (F : HP) (S Sp : List (Int × Nat) → Prop) (e : Ending) (W' : World) : Prop :=
  (∃ v, e = .returned v) ∧ ((∃ xs, S xs ∧ Sat w0 W' (J xs * (Sh xs * F))) ∨ (∃ pre, Sp pre ∧ Sat w0 W' (Jx pre * (Sh pre * F))))
def DIt (yf hb l : Value) (u4 u5 u6 u7 u8 u9 u10 u11 u12 u13 u14 u15 u16 u17 u18 u19 u20 u21 u22 u23 u24 u25 u26 u27 u28 u29 u30 u31 u32 u33 : Value) : Act :=
  { tmps := #[yf, hb, undef, l, u4, u5, u6, u7, u8, u9, u10, u11, u12, u13, u14, u15, u16, u17, u18, u19, u20, u21, u22, u23, u24, u25, u26, u27, u28, u29, u30, u31, u32, u33], defers := [] }
def DItInv (w0 : World) (m : Hp) (p hb : Nat) (X : HP) (A : AHeap) (J : List (Int × Nat) → HP) (F : HP) (lid : Nat) (f : Nat) (a : Act) (W : World) : Prop :=
  ∃ (pre : List (Int × Nat)) (k : Nat) (qa : Option Addr) (qc : Nat) (u4 u5 u6 u7 u8 u9 u10 u11 u12 u13 u14 u15 u16 u17 u18 u19 u20 u21 u22 u23 u24 u25 u26 u27 u28 u29 u30 u31 u32 u33 : Value),
    a = DIt (.func (.yield lid) #[] #[]) (.pointer (some ⟨hb, 0, none⟩)) (.slice qa (stepN k A).queue.length qc) u4 u5 u6 u7 u8 u9 u10 u11 u12 u13 u14 u15 u16 u17 u18 u19 u20 u21 u22 u23 u24 u25 u26 u27 u28 u29 u30 u31 u32 u33 ∧
    (pre.length = k ∧ f = (stepN k A).mu) ∧ Sat w0 W (J pre * (stR m p hb X A k * (slc 3 1 qa (stepN k A).queue.length qc ((stepN k A).queue.map ival) * F)))
theorem yield_any {P : Program} {W : World} {m m' lid : Nat} {args : Array Value} {R : Ending → World → Prop} (h : YieldAt Fence.wide m P lid args W R) : YieldAt Fence.wide m' P lid args W R := by
  obtain ⟨fn, tmps, assign, body, hy, hR⟩ := h
  exact ⟨fn, tmps, assign, body, hy, hR.1, fun c cs _ => hR.2 c cs (room_wide _)⟩
section
variable {w0 w : World} {m : Hp} {p : Nat} {A : AHeap} {F X : HP} {B : Int}
set_option maxRecDepth 100000 in
set_option maxHeartbeats 4000000 in
theorem steps_seq {M : Nat} (H : HW A B) (hB : B ≤ 1000000) (hb : Nat) :
    SeqS w0 (M + 2) Try.prog 134 #[.pointer (some ⟨hb, 0, none⟩)] stEnc (fun pre => stR m p hb X A pre.length) (stOk A) (fun xs => (stepN xs.length A).queue = []) (fun _ => True) := by
  intro lid J Jx W F hY hs
  show CallsIn Fence.wide (M + 2) Try.prog 134 #[.func (.yield lid) #[] #[], .pointer (some ⟨hb, 0, none⟩)] W (DPost w0 J Jx (fun pre => stR m p hb X A pre.length) F (fun xs => (stepN xs.length A).queue = []) (fun _ => True))
  have HYY := Lib.hid hY
  clear hY
  have cells : ∀ W1 Y Z k, Sat w0 W1 (Y * (stR m p hb X A k * Z)) → W1.cell? ⟨hb, 0, none⟩ = some (.pointer (some ⟨p, 0, none⟩)) := fun W1 Y Z k h => by
    have h' : Sat w0 W1 (pt hb (.cells #[.pointer (some ⟨p, 0, none⟩)] 22 (0, 0)) * (heapR m p (stepN k A) * (X * (Y * Z)))) := h.cast (by unfold stR; ac_rfl)
    exact Sat.cell (T := 22) (cs := #[.pointer (some ⟨p, 0, none⟩)]) h' 0 rfl
  have HCE := Lib.hid cells
  have c0 := cells _ _ _ _ hs
  clear cells
  have que : ∀ W1 Y Z k, Sat w0 W1 (Y * (stR m p hb X A k * Z)) → CallsIn Fence.wide (M + 1) Try.prog 35 #[.pointer (some ⟨p, 0, none⟩)] W1 fun e w' => ∃ a c, e = .returned (.slice a (stepN k A).queue.length c) ∧ Sat w0 w' (Y * (stR m p hb X A k * (slc 3 1 a (stepN k A).queue.length c ((stepN k A).queue.map ival) * Z))) := fun W1 Y Z k h => by
    have h' : Sat w0 W1 (heapR m p (stepN k A) * (pt hb (.cells #[.pointer (some ⟨p, 0, none⟩)] 22 (0, 0)) * (X * (Y * Z)))) := h.cast (by unfold stR; ac_rfl)
    have hql := (H.steps k).ql
    refine callsIn_wide (n := M + 1) |>.2 ((heap_Queue h' (by omega)).mono ?_)
    rintro e w' ⟨a, c, rfl, h2⟩
    exact ⟨a, c, rfl, h2.cast (by unfold stR; ac_rfl)⟩
  have HQ := Lib.hid que
  clear que
  refine callsIn_of_wp Try.func134 rfl trivial ?_
  simp only [Try.ntmps134, List.size_toArray, List.length_cons, List.length_nil, Nat.reduceAdd, Nat.reduceSub, Array.replicate_succ, Array.replicate_zero, List.push_toArray, List.append_toArray, List.nil_append, List.cons_append]
  have HQ0 := Lib.hid (HQ.out _ _ _ _ hs)
  gi_wp2
  refine ⟨trivial, HQ0.out.mono ?_⟩
  rintro e w1 ⟨qa, qc, rfl, h2⟩
  clear HQ0 c0 hs
  gi_wp2
  refine wpIn_loop_ghost (DItInv w0 m p hb X A J F lid) (f := A.mu) ⟨[], 0, qa, qc, _, _, _, _, _, _, _, _, _, _, _, _, _, _, _, _, _, _, _, _, _, _, _, _, _, _, _, _, _, _, rfl, ⟨rfl, rfl⟩, h2⟩ ?_
  rintro f a W2 ⟨pre, kk, qa, qc, u4, u5, u6, u7, u8, u9, u10, u11, u12, u13, u14, u15, u16, u17, u18, u19, u20, u21, u22, u23, u24, u25, u26, u27, u28, u29, u30, u31, u32, u33, rfl, ⟨hkk, rfl⟩, hs⟩
  subst hkk
  unfold DIt
  have hH := H.steps pre.length
  generalize hAk : stepN pre.length A = Ak at *
  have HAK := Lib.hid hAk
  have c1 := HCE.out _ _ _ _ hs
  cases hQ : Ak.queue with
  | nil =>
    rw [hQ] at hs
    gi_wp2
    go_end0
    exact ⟨⟨_, rfl⟩, .inl ⟨pre, by show (stepN pre.length A).queue = []; rw [HAK.out]; exact hQ, hs.p3.drop⟩⟩
  | cons n q =>
    rw [hQ] at hs
    obtain ⟨g, off, rfl, cq, _⟩ := intCells hs.p3 (k := 0) (x := n) rfl
    rw [Nat.add_zero] at cq
    have hql := hH.ql
    rw [hQ] at hql
    have hqp : 0 < (n :: q).length := by simp
    have HQQ := Lib.hid hQ
    clear hQ
    generalize (n :: q).length = ql at *
    obtain ⟨o, ho, hcz⟩ := hH.q1 n (by rw [HQQ.out]; simp)
    have hob : Ak.obj n = o := by unfold AHeap.obj; rw [ho]; rfl
    have hc := hH.c n o ho
    have hsl : o.slots.length ≤ 1000000 := by omega
    have ho9 : CallsIn Fence.wide (M + 1) Try.prog 23 #[.pointer (some ⟨p, 0, none⟩), .int .i64 n] W2 fun e w' => ∃ a c, e = .returned (.agg #[.int .i64 o.kind, .int .i64 o.count, .slice a o.slots.length c, .string o.text, .int .i64 o.mark]) ∧ Sat w0 w' (slc 28 2 a o.slots.length c (avcells o.slots) * (J pre * (stR m p hb X A pre.length * (slc 3 1 (some ⟨g, off, none⟩) ql qc ((n :: q).map ival) * F)))) := by
      have h' : Sat w0 W2 (heapR m p Ak * (pt hb (.cells #[.pointer (some ⟨p, 0, none⟩)] 22 (0, 0)) * (X * (J pre * (slc 3 1 (some ⟨g, off, none⟩) ql qc ((n :: q).map ival) * F))))) := hs.cast (by unfold stR; rw [HAK.out]; ac_rfl)
      refine callsIn_wide (n := M + 1) |>.2 ((heap_Obj h' n (by rw [hob]; omega)).mono ?_)
      rw [hob]
      rintro e w' ⟨a, c, rfl, h2⟩
      exact ⟨a, c, rfl, h2.cast (by unfold stR; rw [HAK.out]; ac_rfl)⟩
    have HO := Lib.hid ho9
    have HK := Lib.hid hob
    have HOS := Lib.hid ho
    obtain ⟨ok, ocnt, osl, otx, omk⟩ := o
    dsimp only at HO hsl hcz
    subst hcz
    clear ho9 hob ho hc hs
    generalize hosl : osl.length = sl at HO hsl
    have HSL := Lib.hid hosl
    clear hosl
    gi_wp2
    refine ⟨trivial, HO.out.mono ?_⟩
    rintro e w3 ⟨sa, sc, rfl, h3⟩
    have h4 := h3.alloc (.cells #[.int .i64 ok, .int .i64 0, .slice sa sl sc, .string otx, .int .i64 omk] 39)
    have H4 := Lib.hid h4
    clear h3 h4
    by_cases hmk : 0 < omk
    · have f1 : decide (0 < omk) = true := by simpa using hmk
      have hok : stOk A pre (n, 0) := ⟨⟨q, by rw [HAK.out]; exact HQQ.out⟩, by rw [HAK.out]; show 0 = Ak.kind1 n; unfold AHeap.kind1; rw [HK.out]; dsimp only; rw [if_pos hmk]⟩
      have hYm := yield_any (m' := M + 1) (HYY.out pre (n, 0) _ _ (H4.out.cast (show _ = J pre * (stR m p hb X A pre.length * (pt w3.heap.size (.cells #[.int .i64 ok, .int .i64 0, .slice sa sl sc, .string otx, .int .i64 omk] 39 (0, 0)) * (slc 28 2 sa sl sc (avcells osl) * (slc 3 1 (some ⟨g, off, none⟩) ql qc ((n :: q).map ival) * F)))) by ac_rfl)) hok)
      obtain ⟨fn, tmps, assign, body, hy, hR⟩ := hYm
      have hy2 : (Instr.yield lid #[.int .i64 n, .func (.func 136) #[] #[]]).run Try.prog (w3.alloc (.cells #[.int .i64 ok, .int .i64 0, .slice sa sl sc, .string otx, .int .i64 omk] 39)) = _ := hy
      have HR := Lib.hid hR
      clear hy hok hR
      gi_wp2
      refine HR.out.mono ?_
      rintro e W4 (⟨rfl, h5⟩ | ⟨rfl, h5⟩)
      · have h6 : Sat w0 W4 (J (pre ++ [(n, 0)]) * (stR m p hb X A (pre.length + 1) * F)) := by
          have hl9 : (pre ++ [(n, 0)]).length = pre.length + 1 := by simp
          rw [← hl9]
          have : Sat w0 W4 (pt w3.heap.size (.cells #[.int .i64 ok, .int .i64 0, .slice sa sl sc, .string otx, .int .i64 omk] 39 (0, 0)) * (slc 28 2 sa sl sc (avcells osl) * (slc 3 1 (some ⟨g, off, none⟩) ql qc ((n :: q).map ival) * (J (pre ++ [(n, 0)]) * (stR m p hb X A (pre ++ [(n, 0)]).length * F))))) := h5.cast (by ac_rfl)
          exact this.drop.drop.drop
        have c2 := HCE.out _ _ _ _ h6
        have HQ5 := Lib.hid (HQ.out _ _ _ _ h6)
        clear h5 h6
        gi_wp2
        refine ⟨trivial, HQ5.out.mono ?_⟩
        rintro e W5 ⟨qa2, qc2, rfl, h7⟩
        gi_wp2
        have hmu := step_mu (H.steps pre.length) (by rw [HAK.out, HQQ.out]; simp)
        refine ⟨(stepN (pre.length + 1) A).mu, ?_, pre ++ [(n, 0)], pre.length + 1, qa2, qc2, _, _, _, _, _, _, _, _, _, _, _, _, _, _, _, _, _, _, _, _, _, _, _, _, _, _, _, _, _, _, rfl, ⟨by simp, rfl⟩, h7⟩
        rw [← HAK.out]
        show ((stepN pre.length A).stepF).mu < _
        omega
      · gi_wp2
        go_end0
        refine ⟨⟨_, rfl⟩, .inr ⟨pre ++ [(n, 0)], trivial, ?_⟩⟩
        have : Sat w0 W4 (pt w3.heap.size (.cells #[.int .i64 ok, .int .i64 0, .slice sa sl sc, .string otx, .int .i64 omk] 39 (0, 0)) * (slc 28 2 sa sl sc (avcells osl) * (slc 3 1 (some ⟨g, off, none⟩) ql qc ((n :: q).map ival) * (Jx (pre ++ [(n, 0)]) * (stR m p hb X A (pre ++ [(n, 0)]).length * F))))) := h5.cast (by ac_rfl)
        exact this.drop.drop.drop
    · have f1 : decide (0 < omk) = false := by simpa using hmk
      by_cases hs0 : 0 < sl
      · have f2 : decide (0 < (sl : Int)) = true := by simp; omega
        have f3 : decide (0 < sl) = true := by simp; omega
        have hok : stOk A pre (n, 1) := ⟨⟨q, by rw [HAK.out]; exact HQQ.out⟩, by rw [HAK.out]; show 1 = Ak.kind1 n; unfold AHeap.kind1; rw [HK.out]; dsimp only; rw [if_neg hmk, if_neg (by rintro e; have := HSL.out; rw [e] at this; simp at this; omega)]⟩
        have hYm := yield_any (m' := M + 1) (HYY.out pre (n, 1) _ _ (H4.out.cast (show _ = J pre * (stR m p hb X A pre.length * (pt w3.heap.size (.cells #[.int .i64 ok, .int .i64 0, .slice sa sl sc, .string otx, .int .i64 omk] 39 (0, 0)) * (slc 28 2 sa sl sc (avcells osl) * (slc 3 1 (some ⟨g, off, none⟩) ql qc ((n :: q).map ival) * F)))) by ac_rfl)) hok)
        obtain ⟨fn, tmps, assign, body, hy, hR⟩ := hYm
        have hy2 : (Instr.yield lid #[.int .i64 n, .func (.func 137) #[] #[]]).run Try.prog (w3.alloc (.cells #[.int .i64 ok, .int .i64 0, .slice sa sl sc, .string otx, .int .i64 omk] 39)) = _ := hy
        have HR := Lib.hid hR
        clear hy hok hR
        gi_wp2
        refine HR.out.mono ?_
        rintro e W4 (⟨rfl, h5⟩ | ⟨rfl, h5⟩)
        · have h6 : Sat w0 W4 (J (pre ++ [(n, 1)]) * (stR m p hb X A (pre.length + 1) * F)) := by
            have hl9 : (pre ++ [(n, 1)]).length = pre.length + 1 := by simp
            rw [← hl9]
            have : Sat w0 W4 (pt w3.heap.size (.cells #[.int .i64 ok, .int .i64 0, .slice sa sl sc, .string otx, .int .i64 omk] 39 (0, 0)) * (slc 28 2 sa sl sc (avcells osl) * (slc 3 1 (some ⟨g, off, none⟩) ql qc ((n :: q).map ival) * (J (pre ++ [(n, 1)]) * (stR m p hb X A (pre ++ [(n, 1)]).length * F))))) := h5.cast (by ac_rfl)
            exact this.drop.drop.drop
          have c2 := HCE.out _ _ _ _ h6
          have HQ5 := Lib.hid (HQ.out _ _ _ _ h6)
          clear h5 h6
          gi_wp2
          refine ⟨trivial, HQ5.out.mono ?_⟩
          rintro e W5 ⟨qa2, qc2, rfl, h7⟩
          gi_wp2
          have hmu := step_mu (H.steps pre.length) (by rw [HAK.out, HQQ.out]; simp)
          refine ⟨(stepN (pre.length + 1) A).mu, ?_, pre ++ [(n, 1)], pre.length + 1, qa2, qc2, _, _, _, _, _, _, _, _, _, _, _, _, _, _, _, _, _, _, _, _, _, _, _, _, _, _, _, _, _, _, rfl, ⟨by simp, rfl⟩, h7⟩
          rw [← HAK.out]
          show ((stepN pre.length A).stepF).mu < _
          omega
        · gi_wp2
          go_end0
          refine ⟨⟨_, rfl⟩, .inr ⟨pre ++ [(n, 1)], trivial, ?_⟩⟩
          have : Sat w0 W4 (pt w3.heap.size (.cells #[.int .i64 ok, .int .i64 0, .slice sa sl sc, .string otx, .int .i64 omk] 39 (0, 0)) * (slc 28 2 sa sl sc (avcells osl) * (slc 3 1 (some ⟨g, off, none⟩) ql qc ((n :: q).map ival) * (Jx (pre ++ [(n, 1)]) * (stR m p hb X A (pre ++ [(n, 1)]).length * F))))) := h5.cast (by ac_rfl)
          exact this.drop.drop.drop
      · have f2 : decide (0 < (sl : Int)) = false := by simp; omega
        have f3 : decide (0 < sl) = false := by simp; omega
        have hok : stOk A pre (n, 2) := ⟨⟨q, by rw [HAK.out]; exact HQQ.out⟩, by rw [HAK.out]; show 2 = Ak.kind1 n; unfold AHeap.kind1; rw [HK.out]; dsimp only; rw [if_neg hmk, if_pos (List.eq_nil_of_length_eq_zero (by have := HSL.out; omega))]⟩
        have hYm := yield_any (m' := M + 1) (HYY.out pre (n, 2) _ _ (H4.out.cast (show _ = J pre * (stR m p hb X A pre.length * (pt w3.heap.size (.cells #[.int .i64 ok, .int .i64 0, .slice sa sl sc, .string otx, .int .i64 omk] 39 (0, 0)) * (slc 28 2 sa sl sc (avcells osl) * (slc 3 1 (some ⟨g, off, none⟩) ql qc ((n :: q).map ival) * F)))) by ac_rfl)) hok)
        obtain ⟨fn, tmps, assign, body, hy, hR⟩ := hYm
        have hy2 : (Instr.yield lid #[.int .i64 n, .func (.func 135) #[] #[]]).run Try.prog (w3.alloc (.cells #[.int .i64 ok, .int .i64 0, .slice sa sl sc, .string otx, .int .i64 omk] 39)) = _ := hy
        have HR := Lib.hid hR
        clear hy hok hR
        gi_wp2
        refine HR.out.mono ?_
        rintro e W4 (⟨rfl, h5⟩ | ⟨rfl, h5⟩)
        · have h6 : Sat w0 W4 (J (pre ++ [(n, 2)]) * (stR m p hb X A (pre.length + 1) * F)) := by
            have hl9 : (pre ++ [(n, 2)]).length = pre.length + 1 := by simp
            rw [← hl9]
            have : Sat w0 W4 (pt w3.heap.size (.cells #[.int .i64 ok, .int .i64 0, .slice sa sl sc, .string otx, .int .i64 omk] 39 (0, 0)) * (slc 28 2 sa sl sc (avcells osl) * (slc 3 1 (some ⟨g, off, none⟩) ql qc ((n :: q).map ival) * (J (pre ++ [(n, 2)]) * (stR m p hb X A (pre ++ [(n, 2)]).length * F))))) := h5.cast (by ac_rfl)
            exact this.drop.drop.drop
          have c2 := HCE.out _ _ _ _ h6
          have HQ5 := Lib.hid (HQ.out _ _ _ _ h6)
          clear h5 h6
          gi_wp2
          refine ⟨trivial, HQ5.out.mono ?_⟩
          rintro e W5 ⟨qa2, qc2, rfl, h7⟩
          gi_wp2
          have hmu := step_mu (H.steps pre.length) (by rw [HAK.out, HQQ.out]; simp)
          refine ⟨(stepN (pre.length + 1) A).mu, ?_, pre ++ [(n, 2)], pre.length + 1, qa2, qc2, _, _, _, _, _, _, _, _, _, _, _, _, _, _, _, _, _, _, _, _, _, _, _, _, _, _, _, _, _, _, rfl, ⟨by simp, rfl⟩, h7⟩
          rw [← HAK.out]
          show ((stepN pre.length A).stepF).mu < _
          omega
        · gi_wp2
          go_end0
          refine ⟨⟨_, rfl⟩, .inr ⟨pre ++ [(n, 2)], trivial, ?_⟩⟩
          have : Sat w0 W4 (pt w3.heap.size (.cells #[.int .i64 ok, .int .i64 0, .slice sa sl sc, .string otx, .int .i64 omk] 39 (0, 0)) * (slc 28 2 sa sl sc (avcells osl) * (slc 3 1 (some ⟨g, off, none⟩) ql qc ((n :: q).map ival) * (Jx (pre ++ [(n, 2)]) * (stR m p hb X A (pre ++ [(n, 2)]).length * F))))) := h5.cast (by ac_rfl)
          exact this.drop.drop.drop
end
end Go.Proofs.Ytkpcngcegipalaa.Tw
