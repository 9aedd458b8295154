/- 'for x := range seq': the statement's law in the small separation logic: what is held goes from round to round; all else is a frame. No condition. -/
import Derived.Test.YtmngkodejlhalaaOps
import Derived.RangeFuncNested
import Derived.RangeFuncBound
import Derived.RangeFuncCalls
import Derived.RangeFuncLeaves
import Derived.RangeFuncWrites
import Derived.Shelf.Abstract
import Derived.Shelf.RegionOpen
import Derived.OwnWalkIn
import Derived.TacticsInMore
import Derived.LoopNIn
import Derived.LoopIn
namespace Go.Proofs.Ytmngkodejlhalaa.Tw
set_option linter.unusedVariables false
set_option linter.unusedSimpArgs false
open Go Go.RowKit Go.MapKept

theorem Sat.putObj {w0 w : World} {b : Nat} {o : Obj} {F : HP} (h : Sat w0 w (pt b o * F)) (o' : Obj) : Sat w0 (w.putObj b o') (pt b o' * F) := h.setObj o'

/-- an iterator, whatever is held beside: Sh what it shares with the rounds, J what the rounds hold beside; ok: what comes next -/
def SeqS {α : Type} (w0 : World) (n : Nat) (P : Program) (g : Nat) (lb : Array Value) (encs : α → Array Value) (Sh : List α → HP) (ok : List α → α → Prop) (S Sp : List α → Prop) : Prop :=
  ∀ (l : Nat) (J Jx : List α → HP) (W : World) (F : HP),
    (∀ pre x W1 G, Sat w0 W1 (J pre * (Sh pre * G)) → ok pre x → YieldAt Fence.wide (n - 1) P l (encs x) W1 fun e W' =>
      (e = .returned (.bool true) ∧ Sat w0 W' (J (pre ++ [x]) * (Sh (pre ++ [x]) * G))) ∨ (e = .returned (.bool false) ∧ Sat w0 W' (Jx (pre ++ [x]) * (Sh (pre ++ [x]) * G)))) →
    Sat w0 W (J [] * (Sh [] * F)) →
    CallsIn Fence.wide n P g (#[.func (.yield l) #[] #[]] ++ lb) W fun e W' => (∃ v, e = .returned v) ∧ ((∃ xs, S xs ∧ Sat w0 W' (J xs * (Sh xs * F))) ∨ (∃ pre, Sp pre ∧ Sat w0 W' (Jx pre * (Sh pre * F))))

/-- how the body of a round may be left -/
def sepPost {α : Type} (w0 : World) (I : List α → HP) (Ix : Code → List α → HP) (xs : List α) (G : HP) : Exit → Act → World → Prop
  | .normal, _, W' => Sat w0 W' (I xs * G)
  | .ret, _, W' => Sat w0 W' (Ix .ret xs * G)
  | .exit id, _, W' => Sat w0 W' (Ix (.exit id) xs * G)
  | .goto t, _, W' => Sat w0 W' (Ix (.goto t) xs * G)
  | .panic _, _, _ => False
  | .outgrown, _, _ => False

theorem wpIn_rangeFunc_sep {α : Type} {n : Nat} {P : Program} {g : Operand} {ps : Array Tmp} {assign body : Code} {Q : Exit → Act → World → Prop} {a : Act} {w0 w : World}
    (h1 : 1 ≤ n) {gf : Nat} {lb : Array Value} (hg : a.eval g = .func (.func gf) #[] lb) (eg : ∀ args w, (callFunc gf args).run P w = .ok (.enter gf args) w)
    {encs : α → Array Value} {Sh : List α → HP} {F : HP} {ok : List α → α → Prop} {S Sp : List α → Prop} (hseq : SeqS w0 (n - 1) P gf lb encs Sh ok S Sp) (hps : ∀ x, (encs x).size = ps.size)
    (I : List α → HP) (Ix : Code → List α → HP) (h0 : Sat w0 w (I [] * (Sh [] * F))) (a₁ : α → Act)
    (hassign : ∀ (l : Nat) (x : α) (W : World) (K : Act → World → Prop), K (a₁ x) W →
      assign.wpIn (Fence.wide.inRound l) (n - 1 - 1) P (Exit.then K (fun _ _ _ => False)) { tmps := (ps.zip (encs x)).foldl (fun t (p, v) => t.setIfInBounds p v) a.tmps, defers := [] } W)
    (hbody : ∀ (l : Nat) (pre : List α) (x : α) (W : World) (G : HP), Sat w0 W (I pre * (Sh pre * G)) → ok pre x → body.wpIn (Fence.wide.inRound l) (n - 1 - 1) P (sepPost w0 I Ix (pre ++ [x]) (Sh (pre ++ [x]) * G)) (a₁ x) W)
    (hdone : ∀ (D : Nat) (xs : List α) (W : World), S xs → Sat w0 W (pt D (.deferred (some [])) * (I xs * (Sh xs * F))) → Q .normal { a with defers := { target := .collected D, args := #[] } :: a.defers } W)
    (hstop : ∀ (D : Nat) (c : Code) (pre : List α) (W : World), Sp pre → Sat w0 W (pt D (.deferred (some [])) * (Ix c pre * (Sh pre * F))) → c.wpIn Fence.wide n P Q { a with defers := { target := .collected D, args := #[] } :: a.defers } W) :
    (Code.rangeFunc g ps assign body).wpIn Fence.wide n P Q a w := by
  refine wpIn_rangeFunc ?_
  intro fn hfn
  obtain ⟨rec, hrec⟩ : ∃ rec : LoopState → Option Code → Loop, rec = fun st pe => { state := st, pending := pe, fn, tmps := a.tmps, params := ps, assign, body, defers := w.heap.size } := ⟨_, rfl⟩
  obtain ⟨W1, hW1⟩ : ∃ W1, (w.alloc (.deferred (some []))).alloc (.loop (rec .ready none)) = W1 := ⟨_, rfl⟩
  have hs1 : Sat w0 W1 (pt (w.heap.size + 1) (.loop (rec .ready none)) * (pt w.heap.size (.deferred (some [])) * (I [] * (Sh [] * F)))) := by
    have := (h0.alloc (.deferred (some []))).alloc (.loop (rec .ready none))
    rw [World.size_alloc] at this
    rw [← hW1]; exact this
  refine ⟨w.heap.size + 1, [{ target := .collected w.heap.size, args := #[] }], W1, { target := .fn (.func gf) lb, args := #[.func (.yield (w.heap.size + 1)) #[] #[]] }, W1, gf,
    #[.func (.yield (w.heap.size + 1)) #[] #[]] ++ lb, W1, ?_, ?_, ?_, ?_, fun _ => h1, ?_⟩
  · rw [← hW1, hrec]; exact run_enterLoop_outer _ _ _ _ _
  · simp only [resolve, hg]
    simp [go_sem]
  · intro f' hf'; trivial
  · simp [invoke, go_sem, eg]
  · generalize hL : w.heap.size + 1 = L at *
    generalize hD : w.heap.size = D at *
    refine (hseq L (fun pre => pt L (.loop (rec .ready none)) * (pt D (.deferred (some [])) * I pre)) (fun pre => ex fun c => pt L (.loop (rec .done (some c))) * (pt D (.deferred (some [])) * Ix c pre)) W1 F ?_ (hs1.cast (by simp only [mul_assoc]))).mono ?_
    · rintro pre x W G hs hlen
      have hs2 : Sat w0 W (pt L (.loop (rec .ready none)) * (pt D (.deferred (some [])) * (I pre * (Sh pre * G)))) := hs.cast (by simp only [mul_assoc])
      have hl := hs2.blk
      have hy := run_yield (P := P) (args := encs x) hl (by rw [hrec]; exact hps x)
      rw [hrec] at hy
      have hs3 := hs2.putObj (.loop { rec .ready none with state := .busy })
      refine ⟨fn, _, assign, body, hy, roundIn_of_wpIn hfn (hassign _ x W _ ⟨_, run_beginRound hl (by rw [hrec]), ?_⟩)⟩
      have hp3 : Sat w0 (W.putObj L (.loop { rec .ready none with state := .busy })) (I pre * (Sh pre * (pt L (.loop { rec .ready none with state := .busy }) * (pt D (.deferred (some [])) * G)))) := hs3.cast (by ac_rfl)
      refine wpIn_mono (hbody _ pre x _ _ hp3 hlen) ?_
      have fin : ∀ (jump : Option Code) (W3 : World) (X : HP), Sat w0 W3 (X * (Sh (pre ++ [x]) * (pt L (.loop { rec .ready none with state := .busy }) * (pt D (.deferred (some [])) * G)))) →
          (Instr.endRound L jump).run P W3 = .ok (.bool jump.isNone) (W3.putObj L (.loop (rec (if jump.isNone then .ready else .done) jump))) ∧
          Sat w0 (W3.putObj L (.loop (rec (if jump.isNone then .ready else .done) jump))) (pt L (.loop (rec (if jump.isNone then .ready else .done) jump)) * (pt D (.deferred (some [])) * (X * (Sh (pre ++ [x]) * G)))) := fun jump W3 X h3 => by
        have h4 : Sat w0 W3 (pt L (.loop { rec .ready none with state := .busy }) * (pt D (.deferred (some [])) * (X * (Sh (pre ++ [x]) * G)))) := h3.cast (by ac_rfl)
        have := run_endRound (P := P) jump h4.blk
        refine ⟨?_, h4.putObj _⟩
        rw [hrec] at this ⊢
        exact this
      rintro e a3 W3 hp
      cases e with
      | normal =>
        obtain ⟨hr, h5⟩ := fin none W3 _ hp
        exact ⟨_, _, hr, .inl ⟨rfl, h5.cast (by simp only [Option.isNone_none, if_true, mul_assoc])⟩⟩
      | ret =>
        obtain ⟨hr, h5⟩ := fin (some .ret) W3 _ hp
        refine ⟨_, _, hr, .inr ⟨rfl, Sat.intro_ex Code.ret ?_⟩⟩
        exact h5.cast (by simp only [mul_assoc]; rfl)
      | exit id =>
        obtain ⟨hr, h5⟩ := fin (some (.exit id)) W3 _ hp
        refine ⟨_, _, hr, .inr ⟨rfl, Sat.intro_ex (Code.exit id) ?_⟩⟩
        exact h5.cast (by simp only [mul_assoc]; rfl)
      | goto t =>
        obtain ⟨hr, h5⟩ := fin (some (.goto t)) W3 _ hp
        refine ⟨_, _, hr, .inr ⟨rfl, Sat.intro_ex (Code.goto t) ?_⟩⟩
        exact h5.cast (by simp only [mul_assoc]; rfl)
      | panic ch => exact hp.elim
      | outgrown => exact hp.elim
    · rintro e W2 ⟨⟨v, rfl⟩, (⟨xs, hS, hs⟩ | ⟨pre, hSp, hs⟩)⟩
      · have hs2 : Sat w0 W2 (pt L (.loop (rec .ready none)) * (pt D (.deferred (some [])) * (I xs * (Sh xs * F)))) := hs.cast (by simp only [mul_assoc])
        have := run_endLoop (P := P) hs2.blk (by rw [hrec]; simp)
        refine ⟨none, _, ?_, hdone D xs _ hS (hs2.putObj (.loop { rec .ready none with state := .exhausted })).drop⟩
        rw [hrec] at this ⊢; exact this
      · obtain ⟨c, hc⟩ := hs.elim_ex
        have hs2 : Sat w0 W2 (pt L (.loop (rec .done (some c))) * (pt D (.deferred (some [])) * (Ix c pre * (Sh pre * F)))) := hc.cast (by simp only [mul_assoc])
        have := run_endLoop (P := P) hs2.blk (by rw [hrec]; simp)
        refine ⟨some c, _, ?_, hstop D c pre _ hSp (hs2.putObj (.loop { rec .done (some c) with state := .exhausted })).drop⟩
        rw [hrec] at this ⊢; exact this
end Go.Proofs.Ytmngkodejlhalaa.Tw
