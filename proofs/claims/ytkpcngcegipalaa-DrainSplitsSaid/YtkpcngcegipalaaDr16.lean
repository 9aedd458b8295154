/- an argument that is a slice of moves; drains in parts, their ends. No condition. -/
import Derived.Test.YtkpcngcegipalaaDr15
import Derived.ProofKit
import Derived.OpenShut
import Derived.ChangeOld
namespace Go.Proofs.Ytkpcngcegipalaa.Tw
set_option linter.unusedVariables false
set_option linter.unusedSimpArgs false
open Go Go.RowKit Go.MapKept Go.ChangeShapes Go.WideShapes Go.Deep

def MvOk (x : Mv) : Prop := x.1 < 256 ∧ x.2.1 < 256 ∧ x.2.2 < 256
def mv1 (x : Mv) : List Value := [.int .u8 x.1, .int .u8 x.2.1, .int .u8 x.2.2]
theorem wf_u8 {n : Int} (h : (Lit.int .u8 n).wf = true) : ∃ k : Nat, n = k ∧ k < 256 := by
  simp only [Lit.wf, IntKind.min, IntKind.max, IntKind.signed, IntKind.bits, Bool.and_eq_true, decide_eq_true_eq, if_true, Bool.false_eq_true, if_false] at h
  exact ⟨n.toNat, by omega, by omega⟩
theorem move_cells {H : Type} {enc : TypeId × Value → H} {w : World} {base : Nat} {spare : Nat → Bool} {held : Bool} {fuel : Nat} {cs : List Value} {x : DataW H × List MemPlace}
    (h : DataW.trod enc Try.prog w base spare held fuel 153 cs = some x) : ∃ y : Mv, MvOk y ∧ cs = mv1 y := by
  obtain ⟨y0, y1, y2, n, _, hl, g0, g1, g2⟩ := trod_struct3 Try.underlying153 h
  have h3 : Try.prog.cellsOf 153 = 3 := by kernel_rfl
  have h1 : Try.prog.cellsOf 5 = 1 := by kernel_rfl
  rw [h3] at hl
  obtain ⟨v0, v1, v2, rfl⟩ : ∃ v0 v1 v2, cs = [v0, v1, v2] := by
    rcases cs with _ | ⟨v0, _ | ⟨v1, _ | ⟨v2, _ | ⟨v3, r⟩⟩⟩⟩
    · simp at hl
    · simp at hl
    · simp at hl
    · exact ⟨v0, v1, v2, rfl⟩
    · simp at hl
  · simp only [h1, List.drop_zero, List.drop_succ_cons, List.take_succ_cons, List.take_zero] at g0 g1 g2
    obtain ⟨p, e0, _, k0⟩ := DataW.trod_int Try.underlying5 g0
    obtain ⟨q, e1, _, k1⟩ := DataW.trod_int Try.underlying5 g1
    obtain ⟨r, e2, _, k2⟩ := DataW.trod_int Try.underlying5 g2
    obtain ⟨p', rfl, hp⟩ := wf_u8 k0
    obtain ⟨q', rfl, hq⟩ := wf_u8 k1
    obtain ⟨r', rfl, hr⟩ := wf_u8 k2
    simp at e0 e1 e2
    exact ⟨(p', q', r'), ⟨hp, hq, hr⟩, by rw [e0, e1, e2]; rfl⟩
/-- an argument: moves in a slice -/
def IsMoves (w : World) (a : Option Addr) (len cap : Nat) (ms : List Mv) : Prop :=
  ms.length = len ∧ len ≤ cap ∧ cap ≤ maxLen ∧ (∀ x ∈ ms, MvOk x) ∧ ArgAt w (Old w) a (mvcells ms)
theorem open_moves {H : Type} {enc : TypeId × Value → H} {w : World} {base : Nat} {held : Bool} {fuel : Nat} {a : Option Addr} {len cap : Nat} {x : DataW H × List MemPlace}
    (h : DataW.trod enc Try.prog w base (fun _ => true) held fuel 72 [.slice a len cap] = some x) : ∃ ms, IsMoves w a len cap ms := by
  obtain ⟨h1, h2, css, h3, h4, h5⟩ := open_recs Try.underlying72 (show Try.prog.cellsOf 153 = 3 by kernel_rfl) (by omega) (fun _ _ _ hh => move_cells hh) h
  obtain ⟨ms, rfl, hms⟩ := of_forall_ex (f := mv1) (R := MvOk) css h4
  rw [List.length_map] at h3
  refine ⟨ms, h3, h1, h2, hms, ?_⟩
  have e : mvcells ms = (ms.map mv1).flatten := by unfold mvcells; rw [List.flatMap_def]; rfl
  rw [e]; exact h5

theorem drainN_nil (n : Nat) {A : AHeap} (h : A.queue = []) : drainN n A = (0, A) := by
  cases n with
  | zero => rfl
  | succ n => unfold drainN; rw [if_pos h]
theorem drainN_cons (n : Nat) {A : AHeap} (h : A.queue ≠ []) : drainN (n + 1) A = ((drainN n A.stepF).1 + 1, (drainN n A.stepF).2) := by
  show (if A.queue = [] then _ else _) = _
  rw [if_neg h]
theorem drainN_add : ∀ (a b : Nat) (A : AHeap), drainN (a + b) A = ((drainN a A).1 + (drainN b (drainN a A).2).1, (drainN b (drainN a A).2).2)
  | 0, b, A => by rw [Nat.zero_add]; show drainN b A = (0 + _, _); rw [Nat.zero_add]; rfl
  | a + 1, b, A => by
    by_cases hq : A.queue = []
    · rw [drainN_nil _ hq, drainN_nil _ hq]
      show _ = (0 + (drainN b A).1, (drainN b A).2)
      rw [drainN_nil _ hq]
      rfl
    · rw [show a + 1 + b = (a + b) + 1 by omega, drainN_cons _ hq, drainN_cons _ hq, drainN_add a b A.stepF]
      show (_ + 1, _) = (_, _)
      rw [show (drainN a A.stepF).1 + (drainN b (drainN a A.stepF).2).1 + 1 = (drainN a A.stepF).1 + 1 + (drainN b (drainN a A.stepF).2).1 by omega]
theorem drainN_le : ∀ (n : Nat) (A : AHeap), (drainN n A).1 ≤ n
  | 0, A => Nat.le_refl _
  | n + 1, A => by
    unfold drainN
    split
    · exact Nat.zero_le _
    · have := drainN_le n A.stepF
      show (drainN n A.stepF).1 + 1 ≤ _
      omega
theorem drainN_mu : ∀ (n : Nat) (A : AHeap) (B : Int), HW A B → A.mu ≤ n → (drainN n A).2.queue = []
  | 0, A, B, H, h => by
    show A.queue = []
    by_cases hq : A.queue = []
    · exact hq
    · have := (step_mu H hq).1; omega
  | n + 1, A, B, H, h => by
    unfold drainN
    by_cases hq : A.queue = []
    · rw [if_pos hq]; exact hq
    · rw [if_neg hq]
      have := (step_mu H hq).1
      exact drainN_mu n A.stepF B H.step (by omega)
theorem mu_le_bound {A : AHeap} {B : Int} (H : HW A B) : A.mu ≤ A.boundF := by
  have key : ∀ k, sumTo (fun x => muO (A.objs x)) k ≤ boundL (graphL A k) := by
    intro k
    induction k with
    | zero => exact Nat.zero_le _
    | succ k ih =>
      have hgr : graphL A (k + 1) = graphL A k ++ [A.obj (k + 1)] := by unfold graphL; rw [List.range_succ, List.map_append]; rfl
      rw [hgr, boundL_snoc]
      show sumTo _ k + muO (A.objs ((k : Int) + 1)) ≤ _
      have : muO (A.objs ((k : Int) + 1)) ≤ boundO (A.obj (k + 1)) := by
        unfold AHeap.obj
        cases ho : A.objs ((k : Int) + 1) with
        | none => exact Nat.zero_le _
        | some o =>
          have hc := H.c _ o ho
          show muO (some o) ≤ boundO o
          unfold muO boundO
          rw [if_neg (by omega)]
          dsimp only
          split <;> omega
      omega
  have hlast : ∀ k, lastT A.T ≤ k → k ≤ A.T.length → sumTo (fun x => muO (A.objs x)) k = sumTo (fun x => muO (A.objs x)) (lastT A.T) := by
    intro k
    induction k with
    | zero => intro h1 _; have : lastT A.T = 0 := by omega
              rw [this]
    | succ k ih =>
      intro h1 h2
      by_cases e : lastT A.T = k + 1
      · rw [e]
      · show sumTo _ k + muO (A.objs ((k : Int) + 1)) = _
        rw [ih (by omega) (by omega)]
        have h3 := H.ht ((k : Int) + 1)
        have : tk A.T ((k : Int) + 1) = false := by
          unfold tk
          rw [show ((k : Int) + 1 - 1).toNat = k by omega]
          cases e2 : A.T[k]? with
          | none => simp
          | some bb =>
            cases bb with
            | false => simp
            | true => have := lastT_ge A.T k e2; omega
        rw [this] at h3
        cases ho : A.objs ((k : Int) + 1) with
        | none => rfl
        | some o => rw [ho] at h3; cases h3
  unfold AHeap.mu AHeap.boundF
  rw [hlast A.T.length (lastT_le _) (Nat.le_refl _)]
  exact key _
end Go.Proofs.Ytkpcngcegipalaa.Tw
