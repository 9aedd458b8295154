/- A long body, cut where a statement ends. No condition. -/
import Derived.Test.YtkpcngcegipalaaSep
namespace Go.Proofs.Ytkpcngcegipalaa.Tw
set_option linter.unusedVariables false
set_option linter.unusedSimpArgs false
open Go Go.RowKit

/-- the code behind the first n statements -/
def tailC : Nat → Code → Code
  | 0, c => c
  | n + 1, .seq _ b => tailC n b
  | _ + 1, c => c
/-- the first n statements, and T -/
def withT : Nat → Code → Code → Code
  | 0, T, _ => T
  | n + 1, T, .seq a b => .seq a (withT n T b)
  | _ + 1, T, _ => T
theorem wt_succ {P : Program} {n : Nat} {T a b : Code} {Q : Exit → Act → World → Prop} {s : Act} {w : World} (h : Code.wp P (.seq a (withT n T b)) Q s w) : Code.wp P (withT (n + 1) T (.seq a b)) Q s w := h
theorem wt_zero {P : Program} {T b : Code} {Q : Exit → Act → World → Prop} {s : Act} {w : World} (h : Code.wp P T Q s w) : Code.wp P (withT 0 T b) Q s w := h
/-- a frame of n slots, written out -/
theorem frame_lit {n : Nat} (a : Act) (hd : a.defers = []) (hs : a.tmps.size = n) : ∃ u : Nat → Value, (∀ i, i < n → a.tmps[i]? = some (u i)) ∧ a = ⟨((List.range n).map u).toArray, []⟩ := by
  subst hs
  refine ⟨fun i => a.tmps[i]?.getD (.bool false), fun i hi => by simp [hi], ?_⟩
  obtain ⟨t, d⟩ := a
  dsimp only at hd ⊢
  subst hd
  congr 1
  apply Array.ext
  · simp
  · intro i h1 h2
    simp [h1]
end Go.Proofs.Ytkpcngcegipalaa.Tw
