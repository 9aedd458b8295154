/- CellsKnown: the chapter's examples, finalisers, a watch, heaps that are none: a closed statement, proved without a condition. -/
import Derived.Test.YtkpcngcegipalaaCKnB
import Derived.Test.YtkpcngcegipalaaCKnC
import Derived.Test.YtkpcngcegipalaaCKnD
import Derived.Test.YtkpcngcegipalaaCKnE
import Derived.Test.YtkpcngcegipalaaCKnF
import Derived.Test.YtkpcngcegipalaaCKnG
import Derived.Test.YtkpcngcegipalaaCKnH
import Derived.Test.YtkpcngcegipalaaCKnI
import Derived.ProofKit
import Derived.OpenShut
import Derived.ChangeOld
namespace Go.Proofs.Ytkpcngcegipalaa.CKn
set_option linter.unusedVariables false
set_option linter.unusedSimpArgs false
open Go Go.RowKit Go.MapKept Go.Proofs.Ytkpcngcegipalaa.Tw
open Go.ChangeShapes Go.WideShapes Go.ChangeAt

set_option maxRecDepth 100000 in
set_option maxHeartbeats 8000000 in
theorem walk (w : World) : Calls Try.prog 14 #[] w fun e w' => e = .returned (.bool true) ∧ Below w.heap.size w w' := by
    have t32 := part_32 w
    have t26 : St_26 w (tailC 26 B0) := by
      have e : withT 6 (tailC 32 B0) (tailC 26 B0) = tailC 26 B0 := by kernel_rfl
      rw [← e]
      exact part_26 w _ t32
    have t20 : St_20 w (tailC 20 B0) := by
      have e : withT 6 (tailC 26 B0) (tailC 20 B0) = tailC 20 B0 := by kernel_rfl
      rw [← e]
      exact part_20 w _ t26
    have t15 : St_15 w (tailC 15 B0) := by
      have e : withT 5 (tailC 20 B0) (tailC 15 B0) = tailC 15 B0 := by kernel_rfl
      rw [← e]
      exact part_15 w _ t20
    have t10 : St_10 w (tailC 10 B0) := by
      have e : withT 5 (tailC 15 B0) (tailC 10 B0) = tailC 10 B0 := by kernel_rfl
      rw [← e]
      exact part_10 w _ t15
    have t7 : St_7 w (tailC 7 B0) := by
      have e : withT 3 (tailC 10 B0) (tailC 7 B0) = tailC 7 B0 := by kernel_rfl
      rw [← e]
      exact part_7 w _ t10
    have t5 : St_5 w (tailC 5 B0) := by
      have e : withT 2 (tailC 7 B0) (tailC 5 B0) = tailC 5 B0 := by kernel_rfl
      rw [← e]
      exact part_5 w _ t7
    have t0 : St_0 w (tailC 0 B0) := by
      have e : withT 5 (tailC 5 B0) (tailC 0 B0) = tailC 0 B0 := by kernel_rfl
      rw [← e]
      exact part_0 w _ t5
    go_enter Try.func14, Try.ntmps14
    exact t0 _ rfl rfl
theorem own : ownKnob Try.prog.godebug = none := by kernel_rfl
theorem laidOut : laidOutB Try.prog = true := by kernel_rfl
set_option maxRecDepth 100000 in
theorem lifted (os : Os) (started : os.Started) (H : Type) (enc : TypeId × Value → H) :
    ReturnsInHanded {} Try.checked os 14 .any (Rows.cellsKnownSpec.pre6 enc Try.prog Try.f14 Rows.cellsKnownRow.domain false) (Rows.cellsKnownSpec.post enc Try.prog Try.f14 false true false false) := by
  refine returnsInHanded_of_change (C := Try.checked) own started (by kernel_rfl) Try.func14
    (ChangeSpec.witness6 (enc := enc) (C := Try.checked) false ⟨#[], #[], []⟩ 8 (by kernel_rfl) (by kernel_rfl) (by kernel_rfl) (by kernel_rfl)) ?_
  intro W base args ds gs before hval0 hW hcnd _
  have hval : ∀ (j : Nat) t v, Try.f14.params[j]? = some t → args[j]? = some v → Value.okWide Try.prog W .any base t v := hval0
  have hW' := hW
  obtain ⟨p, q, hA0, hV, rfl, hfz, hnd⟩ := hW
  have hA : DataW.TrodAll enc Try.prog W 0 (fun _ => true) true Try.f14.params.toList args.toList ds p := hA0
  rw [Try.params14] at hA hval
  obtain ⟨hargs, rfl, rfl⟩ := trodAll_nil hA
  obtain rfl : args = #[] := by cases args; simp_all
  obtain ⟨rfl, rfl⟩ := trodVars_none hV
  clear hA0 hval0
  refine (walk W).mono fun e W' ⟨he, bel⟩ => ?_
  subst he
  exact ⟨_, rfl, _, _, _, [], _, [], hW', trodAll_mk1 (shut_bool Try.underlying4 _), trodAll_mk0, rfl, bel.frame _, fun h => by cases h⟩
theorem over : Rows.cellsKnownRow.holds Try.pinned (OpenSpec.ofChange Rows.cellsKnownSpec) :=
  OpenClaim.holds_of_wide 14 Try.f14 rfl rfl rfl rfl rfl rfl rfl ⟨rfl, rfl, rfl, rfl, rfl⟩ rfl rfl rfl rfl rfl (by kernel_rfl) Try.func14 (by kernel_rfl)
    (of_decide_eq_true (by kernel_rfl)) (by unfold Func.isWrapper; first | (rw [if_pos (by decide +kernel)]; kernel_rfl) | (rw [if_neg (by decide +kernel)]; exact ⟨rfl, rfl⟩))
    (fun os started H enc _ => lifted os started H enc)
theorem cellsKnown_holds : Rows.CellsKnownSaid := over
#print axioms cellsKnown_holds
end Go.Proofs.Ytkpcngcegipalaa.CKn
