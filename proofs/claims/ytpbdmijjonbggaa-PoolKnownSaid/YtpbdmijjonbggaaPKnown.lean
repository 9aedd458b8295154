/- PoolKnown: the chapter's examples, and pools that are none: proved; a closed statement, without a condition. -/
import Derived.Test.YtpbdmijjonbggaaPool7
import Derived.ProofKit
import Derived.OpenShut
import Derived.ShutString
import Derived.ChangeOld
namespace Go.Proofs.Ytpbdmijjonbggaa.PKnown
set_option linter.unusedVariables false
set_option linter.unusedSimpArgs false
open Go Go.RowKit Go.MapKept Go.Proofs.Ytpbdmijjonbggaa.Tw
open Go.ChangeShapes Go.WideShapes Go.ChangeAt

theorem take_nil (w : World) : Calls Try.prog 9 #[.pointer none] w fun e w' => e = .returned (.int .i64 0) ∧ w = w' := by
  go_enter Try.func9, Try.ntmps9
  go_wp2_with (go_at_call 22; refine (pool_none_nil _).mono ?_; rintro e w' ⟨rfl, rfl⟩)
  go_ret
  exact ⟨rfl, rfl⟩
theorem take_empty (w : World) (p : Nat) (c0 : w.cell? ⟨p, 0, none⟩ = some (.map none)) : Calls Try.prog 9 #[.pointer (some ⟨p, 0, none⟩)] w fun e w' => e = .returned (.int .i64 0) ∧ w = w' := by
  go_enter Try.func9, Try.ntmps9
  go_wp2_with (go_at_call 22; refine (pool_none_at _ p none c0).mono ?_; rintro e w' ⟨rfl, rfl⟩)
  go_ret
  exact ⟨rfl, rfl⟩
theorem give_nil (w : World) (n : Int) : Calls Try.prog 10 #[.pointer none, .int .i64 n] w fun e w' => e = .returned (.bool false) ∧ w = w' := by
  go_enter Try.func10, Try.ntmps10
  go_wp2_with (go_at_call 11; refine (pool_In_nil _ n).mono ?_; rintro e w' ⟨rfl, rfl⟩)
  go_ret
  exact ⟨rfl, rfl⟩
theorem give_empty (w : World) (p : Nat) (n : Int) (c0 : w.cell? ⟨p, 0, none⟩ = some (.map none)) : Calls Try.prog 10 #[.pointer (some ⟨p, 0, none⟩), .int .i64 n] w fun e w' => e = .returned (.bool false) ∧ w = w' := by
  go_enter Try.func10, Try.ntmps10
  go_wp2_with (go_at_call 11; refine (pool_In_empty _ p n c0).mono ?_; rintro e w' ⟨rfl, rfl⟩)
  go_ret
  exact ⟨rfl, rfl⟩
theorem len_nil (w : World) : Calls Try.prog 13 #[.pointer none] w fun e w' => e = .returned (.int .i64 0) ∧ w = w' := by
  go_enter Try.func13, Try.ntmps13
  go_wp2_with (go_at_call 22; refine (pool_none_nil _).mono ?_; rintro e w' ⟨rfl, rfl⟩)
  go_ret
  exact ⟨rfl, rfl⟩
theorem last_empty (w : World) (p : Nat) (c0 : w.cell? ⟨p, 0, none⟩ = some (.map none)) : Calls Try.prog 12 #[.pointer (some ⟨p, 0, none⟩)] w fun e w' => e = .returned (.int .i64 0) ∧ w = w' := by
  go_enter Try.func12, Try.ntmps12
  go_wp2_with (go_at_call 22; refine (pool_none_at _ p none c0).mono ?_; rintro e w' ⟨rfl, rfl⟩)
  go_ret
  exact ⟨rfl, rfl⟩

set_option maxRecDepth 100000 in
set_option maxHeartbeats 2000000 in
theorem walk (w : World) : Calls Try.prog 6 #[] w fun e w' => e = .returned (.bool true) ∧ Below w.heap.size w w' := by
  have h0 := (Sat.refl w).alloc (.cells #[.map none, .slice none 0 0, .int .i64 0] 37)
  go_enter Try.func6, Try.ntmps6
  go_wp2_with fail
  refine (pool_New h0).mono ?_; rintro e w1 ⟨p, rfl, h1⟩; clear h0
  go_wp2_with fail
  refine (pool_Copy h1 (by decide)).mono ?_; rintro e w2 ⟨q, rfl, h2⟩; clear h1
  go_wp2_with fail
  refine (take_to h2 (n := 1) (T' := [true]) (by decide) rfl rfl).mono ?_; rintro e w3 ⟨rfl, h3⟩; clear h2
  go_wp2_with fail
  refine (pool_works h3).mono ?_; rintro e w4 ⟨rfl, h4⟩; clear h3
  have c0 : w4.cell? ⟨w.heap.size, 0, none⟩ = some (.map none) := Sat.cell (T := 37) (cs := #[.map none, .slice none 0 0, .int .i64 0]) (h4.drop.drop) 0 rfl
  go_wp2_with fail
  refine (take_nil _).mono ?_; rintro e w5 ⟨rfl, rfl⟩
  go_wp2_with fail
  refine (take_empty _ _ c0).mono ?_; rintro e w5 ⟨rfl, rfl⟩
  go_wp2_with fail
  refine (give_nil _ _).mono ?_; rintro e w5 ⟨rfl, rfl⟩
  go_wp2_with fail
  refine (give_empty _ _ _ c0).mono ?_; rintro e w5 ⟨rfl, rfl⟩
  go_wp2_with fail
  refine (pool_In_nil _ _).mono ?_; rintro e w5 ⟨rfl, rfl⟩
  go_wp2_with fail
  refine (pool_In_empty _ _ _ c0).mono ?_; rintro e w5 ⟨rfl, rfl⟩
  go_wp2_with fail
  refine (len_nil _).mono ?_; rintro e w5 ⟨rfl, rfl⟩
  go_wp2_with fail
  refine (last_empty _ _ c0).mono ?_; rintro e w5 ⟨rfl, rfl⟩
  go_wp2_with fail
  refine (pool_Copy_nil _).mono ?_; rintro e w5 ⟨rfl, rfl⟩
  go_wp2_with fail
  refine (pool_Copy_empty _ _ c0).mono ?_; rintro e w5 ⟨rfl, rfl⟩
  clear c0
  go_wp2_with fail
  refine (len_to (h4.cast (mul_left_comm _ _ _)) (n := 0) rfl).mono ?_; rintro e w6 ⟨rfl, h6⟩; clear h4
  go_wp2_with fail
  refine (len_to (h6.cast (mul_left_comm _ _ _)) (n := 1) rfl).mono ?_; rintro e w7 ⟨rfl, h7⟩; clear h6
  go_wp2_with fail
  refine (pool_Give_no h7 (-1) rfl).mono ?_; rintro e w8 ⟨rfl, h8⟩; clear h7
  go_wp2_with fail
  refine (in_to h8 (-1) (b := false) rfl).mono ?_; rintro e w9 ⟨rfl, h9⟩; clear h8
  go_wp2
  go_ret
  exact ⟨rfl, (h9.drop.drop.cast (mul_comm _ _)).below⟩

theorem own : ownKnob Try.prog.godebug = none := by kernel_rfl
theorem laidOut : laidOutB Try.prog = true := by kernel_rfl
set_option maxRecDepth 100000 in
theorem lifted (os : Os) (started : os.Started) (H : Type) (enc : TypeId × Value → H) :
    ReturnsInHanded {} Try.checked os 6 .any (Rows.poolKnownSpec.pre6 enc Try.prog Try.f6 Rows.poolKnownRow.domain false) (Rows.poolKnownSpec.post enc Try.prog Try.f6 false true false false) := by
  refine returnsInHanded_of_change (C := Try.checked) own started (by kernel_rfl) Try.func6
    (ChangeSpec.witness6 (enc := enc) (C := Try.checked) false ⟨#[], #[], []⟩ 8 (by kernel_rfl) (by kernel_rfl) (by kernel_rfl) (by kernel_rfl)) ?_
  intro W base args ds gs before hval0 hW hcnd _
  have hW' := hW
  obtain ⟨p, q, hA0, hV, rfl, hfz, hnd⟩ := hW
  have hA : DataW.TrodAll enc Try.prog W 0 (fun _ => true) true Try.f6.params.toList args.toList ds p := hA0
  rw [Try.params6] at hA
  obtain ⟨hargs, rfl, rfl⟩ := trodAll_nil hA
  obtain rfl : args = #[] := by cases args; simp_all
  obtain ⟨rfl, rfl⟩ := trodVars_none hV
  clear hA0 hval0
  refine (walk W).mono fun e W' ⟨he, bel⟩ => ?_
  subst he
  exact ⟨_, rfl, _, _, _, [], _, [], hW', trodAll_mk1 (shut_bool Try.underlying4 _), trodAll_mk0, rfl, bel.frame _, fun h => by cases h⟩
theorem over : Rows.poolKnownRow.holds Try.pinned (OpenSpec.ofChange Rows.poolKnownSpec) :=
  OpenClaim.holds_of_wide 6 Try.f6 rfl rfl rfl rfl rfl rfl rfl ⟨rfl, rfl, rfl, rfl, rfl⟩ rfl rfl rfl rfl rfl (by kernel_rfl) Try.func6 (by kernel_rfl)
    (of_decide_eq_true (by kernel_rfl)) (by unfold Func.isWrapper; first | (rw [if_pos (by decide +kernel)]; kernel_rfl) | (rw [if_neg (by decide +kernel)]; exact ⟨rfl, rfl⟩))
    (fun os started H enc _ => lifted os started H enc)
theorem poolKnown_holds : Rows.PoolKnownSaid := over
#print axioms poolKnown_holds
end Go.Proofs.Ytpbdmijjonbggaa.PKnown
