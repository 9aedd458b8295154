/- PoolLeast: of numbers that were taken from 1 on those that were given back come again, rising, and then the next ones: proved for every set of numbers, without a condition. -/
import Derived.Test.YtpbdmijjonbggaaPool7
import Derived.Test.YtpbdmijjonbggaaPoolP
import Derived.ProofKit
import Derived.OpenShut
import Derived.ShutString
import Derived.ChangeOld
namespace Go.Proofs.Ytpbdmijjonbggaa.PLeast
set_option linter.unusedVariables false
set_option linter.unusedSimpArgs false
open Go Go.RowKit Go.MapKept Go.Proofs.Ytpbdmijjonbggaa.Tw
open Go.ChangeShapes Go.WideShapes Go.ChangeAt
open Go.ChangeMaps (open_string shut_string)

def bit (a : Int) (q : Nat) : Bool := bits .and .u16 (a / 2 ^ q) 1 == 1
set_option maxRecDepth 100000 in
set_option maxHeartbeats 1000000 in
theorem walk (a0 : Int) (w : World) (w0 : (Lit.int .u16 a0).wf = true) :
    Calls Try.prog 4 #[.int .u16 a0] w fun e w' => e = .returned (.bool true) ∧ Below w.heap.size w w' := by
  have h0 := Sat.refl w
  have hfin : ∀ w' (F : HP), Sat w w' (F * Old w) → Below w.heap.size w w' := fun w' F h => (h.cast (mul_comm _ _)).below
  go_enter Try.func4, Try.ntmps4
  go_wp2_with fail
  refine (pool_works h0).mono ?_; rintro e w1 ⟨rfl, h1⟩; clear h0
  go_wp2_with fail
  refine (pool_New h1).mono ?_; rintro e w2 ⟨p, rfl, h2⟩; clear h1
  go_wp2
  go_loopw [4] (fun i wr => ∃ k : Nat, k ≤ 16 ∧ i = .int .i64 k ∧ Sat w wr (poolR p (List.replicate k true) * Old w)) (fun i _ => (16 - intOf i).toNat)
  case atStart => exact ⟨0, by omega, rfl, h2⟩
  case round =>
    obtain ⟨k, hk, rfl, hs⟩ := hrel
    by_cases hlt : k < 16
    · go_wp2_with fail
      refine (pool_Take hs (by simp; omega)).mono ?_; rintro e w3 ⟨rfl, h3⟩
      rw [takeT_replicate] at h3
      go_wp2
      exact ⟨⟨k + 1, by omega, by go_num, h3⟩, by simp [intOf]; omega⟩
    · have hk16 : k = 16 := by omega
      have hs2 : Sat w wr (poolR p (T2 (bit a0) 15) * Old w) := by rw [T2_start, ← hk16]; exact hs
      clear hs hk16 hk
      go_wp2
      go_loopw [5] (fun i wr => ∃ j : Int, -1 ≤ j ∧ j ≤ 15 ∧ i = .int .i64 j ∧ Sat w wr (poolR p (T2 (bit a0) j) * Old w)) (fun i _ => (intOf i + 1).toNat)
      case atStart => exact ⟨15, by omega, by omega, rfl, hs2⟩
      case round =>
        obtain ⟨j, hj1, hj2, rfl, hs⟩ := hrel
        by_cases hlt2 : 0 ≤ j
        · obtain ⟨q, rfl⟩ := Int.eq_ofNat_of_zero_le hlt2
          by_cases hb : bit a0 q = true
          · have hb' : (bits BinOp.and IntKind.u16 (a0 / 2 ^ q) 1 == 1) = true := hb
            go_wp2_with fail
            refine (give_to hs (T' := T2 (bit a0) ((q : Int) - 1)) (by rw [T2_length]; omega) (T2_tk (by omega)) (T2_yes (by omega) hb)).mono ?_; rintro e w3 ⟨rfl, h3⟩
            go_wp2
            exact ⟨⟨(q : Int) - 1, by omega, by omega, rfl, h3⟩, by simp [intOf]⟩
          · have hb' : (bits BinOp.and IntKind.u16 (a0 / 2 ^ q) 1 == 1) = false := Bool.eq_false_iff.2 hb
            have hs3 : Sat w wr (poolR p (T2 (bit a0) ((q : Int) - 1)) * Old w) := by rw [← T2_no (Bool.eq_false_iff.2 hb)]; exact hs
            go_wp2
            exact ⟨⟨(q : Int) - 1, by omega, by omega, rfl, hs3⟩, by simp [intOf]⟩
        · have hj : j = ((0 : Nat) : Int) - 1 := by omega
          have hs3 : Sat w wr (poolR p (T3 (bit a0) 0) * Old w) := by unfold T3; rw [← hj]; exact hs
          clear hs hj
          go_wp2
          go_loopw [6] (fun i wr => ∃ q : Nat, q ≤ 16 ∧ i = .int .i64 q ∧ Sat w wr (poolR p (T3 (bit a0) q) * Old w)) (fun i _ => (16 - intOf i).toNat)
          case atStart => exact ⟨0, by omega, rfl, hs3⟩
          case round =>
            obtain ⟨q, hq, rfl, hs⟩ := hrel
            by_cases hlt3 : q < 16
            · by_cases hb : bit a0 q = true
              · have hb' : (bits BinOp.and IntKind.u16 (a0 / 2 ^ q) 1 == 1) = true := hb
                go_wp2_with fail
                refine (take_to hs (n := (q : Int) + 1) (T' := T3 (bit a0) (q + 1)) (by unfold T3; rw [T2_length]; omega) (by rw [T3_first hlt3 hb]) (T3_take hlt3 hb)).mono ?_; rintro e w3 ⟨rfl, h3⟩
                go_wp2
                exact ⟨⟨q + 1, by omega, by go_num, h3⟩, by simp [intOf]; omega⟩
              · have hb' : (bits BinOp.and IntKind.u16 (a0 / 2 ^ q) 1 == 1) = false := Bool.eq_false_iff.2 hb
                have hs4 : Sat w wr (poolR p (T3 (bit a0) (q + 1)) * Old w) := by rw [← T3_no (Bool.eq_false_iff.2 hb)]; exact hs
                go_wp2
                exact ⟨⟨q + 1, by omega, by go_num, hs4⟩, by simp [intOf]; omega⟩
            · have hq16 : q = 16 := by omega
              have hs4 : Sat w wr (poolR p (List.replicate 16 true) * Old w) := by rw [← T3_end (bit a0), ← hq16]; exact hs
              clear hs hq16 hq
              go_wp2_with fail
              refine (take_to hs4 (n := 17) (T' := List.replicate 17 true) (by decide) (by decide) (by decide)).mono ?_; rintro e w3 ⟨rfl, h3⟩
              go_wp2_with fail
              refine (len_to h3 (n := 17) (by decide)).mono ?_; rintro e w4 ⟨rfl, h4⟩
              go_wp2
              go_ret
              exact ⟨rfl, hfin _ _ h4⟩
theorem own : ownKnob Try.prog.godebug = none := by kernel_rfl
theorem laidOut : laidOutB Try.prog = true := by kernel_rfl

set_option maxRecDepth 100000 in
theorem lifted (os : Os) (started : os.Started) (H : Type) (enc : TypeId × Value → H) :
    ReturnsInHanded {} Try.checked os 4 .any (Rows.poolLeastSpec.pre6 enc Try.prog Try.f4 Rows.poolLeastRow.domain false) (Rows.poolLeastSpec.post enc Try.prog Try.f4 false true false false) := by
  refine returnsInHanded_of_change (C := Try.checked) own started (by kernel_rfl) Try.func4
    (ChangeSpec.witness6 (enc := enc) (C := Try.checked) false ⟨#[], #[.int .u16 0], []⟩ 8 (by kernel_rfl) (by kernel_rfl) (by kernel_rfl) (by kernel_rfl)) ?_
  intro W base args ds gs before hval0 hW hcnd _
  have hval : ∀ (j : Nat) t v, Try.f4.params[j]? = some t → args[j]? = some v → Value.okWide Try.prog W .any base t v := hval0
  have hW' := hW
  obtain ⟨p, q, hA0, hV, rfl, hfz, hnd⟩ := hW
  have hA : DataW.TrodAll enc Try.prog W 0 (fun _ => true) true Try.f4.params.toList args.toList ds p := hA0
  rw [Try.params4] at hA hval
  obtain ⟨v0, vs0, d0, ds0, p0, q0, hargs, rfl, rfl, h0, r0⟩ := trodAll_cons hA
  obtain ⟨rfl, rfl, rfl⟩ := trodAll_nil r0
  obtain rfl : args = #[v0] := by cases args; simp_all
  obtain ⟨rfl, rfl⟩ := trodVars_none hV
  obtain ⟨a0, rfl, rfl, rfl, w0⟩ := open_int Try.underlying30 (hval 0 30 v0 rfl rfl) h0
  clear hA0 hval0
  refine (walk a0 W w0).mono fun e W' ⟨he, bel⟩ => ?_
  subst he
  exact ⟨_, rfl, _, _, _, [], _, [], hW', trodAll_mk1 (shut_bool Try.underlying4 _), (trodAll_cons_mk (shut_int Try.underlying30 w0) trodAll_mk0), rfl, bel.frame _, fun h => by cases h⟩

theorem over : Rows.poolLeastRow.holds Try.pinned (OpenSpec.ofChange Rows.poolLeastSpec) :=
  OpenClaim.holds_of_wide 4 Try.f4 rfl rfl rfl rfl rfl rfl rfl ⟨rfl, rfl, rfl, rfl, rfl⟩ rfl rfl rfl rfl rfl (by kernel_rfl) Try.func4 (by kernel_rfl)
    (of_decide_eq_true (by kernel_rfl)) (by unfold Func.isWrapper; first | (rw [if_pos (by decide +kernel)]; kernel_rfl) | (rw [if_neg (by decide +kernel)]; exact ⟨rfl, rfl⟩))
    (fun os started H enc _ => lifted os started H enc)

theorem poolLeast_holds : Rows.PoolLeastSaid := over
#print axioms poolLeast_holds
end Go.Proofs.Ytpbdmijjonbggaa.PLeast
