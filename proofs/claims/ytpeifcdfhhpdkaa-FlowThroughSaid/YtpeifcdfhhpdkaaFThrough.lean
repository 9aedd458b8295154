/- FlowThrough: what can be reached, and in which order it is done: proved for all codes and places, without a condition. -/
import Derived.Test.YtpeifcdfhhpdkaaFlow22
import Derived.Test.YtpeifcdfhhpdkaaFlow16
import Derived.Lib.MinMax
import Derived.ProofKit
import Derived.OpenShut
import Derived.ShutString
import Derived.ChangeOld
namespace Go.Proofs.Ytpeifcdfhhpdkaa.FThrough
set_option linter.unusedVariables false
set_option linter.unusedSimpArgs false
open Go Go.RowKit Go.MapKept Go.Proofs.Ytpeifcdfhhpdkaa.Tw
open Go.ChangeShapes Go.WideShapes Go.ChangeAt
open Go.ChangeMaps (open_string shut_string)

theorem from_le (l : List AIn) (pc : Int) : (fromL l pc).length ≤ l.length := by
  by_cases h : inr l.length pc = true
  · obtain ⟨h1, _, h3⟩ := fromL_in h
    exact Places.le (n := l.length) ⟨h1.imp fun h => by omega, h3⟩
  · rw [fromL_out (by simpa using h)]; simp
theorem order_le (l : List AIn) : (orderL l).length ≤ l.length := by
  by_cases h : 0 < l.length
  · obtain ⟨D, e, h1, _, h3, _⟩ := orderL_spec h
    rw [e, List.length_reverse]
    exact Places.le (n := l.length) ⟨h1, h3⟩
  · unfold orderL; rw [if_pos (by omega)]; simp
set_option maxRecDepth 100000 in
set_option maxHeartbeats 2000000 in
theorem walk (a0 : Option Addr) (len0 cap0 : Nat) (l0 : List AIn) (pc : Int) (w : World) (w0 : IsCode w a0 len0 cap0 l0) (r1 : (Lit.int .i64 pc).wf = true) :
    Calls Try.prog 4 #[.slice a0 len0 cap0, .int .i64 pc] w fun e w' => e = .returned (.bool true) ∧ Below w.heap.size w w' := by
  have hlc1 := w0.2.1
  have hlc2 := w0.2.2.1
  obtain ⟨n, hmin, hn1, hn2⟩ : ∃ n : Nat, min (len0 : Int) 1000 = (n : Int) ∧ n ≤ 1000 ∧ n ≤ len0 := ⟨min len0 1000, by omega, by omega, by omega⟩
  have hn3 : (n : Int) ≤ cap0 := by omega
  have hC := codeAt_old w0 hn2
  generalize l0.take n = l at *
  have hfl := from_le l pc
  have hol := order_le l
  have hln := hC.1
  have HC := Lib.hid hC
  have HB := Lib.hid (And.intro hfl (And.intro hol hln))
  clear w0 r1 hC hfl hol hln
  go_enter Try.func4, Try.ntmps4
  go_wp2_with fail
  refine (flow_From HC.out (by omega) (by omega) pc (F := 1) ((Sat.refl w).cast (mul_one _).symm)).mono ?_
  rintro e w1 ⟨a, c, rfl, h1⟩
  go_wp2_with fail
  refine (ref_From HC.out (by omega) (by omega) pc h1.p2).mono ?_
  rintro e w2 ⟨b, c', rfl, h2⟩
  have h3 := h2.s23
  go_wp2_with fail
  refine (refInts_same h3 rfl (by have := HB.out; omega)).mono ?_
  rintro e w3 ⟨rfl, h4⟩
  clear h1 h2 h3
  go_wp2_with fail
  refine (flow_Order HC.out (by omega) (by omega) h4).mono ?_
  rintro e w4 ⟨a2, c2, rfl, h5⟩
  go_wp2_with fail
  refine (ref_Order HC.out (by omega) (by omega) h5.p2).mono ?_
  rintro e w5 ⟨b2, c3, rfl, h6⟩
  have h7 := h6.s23
  go_wp2_with fail
  refine (refInts_same h7 rfl (by have := HB.out; omega)).mono ?_
  rintro e w6 ⟨rfl, h8⟩
  clear h5 h6 h7 h4
  go_wp2_with fail
  refine (law_works h8).mono ?_
  rintro e w7 ⟨rfl, h9⟩
  go_wp2
  go_ret
  exact ⟨rfl, h9.below⟩
theorem own : ownKnob Try.prog.godebug = none := by kernel_rfl
theorem laidOut : laidOutB Try.prog = true := by kernel_rfl
set_option maxRecDepth 100000 in
theorem lifted (os : Os) (started : os.Started) (H : Type) (enc : TypeId × Value → H) :
    ReturnsInHanded {} Try.checked os 4 .any (Rows.flowThroughSpec.pre6 enc Try.prog Try.f4 Rows.flowThroughRow.domain false) (Rows.flowThroughSpec.post enc Try.prog Try.f4 false true false false) := by
  refine returnsInHanded_of_change (C := Try.checked) own started (by kernel_rfl) Try.func4
    (ChangeSpec.witness6 (enc := enc) (C := Try.checked) false ⟨#[], #[.slice none 0 0, .int .i64 0], []⟩ 8 (by kernel_rfl) (by kernel_rfl) (by kernel_rfl) (by kernel_rfl)) ?_
  intro W base args ds gs before hval0 hW hcnd _
  have hval : ∀ (j : Nat) t v, Try.f4.params[j]? = some t → args[j]? = some v → Value.okWide Try.prog W .any base t v := hval0
  have hW' := hW
  obtain ⟨p, q, hA0, hV, rfl, hfz, hnd⟩ := hW
  have hA : DataW.TrodAll enc Try.prog W 0 (fun _ => true) true Try.f4.params.toList args.toList ds p := hA0
  rw [Try.params4] at hA hval
  obtain ⟨v0, vs0, d0, ds0, p0, q0, hargs, rfl, rfl, h0, r0⟩ := trodAll_cons hA
  obtain ⟨v1, vs1, d1, ds1, p1, q1, rfl, rfl, rfl, h1, r1⟩ := trodAll_cons r0
  obtain ⟨rfl, rfl, rfl⟩ := trodAll_nil r1
  obtain rfl : args = #[v0, v1] := by cases args; simp_all
  obtain ⟨rfl, rfl⟩ := trodVars_none hV
  obtain ⟨a0, len0, cap0, rfl⟩ := okWide_slice Try.underlying22 (hval 0 22 v0 rfl rfl)
  have k0 := h0
  have lt0 : ∀ x ∈ p0, x.block < W.heap.size := by obtain ⟨m, hm⟩ := k0; exact DataW.trod_lt m _ _ _ hm
  obtain ⟨z0, w0⟩ : ∃ zs, IsCode W a0 len0 cap0 zs := by
    obtain ⟨fuel, hf⟩ := h0
    exact open_code hf
  obtain ⟨a1, rfl, rfl, rfl, w1⟩ := open_int Try.underlying3 (hval 1 3 v1 rfl rfl) h1
  clear hA0 hval0
  refine (walk a0 len0 cap0 z0 a1 W w0 w1).mono fun e W' ⟨he, bel⟩ => ?_
  subst he
  exact ⟨_, rfl, _, _, _, [], _, [], hW', trodAll_mk1 (shut_bool Try.underlying4 _), (trodAll_cons_mk (Below.trod laidOut (by kernel_rfl) (of_decide_eq_true (by kernel_rfl)) k0 bel lt0) (trodAll_cons_mk (shut_int Try.underlying3 w1) trodAll_mk0)), rfl, bel.frame _, fun h => by cases h⟩
theorem over : Rows.flowThroughRow.holds Try.pinned (OpenSpec.ofChange Rows.flowThroughSpec) :=
  OpenClaim.holds_of_wide 4 Try.f4 rfl rfl rfl rfl rfl rfl rfl ⟨rfl, rfl, rfl, rfl, rfl⟩ rfl rfl rfl rfl rfl (by kernel_rfl) Try.func4 (by kernel_rfl)
    (of_decide_eq_true (by kernel_rfl)) (by unfold Func.isWrapper; first | (rw [if_pos (by decide +kernel)]; kernel_rfl) | (rw [if_neg (by decide +kernel)]; exact ⟨rfl, rfl⟩))
    (fun os started H enc _ => lifted os started H enc)
theorem flowThrough_holds : Rows.FlowThroughSaid := over
#print axioms flowThrough_holds
end Go.Proofs.Ytpeifcdfhhpdkaa.FThrough
