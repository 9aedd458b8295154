/- InternAgain: a string that nobody holds any more is found no more, and asked again is another object: the walk. No condition. -/
import Derived.Test.YtkpcngcegipalaaIAgP
import Derived.ProofKit
import Derived.OpenShut
import Derived.ShutString
import Derived.ChangeOld
import Derived.Lib.MinMax
namespace Go.Proofs.Ytkpcngcegipalaa.IAg
set_option linter.unusedVariables false
set_option linter.unusedSimpArgs false
open Go Go.RowKit Go.MapKept Go.Proofs.Ytkpcngcegipalaa.Tw
open Go.ChangeShapes Go.WideShapes Go.ChangeAt
open Go.ChangeMaps (open_string shut_string)

theorem cutOf (s : ByteArray) (hs : s.size ≤ maxLen) : ∃ m : Nat, min (s.size : Int) 4096 = (m : Int) ∧ m ≤ s.size ∧ (s.extract 0 m).size ≤ 4096 := by
  refine ⟨min s.size 4096, by omega, by omega, ?_⟩
  rw [ByteArray.size_extract]; omega

set_option maxRecDepth 100000 in
set_option maxHeartbeats 4000000 in
theorem walk_true (sa sb : ByteArray) (w : World) (hsa : sa.size ≤ maxLen) (hsb : sb.size ≤ maxLen) :
    Calls Try.prog 3 #[.string sa, .string sb, .bool true] w fun e w' => e = .returned (.bool true) ∧ Below w.heap.size w w' := by
  have h0 := Sat.refl w
  obtain ⟨ma, hma1, hma2, hma3⟩ := cutOf sa hsa
  obtain ⟨mb, hmb1, hmb2, hmb3⟩ := cutOf sb hsb
  unfold maxLen at hsa hsb
  have hma4 : (ma : Int) ≤ sa.size := by omega
  have hmb4 : (mb : Int) ≤ sb.size := by omega
  obtain ⟨a, hca⟩ : ∃ a, sa.extract 0 ma = a := ⟨_, rfl⟩
  obtain ⟨b, hcb⟩ : ∃ b, sb.extract 0 mb = b := ⟨_, rfl⟩
  rw [hca] at hma3
  rw [hcb] at hmb3
  by_cases hab : a = b
  · have hbe : (a.toList == b.toList) = true := by rw [bytes_eq]; simpa using hab
    have HCA := Lib.hid hca
    clear hab
    go_enter Try.func3, Try.ntmps3
    go_wp2_with fail
    refine (heap_New h0).mono ?_
    rintro e w1 ⟨p, rfl, h1⟩
    have h1 := h1 (fun _ => Option.none)
    go_wp2_with fail
    refine (str_New h1 p).mono ?_
    rintro e w2 ⟨s, rfl, h2⟩
    go_wp2_with fail
    refine (law_works h2).mono ?_
    rintro e w9 ⟨rfl, h9⟩
    go_wp2_with fail
    go_ret
    exact ⟨rfl, (h9.unassoc.swap).below⟩
  · have hbe : (a.toList == b.toList) = false := by rw [bytes_eq]; simpa using hab
    have HAB := Lib.hid hab
    have K : ∀ F : HP, Knows (fun _ => Option.none) F := fun F => Knows.none F
    clear hab
    go_enter Try.func3, Try.ntmps3
    go_wp2_with fail
    refine (heap_New h0).mono ?_
    rintro e w1 ⟨p, rfl, h1⟩
    have h1 := h1 (fun _ => Option.none)
    go_wp2_with fail
    refine (str_New h1 p).mono ?_
    rintro e w2 ⟨s, rfl, h2⟩
    clear h1 h0
    go_wp2_with fail
    refine (of_made (Ag.A1 a) (Ag.M1 a) 1 a h2.p2 (Ag.slots1 _) rfl (by decide) (makeOk_of hma3) rfl rfl rfl).mono ?_
    rintro e w3 ⟨rfl, h3⟩
    clear h2
    go_wp2_with fail
    refine (of_made (Ag.A2 a b) (Ag.M2 a b) 2 b h3 (Ag.slots2 HAB.out) (Ag.no2 HAB.out) (by show (1 : Nat) < _; decide) (makeOk_of hmb3) rfl rfl rfl).mono ?_
    rintro e w4 ⟨rfl, h4⟩
    clear h3
    have h5 := (h4.alloc (.cells #[.int .i64 5, .int .i64 1] 28)).alloc (.cells #[.int .i64 5, .int .i64 2] 28)
    rw [size_alloc] at h5
    go_wp2_with fail
    generalize w4.heap.size = q at *
    have ⟨x0, x1⟩ := val2 h5.p2
    refine (drop_to (Ag.A3 a b) 5 1 0 (K _) h5.p3 (fun o ho => Ag.wr (by cases ho; rfl)) (show (0 : Nat) ≤ _ by decide) (show (0 : Nat) ≤ _ by decide) rfl rfl).mono ?_
    rintro e w5 ⟨rfl, h6⟩
    clear x0 x1
    go_wp2_with fail
    refine (find_to 1 false a h6.p4.p2 rfl (Ag.find3 HAB.out).2 (Ag.find3 HAB.out).1).mono ?_
    rw [foundV_no]
    rintro e w6 ⟨rfl, h7⟩
    have h8 := (h7.alloc (.cells #[.int .i64 0, .int .i64 0] 28)).drop
    have ⟨x0, x1⟩ := val2 h8.p4
    clear h5 h6 h7
    go_wp2_with fail
    refine (free_to (Ag.A4 a b true) 1 (K _) h8 (o := ⟨5, 0, [], a, 0⟩) (q := []) rfl rfl rfl (show (1 : Nat) ≤ _ by decide) (show (0 : Nat) ≤ _ by decide) (show (2 : Nat) < _ by decide) rfl).mono ?_
    rintro e w7 ⟨rfl, h9⟩
    go_wp2_with fail
    refine (of_made (Ag.A5 a b true) (Ag.M5 a b true) 1 a h9 (Ag.slots4 HAB.out true) (Ag.no4 HAB.out true) (show (2 : Nat) < _ by decide) (makeOk_of hma3) rfl rfl rfl).mono ?_
    rintro e w8 ⟨rfl, h10⟩
    have h11 := h10.alloc (.cells #[.int .i64 5, .int .i64 1] 28)
    clear h8 h9 h10 x0 x1
    go_wp2_with fail
    generalize w8.heap.size = r at *
    refine (find_to 1 true a h11.q3 rfl (Ag.find5a true).2 (Ag.find5a true).1).mono ?_
    rw [foundV_yes]
    rintro e w9 ⟨rfl, h12⟩
    have h13 := h12.alloc (.cells #[.int .i64 5, .int .i64 1] 28)
    have ⟨z0, z1⟩ := val2 h13.p4
    clear h11 h12
    go_wp2_with fail
    generalize w9.heap.size = u at *
    refine (text_to 1 ⟨5, 1, [], a, 0⟩ h13.q3 rfl (Ag.obj5 true).1 rfl).mono ?_
    rintro e w10 ⟨rfl, h14⟩
    have ⟨y0, y1⟩ := val2 h14.p3
    have ⟨z0, z1⟩ := val2 h14.p4
    have ⟨x0, x1⟩ := val2 h14.p6
    clear h13
    clear h1 hca hcb
    have hrc := run_count
    go_wp2_with fail
    refine (obj_at 1 5 1 0 a h14 (Ag.obj5 true).2.1).mono ?_
    rintro e w11 ⟨oa, oc, rfl, h15⟩
    clear x0 x1 y0 y1 z0 z1
    go_wp2_with fail
    refine (find_to 2 true b h15 rfl (Ag.find5b HAB.out true).2 (Ag.find5b HAB.out true).1).mono ?_
    rw [foundV_yes]
    rintro e w12 ⟨rfl, h16⟩
    have h17 := h16.alloc (.cells #[.int .i64 5, .int .i64 2] 28)
    have ⟨y0, y1⟩ := val2 h17.p6
    clear h14 h15
    go_wp2_with fail
    refine (obj_at 2 5 1 0 b h17.p2 (Ag.obj5 true).2.2.2).mono ?_
    rintro e w13 ⟨oa', oc', rfl, h18⟩
    clear y0 y1
    go_wp2_with fail
    refine (law_works h18).mono ?_
    rintro e w14 ⟨rfl, h19⟩
    go_wp2_with fail
    go_ret
    exact ⟨rfl, (h19.drop.drop.drop.drop.drop.drop.drop).belowOld⟩

set_option maxRecDepth 100000 in
set_option maxHeartbeats 4000000 in
theorem walk_false (sa sb : ByteArray) (w : World) (hsa : sa.size ≤ maxLen) (hsb : sb.size ≤ maxLen) :
    Calls Try.prog 3 #[.string sa, .string sb, .bool false] w fun e w' => e = .returned (.bool true) ∧ Below w.heap.size w w' := by
  have h0 := Sat.refl w
  obtain ⟨ma, hma1, hma2, hma3⟩ := cutOf sa hsa
  obtain ⟨mb, hmb1, hmb2, hmb3⟩ := cutOf sb hsb
  unfold maxLen at hsa hsb
  have hma4 : (ma : Int) ≤ sa.size := by omega
  have hmb4 : (mb : Int) ≤ sb.size := by omega
  obtain ⟨a, hca⟩ : ∃ a, sa.extract 0 ma = a := ⟨_, rfl⟩
  obtain ⟨b, hcb⟩ : ∃ b, sb.extract 0 mb = b := ⟨_, rfl⟩
  rw [hca] at hma3
  rw [hcb] at hmb3
  by_cases hab : a = b
  · have hbe : (a.toList == b.toList) = true := by rw [bytes_eq]; simpa using hab
    have HCA := Lib.hid hca
    clear hab
    go_enter Try.func3, Try.ntmps3
    go_wp2_with fail
    refine (heap_New h0).mono ?_
    rintro e w1 ⟨p, rfl, h1⟩
    have h1 := h1 (fun _ => Option.none)
    go_wp2_with fail
    refine (str_New h1 p).mono ?_
    rintro e w2 ⟨s, rfl, h2⟩
    go_wp2_with fail
    refine (law_works h2).mono ?_
    rintro e w9 ⟨rfl, h9⟩
    go_wp2_with fail
    go_ret
    exact ⟨rfl, (h9.unassoc.swap).below⟩
  · have hbe : (a.toList == b.toList) = false := by rw [bytes_eq]; simpa using hab
    have HAB := Lib.hid hab
    have K : ∀ F : HP, Knows (fun _ => Option.none) F := fun F => Knows.none F
    clear hab
    go_enter Try.func3, Try.ntmps3
    go_wp2_with fail
    refine (heap_New h0).mono ?_
    rintro e w1 ⟨p, rfl, h1⟩
    have h1 := h1 (fun _ => Option.none)
    go_wp2_with fail
    refine (str_New h1 p).mono ?_
    rintro e w2 ⟨s, rfl, h2⟩
    clear h1 h0
    go_wp2_with fail
    refine (of_made (Ag.A1 a) (Ag.M1 a) 1 a h2.p2 (Ag.slots1 _) rfl (by decide) (makeOk_of hma3) rfl rfl rfl).mono ?_
    rintro e w3 ⟨rfl, h3⟩
    clear h2
    go_wp2_with fail
    refine (of_made (Ag.A2 a b) (Ag.M2 a b) 2 b h3 (Ag.slots2 HAB.out) (Ag.no2 HAB.out) (by show (1 : Nat) < _; decide) (makeOk_of hmb3) rfl rfl rfl).mono ?_
    rintro e w4 ⟨rfl, h4⟩
    clear h3
    have h5 := (h4.alloc (.cells #[.int .i64 5, .int .i64 1] 28)).alloc (.cells #[.int .i64 5, .int .i64 2] 28)
    rw [size_alloc] at h5
    go_wp2_with fail
    generalize w4.heap.size = q at *
    have ⟨x0, x1⟩ := val2 h5.p2
    refine (drop_to (Ag.A3 a b) 5 1 0 (K _) h5.p3 (fun o ho => Ag.wr (by cases ho; rfl)) (show (0 : Nat) ≤ _ by decide) (show (0 : Nat) ≤ _ by decide) rfl rfl).mono ?_
    rintro e w5 ⟨rfl, h6⟩
    clear x0 x1
    go_wp2_with fail
    refine (find_to 1 false a h6.p4.p2 rfl (Ag.find3 HAB.out).2 (Ag.find3 HAB.out).1).mono ?_
    rw [foundV_no]
    rintro e w6 ⟨rfl, h7⟩
    have h8 := (h7.alloc (.cells #[.int .i64 0, .int .i64 0] 28)).drop
    have ⟨x0, x1⟩ := val2 h8.p4
    clear h5 h6 h7
    go_wp2_with fail
    have h9 := h8
    go_wp2_with fail
    refine (of_made (Ag.A5 a b false) (Ag.M5 a b false) 3 a h9 (Ag.slots4 HAB.out false) (Ag.no4 HAB.out false) (show (2 : Nat) < _ by decide) (makeOk_of hma3) rfl rfl rfl).mono ?_
    rintro e w8 ⟨rfl, h10⟩
    have h11 := h10.alloc (.cells #[.int .i64 5, .int .i64 3] 28)
    clear h8 h9 h10 x0 x1
    go_wp2_with fail
    generalize w8.heap.size = r at *
    refine (find_to 3 true a h11.q3 rfl (Ag.find5a false).2 (Ag.find5a false).1).mono ?_
    rw [foundV_yes]
    rintro e w9 ⟨rfl, h12⟩
    have h13 := h12.alloc (.cells #[.int .i64 5, .int .i64 3] 28)
    have ⟨z0, z1⟩ := val2 h13.p4
    clear h11 h12
    go_wp2_with fail
    generalize w9.heap.size = u at *
    refine (text_to 3 ⟨5, 1, [], a, 0⟩ h13.q3 rfl (Ag.obj5 false).1 rfl).mono ?_
    rintro e w10 ⟨rfl, h14⟩
    have ⟨y0, y1⟩ := val2 h14.p3
    have ⟨z0, z1⟩ := val2 h14.p4
    have ⟨x0, x1⟩ := val2 h14.p6
    clear h13
    clear h1 hca hcb
    have hrc := run_count
    go_wp2_with fail
    refine (obj_at 3 5 1 0 a h14 (Ag.obj5 false).2.1).mono ?_
    rintro e w11 ⟨oa, oc, rfl, h15⟩
    clear x0 x1 y0 y1 z0 z1
    go_wp2_with fail
    refine (find_to 2 true b h15 rfl (Ag.find5b HAB.out false).2 (Ag.find5b HAB.out false).1).mono ?_
    rw [foundV_yes]
    rintro e w12 ⟨rfl, h16⟩
    have h17 := h16.alloc (.cells #[.int .i64 5, .int .i64 2] 28)
    have ⟨y0, y1⟩ := val2 h17.p6
    clear h14 h15
    go_wp2_with fail
    refine (obj_at 2 5 1 0 b h17.p2 (Ag.obj5 false).2.2.2).mono ?_
    rintro e w13 ⟨oa', oc', rfl, h18⟩
    clear y0 y1
    go_wp2_with fail
    refine (law_works h18).mono ?_
    rintro e w14 ⟨rfl, h19⟩
    go_wp2_with fail
    go_ret
    exact ⟨rfl, (h19.drop.drop.drop.drop.drop.drop.drop).belowOld⟩

theorem walk (sa sb : ByteArray) (f : Bool) (w : World) (hsa : sa.size ≤ maxLen) (hsb : sb.size ≤ maxLen) :
    Calls Try.prog 3 #[.string sa, .string sb, .bool f] w fun e w' => e = .returned (.bool true) ∧ Below w.heap.size w w' := by
  cases f
  · exact walk_false sa sb w hsa hsb
  · exact walk_true sa sb w hsa hsb
theorem own : ownKnob Try.prog.godebug = none := by kernel_rfl
theorem laidOut : laidOutB Try.prog = true := by kernel_rfl
set_option maxRecDepth 100000 in
theorem lifted (os : Os) (started : os.Started) (H : Type) (enc : TypeId × Value → H) :
    ReturnsInHanded {} Try.checked os 3 .any (Rows.internAgainSpec.pre6 enc Try.prog Try.f3 Rows.internAgainRow.domain false) (Rows.internAgainSpec.post enc Try.prog Try.f3 false true false false) := by
  refine returnsInHanded_of_change (C := Try.checked) own started (by kernel_rfl) Try.func3
    (ChangeSpec.witness6 (enc := enc) (C := Try.checked) false ⟨#[], #[.string ⟨#[]⟩, .string ⟨#[]⟩, .bool false], []⟩ 8 (by kernel_rfl) (by kernel_rfl) (by kernel_rfl) (by kernel_rfl)) ?_
  intro W base args ds gs before hval0 hW hcnd _
  have hval : ∀ (j : Nat) t v, Try.f3.params[j]? = some t → args[j]? = some v → Value.okWide Try.prog W .any base t v := hval0
  have hW' := hW
  obtain ⟨p, q, hA0, hV, rfl, hfz, hnd⟩ := hW
  have hA : DataW.TrodAll enc Try.prog W 0 (fun _ => true) true Try.f3.params.toList args.toList ds p := hA0
  rw [Try.params3] at hA hval
  obtain ⟨v0, vs0, d0, ds0, p0, q0, hargs, rfl, rfl, h0, r0⟩ := trodAll_cons hA
  obtain ⟨v1, vs1, d1, ds1, p1, q1, rfl, rfl, rfl, h1, r1⟩ := trodAll_cons r0
  obtain ⟨v2, vs2, d2, ds2, p2, q2, rfl, rfl, rfl, h2, r2⟩ := trodAll_cons r1
  obtain ⟨rfl, rfl, rfl⟩ := trodAll_nil r2
  obtain rfl : args = #[v0, v1, v2] := by cases args; simp_all
  obtain ⟨rfl, rfl⟩ := trodVars_none hV
  obtain ⟨a0, rfl, rfl, rfl, w0⟩ := open_string Try.underlying9 (hval 0 9 v0 rfl rfl) h0
  obtain ⟨a1, rfl, rfl, rfl, w1⟩ := open_string Try.underlying9 (hval 1 9 v1 rfl rfl) h1
  obtain ⟨a2, rfl, rfl, rfl⟩ := open_bool Try.underlying4 (hval 2 4 v2 rfl rfl) h2
  clear hA0 hval0
  refine (walk a0 a1 a2 W w0 w1).mono fun e W' ⟨he, bel⟩ => ?_
  subst he
  exact ⟨_, rfl, _, _, _, [], _, [], hW', trodAll_mk1 (shut_bool Try.underlying4 _), (trodAll_cons_mk (shut_string Try.underlying9 w0) (trodAll_cons_mk (shut_string Try.underlying9 w1) (trodAll_cons_mk (shut_bool Try.underlying4 _) trodAll_mk0))), rfl, bel.frame _, fun h => by cases h⟩
theorem over : Rows.internAgainRow.holds Try.pinned (OpenSpec.ofChange Rows.internAgainSpec) :=
  OpenClaim.holds_of_wide 3 Try.f3 rfl rfl rfl rfl rfl rfl rfl ⟨rfl, rfl, rfl, rfl, rfl⟩ rfl rfl rfl rfl rfl (by kernel_rfl) Try.func3 (by kernel_rfl)
    (of_decide_eq_true (by kernel_rfl)) (by unfold Func.isWrapper; first | (rw [if_pos (by decide +kernel)]; kernel_rfl) | (rw [if_neg (by decide +kernel)]; exact ⟨rfl, rfl⟩))
    (fun os started H enc _ => lifted os started H enc)
theorem internAgain_holds : Rows.InternAgainSaid := over
#print axioms internAgain_holds
end Go.Proofs.Ytkpcngcegipalaa.IAg
