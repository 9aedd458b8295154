/- InternKnown: the chapter's examples, and what is none: a closed statement, proved without a condition. -/
import Derived.Test.YtkpcngcegipalaaIK0
import Derived.ProofKit
import Derived.OpenShut
import Derived.ChangeOld
namespace Go.Proofs.Ytkpcngcegipalaa.IKnown
set_option linter.unusedVariables false
set_option linter.unusedSimpArgs false
open Go Go.RowKit Go.MapKept Go.Proofs.Ytkpcngcegipalaa.Tw
open Go.ChangeShapes Go.WideShapes Go.ChangeAt

set_option maxRecDepth 100000 in
set_option maxHeartbeats 4000000 in
theorem walk (w : World) :
    Calls Try.prog 4 #[] w fun e w' => e = .returned (.bool true) ∧ Below w.heap.size w w' := by
  have hs0 := Sat.refl w
  go_enter Try.func4, Try.ntmps4
  go_wp2_with fail
  refine (heap_New (hs0)).mono ?_
  rintro e w1 ⟨p, rfl, g1⟩
  clear hs0
  have a0 := g1 IK.mI
  clear g1
  go_wp2_with fail
  refine (str_New (a0) p).mono ?_
  rintro e w2 ⟨s, rfl, g2⟩
  clear a0
  go_wp2_with fail
  refine (u_Of IK.hE (by omega) (IK.knowsI _) (g2.p2) IK.tA IK.v1).mono ?_
  rintro e w3 ⟨rfl, g3⟩
  clear g2
  go_wp2_with fail
  refine (law_str (g3) 1).mono ?_
  rintro e w4 ⟨rfl, g4⟩
  clear g3
  go_wp2_with fail
  refine (u_Of IK.h1 (by omega) (IK.knowsI _) (g4) IK.tB IK.v2).mono ?_
  rintro e w5 ⟨rfl, g5⟩
  clear g4
  go_wp2_with fail
  refine (law_str (g5) 2).mono ?_
  rintro e w6 ⟨rfl, g6⟩
  clear g5
  go_wp2_with fail
  refine (u_Of IK.h2 (by omega) (IK.knowsI _) (g6) IK.tA IK.v3).mono ?_
  rintro e w7 ⟨rfl, g7⟩
  clear g6
  go_wp2_with fail
  refine (law_str (g7) 1).mono ?_
  rintro e w8 ⟨rfl, g8⟩
  clear g7
  go_wp2_with fail
  refine (u_FindY IK.h3 (by omega) (g8) IK.tA (n := 1) (by decide +kernel) (by decide +kernel)).mono ?_
  rintro e w9 ⟨rfl, g9⟩
  clear g8
  have b9 := (g9).alloc (.cells #[.int .i64 5, .int .i64 1] 28)
  have x0 := (val2' b9).1
  have x1 := (val2' b9).2.1
  generalize hxb : w9.heap.size = xb at *
  clear g9
  go_wp2_with fail
  refine (u_FindN IK.h3 (by omega) (b9.q3) IK.tC (by decide +kernel)).mono ?_
  rintro e w10 ⟨rfl, g10⟩
  clear b9
  have b10 := ((g10).alloc (.cells #[.int .i64 0, .int .i64 0] 28)).drop
  clear g10
  have xq0 := (val2' (b10).p3).1
  have xq1 := (val2' (b10).p3).2.1
  go_wp2_with fail
  have sX := And.intro xq0 xq1
  go_region_held3 (fun w' => w'.cell? ⟨xb, 0, none⟩ = some (.int .i64 5) ∧ w'.cell? ⟨xb, 1, none⟩ = some (.int .i64 1)) (first | assumption | exact sX) (first
    | (go_at_call 24; with_reducible refine (law_str (b10).drew 1).mono ?_; rintro e wA ⟨rfl, gA⟩; have sXA := And.intro (val2' gA.p3).1 (val2' gA.p3).2.1)
    | (go_at_call 24; with_reducible refine (law_str gA 2).mono ?_; rintro e wB ⟨rfl, gB⟩; have sXB := And.intro (val2' gB.p3).1 (val2' gB.p3).2.1)
    | (go_at_call 19; refine (u_Drop IK.h3 (by omega) (IK.knowsI _) gB 5 2 (e0 := 0) (by decide +kernel)).mono ?_; rintro e wC ⟨rfl, gC⟩; have sXC := And.intro (val2' gC.p3).1 (val2' gC.p3).2.1))
  clear b10 gA gB
  go_wp2_with fail
  refine (u_FindN IK.h4 (by omega) (gC) IK.tB (by decide +kernel)).mono ?_
  rintro e w11 ⟨rfl, g11⟩
  clear gC
  go_wp2_with fail
  refine (u_Of IK.h4 (by omega) (IK.knowsI _) (g11) IK.tB IK.v5).mono ?_
  rintro e w12 ⟨rfl, g12⟩
  clear g11
  go_wp2_with fail
  refine (law_str (g12) 3).mono ?_
  rintro e w13 ⟨rfl, g13⟩
  clear g12
  go_wp2_with fail
  refine (u_Free IK.h5 (by omega) (IK.knowsI _) (g13) 2 (e0 := 0) (by decide +kernel)).mono ?_
  rintro e w14 ⟨rfl, g14⟩
  clear g13
  go_wp2_with fail
  refine (u_Make IK.h6 (by omega) (g14) 6 IK.tE (v := ⟨6, 2⟩) (by decide +kernel)).mono ?_
  rintro e w15 ⟨rfl, g15⟩
  clear g14
  go_wp2_with fail
  refine (law_str (g15) 2).mono ?_
  rintro e w16 ⟨rfl, g16⟩
  clear g15
  go_wp2_with fail
  refine (u_Text IK.h7 (by omega) (g16) 5 2 (b := false) (t := IK.tE) (by decide +kernel) (by decide +kernel)).mono ?_
  rintro e w17 ⟨rfl, g17⟩
  clear g16
  go_wp2_with fail
  refine (law_str (g17) 3).mono ?_
  rintro e w18 ⟨rfl, g18⟩
  clear g17
  go_wp2_with fail
  refine (u_Text IK.h7 (by omega) (g18) 5 3 (b := true) (t := ByteArray.mk #[98]) (by decide +kernel) (by decide +kernel)).mono ?_
  rintro e w19 ⟨rfl, g19⟩
  clear g18
  go_wp2_with fail
  refine (u_Text IK.h7 (by omega) (g19) 6 2 (b := false) (t := IK.tE) (by decide +kernel) (by decide +kernel)).mono ?_
  rintro e w20 ⟨rfl, g20⟩
  clear g19
  go_wp2_with fail
  refine (u_Make IK.h7 (by omega) (g20) 5 IK.tO (v := ⟨5, 4⟩) (by decide +kernel)).mono ?_
  rintro e w21 ⟨rfl, g21⟩
  clear g20
  have b21 := (g21).alloc (.cells #[.int .i64 5, .int .i64 4] 28)
  have o0 := (val2' b21).1
  have o1 := (val2' b21).2.1
  generalize hob : w21.heap.size = ob at *
  clear g21
  go_wp2_with fail
  refine (u_Text IK.h8 (by omega) (b21.q3) 5 4 (b := true) (t := ByteArray.mk #[111, 119, 110]) (by decide +kernel) (by decide +kernel)).mono ?_
  rintro e w22 ⟨rfl, g22⟩
  clear b21
  go_wp2_with fail
  refine (u_FindN IK.h8 (by omega) (g22) IK.tO (by decide +kernel)).mono ?_
  rintro e w23 ⟨rfl, g23⟩
  clear g22
  have b23 := ((g23).alloc (.cells #[.int .i64 0, .int .i64 0] 28)).drop
  clear g23
  have oq0 := (val2' (b23).p3).1
  have oq1 := (val2' (b23).p3).2.1
  go_wp2_with fail
  have sA := And.intro oq0 oq1
  go_region_held3 (fun w' => w'.cell? ⟨ob, 0, none⟩ = some (.int .i64 5) ∧ w'.cell? ⟨ob, 1, none⟩ = some (.int .i64 4)) (first | assumption | exact sA) ((go_at_call 18; refine (u_Of IK.h8 (by omega) (IK.knowsI _) (b23).drew IK.tO IK.v9).mono ?_; rintro e wa ⟨rfl, ga⟩; have sB := And.intro (val2' ga.p3).1 (val2' ga.p3).2.1))
  clear b23
  obtain ⟨zc, hmk, hcv⟩ := IK.long_n wa 4097 (by decide)
  have hmk : (Instr.makeSlice 44 (.int .i64 4097) (.int .i64 4097)).run Try.prog wa = .ok (.slice (some ⟨wa.heap.size, 0, none⟩) 4097 4097) (wa.alloc zc) := hmk
  have etl : IK.tR 4097 = IK.tL := rfl
  rw [etl] at hcv
  clear etl
  have gz := (ga.alloc zc).drop
  clear ga
  go_wp2_with fail
  refine (u_FindN IK.h9 (by omega) (gz) IK.tL IK.fL).mono ?_
  rintro e w24 ⟨rfl, g24⟩
  clear gz
  have b24 := ((g24).alloc (.cells #[.int .i64 0, .int .i64 0] 28)).drop
  clear g24
  go_wp2_with fail
  refine (u_Of IK.h9 (by omega) (IK.knowsI _) (b24) IK.tL IK.vL).mono ?_
  rintro e w25 ⟨rfl, g25⟩
  clear b24
  have gY := IK.ik_long g25
  clear g25
  have hsz := IK.tL_size
  have htl := IK.tL_tail
  go_wp2_with fail
  refine (u_Of IK.h9 (by omega) (IK.knowsI _) (gY) IK.tL1 IK.v10).mono ?_
  rintro e w26 ⟨rfl, g26⟩
  clear gY
  have ff1 := run_field_val0 5 6 w26
  go_wp2_with fail
  refine (u_Of IK.h10 (by omega) (IK.knowsI _) (g26) IK.tE IK.v11).mono ?_
  rintro e w27 ⟨rfl, g27⟩
  clear g26
  have ff2 := run_field_val0 5 7 w27
  go_wp2_with fail
  refine (u_Copy IK.h11 (by omega) (g27)).mono ?_
  rintro e w28 ⟨q, rfl, g28⟩
  clear g27
  go_wp2_with fail
  refine (str_Copy (g28.p3) q).mono ?_
  rintro e w29 ⟨s2, rfl, g29⟩
  clear g28
  go_wp2_with fail
  refine (u_Of IK.h11 (by omega) (IK.knowsI _) (g29.p3) IK.tZ IK.vC1).mono ?_
  rintro e w30 ⟨rfl, g30⟩
  clear g29
  have ff3 := run_field_val0 5 8 w30
  go_wp2_with fail
  refine (u_FindN IK.h11 (by omega) (g30.p4.p4.p2) IK.tZ (by decide +kernel)).mono ?_
  rintro e w31 ⟨rfl, g31⟩
  clear g30
  have b31 := ((g31).alloc (.cells #[.int .i64 0, .int .i64 0] 28)).drop
  clear g31
  go_wp2_with fail
  refine (u_Make IK.h11 (by omega) (b31) 5 IK.tZ (v := ⟨5, 8⟩) (by decide +kernel)).mono ?_
  rintro e w32 ⟨rfl, g32⟩
  clear b31
  go_wp2_with fail
  refine (u_FindN IK.h12 (by omega) (g32) IK.tZ (by decide +kernel)).mono ?_
  rintro e w33 ⟨rfl, g33⟩
  clear g32
  have b33 := ((g33).alloc (.cells #[.int .i64 0, .int .i64 0] 28)).drop
  clear g33
  go_wp2_with fail
  refine (u_Of IK.hC1 (by omega) (IK.knowsI _) (b33.p4.p4) IK.tA IK.vC2).mono ?_
  rintro e w34 ⟨rfl, g34⟩
  clear b33
  go_wp2_with fail
  refine (law_str (g34) 1).mono ?_
  rintro e w35 ⟨rfl, g35⟩
  clear g34
  obtain ⟨tx1, ho1⟩ := IK.o1
  obtain ⟨tx2, ho2⟩ := IK.o2
  go_wp2_with fail
  refine (u_Obj IK.h12 (by omega) (g35.p3) 1 ho1).mono ?_
  rintro e w36 ⟨oa, oc, rfl, g36⟩
  clear g35
  have fc1 := run_count w36 (.int .i64 5) (.int .i64 2) (.slice oa 0 oc) (.string tx1) (.int .i64 0)
  go_wp2_with fail
  refine (u_Obj IK.hC2 (by omega) (g36.p2) 1 ho2).mono ?_
  rintro e w37 ⟨oa2, oc2, rfl, g37⟩
  clear g36
  have fc2 := run_count w37 (.int .i64 5) (.int .i64 3) (.slice oa2 0 oc2) (.string tx2) (.int .i64 0)
  go_wp2_with fail
  refine (str_Find_nil _ IK.tA (g37)).mono ?_
  rintro e w38 ⟨rfl, g38⟩
  clear g37
  have b38 := ((g38).alloc (.cells #[.int .i64 0, .int .i64 0] 28)).drop
  clear g38
  go_wp2_with fail
  refine (law_str (b38) 1).mono ?_
  rintro e w39 ⟨rfl, g39⟩
  clear b38
  go_wp2_with fail
  refine (str_Text_nil _ ⟨5, 1⟩ (g39)).mono ?_
  rintro e w40 ⟨rfl, g40⟩
  clear g39
  go_wp2_with fail
  refine (u_Text IK.h12 (by omega) (g40.p4.p3) 5 4611686018427387905 (b := false) (t := IK.tE) (by decide +kernel) (by decide +kernel)).mono ?_
  rintro e w41 ⟨rfl, g41⟩
  clear g40
  go_wp2_with fail
  refine (str_Of_nil _ IK.tA (g41)).mono ?_
  rintro e w42 ⟨rfl, g42⟩
  clear g41
  go_wp2_with fail
  refine (str_Copy_nil _ _).mono ?_
  rintro e wn1 ⟨rfl, rfl⟩
  go_wp2_with fail
  refine (str_Copy_none _ s).mono ?_
  rintro e wn2 ⟨rfl, rfl⟩
  go_wp2_with fail
  refine (str_New_nil _).mono ?_
  rintro e wn3 ⟨rfl, rfl⟩
  go_wp2_with fail
  refine (law_works (g42)).mono ?_
  rintro e w43 ⟨rfl, g43⟩
  clear g42
  go_wp2
  go_ret
  exact ⟨rfl, Sat.below (F := 1) (g43.drop.drop.drop.drop.drop.drop.cast (mul_one _).symm)⟩
theorem own : ownKnob Try.prog.godebug = none := by kernel_rfl
theorem laidOut : laidOutB Try.prog = true := by kernel_rfl
set_option maxRecDepth 100000 in
theorem lifted (os : Os) (started : os.Started) (H : Type) (enc : TypeId × Value → H) :
    ReturnsInHanded {} Try.checked os 4 .any (Rows.internKnownSpec.pre6 enc Try.prog Try.f4 Rows.internKnownRow.domain false) (Rows.internKnownSpec.post enc Try.prog Try.f4 false true false false) := by
  refine returnsInHanded_of_change (C := Try.checked) own started (by kernel_rfl) Try.func4
    (ChangeSpec.witness6 (enc := enc) (C := Try.checked) false ⟨#[], #[], []⟩ 8 (by kernel_rfl) (by kernel_rfl) (by kernel_rfl) (by kernel_rfl)) ?_
  intro W base args ds gs before hval0 hW hcnd _
  have hval : ∀ (j : Nat) t v, Try.f4.params[j]? = some t → args[j]? = some v → Value.okWide Try.prog W .any base t v := hval0
  have hW' := hW
  obtain ⟨p, q, hA0, hV, rfl, hfz, hnd⟩ := hW
  have hA : DataW.TrodAll enc Try.prog W 0 (fun _ => true) true Try.f4.params.toList args.toList ds p := hA0
  rw [Try.params4] at hA hval
  obtain ⟨hargs, rfl, rfl⟩ := trodAll_nil hA
  obtain rfl : args = #[] := by cases args; simp_all
  obtain ⟨rfl, rfl⟩ := trodVars_none hV
  clear hA0 hval0
  refine (walk W).mono fun e W' ⟨he, bel⟩ => ?_
  subst he
  exact ⟨_, rfl, _, _, _, [], _, [], hW', trodAll_mk1 (shut_bool Try.underlying4 _), trodAll_mk0, rfl, bel.frame _, fun h => by cases h⟩
theorem over : Rows.internKnownRow.holds Try.pinned (OpenSpec.ofChange Rows.internKnownSpec) :=
  OpenClaim.holds_of_wide 4 Try.f4 rfl rfl rfl rfl rfl rfl rfl ⟨rfl, rfl, rfl, rfl, rfl⟩ rfl rfl rfl rfl rfl (by kernel_rfl) Try.func4 (by kernel_rfl)
    (of_decide_eq_true (by kernel_rfl)) (by unfold Func.isWrapper; first | (rw [if_pos (by decide +kernel)]; kernel_rfl) | (rw [if_neg (by decide +kernel)]; exact ⟨rfl, rfl⟩))
    (fun os started H enc _ => lifted os started H enc)
theorem internKnown_holds : Rows.InternKnownSaid := over
#print axioms internKnown_holds
end Go.Proofs.Ytkpcngcegipalaa.IKnown
