/- CellsKnown: a part of the walk. No condition. -/
import Derived.Test.YtkpcngcegipalaaCKnA
namespace Go.Proofs.Ytkpcngcegipalaa.CKn
set_option linter.unusedVariables false
set_option linter.unusedSimpArgs false
open Go Go.RowKit Go.MapKept Go.Proofs.Ytkpcngcegipalaa.Tw
open Go.ChangeShapes Go.WideShapes Go.ChangeAt

set_option maxRecDepth 100000 in
set_option maxHeartbeats 8000000 in
theorem part_5 (w : World) (T : Code) (hT : St_7 w T) : St_5 w (withT 2 T (tailC 5 B0)) := by
    intro a' w5 p bb ab hd hs e1 e2 e3 g5
    obtain ⟨u, hu, rfl⟩ := frame_lit a' hd hs
    have z1 := Option.some.inj ((hu 1 (by omega)).symm.trans e1)
    have z2 := Option.some.inj ((hu 2 (by omega)).symm.trans e2)
    have z3 := Option.some.inj ((hu 3 (by omega)).symm.trans e3)
    rw [frame_eq, z1, z2, z3]
    clear hu hd hs e1 z1 e2 z2 e3 z3
    refine (show Code.wp _ (withT _ T (.seq _ _)) _ _ _ from ?_)
    refine wt_succ ?_
    have hrc := run_count13
    have b0 := (val2' (g5).p2).1
    have b1 := (val2' (g5).p2).2.1
    go_wp2_with fail
    iterate 3 (try (with_reducible refine wt_succ ?_; go_wp2_with fail))
    refine (x_Push CK.hS3 (by omega) (CW.kI _) (g5) 1 5 2 CK.r8).mono ?_
    rintro e w6 ⟨rfl, g6⟩
    clear b0 b1
    clear g5
    have b0 := (val2' (g6).p2).1
    have b1 := (val2' (g6).p2).2.1
    go_wp2_with fail
    iterate 3 (try (with_reducible refine wt_succ ?_; go_wp2_with fail))
    refine (x_Keep CK.hS4 (by omega) (CW.kI _) (g6) 5 2 CK.r9).mono ?_
    rintro e w7 ⟨rfl, g7⟩
    clear b0 b1
    clear g6
    have b0 := (val2' (g7).p2).1
    have b1 := (val2' (g7).p2).2.1
    go_wp2_with fail
    iterate 3 (try (with_reducible refine wt_succ ?_; go_wp2_with fail))
    refine (x_Drop CK.hS5 (by omega) (CW.kI _) (g7) 5 2 CK.r10).mono ?_
    rintro e w8 ⟨rfl, g8⟩
    clear b0 b1
    clear g7
    have b0 := (val2' (g8).p2).1
    have b1 := (val2' (g8).p2).2.1
    go_wp2_with fail
    iterate 3 (try (with_reducible refine wt_succ ?_; go_wp2_with fail))
    refine (x_Drop CK.hS6 (by omega) (CW.kI _) (g8) 5 2 CK.r11).mono ?_
    rintro e w9 ⟨rfl, g9⟩
    clear b0 b1
    clear g8
    go_wp2_with fail
    iterate 3 (try (with_reducible refine wt_succ ?_; go_wp2_with fail))
    refine (x_Queue CK.hS7 (by omega) (g9) (L := [2]) (n := 1) CK.r12 rfl).mono ?_
    rintro e w10 ⟨la10, lc10, rfl, g10⟩
    clear g9
    have i10 := Sat.litI (L := [2]) (n := 1) (g10.alloc (.cells #[.int .i64 2] 3)) rfl (by decide)
    clear g10
    go_wp2_with fail
    iterate 3 (try (with_reducible refine wt_succ ?_; go_wp2_with fail))
    refine (ints_same13 (i10) rfl (by decide)).mono ?_
    rintro e w11 ⟨rfl, g11⟩
    clear i10
    go_wp2_with fail
    iterate 3 (try (with_reducible refine wt_succ ?_; go_wp2_with fail))
    refine (x_Buf CK.hS7 (by omega) (g11) (L := []) (n := 0) CK.r13 rfl).mono ?_
    rintro e w12 ⟨la12, lc12, rfl, g12⟩
    clear g11
    have j12 : Sat w w12 (slc 3 1 none 0 0 (([] : List Int).map ival) * _) := (g12).nilSlc
    clear g12
    go_wp2_with fail
    iterate 3 (try (with_reducible refine wt_succ ?_; go_wp2_with fail))
    refine (ints_same13 (L := []) (n := 0) (j12) rfl (by decide)).mono ?_
    rintro e w13 ⟨rfl, g13⟩
    clear j12
    have b0 := (val2' (g13).p2).1
    have b1 := (val2' (g13).p2).2.1
    go_wp2_with fail
    iterate 3 (try (with_reducible refine wt_succ ?_; go_wp2_with fail))
    refine (x_Drop CK.hS7 (by omega) (CW.kI _) (g13) 5 2 CK.r14).mono ?_
    rintro e w14 ⟨rfl, g14⟩
    clear b0 b1
    clear g13
    have b0 := (val2' (g14).p2).1
    have b1 := (val2' (g14).p2).2.1
    go_wp2_with fail
    iterate 3 (try (with_reducible refine wt_succ ?_; go_wp2_with fail))
    refine (x_Keep CK.hS8 (by omega) (CW.kI _) (g14) 5 2 CK.r15).mono ?_
    rintro e w15 ⟨rfl, g15⟩
    clear b0 b1
    clear g14
    go_wp2_with fail
    iterate 3 (try (with_reducible refine wt_succ ?_; go_wp2_with fail))
    refine (x_Push CK.hS9 (by omega) (CW.kI _) (g15) 2 1 0 CK.r16).mono ?_
    rintro e w16 ⟨rfl, g16⟩
    clear g15
    go_wp2_with fail
    iterate 3 (try (with_reducible refine wt_succ ?_; go_wp2_with fail))
    refine (law_of13 (g16) (9) (1)).mono ?_
    rintro e w17 ⟨rfl, g17⟩
    clear g16
    go_wp2_with fail
    iterate 3 (try (with_reducible refine wt_succ ?_; go_wp2_with fail))
    refine (x_Push CK.hS10 (by omega) (CW.kI _) (g17) 1 9 1 CK.r17).mono ?_
    rintro e w18 ⟨rfl, g18⟩
    clear g17
    go_wp2_with fail
    iterate 3 (try (with_reducible refine wt_succ ?_; go_wp2_with fail))
    refine (x_Push CK.hS11 (by omega) (CW.kI _) (g18) 1 0 0 CK.r18).mono ?_
    rintro e w19 ⟨rfl, g19⟩
    clear g18
    have a0 := (val2' (g19).p3).1
    have a1 := (val2' (g19).p3).2.1
    go_wp2_with fail
    iterate 3 (try (with_reducible refine wt_succ ?_; go_wp2_with fail))
    refine (x_Push CK.hS12 (by omega) (CW.kI _) (g19) 3 6 1 CK.r19).mono ?_
    rintro e w20 ⟨rfl, g20⟩
    clear a0 a1
    clear g19
    have a0 := (val2' (g20).p3).1
    have a1 := (val2' (g20).p3).2.1
    go_wp2_with fail
    iterate 3 (try (with_reducible refine wt_succ ?_; go_wp2_with fail))
    refine (x_Keep CK.hS13 (by omega) (CW.kI _) (g20) 6 1 CK.r20).mono ?_
    rintro e w21 ⟨rfl, g21⟩
    clear a0 a1
    clear g20
    have a0 := (val2' (g21).p3).1
    have a1 := (val2' (g21).p3).2.1
    go_wp2_with fail
    iterate 3 (try (with_reducible refine wt_succ ?_; go_wp2_with fail))
    refine (x_Drop CK.hS14 (by omega) (CW.kI _) (g21) 6 1 CK.r21).mono ?_
    rintro e w22 ⟨rfl, g22⟩
    clear a0 a1
    clear g21
    go_wp2_with fail
    iterate 3 (try (with_reducible refine wt_succ ?_; go_wp2_with fail))
    refine (x_Buf CK.hS15 (by omega) (g22) (L := [1]) (n := 1) CK.r22 rfl).mono ?_
    rintro e w23 ⟨la23, lc23, rfl, g23⟩
    clear g22
    have i23 := Sat.litI (L := [1]) (n := 1) (g23.alloc (.cells #[.int .i64 1] 3)) rfl (by decide)
    clear g23
    go_wp2_with fail
    iterate 3 (try (with_reducible refine wt_succ ?_; go_wp2_with fail))
    refine (ints_same13 (i23) rfl (by decide)).mono ?_
    rintro e w24 ⟨rfl, g24⟩
    clear i23
    have a0 := (val2' (g24).p3).1
    have a1 := (val2' (g24).p3).2.1
    go_wp2_with fail
    iterate 3 (try (with_reducible refine wt_succ ?_; go_wp2_with fail))
    refine (x_Drop CK.hS15 (by omega) (CW.kI _) (g24) 6 1 CK.r23).mono ?_
    rintro e w25 ⟨rfl, g25⟩
    clear a0 a1
    clear g24
    go_wp2_with fail
    iterate 3 (try (with_reducible refine wt_succ ?_; go_wp2_with fail))
    refine (x_Queue CK.hS16 (by omega) (g25) (L := [2, 1]) (n := 2) CK.r24 rfl).mono ?_
    rintro e w26 ⟨la26, lc26, rfl, g26⟩
    clear g25
    have i26 := Sat.litI (L := [2, 1]) (n := 2) (g26.alloc (.cells #[.int .i64 2, .int .i64 1] 3)) rfl (by decide)
    clear g26
    go_wp2_with fail
    iterate 3 (try (with_reducible refine wt_succ ?_; go_wp2_with fail))
    refine (ints_same13 (i26) rfl (by decide)).mono ?_
    rintro e w27 ⟨rfl, g27⟩
    clear i26
    go_wp2_with fail
    iterate 3 (try (with_reducible refine wt_succ ?_; go_wp2_with fail))
    refine (x_Buf CK.hS16 (by omega) (g27) (L := []) (n := 0) CK.r25 rfl).mono ?_
    rintro e w28 ⟨la28, lc28, rfl, g28⟩
    clear g27
    have j28 : Sat w w28 (slc 3 1 none 0 0 (([] : List Int).map ival) * _) := (g28).nilSlc
    clear g28
    go_wp2_with fail
    iterate 3 (try (with_reducible refine wt_succ ?_; go_wp2_with fail))
    refine (ints_same13 (L := []) (n := 0) (j28) rfl (by decide)).mono ?_
    rintro e w29 ⟨rfl, g29⟩
    clear j28
    go_wp2_with fail
    iterate 3 (try (with_reducible refine wt_succ ?_; go_wp2_with fail))
    refine (x_Free CK.hS16 (by omega) (CW.kI _) (g29) 1 CK.r26).mono ?_
    rintro e w30 ⟨rfl, g30⟩
    clear g29
    go_wp2_with fail
    iterate 3 (try (with_reducible refine wt_succ ?_; go_wp2_with fail))
    refine (x_Free CK.hS17 (by omega) (CW.kI _) (g30) 2 CK.r27).mono ?_
    rintro e w31 ⟨rfl, g31⟩
    clear g30
    go_wp2_with fail
    iterate 3 (try (with_reducible refine wt_succ ?_; go_wp2_with fail))
    refine (x_Free CK.hS18 (by omega) (CW.kI _) (g31) 1 CK.r28).mono ?_
    rintro e w32 ⟨rfl, g32⟩
    clear g31
    go_wp2_with fail
    iterate 3 (try (with_reducible refine wt_succ ?_; go_wp2_with fail))
    refine wt_zero ?_
    exact hT _ _ _ _ _ rfl rfl rfl rfl rfl (g32)
end Go.Proofs.Ytkpcngcegipalaa.CKn
