/- CellsKnown: a part of the walk. No condition. -/
import Derived.Test.YtkpcngcegipalaaCKnA
namespace Go.Proofs.Ytkpcngcegipalaa.CKn
set_option linter.unusedVariables false
set_option linter.unusedSimpArgs false
open Go Go.RowKit Go.MapKept Go.Proofs.Ytkpcngcegipalaa.Tw
open Go.ChangeShapes Go.WideShapes Go.ChangeAt

set_option maxRecDepth 100000 in
set_option maxHeartbeats 8000000 in
theorem part_15 (w : World) (T : Code) (hT : St_20 w T) : St_15 w (withT 5 T (tailC 15 B0)) := by
    intro a' w66 p db cb m X hd hs e1 e9 e10 hX g66
    obtain ⟨u, hu, rfl⟩ := frame_lit a' hd hs
    have z1 := Option.some.inj ((hu 1 (by omega)).symm.trans e1)
    have z9 := Option.some.inj ((hu 9 (by omega)).symm.trans e9)
    have z10 := Option.some.inj ((hu 10 (by omega)).symm.trans e10)
    rw [frame_eq, z1, z9, z10]
    clear hu hd hs e1 z1 e9 z9 e10 z10
    refine (show Code.wp _ (withT _ T (.seq _ _)) _ _ _ from ?_)
    refine wt_succ ?_
    have hrc := run_count13
    have hrm := CK.run_mark13
    go_wp2_with fail
    iterate 3 (try (with_reducible refine wt_succ ?_; go_wp2_with fail))
    refine (x_Next CK.hS36 (by omega) (g66) CK.r57 CK.r58 CK.r59).mono ?_
    rintro e w67 ⟨rfl, g67⟩
    clear g66
    have b67 := (g67).alloc (.cells #[.int .i64 9, .int .i64 1] 28)
    generalize hxb : w67.heap.size = xb at *
    clear g67
    go_wp2_with fail
    iterate 3 (try (with_reducible refine wt_succ ?_; go_wp2_with fail))
    refine (x_Next CK.hS37 (by omega) (b67.p2) CK.r60 CK.r61 CK.r62).mono ?_
    rintro e w68 ⟨rfl, g68⟩
    clear b67
    have b68 := (g68).alloc (.cells #[.int .i64 6, .int .i64 2] 28)
    generalize hyb : w68.heap.size = yb at *
    clear g68
    go_wp2_with fail
    iterate 3 (try (with_reducible refine wt_succ ?_; go_wp2_with fail))
    refine (x_Next CK.hS38 (by omega) (b68.p2) CK.r63 CK.r64 CK.r65).mono ?_
    rintro e w69 ⟨rfl, g69⟩
    clear b68
    have b69 := (g69).alloc (.cells #[.int .i64 0, .int .i64 0] 28)
    generalize hub : w69.heap.size = ub at *
    clear g69
    have x0 := (val2' (b69.p2).p4).1
    have x1 := (val2' (b69.p2).p4).2.1
    have c0 := (val2' (b69.p2).p7).1
    have c1 := (val2' (b69.p2).p7).2.1
    have y0 := (val2' (b69.p2).p3).1
    have y1 := (val2' (b69.p2).p3).2.1
    have d0 := (val2' (b69.p2).p5).1
    have d1 := (val2' (b69.p2).p5).2.1
    obtain ⟨k70, t70, m70, sl70, oo70⟩ := CK.o66
    generalize hsl70 : sl70.length = sn70 at *
    go_wp2_with fail
    iterate 3 (try (with_reducible refine wt_succ ?_; go_wp2_with fail))
    refine (x_Obj CK.hS39 (by omega) (b69.p2) 1 oo70 hsl70).mono ?_
    rintro e w70 ⟨oa70, oc70, rfl, g70⟩
    clear x0 x1 c0 c1 y0 y1 d0 d1
    clear b69
    clear oo70 hsl70
    go_wp2_with fail
    iterate 3 (try (with_reducible refine wt_succ ?_; go_wp2_with fail))
    refine (x_Susp CK.hS39 (by omega) ((((g70.drop).p4.drop).p3.drop).p2.drop) 1 CK.r67).mono ?_
    rintro e w71 ⟨rfl, g71⟩
    clear g70
    go_wp2_with fail
    iterate 3 (try (with_reducible refine wt_succ ?_; go_wp2_with fail))
    refine (x_Susp CK.hS40 (by omega) (g71) 1 CK.r68).mono ?_
    rintro e w72 ⟨rfl, g72⟩
    clear g71
    go_wp2_with fail
    iterate 3 (try (with_reducible refine wt_succ ?_; go_wp2_with fail))
    refine (x_Susp CK.hS41 (by omega) (g72) 3 CK.r69).mono ?_
    rintro e w73 ⟨rfl, g73⟩
    clear g72
    go_wp2_with fail
    iterate 3 (try (with_reducible refine wt_succ ?_; go_wp2_with fail))
    refine (x_Take CK.hS42 (by omega) (g73) (L := [1]) (n := 1) CK.r70 rfl).mono ?_
    rintro e w74 ⟨la74, lc74, rfl, g74⟩
    clear g73
    have i74 := Sat.litI (L := [1]) (n := 1) (g74.alloc (.cells #[.int .i64 1] 3)) rfl (by decide)
    clear g74
    go_wp2_with fail
    iterate 3 (try (with_reducible refine wt_succ ?_; go_wp2_with fail))
    refine (ints_same13 (i74) rfl (by decide)).mono ?_
    rintro e w75 ⟨rfl, g75⟩
    clear i74
    go_wp2_with fail
    iterate 3 (try (with_reducible refine wt_succ ?_; go_wp2_with fail))
    refine (x_Buf CK.hS43 (by omega) (g75) (L := []) (n := 0) CK.r71 rfl).mono ?_
    rintro e w76 ⟨la76, lc76, rfl, g76⟩
    clear g75
    have j76 : Sat w w76 (slc 3 1 none 0 0 (([] : List Int).map ival) * _) := (g76).nilSlc
    clear g76
    go_wp2_with fail
    iterate 3 (try (with_reducible refine wt_succ ?_; go_wp2_with fail))
    refine (ints_same13 (L := []) (n := 0) (j76) rfl (by decide)).mono ?_
    rintro e w77 ⟨rfl, g77⟩
    clear j76
    have c0 := (val2' (g77).p4).1
    have c1 := (val2' (g77).p4).2.1
    have b77 := (g77).alloc (.cells #[.int .i64 9, .int .i64 1, .int .i64 1, .int .i64 0] 28)
    clear g77
    go_wp2_with fail
    iterate 3 (try (with_reducible refine wt_succ ?_; go_wp2_with fail))
    refine (x_Lay CK.hS43 (by omega) (hX.right.left) 2 (b77.p2) (src2 (k1 := 9) (n1 := 1) (k2 := 1) (n2 := 0)) (by omega) CK.r72).mono ?_
    rintro e w78 ⟨rfl, g78⟩
    clear c0 c1
    clear b77
    have c0 := (val2' (g78.p2.drop).p4).1
    have c1 := (val2' (g78.p2.drop).p4).2.1
    have b78 := (g78.p2.drop).alloc (.cells #[.int .i64 9, .int .i64 1, .int .i64 0, .int .i64 0] 28)
    clear g78
    go_wp2_with fail
    iterate 3 (try (with_reducible refine wt_succ ?_; go_wp2_with fail))
    refine (x_Lay CK.hS44 (by omega) (hX.right.left) 2 (b78.p2) (src2 (k1 := 9) (n1 := 1) (k2 := 0) (n2 := 0)) (by omega) CK.r73).mono ?_
    rintro e w79 ⟨rfl, g79⟩
    clear c0 c1
    clear b78
    go_wp2_with fail
    iterate 3 (try (with_reducible refine wt_succ ?_; go_wp2_with fail))
    refine (x_Lay CK.hS45 (by omega) (hX.right) 9 (g79.p2.drop) src0 (by omega) CK.r74).mono ?_
    rintro e w80 ⟨rfl, g80⟩
    clear g79
    go_wp2_with fail
    iterate 3 (try (with_reducible refine wt_succ ?_; go_wp2_with fail))
    refine wt_zero ?_
    exact hT _ _ _ _ _ _ _ rfl rfl rfl rfl rfl hX (g80)
end Go.Proofs.Ytkpcngcegipalaa.CKn
