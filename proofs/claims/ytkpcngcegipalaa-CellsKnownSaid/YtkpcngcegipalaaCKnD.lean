/- CellsKnown: a part of the walk. No condition. -/
import Derived.Test.YtkpcngcegipalaaCKnA
namespace Go.Proofs.Ytkpcngcegipalaa.CKn
set_option linter.unusedVariables false
set_option linter.unusedSimpArgs false
open Go Go.RowKit Go.MapKept Go.Proofs.Ytkpcngcegipalaa.Tw
open Go.ChangeShapes Go.WideShapes Go.ChangeAt

set_option maxRecDepth 100000 in
set_option maxHeartbeats 8000000 in
theorem part_7 (w : World) (T : Code) (hT : St_10 w T) : St_7 w (withT 3 T (tailC 7 B0)) := by
    intro a' w32 p bb ab hd hs e1 e2 e3 g32
    obtain ⟨u, hu, rfl⟩ := frame_lit a' hd hs
    have z1 := Option.some.inj ((hu 1 (by omega)).symm.trans e1)
    have z2 := Option.some.inj ((hu 2 (by omega)).symm.trans e2)
    have z3 := Option.some.inj ((hu 3 (by omega)).symm.trans e3)
    rw [frame_eq, z1, z2, z3]
    clear hu hd hs e1 z1 e2 z2 e3 z3
    refine (show Code.wp _ (withT _ T (.seq _ _)) _ _ _ from ?_)
    refine wt_succ ?_
    go_wp2_with fail
    iterate 3 (try (with_reducible refine wt_succ ?_; go_wp2_with fail))
    refine (x_Pop CK.hS19 (by omega) (CW.kI _) (g32) 1 CK.r29 CK.r30).mono ?_
    rintro e w33 ⟨rfl, g33⟩
    clear g32
    have b33 := (g33).alloc (.cells #[.int .i64 5, .int .i64 2] 28)
    generalize hvb : w33.heap.size = vb at *
    clear g33
    go_wp2_with fail
    iterate 3 (try (with_reducible refine wt_succ ?_; go_wp2_with fail))
    refine (x_Pop CK.hS20 (by omega) (CW.kI _) (b33.p2) 1 CK.r31 CK.r32).mono ?_
    rintro e w34 ⟨rfl, g34⟩
    clear b33
    have b34 := (g34).alloc (.cells #[.int .i64 0, .int .i64 0] 28)
    generalize hwb : w34.heap.size = wb at *
    clear g34
    have v0 := (val2' (b34.p2).p3).1
    have v1 := (val2' (b34.p2).p3).2.1
    have b0 := (val2' (b34.p2).p4).1
    have b1 := (val2' (b34.p2).p4).2.1
    have w0 := (val2' (b34.p2).p2).1
    have w1 := (val2' (b34.p2).p2).2.1
    go_wp2_with fail
    iterate 3 (try (with_reducible refine wt_succ ?_; go_wp2_with fail))
    refine (x_Free CK.hS21 (by omega) (CW.kI _) (b34.p2) 1 CK.r33).mono ?_
    rintro e w35 ⟨rfl, g35⟩
    clear v0 v1 b0 b1 w0 w1
    clear b34
    go_wp2_with fail
    iterate 3 (try (with_reducible refine wt_succ ?_; go_wp2_with fail))
    refine (x_Make CK.hS22 (by omega) (g35) 9 CK.tE CK.r34).mono ?_
    rintro e w36 ⟨rfl, g36⟩
    clear g35
    go_wp2_with fail
    iterate 3 (try (with_reducible refine wt_succ ?_; go_wp2_with fail))
    refine (law_of13 (g36) (9) (1)).mono ?_
    rintro e w37 ⟨rfl, g37⟩
    clear g36
    have hro := CK.run_objs13
    go_wp2_with fail
    iterate 3 (try (with_reducible refine wt_succ ?_; go_wp2_with fail))
    refine (x_Graph CK.hS23 (by omega) (g37) CK.tOf rfl).mono ?_
    rintro e w38 ⟨ga, gc, rfl, g38⟩
    clear g37
    go_wp2_with fail
    iterate 3 (try (with_reducible refine wt_succ ?_; go_wp2_with fail))
    refine wt_zero ?_
    exact hT _ _ _ rfl rfl rfl (((((g38.drop).p3.drop).p2.drop).p2.drop).p2.drop)
end Go.Proofs.Ytkpcngcegipalaa.CKn
