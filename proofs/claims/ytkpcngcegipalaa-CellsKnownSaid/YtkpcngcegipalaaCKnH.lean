/- CellsKnown: a part of the walk. No condition. -/
import Derived.Test.YtkpcngcegipalaaCKnA
namespace Go.Proofs.Ytkpcngcegipalaa.CKn
set_option linter.unusedVariables false
set_option linter.unusedSimpArgs false
open Go Go.RowKit Go.MapKept Go.Proofs.Ytkpcngcegipalaa.Tw
open Go.ChangeShapes Go.WideShapes Go.ChangeAt

set_option maxRecDepth 100000 in
set_option maxHeartbeats 8000000 in
theorem part_26 (w : World) (T : Code) (hT : St_32 w T) : St_26 w (withT 6 T (tailC 26 B0)) := by
    intro a' w86 p nojb aatb nogb oldb db cb m X hd hs e1 e9 hX g86
    obtain ⟨u, hu, rfl⟩ := frame_lit a' hd hs
    have z1 := Option.some.inj ((hu 1 (by omega)).symm.trans e1)
    have z9 := Option.some.inj ((hu 9 (by omega)).symm.trans e9)
    rw [frame_eq, z1, z9]
    clear hu hd hs e1 z1 e9 z9
    refine (show Code.wp _ (withT _ T (.seq _ _)) _ _ _ from ?_)
    refine wt_succ ?_
    go_wp2_with fail
    iterate 3 (try (with_reducible refine wt_succ ?_; go_wp2_with fail))
    refine (heap_New (g86)).mono ?_
    rintro e w87 ⟨pz, rfl, g87⟩
    have g87 := g87 CW.mI
    clear g86
    go_wp2_with fail
    iterate 3 (try (with_reducible refine wt_succ ?_; go_wp2_with fail))
    refine (x_Make CK.hE (by omega) ((((((g87).p3.drop).p3.drop).p3.drop).p3.drop).p3.drop) 6 CK.tE CK.r85).mono ?_
    rintro e w88 ⟨rfl, g88⟩
    clear g87
    have b88 := (g88).alloc (.cells #[.int .i64 6, .int .i64 1] 28)
    generalize hy1b : w88.heap.size = y1b at *
    clear g88
    go_wp2_with fail
    iterate 3 (try (with_reducible refine wt_succ ?_; go_wp2_with fail))
    refine (x_Mark CK.hZ1 (by omega) (CW.kI _) (b88.p2) 1 CK.r86).mono ?_
    rintro e w89 ⟨rfl, g89⟩
    clear b88
    go_wp2_with fail
    iterate 3 (try (with_reducible refine wt_succ ?_; go_wp2_with fail))
    refine (x_Fin CK.hZ2 (by omega) (CW.kI _) (g89) 1 CK.r87).mono ?_
    rintro e w90 ⟨rfl, g90⟩
    clear g89
    have y10 := (val2' (g90).p2).1
    have y11 := (val2' (g90).p2).2.1
    go_wp2_with fail
    iterate 3 (try (with_reducible refine wt_succ ?_; go_wp2_with fail))
    refine (x_Drop CK.hZ3 (by omega) (CW.kI _) (g90) 6 1 CK.r88).mono ?_
    rintro e w91 ⟨rfl, g91⟩
    clear y10 y11
    clear g90
    have y10 := (val2' (g91).p2).1
    have y11 := (val2' (g91).p2).2.1
    go_wp2_with fail
    iterate 3 (try (with_reducible refine wt_succ ?_; go_wp2_with fail))
    refine (x_Drop CK.hZ4 (by omega) (CW.kI _) (g91) 6 1 CK.r89).mono ?_
    rintro e w92 ⟨rfl, g92⟩
    clear y10 y11
    clear g91
    go_wp2_with fail
    iterate 3 (try (with_reducible refine wt_succ ?_; go_wp2_with fail))
    refine (x_Free CK.hZ5 (by omega) (CW.kI _) (g92) 1 CK.r90).mono ?_
    rintro e w93 ⟨rfl, g93⟩
    clear g92
    go_wp2_with fail
    iterate 3 (try (with_reducible refine wt_succ ?_; go_wp2_with fail))
    refine (x_Fins CK.hZ6 (by omega) (g93) (L := []) (n := 0) CK.r91 rfl).mono ?_
    rintro e w94 ⟨la94, lc94, rfl, g94⟩
    clear g93
    go_wp2_with fail
    iterate 3 (try (with_reducible refine wt_succ ?_; go_wp2_with fail))
    refine (x_Next CK.hZ6 (by omega) ((g94).drop) CK.r92 CK.r93 CK.r94).mono ?_
    rintro e w95 ⟨rfl, g95⟩
    clear g94
    have b95 := (g95).alloc (.cells #[.int .i64 0, .int .i64 0] 28)
    generalize hlfb : w95.heap.size = lfb at *
    clear g95
    go_wp2_with fail
    iterate 3 (try (with_reducible refine wt_succ ?_; go_wp2_with fail))
    refine wt_zero ?_
    exact hT _ _ _ _ _ _ _ _ _ rfl rfl rfl rfl hX (b95.p2)
end Go.Proofs.Ytkpcngcegipalaa.CKn
