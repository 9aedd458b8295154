/- CellsKnown: a part of the walk. No condition. -/
import Derived.Test.YtkpcngcegipalaaCKnA
namespace Go.Proofs.Ytkpcngcegipalaa.CKn
set_option linter.unusedVariables false
set_option linter.unusedSimpArgs false
open Go Go.RowKit Go.MapKept Go.Proofs.Ytkpcngcegipalaa.Tw
open Go.ChangeShapes Go.WideShapes Go.ChangeAt

set_option maxRecDepth 100000 in
set_option maxHeartbeats 8000000 in
theorem part_20 (w : World) (T : Code) (hT : St_26 w T) : St_20 w (withT 6 T (tailC 20 B0)) := by
    intro a' w80 p db cb m X hd hs e1 e9 e10 hX g80
    obtain ⟨u, hu, rfl⟩ := frame_lit a' hd hs
    have z1 := Option.some.inj ((hu 1 (by omega)).symm.trans e1)
    have z9 := Option.some.inj ((hu 9 (by omega)).symm.trans e9)
    have z10 := Option.some.inj ((hu 10 (by omega)).symm.trans e10)
    rw [frame_eq, z1, z9, z10]
    clear hu hd hs e1 z1 e9 z9 e10 z10
    refine (show Code.wp _ (withT _ T (.seq _ _)) _ _ _ from ?_)
    refine wt_succ ?_
    have d0 := (val2' (g80).p2).1
    have d1 := (val2' (g80).p2).2.1
    go_wp2_with fail
    iterate 3 (try (with_reducible refine wt_succ ?_; go_wp2_with fail))
    refine (x_Swap CK.hS46 (by omega) (hX.right.left) (g80) 2 1 6 2 CK.r75 CK.r76).mono ?_
    rintro e w81 ⟨rfl, g81⟩
    clear d0 d1
    clear g80
    have b81 := (g81).alloc (.cells #[.int .i64 1, .int .i64 0] 28)
    generalize holdb : w81.heap.size = oldb at *
    clear g81
    have d0 := (val2' (b81.p2).p3).1
    have d1 := (val2' (b81.p2).p3).2.1
    go_wp2_with fail
    iterate 3 (try (with_reducible refine wt_succ ?_; go_wp2_with fail))
    refine (x_Swap CK.hS47 (by omega) (hX.right.left.left) (b81.p2) 2 2 6 2 CK.r77 CK.r78).mono ?_
    rintro e w82 ⟨rfl, g82⟩
    clear d0 d1
    clear b81
    go_wp2_with fail
    iterate 3 (try (with_reducible refine wt_succ ?_; go_wp2_with fail))
    refine (law_of13 (g82) (5) (1)).mono ?_
    rintro e w83 ⟨rfl, g83⟩
    clear g82
    go_wp2_with fail
    iterate 3 (try (with_reducible refine wt_succ ?_; go_wp2_with fail))
    refine (x_Swap CK.hS48 (by omega) (hX.right.left.left) (g83) 2 0 5 1 CK.r79 CK.r80).mono ?_
    rintro e w84 ⟨rfl, g84⟩
    clear g83
    have b84 := (g84).alloc (.cells #[.int .i64 0, .int .i64 0] 28)
    generalize hnogb : w84.heap.size = nogb at *
    clear g84
    go_wp2_with fail
    iterate 3 (try (with_reducible refine wt_succ ?_; go_wp2_with fail))
    refine (x_At CK.hS49 (by omega) (b84.p2) 2 (1) CK.r81 CK.r82).mono ?_
    rintro e w85 ⟨rfl, g85⟩
    clear b84
    have b85 := (g85).alloc (.cells #[.int .i64 6, .int .i64 2] 28)
    generalize haatb : w85.heap.size = aatb at *
    clear g85
    go_wp2_with fail
    iterate 3 (try (with_reducible refine wt_succ ?_; go_wp2_with fail))
    refine (x_At CK.hS49 (by omega) (b85.p2) 2 (-1) CK.r83 CK.r84).mono ?_
    rintro e w86 ⟨rfl, g86⟩
    clear b85
    have b86 := (g86).alloc (.cells #[.int .i64 0, .int .i64 0] 28)
    generalize hnojb : w86.heap.size = nojb at *
    clear g86
    have old0 := (val2' (b86.p2).p5).1
    have old1 := (val2' (b86.p2).p5).2.1
    have aat0 := (val2' (b86.p2).p3).1
    have aat1 := (val2' (b86.p2).p3).2.1
    have d0 := (val2' (b86.p2).p6).1
    have d1 := (val2' (b86.p2).p6).2.1
    go_wp2_with fail
    iterate 3 (try (with_reducible refine wt_succ ?_; go_wp2_with fail))
    refine wt_zero ?_
    exact hT _ _ _ _ _ _ _ _ _ _ _ rfl rfl rfl rfl hX (b86.p2)
end Go.Proofs.Ytkpcngcegipalaa.CKn
