/- CellsKnown: a part of the walk. No condition. -/
import Derived.Test.YtkpcngcegipalaaCKnA
namespace Go.Proofs.Ytkpcngcegipalaa.CKn
set_option linter.unusedVariables false
set_option linter.unusedSimpArgs false
open Go Go.RowKit Go.MapKept Go.Proofs.Ytkpcngcegipalaa.Tw
open Go.ChangeShapes Go.WideShapes Go.ChangeAt

set_option maxRecDepth 100000 in
set_option maxHeartbeats 8000000 in
theorem part_32 (w : World) : St_32 w (tailC 32 B0) := by
    intro a' w95 p pz lfb y1b cb m X hd hs e1 e9 hX g95
    obtain ⟨u, hu, rfl⟩ := frame_lit a' hd hs
    have z1 := Option.some.inj ((hu 1 (by omega)).symm.trans e1)
    have z9 := Option.some.inj ((hu 9 (by omega)).symm.trans e9)
    rw [frame_eq, z1, z9]
    clear hu hd hs e1 z1 e9 z9
    refine (show Code.wp _ (.seq _ _) _ _ _ from ?_)
    go_wp2_with fail
    iterate 3 (try (with_reducible refine wt_succ ?_; go_wp2_with fail))
    refine (heap_Pop_nil _ 1 (g95)).mono ?_
    rintro e w96 ⟨rfl, g96⟩
    clear g95
    have b96 := (g96).alloc (.cells #[.int .i64 0, .int .i64 0] 28)
    generalize hnpb : w96.heap.size = npb at *
    clear g96
    go_wp2_with fail
    iterate 3 (try (with_reducible refine wt_succ ?_; go_wp2_with fail))
    refine (heap_NextFin_nil _ (b96.p2)).mono ?_
    rintro e w97 ⟨rfl, g97⟩
    clear b96
    have b97 := (g97).alloc (.cells #[.int .i64 0, .int .i64 0] 28)
    generalize hnnb : w97.heap.size = nnb at *
    clear g97
    go_wp2_with fail
    iterate 3 (try (with_reducible refine wt_succ ?_; go_wp2_with fail))
    refine (n_Watch (b97.p2) none 0 0).mono ?_
    rintro e w98 ⟨rfl, g98⟩
    clear b97
    go_wp2_with fail
    iterate 3 (try (with_reducible refine wt_succ ?_; go_wp2_with fail))
    refine (n_Make (g98) 9 CK.tE).mono ?_
    rintro e w99 ⟨rfl, g99⟩
    clear g98
    have c0 := (val2' (g99).p8).1
    have c1 := (val2' (g99).p8).2.1
    go_wp2_with fail
    iterate 3 (try (with_reducible refine wt_succ ?_; go_wp2_with fail))
    refine (heap_Keep_nil _ ⟨9, 1⟩ (g99)).mono ?_
    rintro e w100 ⟨rfl, g100⟩
    clear c0 c1
    clear g99
    have c0 := (val2' (g100).p8).1
    have c1 := (val2' (g100).p8).2.1
    go_wp2_with fail
    iterate 3 (try (with_reducible refine wt_succ ?_; go_wp2_with fail))
    refine (heap_Drop_nil _ ⟨9, 1⟩ (g100)).mono ?_
    rintro e w101 ⟨rfl, g101⟩
    clear c0 c1
    clear g100
    go_wp2_with fail
    iterate 3 (try (with_reducible refine wt_succ ?_; go_wp2_with fail))
    refine (heap_Free_nil _ 1 (g101)).mono ?_
    rintro e w102 ⟨rfl, g102⟩
    clear g101
    go_wp2_with fail
    iterate 3 (try (with_reducible refine wt_succ ?_; go_wp2_with fail))
    refine (heap_Lay_nil _ 1 none 0 0 (g102)).mono ?_
    rintro e w103 ⟨rfl, g103⟩
    clear g102
    go_wp2_with fail
    iterate 3 (try (with_reducible refine wt_succ ?_; go_wp2_with fail))
    refine (n_Susp (g103) 1).mono ?_
    rintro e w104 ⟨rfl, g104⟩
    clear g103
    go_wp2_with fail
    iterate 3 (try (with_reducible refine wt_succ ?_; go_wp2_with fail))
    refine (n_Fin (g104) 1).mono ?_
    rintro e w105 ⟨rfl, g105⟩
    clear g104
    go_wp2_with fail
    iterate 3 (try (with_reducible refine wt_succ ?_; go_wp2_with fail))
    refine (n_Mark (g105) 1).mono ?_
    rintro e w106 ⟨rfl, g106⟩
    clear g105
    go_wp2_with fail
    iterate 3 (try (with_reducible refine wt_succ ?_; go_wp2_with fail))
    refine (n_Copy (g106)).mono ?_
    rintro e w107 ⟨rfl, g107⟩
    clear g106
    have hro := CK.run_objs13
    go_wp2_with fail
    iterate 3 (try (with_reducible refine wt_succ ?_; go_wp2_with fail))
    refine (heap_Graph_nil _ (g107)).mono ?_
    rintro e w108 ⟨rfl, g108⟩
    clear g107
    go_wp2_with fail
    iterate 3 (try (with_reducible refine wt_succ ?_; go_wp2_with fail))
    refine (n_Touched (g108)).mono ?_
    rintro e w109 ⟨rfl, g109⟩
    clear g108
    go_wp2_with fail
    iterate 3 (try (with_reducible refine wt_succ ?_; go_wp2_with fail))
    refine (n_Queue (g109)).mono ?_
    rintro e w110 ⟨rfl, g110⟩
    clear g109
    go_wp2_with fail
    iterate 3 (try (with_reducible refine wt_succ ?_; go_wp2_with fail))
    refine (n_Buffer (g110)).mono ?_
    rintro e w111 ⟨rfl, g111⟩
    clear g110
    go_wp2_with fail
    iterate 3 (try (with_reducible refine wt_succ ?_; go_wp2_with fail))
    refine (n_Fins (g111)).mono ?_
    rintro e w112 ⟨rfl, g112⟩
    clear g111
    go_wp2_with fail
    iterate 3 (try (with_reducible refine wt_succ ?_; go_wp2_with fail))
    refine (n_Take (g112)).mono ?_
    rintro e w113 ⟨rfl, g113⟩
    clear g112
    have hrk := CK.run_kind13
    go_wp2_with fail
    iterate 3 (try (with_reducible refine wt_succ ?_; go_wp2_with fail))
    refine (n_Obj (g113) 1).mono ?_
    rintro e w114 ⟨rfl, g114⟩
    clear g113
    go_wp2_with fail
    iterate 3 (try (with_reducible refine wt_succ ?_; go_wp2_with fail))
    refine (law_works13 (g114)).mono ?_
    rintro e w115 ⟨rfl, g115⟩
    clear g114
    go_wp2_with fail
    go_ret
    refine ⟨rfl, ?_⟩
    have hb := g115
    repeat (with_reducible replace hb := hb.drop)
    exact (hb.cast (mul_one _).symm).below
end Go.Proofs.Ytkpcngcegipalaa.CKn
