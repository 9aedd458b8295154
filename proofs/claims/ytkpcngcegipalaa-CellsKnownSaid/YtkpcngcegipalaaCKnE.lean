/- CellsKnown: a part of the walk. No condition. -/
import Derived.Test.YtkpcngcegipalaaCKnA
namespace Go.Proofs.Ytkpcngcegipalaa.CKn
set_option linter.unusedVariables false
set_option linter.unusedSimpArgs false
open Go Go.RowKit Go.MapKept Go.Proofs.Ytkpcngcegipalaa.Tw
open Go.ChangeShapes Go.WideShapes Go.ChangeAt

set_option maxRecDepth 100000 in
set_option maxHeartbeats 8000000 in
theorem part_10 (w : World) (T : Code) (hT : St_15 w T) : St_10 w (withT 5 T (tailC 10 B0)) := by
    intro a' w38 p hd hs e1 g38
    obtain ⟨u, hu, rfl⟩ := frame_lit a' hd hs
    have z1 := Option.some.inj ((hu 1 (by omega)).symm.trans e1)
    rw [frame_eq, z1]
    clear hu hd hs e1 z1
    refine (show Code.wp _ (withT _ T (.seq _ _)) _ _ _ from ?_)
    refine wt_succ ?_
    have hrc := run_count13
    go_wp2_with fail
    iterate 3 (try (with_reducible refine wt_succ ?_; go_wp2_with fail))
    refine (law_of13 (g38) (9) (1)).mono ?_
    rintro e w39 ⟨rfl, g39⟩
    clear g38
    have b39 := (g39).alloc (.cells #[.int .i64 9, .int .i64 1] 28)
    generalize hcb : w39.heap.size = cb at *
    clear g39
    have i39 := Sat.litI (L := [1]) (n := 1) ((b39.p2).alloc (.cells #[.int .i64 1] 3)) rfl (by decide)
    clear b39
    rw [size_alloc, hcb] at i39
    go_wp2_with fail
    iterate 3 (try (with_reducible refine wt_succ ?_; go_wp2_with fail))
    refine (heap_Watch (i39) rfl (by decide)).mono ?_
    rintro e w40 ⟨rfl, m, X, hX, g40⟩
    clear i39
    go_wp2_with fail
    iterate 3 (try (with_reducible refine wt_succ ?_; go_wp2_with fail))
    refine (x_Touched ((g40).p3.drop) CK.r36).mono ?_
    rintro e w41 ⟨rfl, g41⟩
    clear g40
    go_wp2_with fail
    iterate 3 (try (with_reducible refine wt_succ ?_; go_wp2_with fail))
    refine (law_of13 (g41) (3) (1)).mono ?_
    rintro e w42 ⟨rfl, g42⟩
    clear g41
    go_wp2_with fail
    iterate 3 (try (with_reducible refine wt_succ ?_; go_wp2_with fail))
    refine (x_Keep CK.hS24 (by omega) (hX.right) (g42) 3 1 CK.r37).mono ?_
    rintro e w43 ⟨rfl, g43⟩
    clear g42
    go_wp2_with fail
    iterate 3 (try (with_reducible refine wt_succ ?_; go_wp2_with fail))
    refine (law_of13 (g43) (6) (1)).mono ?_
    rintro e w44 ⟨rfl, g44⟩
    clear g43
    go_wp2_with fail
    iterate 3 (try (with_reducible refine wt_succ ?_; go_wp2_with fail))
    refine (x_Drop CK.hS25 (by omega) (hX.right) (g44) 6 1 CK.r38).mono ?_
    rintro e w45 ⟨rfl, g45⟩
    clear g44
    go_wp2_with fail
    iterate 3 (try (with_reducible refine wt_succ ?_; go_wp2_with fail))
    refine (x_Touched (g45) CK.r39).mono ?_
    rintro e w46 ⟨rfl, g46⟩
    clear g45
    go_wp2_with fail
    iterate 3 (try (with_reducible refine wt_succ ?_; go_wp2_with fail))
    refine (x_Mark CK.hS26 (by omega) (hX.right) (g46) 1 CK.r40).mono ?_
    rintro e w47 ⟨rfl, g47⟩
    clear g46
    go_wp2_with fail
    iterate 3 (try (with_reducible refine wt_succ ?_; go_wp2_with fail))
    refine (x_Touched (g47) CK.r41).mono ?_
    rintro e w48 ⟨rfl, g48⟩
    clear g47
    go_wp2_with fail
    iterate 3 (try (with_reducible refine wt_succ ?_; go_wp2_with fail))
    refine (x_Mark CK.hS27 (by omega) (hX.right) (g48) 1 CK.r42).mono ?_
    rintro e w49 ⟨rfl, g49⟩
    clear g48
    go_wp2_with fail
    iterate 3 (try (with_reducible refine wt_succ ?_; go_wp2_with fail))
    refine (x_Mark CK.hS28 (by omega) (hX.right) (g49) 2 CK.r43).mono ?_
    rintro e w50 ⟨rfl, g50⟩
    clear g49
    go_wp2_with fail
    iterate 3 (try (with_reducible refine wt_succ ?_; go_wp2_with fail))
    refine (x_Make CK.hS29 (by omega) (g50) 6 CK.tE CK.r44).mono ?_
    rintro e w51 ⟨rfl, g51⟩
    clear g50
    have b51 := (g51).alloc (.cells #[.int .i64 6, .int .i64 2] 28)
    generalize hdb : w51.heap.size = db at *
    clear g51
    go_wp2_with fail
    iterate 3 (try (with_reducible refine wt_succ ?_; go_wp2_with fail))
    try go_wp2_with fail
    refine (x_Mark CK.hS30 (by omega) (hX.right.left) (b51.p2) 2 CK.r45).mono ?_
    rintro e w52 ⟨rfl, g52⟩
    clear b51
    have c0 := (val2' (g52).p4).1
    have c1 := (val2' (g52).p4).2.1
    go_wp2_with fail
    iterate 3 (try (with_reducible refine wt_succ ?_; go_wp2_with fail))
    refine (x_Drop CK.hS31 (by omega) (hX.right.left) (g52) 9 1 CK.r46).mono ?_
    rintro e w53 ⟨rfl, g53⟩
    clear c0 c1
    clear g52
    go_wp2_with fail
    iterate 3 (try (with_reducible refine wt_succ ?_; go_wp2_with fail))
    refine (x_Queue CK.hS32 (by omega) (g53) (L := [1]) (n := 1) CK.r47 rfl).mono ?_
    rintro e w54 ⟨la54, lc54, rfl, g54⟩
    clear g53
    have i54 := Sat.litI (L := [1]) (n := 1) (g54.alloc (.cells #[.int .i64 1] 3)) rfl (by decide)
    clear g54
    go_wp2_with fail
    iterate 3 (try (with_reducible refine wt_succ ?_; go_wp2_with fail))
    refine (ints_same13 (i54) rfl (by decide)).mono ?_
    rintro e w55 ⟨rfl, g55⟩
    clear i54
    go_wp2_with fail
    iterate 3 (try (with_reducible refine wt_succ ?_; go_wp2_with fail))
    refine (x_Fin CK.hS32 (by omega) (hX.right.left) (g55) 1 CK.r48).mono ?_
    rintro e w56 ⟨rfl, g56⟩
    clear g55
    go_wp2_with fail
    iterate 3 (try (with_reducible refine wt_succ ?_; go_wp2_with fail))
    refine (x_Queue CK.hS33 (by omega) (g56) (L := []) (n := 0) CK.r49 rfl).mono ?_
    rintro e w57 ⟨la57, lc57, rfl, g57⟩
    clear g56
    have j57 : Sat w w57 (slc 3 1 none 0 0 (([] : List Int).map ival) * _) := (g57).nilSlc
    clear g57
    go_wp2_with fail
    iterate 3 (try (with_reducible refine wt_succ ?_; go_wp2_with fail))
    refine (ints_same13 (L := []) (n := 0) (j57) rfl (by decide)).mono ?_
    rintro e w58 ⟨rfl, g58⟩
    clear j57
    go_wp2_with fail
    iterate 3 (try (with_reducible refine wt_succ ?_; go_wp2_with fail))
    refine (x_Fins CK.hS33 (by omega) (g58) (L := [1]) (n := 1) CK.r50 rfl).mono ?_
    rintro e w59 ⟨la59, lc59, rfl, g59⟩
    clear g58
    have i59 := Sat.litI (L := [1]) (n := 1) (g59.alloc (.cells #[.int .i64 1] 3)) rfl (by decide)
    clear g59
    go_wp2_with fail
    iterate 3 (try (with_reducible refine wt_succ ?_; go_wp2_with fail))
    refine (ints_same13 (i59) rfl (by decide)).mono ?_
    rintro e w60 ⟨rfl, g60⟩
    clear i59
    obtain ⟨k61, t61, m61, sl61, oo61⟩ := CK.o51
    generalize hsl61 : sl61.length = sn61 at *
    go_wp2_with fail
    iterate 3 (try (with_reducible refine wt_succ ?_; go_wp2_with fail))
    refine (x_Obj CK.hS33 (by omega) (g60) 1 oo61 hsl61).mono ?_
    rintro e w61 ⟨oa61, oc61, rfl, g61⟩
    clear g60
    clear oo61 hsl61
    have hrm := CK.run_mark13
    obtain ⟨k62, c62, t62, sl62, oo62⟩ := CK.o52
    generalize hsl62 : sl62.length = sn62 at *
    go_wp2_with fail
    iterate 3 (try (with_reducible refine wt_succ ?_; go_wp2_with fail))
    refine (x_Obj CK.hS33 (by omega) (g61.drop) 1 oo62 hsl62).mono ?_
    rintro e w62 ⟨oa62, oc62, rfl, g62⟩
    clear g61
    clear oo62 hsl62
    go_wp2_with fail
    iterate 3 (try (with_reducible refine wt_succ ?_; go_wp2_with fail))
    refine (x_Fin CK.hS33 (by omega) (hX.right.left) (g62.drop) 1 CK.r53).mono ?_
    rintro e w63 ⟨rfl, g63⟩
    clear g62
    go_wp2_with fail
    iterate 3 (try (with_reducible refine wt_succ ?_; go_wp2_with fail))
    refine (x_Mark CK.hS34 (by omega) (hX.right.left) (g63) 1 CK.r54).mono ?_
    rintro e w64 ⟨rfl, g64⟩
    clear g63
    go_wp2_with fail
    iterate 3 (try (with_reducible refine wt_succ ?_; go_wp2_with fail))
    refine (x_Fin CK.hS35 (by omega) (hX.right.left) (g64) 2 CK.r55).mono ?_
    rintro e w65 ⟨rfl, g65⟩
    clear g64
    obtain ⟨k66, t66, m66, sl66, oo66⟩ := CK.o56
    generalize hsl66 : sl66.length = sn66 at *
    go_wp2_with fail
    iterate 3 (try (with_reducible refine wt_succ ?_; go_wp2_with fail))
    refine (x_Obj CK.hS36 (by omega) (g65) 2 oo66 hsl66).mono ?_
    rintro e w66 ⟨oa66, oc66, rfl, g66⟩
    clear g65
    clear oo66 hsl66
    go_wp2_with fail
    iterate 3 (try (with_reducible refine wt_succ ?_; go_wp2_with fail))
    refine wt_zero ?_
    exact hT _ _ _ _ _ _ _ rfl rfl rfl rfl rfl hX (g66.drop)
end Go.Proofs.Ytkpcngcegipalaa.CKn
