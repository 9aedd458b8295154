/- CellsKnown: a part of the walk. No condition. -/
import Derived.Test.YtkpcngcegipalaaCKnA
import Derived.Test.YtkpcngcegipalaaGrow
namespace Go.Proofs.Ytkpcngcegipalaa.CKn
set_option linter.unusedVariables false
set_option linter.unusedSimpArgs false
open Go Go.RowKit Go.MapKept Go.Proofs.Ytkpcngcegipalaa.Tw
open Go.ChangeShapes Go.WideShapes Go.ChangeAt

attribute [local go_sem] lookE lkE valUpon
theorem mkTwo {w0 w : World} {b : Nat} {o : Obj} {A F : HP} {x : Option Addr} (h : Sat w0 w (A * (pt b o * F))) (hx : x = some ⟨b, 0, none⟩) : Sat w0 w (A * ((ex fun b => wh (x = some ⟨b, 0, none⟩) (pt b o)) * F)) :=
  (Sat.intro_ex (P := fun b => wh (x = some ⟨b, 0, none⟩) (pt b o)) b (Sat.intro_wh hx h.p2)).p2
theorem mk_n (w : World) : (Instr.makeSlice 44 (.int .i64 4097) (.int .i64 4097)).run Try.prog w = .ok (.slice (some ⟨w.heap.size, 0, none⟩) 4097 4097) (w.alloc (.cells (madeCells #[.int .u8 0] 4097) 5 (0, 0))) := by
  obtain ⟨i0, hi, hz0, hz1, hz2⟩ := info_parts CK.info_u8
  have hmk := run_makeSlice (P := Try.prog) (w := w) 44 5 i0 _ Try.underlying44 hi hz0 .i64 .i64 (4097 : Int) (4097 : Int) (by omega) (by omega) (by rw [hz1]; omega) (by rw [hz2]; omega) (by omega)
  rw [hz1] at hmk
  exact hmk
theorem conv_N {w0 w : World} {b N : Nat} {F : HP} (h : Sat w0 w (pt b (.cells (madeCells #[.int .u8 0] N) 5 (0, 0)) * F)) : (convert 44 9 (.slice (some ⟨b, 0, none⟩) N N)).run Try.prog w = .ok (.string (CK.tR N)) w := by
  have hc := run_convert_bytes_back (P := Try.prog) w 44 9 5 ⟨b, 0, none⟩ N (List.replicate N 0) Try.underlying44 Try.underlying5 Try.underlying9 (fun j hj => by
    rw [List.length_replicate] at hj
    rw [addr_add, Nat.zero_add, List.getElem_replicate]
    unfold World.cell?
    dsimp only
    rw [h.blk]
    exact CK.made_u8 N hj)
  rw [List.length_replicate] at hc
  exact hc
theorem conv_n {w0 w : World} {b : Nat} {F : HP} (h : Sat w0 w (pt b (.cells (madeCells #[.int .u8 0] 4097) 5 (0, 0)) * F)) : (convert 44 9 (.slice (some ⟨b, 0, none⟩) 4097 4097)).run Try.prog w = .ok (.string (CK.tR 4097)) w := conv_N h
set_option maxRecDepth 100000 in
set_option maxHeartbeats 8000000 in
theorem part_0 (w : World) (T : Code) (hT : St_5 w T) : St_0 w (withT 5 T (tailC 0 B0)) := by
  intro a' hd hs
  obtain ⟨u, hu, rfl⟩ := frame_lit a' hd hs
  rw [frame_eq]
  clear hu hd hs
  have hs0 := Sat.refl w
  obtain ⟨k1, c1, m1, sl1, ho1⟩ := CK.o4
  obtain ⟨k2, c2, m2, sl2, ho2⟩ := CK.o5
  have HO := Lib.hid (And.intro ho1 ho2)
  generalize hsn1 : sl1.length = sn1 at *
  generalize hsn2 : sl2.length = sn2 at *
  clear ho1 ho2
  refine (show Code.wp _ (withT _ T (.seq _ _)) _ _ _ from ?_)
  refine wt_succ ?_
  go_wp2_with fail
  iterate 3 (try (with_reducible refine wt_succ ?_; go_wp2_with fail))
  refine (heap_New hs0).mono ?_
  rintro e w1 ⟨p, rfl, g1⟩
  have g1 := g1 CW.mI
  clear hs0
  go_wp2_with fail
  iterate 3 (try (with_reducible refine wt_succ ?_; go_wp2_with fail))
  refine (x_Make CK.hE (by omega) g1 6 CK.tX CK.r1).mono ?_
  rintro e w2 ⟨rfl, g2⟩
  clear g1
  go_wp2_with fail
  iterate 3 (try (with_reducible refine wt_succ ?_; go_wp2_with fail))
  refine (x_Make CK.hS1 (by omega) g2 5 CK.tX CK.r2).mono ?_
  rintro e w3 ⟨rfl, g3⟩
  clear g2
  go_wp2_with fail
  iterate 3 (try (with_reducible refine wt_succ ?_; go_wp2_with fail))
  refine (x_Make CK.hS2 (by omega) g3 3 CK.tE CK.r3).mono ?_
  rintro e w4 ⟨rfl, g4⟩
  clear g3
  go_wp2_with fail
  iterate 3 (try (with_reducible refine wt_succ ?_; go_wp2_with fail))
  have h6 := ((g4.alloc (.cells #[.int .i64 6, .int .i64 1] 28)).alloc (.cells #[.int .i64 5, .int .i64 2] 28)).alloc (.cells #[.int .i64 0, .int .i64 0] 28)
  rw [size_alloc, size_alloc] at h6
  generalize w4.heap.size = q at *
  have HPP := fun (w' : World) (hx : Sat w w' (pt (q + 1 + 1) (.cells #[.int .i64 0, .int .i64 0] 28 (0, 0)) * (pt (q + 1) (.cells #[.int .i64 5, .int .i64 2] 28 (0, 0)) * (pt q (.cells #[.int .i64 6, .int .i64 1] 28 (0, 0)) * (heapR CW.mI p CK.S3 * Old w))))) => And.intro (val2' hx.p3).1 (And.intro (val2' hx.p3).2.1 (And.intro (val2' hx.p2).1 (And.intro (val2' hx.p2).2.1 (And.intro (val2' hx).1 (val2' hx).2.1))))
  have HP := Lib.hid HPP
  clear HPP g4
  have h6 : Sat w _ (pt (q + 1 + 1) (.cells #[.int .i64 0, .int .i64 0] 28 (0, 0)) * (pt (q + 1) (.cells #[.int .i64 5, .int .i64 2] 28 (0, 0)) * (pt q (.cells #[.int .i64 6, .int .i64 1] 28 (0, 0)) * (heapR CW.mI p CK.S3 * Old w)))) := h6
  have H6 := h6.drew
  have hrt := CK.run_text13
  clear HP
  refine wp_gen fun a0 ha => ?_
  have hb1 : base a0 1 = .pointer (some ⟨p, 0, none⟩) := by rw [ha]; rfl
  have hb2 : base a0 2 = .pointer (some ⟨q, 0, none⟩) := by rw [ha]; rfl
  have hb3 : base a0 3 = .pointer (some ⟨q + 1, 0, none⟩) := by rw [ha]; rfl
  have hb4 : base a0 4 = .pointer (some ⟨q + 1 + 1, 0, none⟩) := by rw [ha]; rfl
  have HA := Lib.hid ha
  clear ha
  refine GW.start (X := Option Addr × Nat) (w0 := w) (B := [pt (q + 1 + 1) (.cells #[.int .i64 0, .int .i64 0] 28 (0, 0)), pt (q + 1) (.cells #[.int .i64 5, .int .i64 2] 28 (0, 0)), pt q (.cells #[.int .i64 6, .int .i64 1] 28 (0, 0)), heapR CW.mI p CK.S3, Old w]) (a0 := a0) ?_
  refine GW.det (d := (some 47)) [2] [] rfl (fun e => by rfl) ?_; apply Exists.intro; refine ⟨fun e w' F hs => ?_, ?_, ?_⟩
  · have y := val2' (show Sat w w' (pt q (.cells #[.int .i64 6, .int .i64 1] 28 (0, 0)) * F) from hs); have y0 := y.1; have y1 := y.2.1; first | (go_simp; done) | (go_simp; rfl)
  · exact (fun _ _ _ => rfl)
  refine GW.keep (d := (some 48)) (fun e => .agg #[.int .i64 6, .int .i64 1]) [] [] rfl (fun e => by rfl) (fun _ _ _ => rfl) (fun e w' F K hs hK => ?_) ?_
  · go_simp; go_at_call 58; refine (law_of13 hs 6 1).mono ?_; rintro e1 w1 ⟨rfl, hx⟩; exact ⟨_, rfl, hK _ hx⟩
  refine GW.det (d := (some 49)) [] [] rfl (fun e => by rfl) ?_; apply Exists.intro; refine ⟨fun e w' F hs => ?_, ?_, ?_⟩
  · first | (go_simp; done) | (go_simp; rfl)
  · exact (fun _ _ _ => rfl)
  refine GW.det (d := (some 50)) [] [] rfl (fun e => by rfl) ?_; apply Exists.intro; refine ⟨fun e w' F hs => ?_, ?_, ?_⟩
  · first | (go_simp; done) | (go_simp; rfl)
  · exact (fun _ _ _ => rfl)
  refine GW.det (d := (some 51)) [1] [] rfl (fun e => by rfl) ?_; apply Exists.intro; refine ⟨fun e w' F hs => ?_, ?_, ?_⟩
  · have y := val2' (show Sat w w' (pt (q + 1) (.cells #[.int .i64 5, .int .i64 2] 28 (0, 0)) * F) from hs); have y0 := y.1; have y1 := y.2.1; first | (go_simp; done) | (go_simp; rfl)
  · exact (fun _ _ _ => rfl)
  refine GW.keep (d := (some 52)) (fun e => .agg #[.int .i64 5, .int .i64 2]) [] [] rfl (fun e => by rfl) (fun _ _ _ => rfl) (fun e w' F K hs hK => ?_) ?_
  · go_simp; go_at_call 58; refine (law_of13 hs 5 2).mono ?_; rintro e1 w1 ⟨rfl, hx⟩; exact ⟨_, rfl, hK _ hx⟩
  refine GW.det (d := (some 53)) [] [] rfl (fun e => by rfl) ?_; apply Exists.intro; refine ⟨fun e w' F hs => ?_, ?_, ?_⟩
  · first | (go_simp; done) | (go_simp; rfl)
  · exact (fun _ _ _ => rfl)
  refine GW.det (d := (some 54)) [] [] rfl (fun e => by rfl) ?_; apply Exists.intro; refine ⟨fun e w' F hs => ?_, ?_, ?_⟩
  · first | (go_simp; done) | (go_simp; rfl)
  · exact (fun _ _ _ => rfl)
  refine GW.det (d := (some 55)) [] [] rfl (fun e => by rfl) ?_; apply Exists.intro; refine ⟨fun e w' F hs => ?_, ?_, ?_⟩
  · first | (go_simp; done) | (go_simp; rfl)
  · exact (fun _ _ _ => rfl)
  refine GW.det (d := (some 56)) [0] [] rfl (fun e => by rfl) ?_; apply Exists.intro; refine ⟨fun e w' F hs => ?_, ?_, ?_⟩
  · have y := val2' (show Sat w w' (pt (q + 1 + 1) (.cells #[.int .i64 0, .int .i64 0] 28 (0, 0)) * F) from hs); have y0 := y.1; have y1 := y.2.1; first | (go_simp; done) | (go_simp; rfl)
  · exact (fun _ _ _ => rfl)
  refine GW.det (d := (some 57)) [] [] rfl (fun e => by rfl) ?_; apply Exists.intro; refine ⟨fun e w' F hs => ?_, ?_, ?_⟩
  · first | (go_simp; done) | (go_simp; rfl)
  · exact (fun _ _ _ => rfl)
  refine GW.det (d := (some 58)) [] [] rfl (fun e => by rfl) ?_; apply Exists.intro; refine ⟨fun e w' F hs => ?_, ?_, ?_⟩
  · first | (go_simp; done) | (go_simp; rfl)
  · exact (fun _ _ _ => rfl)
  refine GW.det (d := (some 59)) [] [] rfl (fun e => by rfl) ?_; apply Exists.intro; refine ⟨fun e w' F hs => ?_, ?_, ?_⟩
  · first | (go_simp; done) | (go_simp; rfl)
  · exact (fun _ _ _ => rfl)
  refine GW.det (d := (some 60)) [] [] rfl (fun e => by rfl) ?_; apply Exists.intro; refine ⟨fun e w' F hs => ?_, ?_, ?_⟩
  · first | (go_simp; done) | (go_simp; rfl)
  · exact (fun _ _ _ => rfl)
  refine GW.det (d := (some 61)) [] [] rfl (fun e => by rfl) ?_; apply Exists.intro; refine ⟨fun e w' F hs => ?_, ?_, ?_⟩
  · first | (go_simp; done) | (go_simp; rfl)
  · exact (fun _ _ _ => rfl)
  refine GW.new (d := (some 62)) 15 (fun x => .agg #[.int .i64 k1, .int .i64 c1, .slice x.1 sn1 x.2, .string (ByteArray.mk #[]), .int .i64 m1]) (fun x => slc 28 2 x.1 sn1 x.2 (avcells sl1)) [3] rfl rfl (fun e => by rfl) (fun e w' F K hs hK => ?_) ?_
  · go_simp; go_at_call 23; refine (x_Obj CK.hS3 (by omega) (show Sat w w' (heapR CW.mI p CK.S3 * F) from hs) 1 HO.out.1 hsn1).mono ?_; rintro e1 w1 ⟨oa, oc, rfl, hv⟩; exact ⟨_, rfl, hK (oa, oc) _ (hv.cast (mul_left_comm _ _ _))⟩
  refine GW.det (d := (some 63)) [] [15] rfl (fun e => by rfl) ?_; apply Exists.intro; refine ⟨fun e w' F hs => ?_, ?_, ?_⟩
  · first | (go_simp; done) | (go_simp; rfl)
  · exact (fun e e' hl => by first | rfl | simp only [hl 15 (by decide)])
  refine GW.det (d := (some 64)) [] [15] rfl (fun e => by rfl) ?_; apply Exists.intro; refine ⟨fun e w' F hs => ?_, ?_, ?_⟩
  · first | (go_simp; done) | (go_simp; rfl)
  · exact (fun e e' hl => by first | rfl | simp only [hl 15 (by decide)])
  refine GW.det (d := (some 65)) [] [15] rfl (fun e => by rfl) ?_; apply Exists.intro; refine ⟨fun e w' F hs => ?_, ?_, ?_⟩
  · first | (go_simp; done) | (go_simp; rfl)
  · exact (fun e e' hl => by first | rfl | simp only [hl 15 (by decide)])
  refine GW.det (d := (some 66)) [] [15] rfl (fun e => by rfl) ?_; apply Exists.intro; refine ⟨fun e w' F hs => ?_, ?_, ?_⟩
  · first | (go_simp; done) | (go_simp; rfl)
  · exact (fun e e' hl => by first | rfl | simp only [hl 15 (by decide)])
  refine GW.det (d := (some 67)) [] [] rfl (fun e => by rfl) ?_; apply Exists.intro; refine ⟨fun e w' F hs => ?_, ?_, ?_⟩
  · first | (go_simp; done) | (go_simp; rfl)
  · exact (fun _ _ _ => rfl)
  refine GW.new (d := (some 68)) 21 (fun x => .agg #[.int .i64 k2, .int .i64 c2, .slice x.1 sn2 x.2, .string (ByteArray.mk #[120]), .int .i64 m2]) (fun x => slc 28 2 x.1 sn2 x.2 (avcells sl2)) [3] rfl rfl (fun e => by rfl) (fun e w' F K hs hK => ?_) ?_
  · go_simp; go_at_call 23; refine (x_Obj CK.hS3 (by omega) (show Sat w w' (heapR CW.mI p CK.S3 * F) from hs) 2 HO.out.2 hsn2).mono ?_; rintro e1 w1 ⟨oa, oc, rfl, hv⟩; exact ⟨_, rfl, hK (oa, oc) _ (hv.cast (mul_left_comm _ _ _))⟩
  refine GW.det (d := (some 69)) [] [21] rfl (fun e => by rfl) ?_; apply Exists.intro; refine ⟨fun e w' F hs => ?_, ?_, ?_⟩
  · first | (go_simp; done) | (go_simp; rfl)
  · exact (fun e e' hl => by first | rfl | simp only [hl 21 (by decide)])
  refine GW.det (d := (some 70)) [] [21] rfl (fun e => by rfl) ?_; apply Exists.intro; refine ⟨fun e w' F hs => ?_, ?_, ?_⟩
  · first | (go_simp; done) | (go_simp; rfl)
  · exact (fun e e' hl => by first | rfl | simp only [hl 21 (by decide)])
  refine GW.det (d := (some 71)) [] [15, 21] rfl (fun e => by rfl) ?_; apply Exists.intro; refine ⟨fun e w' F hs => ?_, ?_, ?_⟩
  · first | (go_simp; done) | (go_simp; rfl)
  · exact (fun e e' hl => by first | rfl | simp only [hl 15 (by decide), hl 21 (by decide)])
  refine GW.det (d := (some 72)) [] [15, 21] rfl (fun e => by rfl) ?_; apply Exists.intro; refine ⟨fun e w' F hs => ?_, ?_, ?_⟩
  · first | (go_simp; done) | (go_simp; rfl)
  · exact (fun e e' hl => by first | rfl | simp only [hl 15 (by decide), hl 21 (by decide)])
  refine GW.det (d := (some 73)) [] [] rfl (fun e => by rfl) ?_; apply Exists.intro; refine ⟨fun e w' F hs => ?_, ?_, ?_⟩
  · first | (go_simp; done) | (go_simp; rfl)
  · exact (fun _ _ _ => rfl)
  refine GW.new (d := (some 74)) 27 (fun x => .slice x.1 4097 4097) (fun x => ex fun b => wh (x.1 = some ⟨b, 0, none⟩) (pt b (.cells (madeCells #[.int .u8 0] 4097) 5 (0, 0)))) [] rfl rfl (fun e => by rfl) (fun e w' F K hs hK => ?_) ?_
  · have hmk := mk_n w'; go_simp; exact hK (some ⟨_, 0, none⟩, 0) _ (mkTwo ((hs.alloc (.cells (madeCells #[.int .u8 0] 4097) 5 (0, 0))).cast (mul_left_comm _ _ _)) rfl)
  refine GW.det (d := (some 75)) [32] [27] rfl (fun e => by rfl) ?_; apply Exists.intro; refine ⟨fun e w' F hs => ?_, ?_, ?_⟩
  · obtain ⟨b, hs⟩ := Sat.elim_ex (show Sat w w' ((ex fun b => wh ((e 27).1 = some ⟨b, 0, none⟩) (pt b (.cells (madeCells #[.int .u8 0] 4097) 5 (0, 0)))) * F) from hs); obtain ⟨hb, hs⟩ := hs.elim_wh; have hcv := conv_n hs; first | (go_simp; done) | (go_simp; rfl)
  · exact (fun e e' hl => by first | rfl | simp only [hl 27 (by decide)])
  refine GW.keep (d := (some 76)) (fun e => .agg #[.int .i64 0, .int .i64 0]) [] [] rfl (fun e => by rfl) (fun _ _ _ => rfl) (fun e w' F K hs hK => ?_) ?_
  · go_simp; go_at_call 25; refine (heap_Make_no hs _ 5 (CK.tR 4097) (.inr CK.mkOk)).mono ?_; rintro e1 w1 ⟨rfl, hx⟩; exact ⟨_, rfl, hK _ hx⟩
  refine GW.det (d := (some 77)) [] [] rfl (fun e => by rfl) ?_; apply Exists.intro; refine ⟨fun e w' F hs => ?_, ?_, ?_⟩
  · first | (go_simp; done) | (go_simp; rfl)
  · exact (fun _ _ _ => rfl)
  refine GW.det (d := (some 78)) [] [] rfl (fun e => by rfl) ?_; apply Exists.intro; refine ⟨fun e w' F hs => ?_, ?_, ?_⟩
  · first | (go_simp; done) | (go_simp; rfl)
  · exact (fun _ _ _ => rfl)
  refine GW.det (d := (some 79)) [] [15, 21] rfl (fun e => by rfl) ?_; apply Exists.intro; refine ⟨fun e w' F hs => ?_, ?_, ?_⟩
  · first | (go_simp; done) | (go_simp; rfl)
  · exact (fun e e' hl => by first | rfl | simp only [hl 15 (by decide), hl 21 (by decide)])
  refine GW.done (sz := 660) [0, 1, 2, 3, 4] (by kernel_rfl) (by kernel_rfl) (by rw [HA.out]; rfl) (by rfl) h6 (by rfl) fun e w5 g5 => ?_
  have ha := HA.out
  subst ha
  clear HA hb1 hb2 hb3 hb4 H6 h6 HO hrt
  have hrc := run_count13
  generalize e 15 = x1
  generalize e 21 = x2
  generalize e 27 = x3
  simp only [putL, Act.put, List.setIfInBounds_toArray, List.set_cons_zero, List.set_cons_succ]
  have g5 : Sat w w5 (pt (q + 1 + 1) (.cells #[.int .i64 0, .int .i64 0] 28 (0, 0)) * (pt (q + 1) (.cells #[.int .i64 5, .int .i64 2] 28 (0, 0)) * (pt q (.cells #[.int .i64 6, .int .i64 1] 28 (0, 0)) * (heapR CW.mI p CK.S3 * (Old w))))) := g5
  go_wp2_with fail
  iterate 3 (try (with_reducible refine wt_succ ?_; go_wp2_with fail))
  refine wt_zero ?_
  exact hT _ _ _ _ _ rfl rfl rfl rfl rfl (g5.drop.p3)
end Go.Proofs.Ytkpcngcegipalaa.CKn
