/- tallowlaw17: both.do, other acts. No condition. -/
import Derived.Test.YtkpcngcegipalaaZPIn36
namespace Go.Proofs.Ytkpcngcegipalaa.Tw
set_option linter.unusedVariables false
set_option linter.unusedSimpArgs false
open Go Go.RowKit Go.MapKept

attribute [local go_sem] lookE lkE valUpon
section
variable {w0 w : World} {F : HP} {bb hp sp pp qp : Nat} {A : AHeap} {M : ByteArray → Option Int} {R : List ARow} {B : Int} {N : Nat}
set_option maxRecDepth 100000 in
set_option maxHeartbeats 4000000 in
theorem i_do_5 (c : IC A M R B N) (h : Sat w0 w (row bb 58 #[.pointer (some ⟨hp, 0, none⟩), .pointer (some ⟨sp, 0, none⟩), .pointer (some ⟨pp, 0, none⟩), .pointer (some ⟨qp, 0, none⟩)] * (heapR mN hp (A) * (strR sp hp (M) * (refR13 pp (A) * (refS qp pp (R))))) * F)) (tx : ByteArray) (vk vn : Int) :
    Calls Try.prog 28 #[.pointer (some ⟨bb, 0, none⟩), .agg #[.int .i64 5, .string tx, .int .i64 vk, .int .i64 vn]] w fun e w' => e = .returned (.bool true) ∧ Sat w0 w' (row bb 58 #[.pointer (some ⟨hp, 0, none⟩), .pointer (some ⟨sp, 0, none⟩), .pointer (some ⟨pp, 0, none⟩), .pointer (some ⟨qp, 0, none⟩)] * (heapR mN hp (A.drop ⟨vk, vn⟩) * (strR sp hp (M) * (refR13 pp (A.drop ⟨vk, vn⟩) * (refS qp pp (R))))) * F) := by
  have hB := c.hB
  have hRl : R.length ≤ 1000000 := by have := c.hR; omega
  have hW : A.watch.length ≤ 1000000 := by have := c.hW; omega
  obtain ⟨e0, he0⟩ : ∃ e, cntE A ⟨vk, vn⟩ = e := ⟨_, rfl⟩
  have h1 : Sat w0 (w.alloc (.cells #[.int .i64 5, .string tx, .int .i64 vk, .int .i64 vn] 61)) (row bb 58 #[.pointer (some ⟨hp, 0, none⟩), .pointer (some ⟨sp, 0, none⟩), .pointer (some ⟨pp, 0, none⟩), .pointer (some ⟨qp, 0, none⟩)] * (heapR mN hp A * (strR sp hp M * (refR13 pp A * (refS qp pp R * (pt w.heap.size (.cells #[.int .i64 5, .string tx, .int .i64 vk, .int .i64 vn] 61 (0, 0)) * (F))))))) := (h.alloc (.cells #[.int .i64 5, .string tx, .int .i64 vk, .int .i64 vn] 61)).cast (by ac_rfl)
  generalize hxb : w.heap.size = xb at *
  have C := Lib.hid c
  have ⟨c0, c1, c2, c3⟩ := act17c (h1.p6)
  obtain ⟨tn, htn⟩ : ∃ q : Nat, q = min tx.size 5000 := ⟨_, rfl⟩
  have htx : txc tx 5000 = tx.extract 0 tn := by unfold txc; rw [htn]
  have ht1 : (if (5000 : Int) < (tx.size : Int) then (5000 : Int) else (tx.size : Int)) = (tn : Int) := by split <;> omega
  have ht2 : min (tx.size : Int) 5000 = (tn : Int) := by omega
  have ht3 : tn ≤ tx.size := by omega
  have ht4 : ((tn : Int)).toNat = tn := rfl
  have ht5 : (tn : Int) ≤ (tx.size : Int) := by omega
  have ht6 : (0 : Int) ≤ (tn : Int) := by omega
  obtain ⟨qv, hqv⟩ : ∃ q, (if 1000 < vn then (1000 : Int) else vn) = q := ⟨_, rfl⟩
  obtain ⟨cv, hcv⟩ : ∃ q, (if 0 < qv then qv else (0 : Int)) = q := ⟨_, rfl⟩
  have HCV := Lib.hid (show clamp17 vn = cv from by unfold clamp17; rw [hqv, hcv])
  obtain ⟨tt, htt⟩ : ∃ q, tx.extract 0 tn = q := ⟨_, rfl⟩
  have HTT := Lib.hid (show txc tx 5000 = tt from by rw [htx, htt])
  clear h c htx htn
  have HS0 := Lib.hid h1
  clear h1
  go_enter Try.func28, Try.ntmps28
  go_wp2_with fail
  clear c0 c1 c2 c3
  refine wp_gen fun a0 ha => ?_
  have hb0 : base a0 0 = .pointer (some ⟨bb, 0, none⟩) := by rw [ha]; rfl
  have hb3 : base a0 3 = .pointer (some ⟨xb, 0, none⟩) := by rw [ha]; rfl
  have hsz0 : a0.tmps.size = 229 := by rw [ha]; rfl
  have HA0 := Lib.hid (And.intro hsz0 ha)
  clear ha hsz0
  refine GW.start (X := Option Addr × Nat) (w0 := w0) (B := [row bb 58 #[.pointer (some ⟨hp, 0, none⟩), .pointer (some ⟨sp, 0, none⟩), .pointer (some ⟨pp, 0, none⟩), .pointer (some ⟨qp, 0, none⟩)], heapR mN hp A, strR sp hp M, refR13 pp A, refS qp pp R, pt xb (.cells #[.int .i64 5, .string tx, .int .i64 vk, .int .i64 vn] 61 (0, 0)), F]) (a0 := a0) ?_
  refine GW.det (d := (some 82)) [] [] rfl (fun e => by rfl) ?_; apply Exists.intro; refine ⟨fun e w' F hs => ?_, ?_, ?_⟩
  · first | (go_simp; done) | (go_simp; rfl)
  · exact (fun _ _ _ => rfl)
  refine GW.det (d := (some 83)) [] [] rfl (fun e => by rfl) ?_; apply Exists.intro; refine ⟨fun e w' F hs => ?_, ?_, ?_⟩
  · first | (go_simp; done) | (go_simp; rfl)
  · exact (fun _ _ _ => rfl)
  refine GW.det (d := (some 84)) [] [] rfl (fun e => by rfl) ?_; apply Exists.intro; refine ⟨fun e w' F hs => ?_, ?_, ?_⟩
  · first | (go_simp; done) | (go_simp; rfl)
  · exact (fun _ _ _ => rfl)
  refine GW.det (d := (some 85)) [0] [] rfl (fun e => by rfl) ?_; apply Exists.intro; refine ⟨fun e w' F hs => ?_, ?_, ?_⟩
  · have y0 : w'.cell? ⟨bb, 0, none⟩ = some (.pointer (some ⟨hp, 0, none⟩)) := (show Sat w0 w' (row bb 58 #[.pointer (some ⟨hp, 0, none⟩), .pointer (some ⟨sp, 0, none⟩), .pointer (some ⟨pp, 0, none⟩), .pointer (some ⟨qp, 0, none⟩)] * F) from hs).cell 0 rfl; first | (go_simp; done) | (go_simp; rfl)
  · exact (fun _ _ _ => rfl)
  refine GW.det (d := (some 86)) [] [] rfl (fun e => by rfl) ?_; apply Exists.intro; refine ⟨fun e w' F hs => ?_, ?_, ?_⟩
  · first | (go_simp; done) | (go_simp; rfl)
  · exact (fun _ _ _ => rfl)
  refine GW.det (d := (some 87)) [5] [] rfl (fun e => by rfl) ?_; apply Exists.intro; refine ⟨fun e w' F hs => ?_, ?_, ?_⟩
  · have ⟨y0, y1, y2, y3⟩ := act17c (show Sat w0 w' (pt xb (.cells #[.int .i64 5, .string tx, .int .i64 vk, .int .i64 vn] 61 (0, 0)) * F) from hs); first | (go_simp; done) | (go_simp; rfl)
  · exact (fun _ _ _ => rfl)
  refine GW.take (d := (some 88)) 6 (fun e => .int .i64 e0) (fun e => heapR mN hp (A.drop ⟨vk, vn⟩)) [] [1] [] rfl rfl (fun e => by rfl) (fun e e' hl => by exact ⟨rfl, rfl⟩) (fun e w' F K hs hK => ?_) ?_
  · go_simp; (refine (x_Drop C.out.H hB (knowsN _) (one_out hs : Sat w0 w' (heapR mN hp A * F)) vk vn he0).mono ?_; rintro e2 w2 ⟨rfl, h2⟩; exact ⟨_, rfl, hK default _ (one_in h2)⟩)
  refine GW.det (d := (some 89)) [] [] rfl (fun e => by rfl) ?_; apply Exists.intro; refine ⟨fun e w' F hs => ?_, ?_, ?_⟩
  · first | (go_simp; done) | (go_simp; rfl)
  · exact (fun _ _ _ => rfl)
  refine GW.det (d := (some 90)) [] [] rfl (fun e => by rfl) ?_; apply Exists.intro; refine ⟨fun e w' F hs => ?_, ?_, ?_⟩
  · first | (go_simp; done) | (go_simp; rfl)
  · exact (fun _ _ _ => rfl)
  refine GW.det (d := (some 91)) [] [] rfl (fun e => by rfl) ?_; apply Exists.intro; refine ⟨fun e w' F hs => ?_, ?_, ?_⟩
  · first | (go_simp; done) | (go_simp; rfl)
  · exact (fun _ _ _ => rfl)
  refine GW.det (d := (some 92)) [0] [] rfl (fun e => by rfl) ?_; apply Exists.intro; refine ⟨fun e w' F hs => ?_, ?_, ?_⟩
  · have y0 : w'.cell? ⟨bb, 2, none⟩ = some (.pointer (some ⟨pp, 0, none⟩)) := (show Sat w0 w' (row bb 58 #[.pointer (some ⟨hp, 0, none⟩), .pointer (some ⟨sp, 0, none⟩), .pointer (some ⟨pp, 0, none⟩), .pointer (some ⟨qp, 0, none⟩)] * F) from hs).cell 2 rfl; first | (go_simp; done) | (go_simp; rfl)
  · exact (fun _ _ _ => rfl)
  refine GW.det (d := (some 93)) [] [] rfl (fun e => by rfl) ?_; apply Exists.intro; refine ⟨fun e w' F hs => ?_, ?_, ?_⟩
  · first | (go_simp; done) | (go_simp; rfl)
  · exact (fun _ _ _ => rfl)
  refine GW.det (d := (some 94)) [5] [] rfl (fun e => by rfl) ?_; apply Exists.intro; refine ⟨fun e w' F hs => ?_, ?_, ?_⟩
  · have ⟨y0, y1, y2, y3⟩ := act17c (show Sat w0 w' (pt xb (.cells #[.int .i64 5, .string tx, .int .i64 vk, .int .i64 vn] 61 (0, 0)) * F) from hs); first | (go_simp; done) | (go_simp; rfl)
  · exact (fun _ _ _ => rfl)
  refine GW.take (d := (some 95)) 13 (fun e => .int .i64 e0) (fun e => refR13 pp (A.drop ⟨vk, vn⟩)) [] [3] [] rfl rfl (fun e => by rfl) (fun e e' hl => by exact ⟨rfl, rfl⟩) (fun e w' F K hs hK => ?_) ?_
  · go_simp; (refine (r_Drop C.out.H hB hW (one_out hs : Sat w0 w' (refR13 pp A * F)) vk vn he0).mono ?_; rintro e2 w2 ⟨rfl, h2⟩; exact ⟨_, rfl, hK default _ (one_in h2)⟩)
  refine GW.det (d := (some 96)) [] [] rfl (fun e => by rfl) ?_; apply Exists.intro; refine ⟨fun e w' F hs => ?_, ?_, ?_⟩
  · first | (go_simp; done) | (go_simp; rfl)
  · exact (fun _ _ _ => rfl)
  refine GW.det (d := (some 4)) [] [] rfl (fun e => by rfl) ?_; apply Exists.intro; refine ⟨fun e w' F hs => ?_, ?_, ?_⟩
  · first | (go_simp; done) | (go_simp; rfl)
  · exact (fun _ _ _ => rfl)
  refine GW.done (sz := 229) [7 + 6, 7 + 13, 0, 2, 4, 6] (by kernel_rfl) (by kernel_rfl) HA0.out.1 (by rfl) HS0.out (by rfl) fun e w3 gg => ?_
  have ha := HA0.out.2
  subst ha
  clear HA0 hb0 hb3
  simp only [putL, Act.put, List.setIfInBounds_toArray, List.set_cons_zero, List.set_cons_succ]
  have h3 : Sat w0 w3 (heapR mN hp (A.drop ⟨vk, vn⟩) * (refR13 pp (A.drop ⟨vk, vn⟩) * (row bb 58 #[.pointer (some ⟨hp, 0, none⟩), .pointer (some ⟨sp, 0, none⟩), .pointer (some ⟨pp, 0, none⟩), .pointer (some ⟨qp, 0, none⟩)] * (strR sp hp M * (refS qp pp R * (F)))))) := gg
  have HF := Lib.hid (show Sat w0 w3 (row bb 58 #[.pointer (some ⟨hp, 0, none⟩), .pointer (some ⟨sp, 0, none⟩), .pointer (some ⟨pp, 0, none⟩), .pointer (some ⟨qp, 0, none⟩)] * (heapR mN hp (A.drop ⟨vk, vn⟩) * (strR sp hp (M) * (refR13 pp (A.drop ⟨vk, vn⟩) * (refS qp pp (R))))) * F) from h3.cast (by ac_rfl))
  clear gg h3
  go_wp2_with fail
  go_ret
  exact ⟨rfl, HF.out⟩
set_option maxRecDepth 100000 in
set_option maxHeartbeats 4000000 in
theorem i_do_6 (c : IC A M R B N) (h : Sat w0 w (row bb 58 #[.pointer (some ⟨hp, 0, none⟩), .pointer (some ⟨sp, 0, none⟩), .pointer (some ⟨pp, 0, none⟩), .pointer (some ⟨qp, 0, none⟩)] * (heapR mN hp (A) * (strR sp hp (M) * (refR13 pp (A) * (refS qp pp (R))))) * F)) (tx : ByteArray) (vk vn : Int) :
    Calls Try.prog 28 #[.pointer (some ⟨bb, 0, none⟩), .agg #[.int .i64 6, .string tx, .int .i64 vk, .int .i64 vn]] w fun e w' => e = .returned (.bool true) ∧ Sat w0 w' (row bb 58 #[.pointer (some ⟨hp, 0, none⟩), .pointer (some ⟨sp, 0, none⟩), .pointer (some ⟨pp, 0, none⟩), .pointer (some ⟨qp, 0, none⟩)] * (heapR mN hp (A.drop ⟨vk, vn⟩) * (strR sp hp (M) * (refR13 pp (A.drop ⟨vk, vn⟩) * (refS qp pp (R))))) * F) := by
  have hB := c.hB
  have hRl : R.length ≤ 1000000 := by have := c.hR; omega
  have hW : A.watch.length ≤ 1000000 := by have := c.hW; omega
  obtain ⟨e0, he0⟩ : ∃ e, cntE A ⟨vk, vn⟩ = e := ⟨_, rfl⟩
  have h1 : Sat w0 (w.alloc (.cells #[.int .i64 6, .string tx, .int .i64 vk, .int .i64 vn] 61)) (row bb 58 #[.pointer (some ⟨hp, 0, none⟩), .pointer (some ⟨sp, 0, none⟩), .pointer (some ⟨pp, 0, none⟩), .pointer (some ⟨qp, 0, none⟩)] * (heapR mN hp A * (strR sp hp M * (refR13 pp A * (refS qp pp R * (pt w.heap.size (.cells #[.int .i64 6, .string tx, .int .i64 vk, .int .i64 vn] 61 (0, 0)) * (F))))))) := (h.alloc (.cells #[.int .i64 6, .string tx, .int .i64 vk, .int .i64 vn] 61)).cast (by ac_rfl)
  generalize hxb : w.heap.size = xb at *
  have C := Lib.hid c
  have ⟨c0, c1, c2, c3⟩ := act17c (h1.p6)
  obtain ⟨tn, htn⟩ : ∃ q : Nat, q = min tx.size 5000 := ⟨_, rfl⟩
  have htx : txc tx 5000 = tx.extract 0 tn := by unfold txc; rw [htn]
  have ht1 : (if (5000 : Int) < (tx.size : Int) then (5000 : Int) else (tx.size : Int)) = (tn : Int) := by split <;> omega
  have ht2 : min (tx.size : Int) 5000 = (tn : Int) := by omega
  have ht3 : tn ≤ tx.size := by omega
  have ht4 : ((tn : Int)).toNat = tn := rfl
  have ht5 : (tn : Int) ≤ (tx.size : Int) := by omega
  have ht6 : (0 : Int) ≤ (tn : Int) := by omega
  obtain ⟨qv, hqv⟩ : ∃ q, (if 1000 < vn then (1000 : Int) else vn) = q := ⟨_, rfl⟩
  obtain ⟨cv, hcv⟩ : ∃ q, (if 0 < qv then qv else (0 : Int)) = q := ⟨_, rfl⟩
  have HCV := Lib.hid (show clamp17 vn = cv from by unfold clamp17; rw [hqv, hcv])
  obtain ⟨tt, htt⟩ : ∃ q, tx.extract 0 tn = q := ⟨_, rfl⟩
  have HTT := Lib.hid (show txc tx 5000 = tt from by rw [htx, htt])
  clear h c htx htn
  have HS0 := Lib.hid h1
  clear h1
  go_enter Try.func28, Try.ntmps28
  go_wp2_with fail
  clear c0 c1 c2 c3
  refine wp_gen fun a0 ha => ?_
  have hb0 : base a0 0 = .pointer (some ⟨bb, 0, none⟩) := by rw [ha]; rfl
  have hb3 : base a0 3 = .pointer (some ⟨xb, 0, none⟩) := by rw [ha]; rfl
  have hsz0 : a0.tmps.size = 229 := by rw [ha]; rfl
  have HA0 := Lib.hid (And.intro hsz0 ha)
  clear ha hsz0
  refine GW.start (X := Option Addr × Nat) (w0 := w0) (B := [row bb 58 #[.pointer (some ⟨hp, 0, none⟩), .pointer (some ⟨sp, 0, none⟩), .pointer (some ⟨pp, 0, none⟩), .pointer (some ⟨qp, 0, none⟩)], heapR mN hp A, strR sp hp M, refR13 pp A, refS qp pp R, pt xb (.cells #[.int .i64 6, .string tx, .int .i64 vk, .int .i64 vn] 61 (0, 0)), F]) (a0 := a0) ?_
  refine GW.det (d := (some 82)) [] [] rfl (fun e => by rfl) ?_; apply Exists.intro; refine ⟨fun e w' F hs => ?_, ?_, ?_⟩
  · first | (go_simp; done) | (go_simp; rfl)
  · exact (fun _ _ _ => rfl)
  refine GW.det (d := (some 83)) [] [] rfl (fun e => by rfl) ?_; apply Exists.intro; refine ⟨fun e w' F hs => ?_, ?_, ?_⟩
  · first | (go_simp; done) | (go_simp; rfl)
  · exact (fun _ _ _ => rfl)
  refine GW.det (d := (some 84)) [] [] rfl (fun e => by rfl) ?_; apply Exists.intro; refine ⟨fun e w' F hs => ?_, ?_, ?_⟩
  · first | (go_simp; done) | (go_simp; rfl)
  · exact (fun _ _ _ => rfl)
  refine GW.det (d := (some 85)) [0] [] rfl (fun e => by rfl) ?_; apply Exists.intro; refine ⟨fun e w' F hs => ?_, ?_, ?_⟩
  · have y0 : w'.cell? ⟨bb, 0, none⟩ = some (.pointer (some ⟨hp, 0, none⟩)) := (show Sat w0 w' (row bb 58 #[.pointer (some ⟨hp, 0, none⟩), .pointer (some ⟨sp, 0, none⟩), .pointer (some ⟨pp, 0, none⟩), .pointer (some ⟨qp, 0, none⟩)] * F) from hs).cell 0 rfl; first | (go_simp; done) | (go_simp; rfl)
  · exact (fun _ _ _ => rfl)
  refine GW.det (d := (some 86)) [] [] rfl (fun e => by rfl) ?_; apply Exists.intro; refine ⟨fun e w' F hs => ?_, ?_, ?_⟩
  · first | (go_simp; done) | (go_simp; rfl)
  · exact (fun _ _ _ => rfl)
  refine GW.det (d := (some 87)) [5] [] rfl (fun e => by rfl) ?_; apply Exists.intro; refine ⟨fun e w' F hs => ?_, ?_, ?_⟩
  · have ⟨y0, y1, y2, y3⟩ := act17c (show Sat w0 w' (pt xb (.cells #[.int .i64 6, .string tx, .int .i64 vk, .int .i64 vn] 61 (0, 0)) * F) from hs); first | (go_simp; done) | (go_simp; rfl)
  · exact (fun _ _ _ => rfl)
  refine GW.take (d := (some 88)) 6 (fun e => .int .i64 e0) (fun e => heapR mN hp (A.drop ⟨vk, vn⟩)) [] [1] [] rfl rfl (fun e => by rfl) (fun e e' hl => by exact ⟨rfl, rfl⟩) (fun e w' F K hs hK => ?_) ?_
  · go_simp; (refine (x_Drop C.out.H hB (knowsN _) (one_out hs : Sat w0 w' (heapR mN hp A * F)) vk vn he0).mono ?_; rintro e2 w2 ⟨rfl, h2⟩; exact ⟨_, rfl, hK default _ (one_in h2)⟩)
  refine GW.det (d := (some 89)) [] [] rfl (fun e => by rfl) ?_; apply Exists.intro; refine ⟨fun e w' F hs => ?_, ?_, ?_⟩
  · first | (go_simp; done) | (go_simp; rfl)
  · exact (fun _ _ _ => rfl)
  refine GW.det (d := (some 90)) [] [] rfl (fun e => by rfl) ?_; apply Exists.intro; refine ⟨fun e w' F hs => ?_, ?_, ?_⟩
  · first | (go_simp; done) | (go_simp; rfl)
  · exact (fun _ _ _ => rfl)
  refine GW.det (d := (some 91)) [] [] rfl (fun e => by rfl) ?_; apply Exists.intro; refine ⟨fun e w' F hs => ?_, ?_, ?_⟩
  · first | (go_simp; done) | (go_simp; rfl)
  · exact (fun _ _ _ => rfl)
  refine GW.det (d := (some 92)) [0] [] rfl (fun e => by rfl) ?_; apply Exists.intro; refine ⟨fun e w' F hs => ?_, ?_, ?_⟩
  · have y0 : w'.cell? ⟨bb, 2, none⟩ = some (.pointer (some ⟨pp, 0, none⟩)) := (show Sat w0 w' (row bb 58 #[.pointer (some ⟨hp, 0, none⟩), .pointer (some ⟨sp, 0, none⟩), .pointer (some ⟨pp, 0, none⟩), .pointer (some ⟨qp, 0, none⟩)] * F) from hs).cell 2 rfl; first | (go_simp; done) | (go_simp; rfl)
  · exact (fun _ _ _ => rfl)
  refine GW.det (d := (some 93)) [] [] rfl (fun e => by rfl) ?_; apply Exists.intro; refine ⟨fun e w' F hs => ?_, ?_, ?_⟩
  · first | (go_simp; done) | (go_simp; rfl)
  · exact (fun _ _ _ => rfl)
  refine GW.det (d := (some 94)) [5] [] rfl (fun e => by rfl) ?_; apply Exists.intro; refine ⟨fun e w' F hs => ?_, ?_, ?_⟩
  · have ⟨y0, y1, y2, y3⟩ := act17c (show Sat w0 w' (pt xb (.cells #[.int .i64 6, .string tx, .int .i64 vk, .int .i64 vn] 61 (0, 0)) * F) from hs); first | (go_simp; done) | (go_simp; rfl)
  · exact (fun _ _ _ => rfl)
  refine GW.take (d := (some 95)) 13 (fun e => .int .i64 e0) (fun e => refR13 pp (A.drop ⟨vk, vn⟩)) [] [3] [] rfl rfl (fun e => by rfl) (fun e e' hl => by exact ⟨rfl, rfl⟩) (fun e w' F K hs hK => ?_) ?_
  · go_simp; (refine (r_Drop C.out.H hB hW (one_out hs : Sat w0 w' (refR13 pp A * F)) vk vn he0).mono ?_; rintro e2 w2 ⟨rfl, h2⟩; exact ⟨_, rfl, hK default _ (one_in h2)⟩)
  refine GW.det (d := (some 96)) [] [] rfl (fun e => by rfl) ?_; apply Exists.intro; refine ⟨fun e w' F hs => ?_, ?_, ?_⟩
  · first | (go_simp; done) | (go_simp; rfl)
  · exact (fun _ _ _ => rfl)
  refine GW.det (d := (some 4)) [] [] rfl (fun e => by rfl) ?_; apply Exists.intro; refine ⟨fun e w' F hs => ?_, ?_, ?_⟩
  · first | (go_simp; done) | (go_simp; rfl)
  · exact (fun _ _ _ => rfl)
  refine GW.done (sz := 229) [7 + 6, 7 + 13, 0, 2, 4, 6] (by kernel_rfl) (by kernel_rfl) HA0.out.1 (by rfl) HS0.out (by rfl) fun e w3 gg => ?_
  have ha := HA0.out.2
  subst ha
  clear HA0 hb0 hb3
  simp only [putL, Act.put, List.setIfInBounds_toArray, List.set_cons_zero, List.set_cons_succ]
  have h3 : Sat w0 w3 (heapR mN hp (A.drop ⟨vk, vn⟩) * (refR13 pp (A.drop ⟨vk, vn⟩) * (row bb 58 #[.pointer (some ⟨hp, 0, none⟩), .pointer (some ⟨sp, 0, none⟩), .pointer (some ⟨pp, 0, none⟩), .pointer (some ⟨qp, 0, none⟩)] * (strR sp hp M * (refS qp pp R * (F)))))) := gg
  have HF := Lib.hid (show Sat w0 w3 (row bb 58 #[.pointer (some ⟨hp, 0, none⟩), .pointer (some ⟨sp, 0, none⟩), .pointer (some ⟨pp, 0, none⟩), .pointer (some ⟨qp, 0, none⟩)] * (heapR mN hp (A.drop ⟨vk, vn⟩) * (strR sp hp (M) * (refR13 pp (A.drop ⟨vk, vn⟩) * (refS qp pp (R))))) * F) from h3.cast (by ac_rfl))
  clear gg h3
  go_wp2_with fail
  go_ret
  exact ⟨rfl, HF.out⟩
set_option maxRecDepth 100000 in
set_option maxHeartbeats 4000000 in
theorem i_do_8 (c : IC A M R B N) (h : Sat w0 w (row bb 58 #[.pointer (some ⟨hp, 0, none⟩), .pointer (some ⟨sp, 0, none⟩), .pointer (some ⟨pp, 0, none⟩), .pointer (some ⟨qp, 0, none⟩)] * (heapR mN hp (A) * (strR sp hp (M) * (refR13 pp (A) * (refS qp pp (R))))) * F)) (tx : ByteArray) (vk vn : Int) :
    Calls Try.prog 28 #[.pointer (some ⟨bb, 0, none⟩), .agg #[.int .i64 8, .string tx, .int .i64 vk, .int .i64 vn]] w fun e w' => e = .returned (.bool true) ∧ Sat w0 w' (row bb 58 #[.pointer (some ⟨hp, 0, none⟩), .pointer (some ⟨sp, 0, none⟩), .pointer (some ⟨pp, 0, none⟩), .pointer (some ⟨qp, 0, none⟩)] * (heapR mN hp (A.makeF vk (txc tx 5000)) * (strR sp hp (M) * (refR13 pp (A.makeF vk (txc tx 5000)) * (refS qp pp (R))))) * F) := by
  have hB := c.hB
  have hRl : R.length ≤ 1000000 := by have := c.hR; omega
  have hW : A.watch.length ≤ 1000000 := by have := c.hW; omega
  have h1 : Sat w0 (w.alloc (.cells #[.int .i64 8, .string tx, .int .i64 vk, .int .i64 vn] 61)) (row bb 58 #[.pointer (some ⟨hp, 0, none⟩), .pointer (some ⟨sp, 0, none⟩), .pointer (some ⟨pp, 0, none⟩), .pointer (some ⟨qp, 0, none⟩)] * (heapR mN hp A * (strR sp hp M * (refR13 pp A * (refS qp pp R * (pt w.heap.size (.cells #[.int .i64 8, .string tx, .int .i64 vk, .int .i64 vn] 61 (0, 0)) * (F))))))) := (h.alloc (.cells #[.int .i64 8, .string tx, .int .i64 vk, .int .i64 vn] 61)).cast (by ac_rfl)
  generalize hxb : w.heap.size = xb at *
  have C := Lib.hid c
  have ⟨c0, c1, c2, c3⟩ := act17c (h1.p6)
  obtain ⟨tn, htn⟩ : ∃ q : Nat, q = min tx.size 5000 := ⟨_, rfl⟩
  have htx : txc tx 5000 = tx.extract 0 tn := by unfold txc; rw [htn]
  have ht1 : (if (5000 : Int) < (tx.size : Int) then (5000 : Int) else (tx.size : Int)) = (tn : Int) := by split <;> omega
  have ht2 : min (tx.size : Int) 5000 = (tn : Int) := by omega
  have ht3 : tn ≤ tx.size := by omega
  have ht4 : ((tn : Int)).toNat = tn := rfl
  have ht5 : (tn : Int) ≤ (tx.size : Int) := by omega
  have ht6 : (0 : Int) ≤ (tn : Int) := by omega
  obtain ⟨qv, hqv⟩ : ∃ q, (if 1000 < vn then (1000 : Int) else vn) = q := ⟨_, rfl⟩
  obtain ⟨cv, hcv⟩ : ∃ q, (if 0 < qv then qv else (0 : Int)) = q := ⟨_, rfl⟩
  have HCV := Lib.hid (show clamp17 vn = cv from by unfold clamp17; rw [hqv, hcv])
  obtain ⟨tt, htt⟩ : ∃ q, tx.extract 0 tn = q := ⟨_, rfl⟩
  have HTT := Lib.hid (show txc tx 5000 = tt from by rw [htx, htt])
  clear h c htx htn
  obtain ⟨v, hv⟩ : ∃ v, A.makeV vk tt = v := ⟨_, rfl⟩
  have HV := Lib.hid hv
  rw [HTT.out]
  clear hv
  have HS0 := Lib.hid h1
  clear h1
  go_enter Try.func28, Try.ntmps28
  go_wp2_with fail
  clear c0 c1 c2 c3
  refine wp_gen fun a0 ha => ?_
  have hb0 : base a0 0 = .pointer (some ⟨bb, 0, none⟩) := by rw [ha]; rfl
  have hb3 : base a0 3 = .pointer (some ⟨xb, 0, none⟩) := by rw [ha]; rfl
  have hb5 : base a0 5 = .string tt := by rw [ha]; rfl
  have hsz0 : a0.tmps.size = 229 := by rw [ha]; rfl
  have HA0 := Lib.hid (And.intro hsz0 ha)
  clear ha hsz0
  refine GW.start (X := Option Addr × Nat) (w0 := w0) (B := [row bb 58 #[.pointer (some ⟨hp, 0, none⟩), .pointer (some ⟨sp, 0, none⟩), .pointer (some ⟨pp, 0, none⟩), .pointer (some ⟨qp, 0, none⟩)], heapR mN hp A, strR sp hp M, refR13 pp A, refS qp pp R, pt xb (.cells #[.int .i64 8, .string tx, .int .i64 vk, .int .i64 vn] 61 (0, 0)), F]) (a0 := a0) ?_
  refine GW.det (d := (some 132)) [] [] rfl (fun e => by rfl) ?_; apply Exists.intro; refine ⟨fun e w' F hs => ?_, ?_, ?_⟩
  · first | (go_simp; done) | (go_simp; rfl)
  · exact (fun _ _ _ => rfl)
  refine GW.det (d := (some 133)) [] [] rfl (fun e => by rfl) ?_; apply Exists.intro; refine ⟨fun e w' F hs => ?_, ?_, ?_⟩
  · first | (go_simp; done) | (go_simp; rfl)
  · exact (fun _ _ _ => rfl)
  refine GW.det (d := (some 134)) [] [] rfl (fun e => by rfl) ?_; apply Exists.intro; refine ⟨fun e w' F hs => ?_, ?_, ?_⟩
  · first | (go_simp; done) | (go_simp; rfl)
  · exact (fun _ _ _ => rfl)
  refine GW.det (d := (some 135)) [0] [] rfl (fun e => by rfl) ?_; apply Exists.intro; refine ⟨fun e w' F hs => ?_, ?_, ?_⟩
  · have y0 : w'.cell? ⟨bb, 0, none⟩ = some (.pointer (some ⟨hp, 0, none⟩)) := (show Sat w0 w' (row bb 58 #[.pointer (some ⟨hp, 0, none⟩), .pointer (some ⟨sp, 0, none⟩), .pointer (some ⟨pp, 0, none⟩), .pointer (some ⟨qp, 0, none⟩)] * F) from hs).cell 0 rfl; first | (go_simp; done) | (go_simp; rfl)
  · exact (fun _ _ _ => rfl)
  refine GW.det (d := (some 136)) [] [] rfl (fun e => by rfl) ?_; apply Exists.intro; refine ⟨fun e w' F hs => ?_, ?_, ?_⟩
  · first | (go_simp; done) | (go_simp; rfl)
  · exact (fun _ _ _ => rfl)
  refine GW.det (d := (some 137)) [] [] rfl (fun e => by rfl) ?_; apply Exists.intro; refine ⟨fun e w' F hs => ?_, ?_, ?_⟩
  · first | (go_simp; done) | (go_simp; rfl)
  · exact (fun _ _ _ => rfl)
  refine GW.det (d := (some 138)) [5] [] rfl (fun e => by rfl) ?_; apply Exists.intro; refine ⟨fun e w' F hs => ?_, ?_, ?_⟩
  · have ⟨y0, y1, y2, y3⟩ := act17c (show Sat w0 w' (pt xb (.cells #[.int .i64 8, .string tx, .int .i64 vk, .int .i64 vn] 61 (0, 0)) * F) from hs); first | (go_simp; done) | (go_simp; rfl)
  · exact (fun _ _ _ => rfl)
  refine GW.det (d := (some 139)) [] [] rfl (fun e => by rfl) ?_; apply Exists.intro; refine ⟨fun e w' F hs => ?_, ?_, ?_⟩
  · first | (go_simp; done) | (go_simp; rfl)
  · exact (fun _ _ _ => rfl)
  refine GW.take (d := (some 140)) 8 (fun e => .agg #[.int .i64 v.kind, .int .i64 v.n]) (fun e => heapR mN hp (A.makeF vk tt)) [] [1] [] rfl rfl (fun e => by rfl) (fun e e' hl => by exact ⟨rfl, rfl⟩) (fun e w' F K hs hK => ?_) ?_
  · go_simp; (refine (x_Make C.out.H hB (one_out hs : Sat w0 w' (heapR mN hp A * F)) vk tt HV.out).mono ?_; rintro e2 w2 ⟨rfl, h2⟩; exact ⟨_, rfl, hK default _ (one_in h2)⟩)
  refine GW.det (d := (some 141)) [] [] rfl (fun e => by rfl) ?_; apply Exists.intro; refine ⟨fun e w' F hs => ?_, ?_, ?_⟩
  · first | (go_simp; done) | (go_simp; rfl)
  · exact (fun _ _ _ => rfl)
  refine GW.det (d := (some 142)) [] [] rfl (fun e => by rfl) ?_; apply Exists.intro; refine ⟨fun e w' F hs => ?_, ?_, ?_⟩
  · first | (go_simp; done) | (go_simp; rfl)
  · exact (fun _ _ _ => rfl)
  refine GW.det (d := (some 143)) [] [] rfl (fun e => by rfl) ?_; apply Exists.intro; refine ⟨fun e w' F hs => ?_, ?_, ?_⟩
  · first | (go_simp; done) | (go_simp; rfl)
  · exact (fun _ _ _ => rfl)
  refine GW.det (d := (some 144)) [0] [] rfl (fun e => by rfl) ?_; apply Exists.intro; refine ⟨fun e w' F hs => ?_, ?_, ?_⟩
  · have y0 : w'.cell? ⟨bb, 2, none⟩ = some (.pointer (some ⟨pp, 0, none⟩)) := (show Sat w0 w' (row bb 58 #[.pointer (some ⟨hp, 0, none⟩), .pointer (some ⟨sp, 0, none⟩), .pointer (some ⟨pp, 0, none⟩), .pointer (some ⟨qp, 0, none⟩)] * F) from hs).cell 2 rfl; first | (go_simp; done) | (go_simp; rfl)
  · exact (fun _ _ _ => rfl)
  refine GW.det (d := (some 145)) [] [] rfl (fun e => by rfl) ?_; apply Exists.intro; refine ⟨fun e w' F hs => ?_, ?_, ?_⟩
  · first | (go_simp; done) | (go_simp; rfl)
  · exact (fun _ _ _ => rfl)
  refine GW.det (d := (some 146)) [] [] rfl (fun e => by rfl) ?_; apply Exists.intro; refine ⟨fun e w' F hs => ?_, ?_, ?_⟩
  · first | (go_simp; done) | (go_simp; rfl)
  · exact (fun _ _ _ => rfl)
  refine GW.det (d := (some 147)) [5] [] rfl (fun e => by rfl) ?_; apply Exists.intro; refine ⟨fun e w' F hs => ?_, ?_, ?_⟩
  · have ⟨y0, y1, y2, y3⟩ := act17c (show Sat w0 w' (pt xb (.cells #[.int .i64 8, .string tx, .int .i64 vk, .int .i64 vn] 61 (0, 0)) * F) from hs); first | (go_simp; done) | (go_simp; rfl)
  · exact (fun _ _ _ => rfl)
  refine GW.det (d := (some 148)) [] [] rfl (fun e => by rfl) ?_; apply Exists.intro; refine ⟨fun e w' F hs => ?_, ?_, ?_⟩
  · first | (go_simp; done) | (go_simp; rfl)
  · exact (fun _ _ _ => rfl)
  refine GW.take (d := (some 149)) 17 (fun e => .agg #[.int .i64 v.kind, .int .i64 v.n]) (fun e => refR13 pp (A.makeF vk tt)) [] [3] [] rfl rfl (fun e => by rfl) (fun e e' hl => by exact ⟨rfl, rfl⟩) (fun e w' F K hs hK => ?_) ?_
  · go_simp; (refine (r_Make C.out.H hB (one_out hs : Sat w0 w' (refR13 pp A * F)) vk tt HV.out).mono ?_; rintro e2 w2 ⟨rfl, h2⟩; exact ⟨_, rfl, hK default _ (one_in h2)⟩)
  refine GW.det (d := (some 150)) [] [] rfl (fun e => by rfl) ?_; apply Exists.intro; refine ⟨fun e w' F hs => ?_, ?_, ?_⟩
  · first | (go_simp; done) | (go_simp; rfl)
  · exact (fun _ _ _ => rfl)
  refine GW.det (d := (some 4)) [] [] rfl (fun e => by rfl) ?_; apply Exists.intro; refine ⟨fun e w' F hs => ?_, ?_, ?_⟩
  · first | (go_simp; done) | (go_simp; rfl)
  · exact (fun _ _ _ => rfl)
  refine GW.done (sz := 229) [7 + 8, 7 + 17, 0, 2, 4, 6] (by kernel_rfl) (by kernel_rfl) HA0.out.1 (by rfl) HS0.out (by rfl) fun e w3 gg => ?_
  have ha := HA0.out.2
  subst ha
  clear HA0 hb0 hb3 hb5
  simp only [putL, Act.put, List.setIfInBounds_toArray, List.set_cons_zero, List.set_cons_succ]
  have h3 : Sat w0 w3 (heapR mN hp (A.makeF vk tt) * (refR13 pp (A.makeF vk tt) * (row bb 58 #[.pointer (some ⟨hp, 0, none⟩), .pointer (some ⟨sp, 0, none⟩), .pointer (some ⟨pp, 0, none⟩), .pointer (some ⟨qp, 0, none⟩)] * (strR sp hp M * (refS qp pp R * (F)))))) := gg
  have HF := Lib.hid (show Sat w0 w3 (row bb 58 #[.pointer (some ⟨hp, 0, none⟩), .pointer (some ⟨sp, 0, none⟩), .pointer (some ⟨pp, 0, none⟩), .pointer (some ⟨qp, 0, none⟩)] * (heapR mN hp (A.makeF vk tt) * (strR sp hp (M) * (refR13 pp (A.makeF vk tt) * (refS qp pp (R))))) * F) from h3.cast (by ac_rfl))
  clear gg h3
  go_wp2_with fail
  go_ret
  exact ⟨rfl, HF.out⟩
def free17 (A : AHeap) (vn : Int) : Int := match A.queue with | [] => clamp17 vn | y :: _ => y
set_option maxRecDepth 100000 in
set_option maxHeartbeats 4000000 in
theorem i_do_7 (c : IC A M R B N) (h : Sat w0 w (row bb 58 #[.pointer (some ⟨hp, 0, none⟩), .pointer (some ⟨sp, 0, none⟩), .pointer (some ⟨pp, 0, none⟩), .pointer (some ⟨qp, 0, none⟩)] * (heapR mN hp (A) * (strR sp hp (M) * (refR13 pp (A) * (refS qp pp (R))))) * F)) (tx : ByteArray) (vk vn : Int) :
    Calls Try.prog 28 #[.pointer (some ⟨bb, 0, none⟩), .agg #[.int .i64 7, .string tx, .int .i64 vk, .int .i64 vn]] w fun e w' => e = .returned (.bool true) ∧ Sat w0 w' (row bb 58 #[.pointer (some ⟨hp, 0, none⟩), .pointer (some ⟨sp, 0, none⟩), .pointer (some ⟨pp, 0, none⟩), .pointer (some ⟨qp, 0, none⟩)] * (heapR mN hp (A.freeF (free17 A vn)) * (strR sp hp (M) * (refR13 pp (A.freeF (free17 A vn)) * (refS qp pp (R))))) * F) := by
  have hB := c.hB
  have hRl : R.length ≤ 1000000 := by have := c.hR; omega
  have hW : A.watch.length ≤ 1000000 := by have := c.hW; omega
  have h1 : Sat w0 (w.alloc (.cells #[.int .i64 7, .string tx, .int .i64 vk, .int .i64 vn] 61)) (row bb 58 #[.pointer (some ⟨hp, 0, none⟩), .pointer (some ⟨sp, 0, none⟩), .pointer (some ⟨pp, 0, none⟩), .pointer (some ⟨qp, 0, none⟩)] * (heapR mN hp A * (strR sp hp M * (refR13 pp A * (refS qp pp R * (pt w.heap.size (.cells #[.int .i64 7, .string tx, .int .i64 vk, .int .i64 vn] 61 (0, 0)) * (F))))))) := (h.alloc (.cells #[.int .i64 7, .string tx, .int .i64 vk, .int .i64 vn] 61)).cast (by ac_rfl)
  generalize hxb : w.heap.size = xb at *
  have C := Lib.hid c
  have ⟨c0, c1, c2, c3⟩ := act17c (h1.p6)
  obtain ⟨tn, htn⟩ : ∃ q : Nat, q = min tx.size 5000 := ⟨_, rfl⟩
  have htx : txc tx 5000 = tx.extract 0 tn := by unfold txc; rw [htn]
  have ht1 : (if (5000 : Int) < (tx.size : Int) then (5000 : Int) else (tx.size : Int)) = (tn : Int) := by split <;> omega
  have ht2 : min (tx.size : Int) 5000 = (tn : Int) := by omega
  have ht3 : tn ≤ tx.size := by omega
  have ht4 : ((tn : Int)).toNat = tn := rfl
  have ht5 : (tn : Int) ≤ (tx.size : Int) := by omega
  have ht6 : (0 : Int) ≤ (tn : Int) := by omega
  obtain ⟨qv, hqv⟩ : ∃ q, (if 1000 < vn then (1000 : Int) else vn) = q := ⟨_, rfl⟩
  obtain ⟨cv, hcv⟩ : ∃ q, (if 0 < qv then qv else (0 : Int)) = q := ⟨_, rfl⟩
  have HCV := Lib.hid (show clamp17 vn = cv from by unfold clamp17; rw [hqv, hcv])
  obtain ⟨tt, htt⟩ : ∃ q, tx.extract 0 tn = q := ⟨_, rfl⟩
  have HTT := Lib.hid (show txc tx 5000 = tt from by rw [htx, htt])
  clear h c htx htn
  have HS0 := Lib.hid h1
  obtain ⟨X, oa, oc, qa, qc, ba, bc, fa, fc, sa, sc, op⟩ := (h1.p4).openR
  have cq := op.c1
  have b2 := h1.cell 2 (v := .pointer (some ⟨pp, 0, none⟩)) rfl
  clear h1
  cases hq : A.queue with
  | nil =>
    rw [hq, List.length_nil] at cq
    have hf : free17 A vn = cv := by unfold free17; rw [hq]; exact HCV.out
    rw [hf]
    obtain ⟨e0, he0⟩ : ∃ e, A.freeE cv = e := ⟨_, rfl⟩
    clear op hq hf HCV
    go_enter Try.func28, Try.ntmps28
    go_wp2_with fail
    clear c0 c1 c2 c3 cq b2
    refine wp_gen fun a0 ha => ?_
    have hb0 : base a0 0 = .pointer (some ⟨bb, 0, none⟩) := by rw [ha]; rfl
    have hb6 : base a0 6 = .int .i64 cv := by rw [ha]; rfl
    have hsz0 : a0.tmps.size = 229 := by rw [ha]; rfl
    have HA0 := Lib.hid (And.intro hsz0 ha)
    clear ha hsz0
    refine GW.start (X := Option Addr × Nat) (w0 := w0) (B := [row bb 58 #[.pointer (some ⟨hp, 0, none⟩), .pointer (some ⟨sp, 0, none⟩), .pointer (some ⟨pp, 0, none⟩), .pointer (some ⟨qp, 0, none⟩)], heapR mN hp A, strR sp hp M, refR13 pp A, refS qp pp R, pt xb (.cells #[.int .i64 7, .string tx, .int .i64 vk, .int .i64 vn] 61 (0, 0)), F]) (a0 := a0) ?_
    refine GW.det (d := (some 117)) [] [] rfl (fun e => by rfl) ?_; apply Exists.intro; refine ⟨fun e w' F hs => ?_, ?_, ?_⟩
    · first | (go_simp; done) | (go_simp; rfl)
    · exact (fun _ _ _ => rfl)
    refine GW.det (d := (some 118)) [] [] rfl (fun e => by rfl) ?_; apply Exists.intro; refine ⟨fun e w' F hs => ?_, ?_, ?_⟩
    · first | (go_simp; done) | (go_simp; rfl)
    · exact (fun _ _ _ => rfl)
    refine GW.det (d := (some 119)) [] [] rfl (fun e => by rfl) ?_; apply Exists.intro; refine ⟨fun e w' F hs => ?_, ?_, ?_⟩
    · first | (go_simp; done) | (go_simp; rfl)
    · exact (fun _ _ _ => rfl)
    refine GW.det (d := (some 120)) [0] [] rfl (fun e => by rfl) ?_; apply Exists.intro; refine ⟨fun e w' F hs => ?_, ?_, ?_⟩
    · have y0 : w'.cell? ⟨bb, 0, none⟩ = some (.pointer (some ⟨hp, 0, none⟩)) := (show Sat w0 w' (row bb 58 #[.pointer (some ⟨hp, 0, none⟩), .pointer (some ⟨sp, 0, none⟩), .pointer (some ⟨pp, 0, none⟩), .pointer (some ⟨qp, 0, none⟩)] * F) from hs).cell 0 rfl; first | (go_simp; done) | (go_simp; rfl)
    · exact (fun _ _ _ => rfl)
    refine GW.det (d := (some 121)) [] [] rfl (fun e => by rfl) ?_; apply Exists.intro; refine ⟨fun e w' F hs => ?_, ?_, ?_⟩
    · first | (go_simp; done) | (go_simp; rfl)
    · exact (fun _ _ _ => rfl)
    refine GW.take (d := (some 122)) 5 (fun e => .int .i64 e0) (fun e => heapR mN hp (A.freeF cv)) [] [1] [] rfl rfl (fun e => by rfl) (fun e e' hl => by exact ⟨rfl, rfl⟩) (fun e w' F K hs hK => ?_) ?_
    · go_simp; (refine (x_Free C.out.H hB (knowsN _) (one_out hs : Sat w0 w' (heapR mN hp A * F)) cv he0).mono ?_; rintro e2 w2 ⟨rfl, h2⟩; exact ⟨_, rfl, hK default _ (one_in h2)⟩)
    refine GW.det (d := (some 123)) [] [] rfl (fun e => by rfl) ?_; apply Exists.intro; refine ⟨fun e w' F hs => ?_, ?_, ?_⟩
    · first | (go_simp; done) | (go_simp; rfl)
    · exact (fun _ _ _ => rfl)
    refine GW.det (d := (some 124)) [] [] rfl (fun e => by rfl) ?_; apply Exists.intro; refine ⟨fun e w' F hs => ?_, ?_, ?_⟩
    · first | (go_simp; done) | (go_simp; rfl)
    · exact (fun _ _ _ => rfl)
    refine GW.det (d := (some 125)) [] [] rfl (fun e => by rfl) ?_; apply Exists.intro; refine ⟨fun e w' F hs => ?_, ?_, ?_⟩
    · first | (go_simp; done) | (go_simp; rfl)
    · exact (fun _ _ _ => rfl)
    refine GW.det (d := (some 126)) [0] [] rfl (fun e => by rfl) ?_; apply Exists.intro; refine ⟨fun e w' F hs => ?_, ?_, ?_⟩
    · have y0 : w'.cell? ⟨bb, 2, none⟩ = some (.pointer (some ⟨pp, 0, none⟩)) := (show Sat w0 w' (row bb 58 #[.pointer (some ⟨hp, 0, none⟩), .pointer (some ⟨sp, 0, none⟩), .pointer (some ⟨pp, 0, none⟩), .pointer (some ⟨qp, 0, none⟩)] * F) from hs).cell 2 rfl; first | (go_simp; done) | (go_simp; rfl)
    · exact (fun _ _ _ => rfl)
    refine GW.det (d := (some 127)) [] [] rfl (fun e => by rfl) ?_; apply Exists.intro; refine ⟨fun e w' F hs => ?_, ?_, ?_⟩
    · first | (go_simp; done) | (go_simp; rfl)
    · exact (fun _ _ _ => rfl)
    refine GW.take (d := (some 128)) 11 (fun e => .int .i64 e0) (fun e => refR13 pp (A.freeF cv)) [] [3] [] rfl rfl (fun e => by rfl) (fun e e' hl => by exact ⟨rfl, rfl⟩) (fun e w' F K hs hK => ?_) ?_
    · go_simp; (refine (r_Free C.out.H hB hW (one_out hs : Sat w0 w' (refR13 pp A * F)) cv he0).mono ?_; rintro e2 w2 ⟨rfl, h2⟩; exact ⟨_, rfl, hK default _ (one_in h2)⟩)
    refine GW.det (d := (some 129)) [] [] rfl (fun e => by rfl) ?_; apply Exists.intro; refine ⟨fun e w' F hs => ?_, ?_, ?_⟩
    · first | (go_simp; done) | (go_simp; rfl)
    · exact (fun _ _ _ => rfl)
    refine GW.det (d := (some 4)) [] [] rfl (fun e => by rfl) ?_; apply Exists.intro; refine ⟨fun e w' F hs => ?_, ?_, ?_⟩
    · first | (go_simp; done) | (go_simp; rfl)
    · exact (fun _ _ _ => rfl)
    refine GW.done (sz := 229) [7 + 5, 7 + 11, 0, 2, 4, 6] (by kernel_rfl) (by kernel_rfl) HA0.out.1 (by rfl) HS0.out (by rfl) fun e w3 gg => ?_
    have ha := HA0.out.2
    subst ha
    clear HA0 hb0 hb6
    simp only [putL, Act.put, List.setIfInBounds_toArray, List.set_cons_zero, List.set_cons_succ]
    have h3 : Sat w0 w3 (heapR mN hp (A.freeF cv) * (refR13 pp (A.freeF cv) * (row bb 58 #[.pointer (some ⟨hp, 0, none⟩), .pointer (some ⟨sp, 0, none⟩), .pointer (some ⟨pp, 0, none⟩), .pointer (some ⟨qp, 0, none⟩)] * (strR sp hp M * (refS qp pp R * (F)))))) := gg
    have HF := Lib.hid (show Sat w0 w3 (row bb 58 #[.pointer (some ⟨hp, 0, none⟩), .pointer (some ⟨sp, 0, none⟩), .pointer (some ⟨pp, 0, none⟩), .pointer (some ⟨qp, 0, none⟩)] * (heapR mN hp (A.freeF cv) * (strR sp hp (M) * (refR13 pp (A.freeF cv) * (refS qp pp (R))))) * F) from h3.cast (by ac_rfl))
    clear gg h3
    go_wp2_with fail
    go_ret
    exact ⟨rfl, HF.out⟩
  | cons y ys =>
    have hlen : A.queue.length = ys.length + 1 := by rw [hq]; rfl
    rw [hlen] at cq
    have hql := C.out.H.ql
    rw [hlen] at hql
    have hf : free17 A vn = y := by unfold free17; rw [hq]
    rw [hf]
    obtain ⟨RO, eR⟩ := refO_q pp A X oa oc qa qc ba bc fa fc sa sc
    have h2 := op.hs.cast (refO_F pp A X oa oc qa qc ba bc fa fc sa sc _)
    rw [eR] at h2
    obtain ⟨gq, offq, eq, q0, _⟩ := intCells h2.assoc (k := 0) (x := y) (by rw [hq]; rfl)
    subst eq
    rw [Nat.add_zero] at q0
    obtain ⟨e0, he0⟩ : ∃ e, A.freeE y = e := ⟨_, rfl⟩
    clear op hq hf HCV h2 eR hlen
    go_enter Try.func28, Try.ntmps28
    go_wp2_with fail
    clear c0 c1 c2 c3 cq b2 q0
    refine wp_gen fun a0 ha => ?_
    have hb0 : base a0 0 = .pointer (some ⟨bb, 0, none⟩) := by rw [ha]; rfl
    have hb6 : base a0 6 = .int .i64 y := by rw [ha]; rfl
    have hsz0 : a0.tmps.size = 229 := by rw [ha]; rfl
    have HA0 := Lib.hid (And.intro hsz0 ha)
    clear ha hsz0
    refine GW.start (X := Option Addr × Nat) (w0 := w0) (B := [row bb 58 #[.pointer (some ⟨hp, 0, none⟩), .pointer (some ⟨sp, 0, none⟩), .pointer (some ⟨pp, 0, none⟩), .pointer (some ⟨qp, 0, none⟩)], heapR mN hp A, strR sp hp M, refR13 pp A, refS qp pp R, pt xb (.cells #[.int .i64 7, .string tx, .int .i64 vk, .int .i64 vn] 61 (0, 0)), F]) (a0 := a0) ?_
    refine GW.det (d := (some 117)) [] [] rfl (fun e => by rfl) ?_; apply Exists.intro; refine ⟨fun e w' F hs => ?_, ?_, ?_⟩
    · first | (go_simp; done) | (go_simp; rfl)
    · exact (fun _ _ _ => rfl)
    refine GW.det (d := (some 118)) [] [] rfl (fun e => by rfl) ?_; apply Exists.intro; refine ⟨fun e w' F hs => ?_, ?_, ?_⟩
    · first | (go_simp; done) | (go_simp; rfl)
    · exact (fun _ _ _ => rfl)
    refine GW.det (d := (some 119)) [] [] rfl (fun e => by rfl) ?_; apply Exists.intro; refine ⟨fun e w' F hs => ?_, ?_, ?_⟩
    · first | (go_simp; done) | (go_simp; rfl)
    · exact (fun _ _ _ => rfl)
    refine GW.det (d := (some 120)) [0] [] rfl (fun e => by rfl) ?_; apply Exists.intro; refine ⟨fun e w' F hs => ?_, ?_, ?_⟩
    · have y0 : w'.cell? ⟨bb, 0, none⟩ = some (.pointer (some ⟨hp, 0, none⟩)) := (show Sat w0 w' (row bb 58 #[.pointer (some ⟨hp, 0, none⟩), .pointer (some ⟨sp, 0, none⟩), .pointer (some ⟨pp, 0, none⟩), .pointer (some ⟨qp, 0, none⟩)] * F) from hs).cell 0 rfl; first | (go_simp; done) | (go_simp; rfl)
    · exact (fun _ _ _ => rfl)
    refine GW.det (d := (some 121)) [] [] rfl (fun e => by rfl) ?_; apply Exists.intro; refine ⟨fun e w' F hs => ?_, ?_, ?_⟩
    · first | (go_simp; done) | (go_simp; rfl)
    · exact (fun _ _ _ => rfl)
    refine GW.take (d := (some 122)) 5 (fun e => .int .i64 e0) (fun e => heapR mN hp (A.freeF y)) [] [1] [] rfl rfl (fun e => by rfl) (fun e e' hl => by exact ⟨rfl, rfl⟩) (fun e w' F K hs hK => ?_) ?_
    · go_simp; (refine (x_Free C.out.H hB (knowsN _) (one_out hs : Sat w0 w' (heapR mN hp A * F)) y he0).mono ?_; rintro e2 w2 ⟨rfl, h2⟩; exact ⟨_, rfl, hK default _ (one_in h2)⟩)
    refine GW.det (d := (some 123)) [] [] rfl (fun e => by rfl) ?_; apply Exists.intro; refine ⟨fun e w' F hs => ?_, ?_, ?_⟩
    · first | (go_simp; done) | (go_simp; rfl)
    · exact (fun _ _ _ => rfl)
    refine GW.det (d := (some 124)) [] [] rfl (fun e => by rfl) ?_; apply Exists.intro; refine ⟨fun e w' F hs => ?_, ?_, ?_⟩
    · first | (go_simp; done) | (go_simp; rfl)
    · exact (fun _ _ _ => rfl)
    refine GW.det (d := (some 125)) [] [] rfl (fun e => by rfl) ?_; apply Exists.intro; refine ⟨fun e w' F hs => ?_, ?_, ?_⟩
    · first | (go_simp; done) | (go_simp; rfl)
    · exact (fun _ _ _ => rfl)
    refine GW.det (d := (some 126)) [0] [] rfl (fun e => by rfl) ?_; apply Exists.intro; refine ⟨fun e w' F hs => ?_, ?_, ?_⟩
    · have y0 : w'.cell? ⟨bb, 2, none⟩ = some (.pointer (some ⟨pp, 0, none⟩)) := (show Sat w0 w' (row bb 58 #[.pointer (some ⟨hp, 0, none⟩), .pointer (some ⟨sp, 0, none⟩), .pointer (some ⟨pp, 0, none⟩), .pointer (some ⟨qp, 0, none⟩)] * F) from hs).cell 2 rfl; first | (go_simp; done) | (go_simp; rfl)
    · exact (fun _ _ _ => rfl)
    refine GW.det (d := (some 127)) [] [] rfl (fun e => by rfl) ?_; apply Exists.intro; refine ⟨fun e w' F hs => ?_, ?_, ?_⟩
    · first | (go_simp; done) | (go_simp; rfl)
    · exact (fun _ _ _ => rfl)
    refine GW.take (d := (some 128)) 11 (fun e => .int .i64 e0) (fun e => refR13 pp (A.freeF y)) [] [3] [] rfl rfl (fun e => by rfl) (fun e e' hl => by exact ⟨rfl, rfl⟩) (fun e w' F K hs hK => ?_) ?_
    · go_simp; (refine (r_Free C.out.H hB hW (one_out hs : Sat w0 w' (refR13 pp A * F)) y he0).mono ?_; rintro e2 w2 ⟨rfl, h2⟩; exact ⟨_, rfl, hK default _ (one_in h2)⟩)
    refine GW.det (d := (some 129)) [] [] rfl (fun e => by rfl) ?_; apply Exists.intro; refine ⟨fun e w' F hs => ?_, ?_, ?_⟩
    · first | (go_simp; done) | (go_simp; rfl)
    · exact (fun _ _ _ => rfl)
    refine GW.det (d := (some 4)) [] [] rfl (fun e => by rfl) ?_; apply Exists.intro; refine ⟨fun e w' F hs => ?_, ?_, ?_⟩
    · first | (go_simp; done) | (go_simp; rfl)
    · exact (fun _ _ _ => rfl)
    refine GW.done (sz := 229) [7 + 5, 7 + 11, 0, 2, 4, 6] (by kernel_rfl) (by kernel_rfl) HA0.out.1 (by rfl) HS0.out (by rfl) fun e w3 gg => ?_
    have ha := HA0.out.2
    subst ha
    clear HA0 hb0 hb6
    simp only [putL, Act.put, List.setIfInBounds_toArray, List.set_cons_zero, List.set_cons_succ]
    have h3 : Sat w0 w3 (heapR mN hp (A.freeF y) * (refR13 pp (A.freeF y) * (row bb 58 #[.pointer (some ⟨hp, 0, none⟩), .pointer (some ⟨sp, 0, none⟩), .pointer (some ⟨pp, 0, none⟩), .pointer (some ⟨qp, 0, none⟩)] * (strR sp hp M * (refS qp pp R * (F)))))) := gg
    have HF := Lib.hid (show Sat w0 w3 (row bb 58 #[.pointer (some ⟨hp, 0, none⟩), .pointer (some ⟨sp, 0, none⟩), .pointer (some ⟨pp, 0, none⟩), .pointer (some ⟨qp, 0, none⟩)] * (heapR mN hp (A.freeF y) * (strR sp hp (M) * (refR13 pp (A.freeF y) * (refS qp pp (R))))) * F) from h3.cast (by ac_rfl))
    clear gg h3
    go_wp2_with fail
    go_ret
    exact ⟨rfl, HF.out⟩
end
end Go.Proofs.Ytkpcngcegipalaa.Tw
