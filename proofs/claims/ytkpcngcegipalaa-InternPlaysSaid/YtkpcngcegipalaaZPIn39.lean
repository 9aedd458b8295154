/- tallowlaw17: both.do, Find, Copy, Text. No condition. -/
import Derived.Test.YtkpcngcegipalaaZPIn36
import Derived.Test.YtkpcngcegipalaaZPIn38
namespace Go.Proofs.Ytkpcngcegipalaa.Tw
set_option linter.unusedVariables false
set_option linter.unusedSimpArgs false
open Go Go.RowKit Go.MapKept

attribute [local go_sem] lookE lkE valUpon
section
variable {w0 w : World} {F : HP} {bb hp sp pp qp : Nat} {A : AHeap} {M : ByteArray → Option Int} {R : List ARow} {B : Int} {N : Nat}
theorem foundV_eq (n : Int) (b : Bool) : ∃ k m : Int, foundV n b = .agg #[.int .i64 k, .int .i64 m] := by cases b <;> exact ⟨_, _, rfl⟩
set_option maxRecDepth 100000 in
set_option maxHeartbeats 4000000 in
theorem i_do_4 (c : IC A M R B N) (h : Sat w0 w (row bb 58 #[.pointer (some ⟨hp, 0, none⟩), .pointer (some ⟨sp, 0, none⟩), .pointer (some ⟨pp, 0, none⟩), .pointer (some ⟨qp, 0, none⟩)] * (heapR mN hp (A) * (strR sp hp (M) * (refR13 pp (A) * (refS qp pp (R))))) * F)) (tx : ByteArray) (vk vn : Int) :
    Calls Try.prog 28 #[.pointer (some ⟨bb, 0, none⟩), .agg #[.int .i64 4, .string tx, .int .i64 vk, .int .i64 vn]] w fun e w' => e = .returned (.bool true) ∧ Sat w0 w' (row bb 58 #[.pointer (some ⟨hp, 0, none⟩), .pointer (some ⟨sp, 0, none⟩), .pointer (some ⟨pp, 0, none⟩), .pointer (some ⟨qp, 0, none⟩)] * (heapR mN hp (A) * (strR sp hp (M) * (refR13 pp (A) * (refS qp pp (R))))) * F) := by
  have hB := c.hB
  have hRl : R.length ≤ 1000000 := by have := c.hR; omega
  have hW : A.watch.length ≤ 1000000 := by have := c.hW; omega
  have h1 : Sat w0 (w.alloc (.cells #[.int .i64 4, .string tx, .int .i64 vk, .int .i64 vn] 61)) (row bb 58 #[.pointer (some ⟨hp, 0, none⟩), .pointer (some ⟨sp, 0, none⟩), .pointer (some ⟨pp, 0, none⟩), .pointer (some ⟨qp, 0, none⟩)] * (heapR mN hp A * (strR sp hp M * (refR13 pp A * (refS qp pp R * (pt w.heap.size (.cells #[.int .i64 4, .string tx, .int .i64 vk, .int .i64 vn] 61 (0, 0)) * (F))))))) := (h.alloc (.cells #[.int .i64 4, .string tx, .int .i64 vk, .int .i64 vn] 61)).cast (by ac_rfl)
  generalize hxb : w.heap.size = xb at *
  have C := Lib.hid c
  have ⟨c0, c1, c2, c3⟩ := act17c (h1.p6)
  obtain ⟨tn, htn⟩ : ∃ q : Nat, q = min tx.size 5000 := ⟨_, rfl⟩
  have htx : txc tx 5000 = tx.extract 0 tn := by unfold txc; rw [htn]
  have ht1 : (if (5000 : Int) < (tx.size : Int) then (5000 : Int) else (tx.size : Int)) = (tn : Int) := by split <;> omega
  have ht2 : min (tx.size : Int) 5000 = (tn : Int) := by omega
  have ht3 : tn ≤ tx.size := by omega
  have ht4 : ((tn : Int)).toNat = tn := rfl
  have ht5 : (tn : Int) ≤ (tx.size : Int) := by omega
  have ht6 : (0 : Int) ≤ (tn : Int) := by omega
  obtain ⟨qv, hqv⟩ : ∃ q, (if 1000 < vn then (1000 : Int) else vn) = q := ⟨_, rfl⟩
  obtain ⟨cv, hcv⟩ : ∃ q, (if 0 < qv then qv else (0 : Int)) = q := ⟨_, rfl⟩
  have HCV := Lib.hid (show clamp17 vn = cv from by unfold clamp17; rw [hqv, hcv])
  obtain ⟨tt, htt⟩ : ∃ q, tx.extract 0 tn = q := ⟨_, rfl⟩
  have HTT := Lib.hid (show txc tx 5000 = tt from by rw [htx, htt])
  clear h c htx htn
  obtain ⟨b, hb⟩ : ∃ b, findOk A M tt = b := ⟨_, rfl⟩
  obtain ⟨n, hn⟩ : ∃ n, findN M tt = n := ⟨_, rfl⟩
  obtain ⟨fk, fm, hv⟩ := foundV_eq n b
  have HPP := Lib.hid (by have hh := str_Find tt (h1.p3.p3) (C.out.slots _); rw [hb, hn, hv] at hh; exact hh)
  have b1 := h1.cell 1 (v := .pointer (some ⟨sp, 0, none⟩)) rfl
  have HQ := Lib.hid (fun (w' : World) (G : HP) (hh : Sat w0 w' (refR13 pp A * (refS qp pp R * G))) => by have h2 := ref_Find C.out.H hB hh hRl tt ((C.out.rf tt).trans hb) (n := n) (by rw [C.out.hM]; exact hn); rw [hv] at h2; exact h2)
  clear h1 hb hn hv HCV HTT
  go_enter Try.func28, Try.ntmps28
  go_wp2_with fail
  refine HPP.out.mono ?_
  rintro e w1 ⟨rfl, h2⟩
  have h3 := h2.alloc (.cells #[.int .i64 fk, .int .i64 fm] 28)
  have h4 := h3.cast (show _ = refR13 pp A * (refS qp pp R * (pt w1.heap.size (.cells #[.int .i64 fk, .int .i64 fm] 28 (0, 0)) * (row bb 58 #[.pointer (some ⟨hp, 0, none⟩), .pointer (some ⟨sp, 0, none⟩), .pointer (some ⟨pp, 0, none⟩), .pointer (some ⟨qp, 0, none⟩)] * (heapR mN hp A * (strR sp hp M * (pt xb (.cells #[.int .i64 4, .string tx, .int .i64 vk, .int .i64 vn] 61 (0, 0)) * F)))))) by ac_rfl)
  have ⟨v0, v1, _, _⟩ := val2' h4.p3
  have b3 := h4.p4.cell 3 (v := .pointer (some ⟨qp, 0, none⟩)) rfl
  have HQ2 := Lib.hid (HQ.out _ _ h4)
  generalize hb1 : w1.heap.size = vb1 at *
  clear h2 h3 h4 HQ
  go_wp2_with fail
  refine HQ2.out.mono ?_
  rintro e w2 ⟨rfl, h5⟩
  have h6 := h5.alloc (.cells #[.int .i64 fk, .int .i64 fm] 28)
  have ⟨u0, u1, _, _⟩ := val2' h6
  have ⟨x0, x1, _, _⟩ := val2' h6.p4
  generalize hb2 : w2.heap.size = vb2 at *
  have HF := Lib.hid (show Sat w0 _ (row bb 58 #[.pointer (some ⟨hp, 0, none⟩), .pointer (some ⟨sp, 0, none⟩), .pointer (some ⟨pp, 0, none⟩), .pointer (some ⟨qp, 0, none⟩)] * (heapR mN hp (A) * (strR sp hp (M) * (refR13 pp (A) * (refS qp pp (R))))) * F) from Sat.drop (P := pt vb1 (.cells #[.int .i64 fk, .int .i64 fm] 28 (0, 0)) * (pt vb2 (.cells #[.int .i64 fk, .int .i64 fm] 28 (0, 0)) * pt xb (.cells #[.int .i64 4, .string tx, .int .i64 vk, .int .i64 vn] 61 (0, 0)))) (h6.cast (by ac_rfl)))
  clear h5 h6 v0 v1 b3
  go_wp2_with fail
  go_ret
  exact ⟨by simp, HF.out⟩
set_option maxRecDepth 100000 in
set_option maxHeartbeats 4000000 in
theorem i_do_10 (c : IC A M R B N) (h : Sat w0 w (row bb 58 #[.pointer (some ⟨hp, 0, none⟩), .pointer (some ⟨sp, 0, none⟩), .pointer (some ⟨pp, 0, none⟩), .pointer (some ⟨qp, 0, none⟩)] * (heapR mN hp (A) * (strR sp hp (M) * (refR13 pp (A) * (refS qp pp (R))))) * F)) (tx : ByteArray) (vk vn : Int) (what : Int) (hn : what < 0 ∨ 9 < what) :
    Calls Try.prog 28 #[.pointer (some ⟨bb, 0, none⟩), .agg #[.int .i64 what, .string tx, .int .i64 vk, .int .i64 vn]] w fun e w' => e = .returned (.bool true) ∧ Sat w0 w' (row bb 58 #[.pointer (some ⟨hp, 0, none⟩), .pointer (some ⟨sp, 0, none⟩), .pointer (some ⟨pp, 0, none⟩), .pointer (some ⟨qp, 0, none⟩)] * (heapR mN hp (A) * (strR sp hp (M) * (refR13 pp (A) * (refS qp pp (R))))) * F) := by
  have hB := c.hB
  have hRl : R.length ≤ 1000000 := by have := c.hR; omega
  have hW : A.watch.length ≤ 1000000 := by have := c.hW; omega
  have h1 : Sat w0 (w.alloc (.cells #[.int .i64 what, .string tx, .int .i64 vk, .int .i64 vn] 61)) (row bb 58 #[.pointer (some ⟨hp, 0, none⟩), .pointer (some ⟨sp, 0, none⟩), .pointer (some ⟨pp, 0, none⟩), .pointer (some ⟨qp, 0, none⟩)] * (heapR mN hp A * (strR sp hp M * (refR13 pp A * (refS qp pp R * (pt w.heap.size (.cells #[.int .i64 what, .string tx, .int .i64 vk, .int .i64 vn] 61 (0, 0)) * (F))))))) := (h.alloc (.cells #[.int .i64 what, .string tx, .int .i64 vk, .int .i64 vn] 61)).cast (by ac_rfl)
  generalize hxb : w.heap.size = xb at *
  have C := Lib.hid c
  have ⟨c0, c1, c2, c3⟩ := act17c (h1.p6)
  obtain ⟨tn, htn⟩ : ∃ q : Nat, q = min tx.size 5000 := ⟨_, rfl⟩
  have htx : txc tx 5000 = tx.extract 0 tn := by unfold txc; rw [htn]
  have ht1 : (if (5000 : Int) < (tx.size : Int) then (5000 : Int) else (tx.size : Int)) = (tn : Int) := by split <;> omega
  have ht2 : min (tx.size : Int) 5000 = (tn : Int) := by omega
  have ht3 : tn ≤ tx.size := by omega
  have ht4 : ((tn : Int)).toNat = tn := rfl
  have ht5 : (tn : Int) ≤ (tx.size : Int) := by omega
  have ht6 : (0 : Int) ≤ (tn : Int) := by omega
  obtain ⟨qv, hqv⟩ : ∃ q, (if 1000 < vn then (1000 : Int) else vn) = q := ⟨_, rfl⟩
  obtain ⟨cv, hcv⟩ : ∃ q, (if 0 < qv then qv else (0 : Int)) = q := ⟨_, rfl⟩
  have HCV := Lib.hid (show clamp17 vn = cv from by unfold clamp17; rw [hqv, hcv])
  obtain ⟨tt, htt⟩ : ∃ q, tx.extract 0 tn = q := ⟨_, rfl⟩
  have HTT := Lib.hid (show txc tx 5000 = tt from by rw [htx, htt])
  clear h c htx htn
  have n0 : (what == 0) = false := by simp; omega
  have n1 : (what == 1) = false := by simp; omega
  have n2 : (what == 2) = false := by simp; omega
  have n3 : (what == 3) = false := by simp; omega
  have n4 : (what == 4) = false := by simp; omega
  have n5 : (what == 5) = false := by simp; omega
  have n6 : (what == 6) = false := by simp; omega
  have n7 : (what == 7) = false := by simp; omega
  have n8 : (what == 8) = false := by simp; omega
  have n9 : (what == 9) = false := by simp; omega
  obtain ⟨e1, e2⟩ := C.out.str vk vn
  obtain ⟨b, hb⟩ : ∃ b, strIs A ⟨vk, vn⟩ = b := ⟨_, rfl⟩
  obtain ⟨ux, hux⟩ : ∃ u, (if strIs A ⟨vk, vn⟩ = true then (strO A ⟨vk, vn⟩).text else ByteArray.mk #[]) = u := ⟨_, rfl⟩
  have HPP := Lib.hid (fun (w' : World) (G : HP) (hh : Sat w0 w' (heapR mN hp A * (strR sp hp M * G))) => by have h2 := str_Text ⟨vk, vn⟩ hh (C.out.slots _); rw [hux, hb] at h2; exact h2)
  have HQ := Lib.hid (fun (w' : World) (G : HP) (hh : Sat w0 w' (refR13 pp A * (refS qp pp R * G))) => ref_Text C.out.H hB hh vk vn (e1.trans hux) (e2.trans hb))
  have HS0 := Lib.hid h1
  clear h1 hb hux e1 e2 HCV HTT hn
  go_enter Try.func28, Try.ntmps28
  go_wp2_with fail
  clear c0 c1 c2 c3
  refine wp_gen fun a0 ha => ?_
  have hb0 : base a0 0 = .pointer (some ⟨bb, 0, none⟩) := by rw [ha]; rfl
  have hb3 : base a0 3 = .pointer (some ⟨xb, 0, none⟩) := by rw [ha]; rfl
  have hsz0 : a0.tmps.size = 229 := by rw [ha]; rfl
  have HA0 := Lib.hid (And.intro hsz0 ha)
  clear ha hsz0
  refine GW.start (X := Option Addr × Nat) (w0 := w0) (B := [row bb 58 #[.pointer (some ⟨hp, 0, none⟩), .pointer (some ⟨sp, 0, none⟩), .pointer (some ⟨pp, 0, none⟩), .pointer (some ⟨qp, 0, none⟩)], heapR mN hp A, strR sp hp M, refR13 pp A, refS qp pp R, pt xb (.cells #[.int .i64 what, .string tx, .int .i64 vk, .int .i64 vn] 61 (0, 0)), F]) (a0 := a0) ?_
  refine GW.det (d := (some 202)) [] [] rfl (fun e => by rfl) ?_; apply Exists.intro; refine ⟨fun e w' F hs => ?_, ?_, ?_⟩
  · first | (go_simp; done) | (go_simp; rfl)
  · exact (fun _ _ _ => rfl)
  refine GW.det (d := (some 203)) [] [] rfl (fun e => by rfl) ?_; apply Exists.intro; refine ⟨fun e w' F hs => ?_, ?_, ?_⟩
  · first | (go_simp; done) | (go_simp; rfl)
  · exact (fun _ _ _ => rfl)
  refine GW.det (d := (some 204)) [] [] rfl (fun e => by rfl) ?_; apply Exists.intro; refine ⟨fun e w' F hs => ?_, ?_, ?_⟩
  · first | (go_simp; done) | (go_simp; rfl)
  · exact (fun _ _ _ => rfl)
  refine GW.det (d := (some 205)) [0] [] rfl (fun e => by rfl) ?_; apply Exists.intro; refine ⟨fun e w' F hs => ?_, ?_, ?_⟩
  · have y0 : w'.cell? ⟨bb, 1, none⟩ = some (.pointer (some ⟨sp, 0, none⟩)) := (show Sat w0 w' (row bb 58 #[.pointer (some ⟨hp, 0, none⟩), .pointer (some ⟨sp, 0, none⟩), .pointer (some ⟨pp, 0, none⟩), .pointer (some ⟨qp, 0, none⟩)] * F) from hs).cell 1 rfl; first | (go_simp; done) | (go_simp; rfl)
  · exact (fun _ _ _ => rfl)
  refine GW.det (d := (some 206)) [] [] rfl (fun e => by rfl) ?_; apply Exists.intro; refine ⟨fun e w' F hs => ?_, ?_, ?_⟩
  · first | (go_simp; done) | (go_simp; rfl)
  · exact (fun _ _ _ => rfl)
  refine GW.det (d := (some 207)) [5] [] rfl (fun e => by rfl) ?_; apply Exists.intro; refine ⟨fun e w' F hs => ?_, ?_, ?_⟩
  · have ⟨y0, y1, y2, y3⟩ := act17c (show Sat w0 w' (pt xb (.cells #[.int .i64 what, .string tx, .int .i64 vk, .int .i64 vn] 61 (0, 0)) * F) from hs); first | (go_simp; done) | (go_simp; rfl)
  · exact (fun _ _ _ => rfl)
  refine GW.keep (d := (some 208)) (fun e => .tuple #[.string ux, .bool b]) [1, 2] [] rfl (fun e => by rfl) (fun _ _ _ => rfl) (fun e w' F K hs hK => ?_) ?_
  · go_simp; (refine (HPP.out _ _ ((show Sat w0 w' ((heapR mN hp A * strR sp hp M) * F) from hs).assoc)).mono ?_; rintro e2 w2 ⟨rfl, h2⟩; exact ⟨_, rfl, hK _ h2.unassoc⟩)
  refine GW.det (d := (some 201)) [] [] rfl (fun e => by rfl) ?_; apply Exists.intro; refine ⟨fun e w' F hs => ?_, ?_, ?_⟩
  · first | (go_simp; done) | (go_simp; rfl)
  · exact (fun _ _ _ => rfl)
  refine GW.det (d := (some 209)) [] [] rfl (fun e => by rfl) ?_; apply Exists.intro; refine ⟨fun e w' F hs => ?_, ?_, ?_⟩
  · first | (go_simp; done) | (go_simp; rfl)
  · exact (fun _ _ _ => rfl)
  refine GW.det (d := (some 210)) [] [] rfl (fun e => by rfl) ?_; apply Exists.intro; refine ⟨fun e w' F hs => ?_, ?_, ?_⟩
  · first | (go_simp; done) | (go_simp; rfl)
  · exact (fun _ _ _ => rfl)
  refine GW.det (d := (some 15)) [] [] rfl (fun e => by rfl) ?_; apply Exists.intro; refine ⟨fun e w' F hs => ?_, ?_, ?_⟩
  · first | (go_simp; done) | (go_simp; rfl)
  · exact (fun _ _ _ => rfl)
  refine GW.det (d := (some 16)) [] [] rfl (fun e => by rfl) ?_; apply Exists.intro; refine ⟨fun e w' F hs => ?_, ?_, ?_⟩
  · first | (go_simp; done) | (go_simp; rfl)
  · exact (fun _ _ _ => rfl)
  refine GW.done (sz := 229) [0, 1, 2, 3, 4, 5, 6] (by kernel_rfl) (by kernel_rfl) HA0.out.1 (by rfl) HS0.out (by rfl) fun e w3 gg => ?_
  have ha := HA0.out.2
  subst ha
  clear HA0 hb0 hb3
  simp only [putL, Act.put, List.setIfInBounds_toArray, List.set_cons_zero, List.set_cons_succ]
  have HS1 := Lib.hid (show Sat w0 w3 (row bb 58 #[.pointer (some ⟨hp, 0, none⟩), .pointer (some ⟨sp, 0, none⟩), .pointer (some ⟨pp, 0, none⟩), .pointer (some ⟨qp, 0, none⟩)] * (heapR mN hp A * (strR sp hp M * (refR13 pp A * (refS qp pp R * (pt xb (.cells #[.int .i64 what, .string tx, .int .i64 vk, .int .i64 vn] 61 (0, 0)) * (F))))))) from gg)
  clear gg HS0
  go_wp2_with fail
  refine wp_gen fun a0 ha => ?_
  have hb0 : base a0 0 = .pointer (some ⟨bb, 0, none⟩) := by rw [ha]; rfl
  have hb3 : base a0 3 = .pointer (some ⟨xb, 0, none⟩) := by rw [ha]; rfl
  have hsz0 : a0.tmps.size = 229 := by rw [ha]; rfl
  have HA0 := Lib.hid (And.intro hsz0 ha)
  clear ha hsz0
  refine GW.start (X := Option Addr × Nat) (w0 := w0) (B := [row bb 58 #[.pointer (some ⟨hp, 0, none⟩), .pointer (some ⟨sp, 0, none⟩), .pointer (some ⟨pp, 0, none⟩), .pointer (some ⟨qp, 0, none⟩)], heapR mN hp A, strR sp hp M, refR13 pp A, refS qp pp R, pt xb (.cells #[.int .i64 what, .string tx, .int .i64 vk, .int .i64 vn] 61 (0, 0)), F]) (a0 := a0) ?_
  refine GW.det (d := (some 212)) [] [] rfl (fun e => by rfl) ?_; apply Exists.intro; refine ⟨fun e w' F hs => ?_, ?_, ?_⟩
  · first | (go_simp; done) | (go_simp; rfl)
  · exact (fun _ _ _ => rfl)
  refine GW.det (d := (some 213)) [] [] rfl (fun e => by rfl) ?_; apply Exists.intro; refine ⟨fun e w' F hs => ?_, ?_, ?_⟩
  · first | (go_simp; done) | (go_simp; rfl)
  · exact (fun _ _ _ => rfl)
  refine GW.det (d := (some 214)) [] [] rfl (fun e => by rfl) ?_; apply Exists.intro; refine ⟨fun e w' F hs => ?_, ?_, ?_⟩
  · first | (go_simp; done) | (go_simp; rfl)
  · exact (fun _ _ _ => rfl)
  refine GW.det (d := (some 215)) [0] [] rfl (fun e => by rfl) ?_; apply Exists.intro; refine ⟨fun e w' F hs => ?_, ?_, ?_⟩
  · have y0 : w'.cell? ⟨bb, 3, none⟩ = some (.pointer (some ⟨qp, 0, none⟩)) := (show Sat w0 w' (row bb 58 #[.pointer (some ⟨hp, 0, none⟩), .pointer (some ⟨sp, 0, none⟩), .pointer (some ⟨pp, 0, none⟩), .pointer (some ⟨qp, 0, none⟩)] * F) from hs).cell 3 rfl; first | (go_simp; done) | (go_simp; rfl)
  · exact (fun _ _ _ => rfl)
  refine GW.det (d := (some 216)) [] [] rfl (fun e => by rfl) ?_; apply Exists.intro; refine ⟨fun e w' F hs => ?_, ?_, ?_⟩
  · first | (go_simp; done) | (go_simp; rfl)
  · exact (fun _ _ _ => rfl)
  refine GW.det (d := (some 217)) [5] [] rfl (fun e => by rfl) ?_; apply Exists.intro; refine ⟨fun e w' F hs => ?_, ?_, ?_⟩
  · have ⟨y0, y1, y2, y3⟩ := act17c (show Sat w0 w' (pt xb (.cells #[.int .i64 what, .string tx, .int .i64 vk, .int .i64 vn] 61 (0, 0)) * F) from hs); first | (go_simp; done) | (go_simp; rfl)
  · exact (fun _ _ _ => rfl)
  refine GW.keep (d := (some 218)) (fun e => .tuple #[.string ux, .bool b]) [3, 4] [] rfl (fun e => by rfl) (fun _ _ _ => rfl) (fun e w' F K hs hK => ?_) ?_
  · go_simp; (refine (HQ.out _ _ ((show Sat w0 w' ((refR13 pp A * refS qp pp R) * F) from hs).assoc)).mono ?_; rintro e2 w2 ⟨rfl, h2⟩; exact ⟨_, rfl, hK _ h2.unassoc⟩)
  refine GW.det (d := (some 211)) [] [] rfl (fun e => by rfl) ?_; apply Exists.intro; refine ⟨fun e w' F hs => ?_, ?_, ?_⟩
  · first | (go_simp; done) | (go_simp; rfl)
  · exact (fun _ _ _ => rfl)
  refine GW.det (d := (some 219)) [] [] rfl (fun e => by rfl) ?_; apply Exists.intro; refine ⟨fun e w' F hs => ?_, ?_, ?_⟩
  · first | (go_simp; done) | (go_simp; rfl)
  · exact (fun _ _ _ => rfl)
  refine GW.det (d := (some 220)) [] [] rfl (fun e => by rfl) ?_; apply Exists.intro; refine ⟨fun e w' F hs => ?_, ?_, ?_⟩
  · first | (go_simp; done) | (go_simp; rfl)
  · exact (fun _ _ _ => rfl)
  refine GW.det (d := (some 17)) [] [] rfl (fun e => by rfl) ?_; apply Exists.intro; refine ⟨fun e w' F hs => ?_, ?_, ?_⟩
  · first | (go_simp; done) | (go_simp; rfl)
  · exact (fun _ _ _ => rfl)
  refine GW.det (d := (some 18)) [] [] rfl (fun e => by rfl) ?_; apply Exists.intro; refine ⟨fun e w' F hs => ?_, ?_, ?_⟩
  · first | (go_simp; done) | (go_simp; rfl)
  · exact (fun _ _ _ => rfl)
  refine GW.done (sz := 229) [0, 1, 2, 3, 4, 5, 6] (by kernel_rfl) (by kernel_rfl) HA0.out.1 (by rfl) HS1.out (by rfl) fun e w3 gg => ?_
  have ha := HA0.out.2
  subst ha
  clear HA0 hb0 hb3
  simp only [putL, Act.put, List.setIfInBounds_toArray, List.set_cons_zero, List.set_cons_succ]
  have HS2 := Lib.hid (show Sat w0 w3 (row bb 58 #[.pointer (some ⟨hp, 0, none⟩), .pointer (some ⟨sp, 0, none⟩), .pointer (some ⟨pp, 0, none⟩), .pointer (some ⟨qp, 0, none⟩)] * (heapR mN hp A * (strR sp hp M * (refR13 pp A * (refS qp pp R * (pt xb (.cells #[.int .i64 what, .string tx, .int .i64 vk, .int .i64 vn] 61 (0, 0)) * (F))))))) from gg)
  clear gg HS1
  have HF := Lib.hid (show Sat w0 _ (row bb 58 #[.pointer (some ⟨hp, 0, none⟩), .pointer (some ⟨sp, 0, none⟩), .pointer (some ⟨pp, 0, none⟩), .pointer (some ⟨qp, 0, none⟩)] * (heapR mN hp (A) * (strR sp hp (M) * (refR13 pp (A) * (refS qp pp (R))))) * F) from Sat.drop (P := pt xb (.cells #[.int .i64 what, .string tx, .int .i64 vk, .int .i64 vn] 61 (0, 0))) (HS2.out.cast (by ac_rfl)))
  clear HS2
  go_wp2_with fail
  go_ret
  exact ⟨by simp, HF.out⟩
def cpy : ByteArray := (ByteArray.mk #[111, 102, 32, 116, 104, 101, 32, 99, 111, 112, 121])
set_option maxRecDepth 100000 in
set_option maxHeartbeats 4000000 in
theorem i_do_9 (c : IC A M R B N) (h : Sat w0 w (row bb 58 #[.pointer (some ⟨hp, 0, none⟩), .pointer (some ⟨sp, 0, none⟩), .pointer (some ⟨pp, 0, none⟩), .pointer (some ⟨qp, 0, none⟩)] * (heapR mN hp (A) * (strR sp hp (M) * (refR13 pp (A) * (refS qp pp (R))))) * F)) (tx : ByteArray) (vk vn : Int) :
    Calls Try.prog 28 #[.pointer (some ⟨bb, 0, none⟩), .agg #[.int .i64 9, .string tx, .int .i64 vk, .int .i64 vn]] w fun e w' => e = .returned (.bool true) ∧ ∃ hp2 sp2 pp2 qp2, Sat w0 w' (row bb 58 #[.pointer (some ⟨hp2, 0, none⟩), .pointer (some ⟨sp2, 0, none⟩), .pointer (some ⟨pp2, 0, none⟩), .pointer (some ⟨qp2, 0, none⟩)] * (heapR mN hp2 (A.of M cpy) * (strR sp2 hp2 (ofM A M cpy) * (refR13 pp2 (A.of M cpy) * (refS qp2 pp2 (rofR A R cpy))))) * F) := by
  have hB := c.hB
  have hRl : R.length ≤ 1000000 := by have := c.hR; omega
  have hW : A.watch.length ≤ 1000000 := by have := c.hW; omega
  have h1 : Sat w0 (w.alloc (.cells #[.int .i64 9, .string tx, .int .i64 vk, .int .i64 vn] 61)) (row bb 58 #[.pointer (some ⟨hp, 0, none⟩), .pointer (some ⟨sp, 0, none⟩), .pointer (some ⟨pp, 0, none⟩), .pointer (some ⟨qp, 0, none⟩)] * (heapR mN hp A * (strR sp hp M * (refR13 pp A * (refS qp pp R * (pt w.heap.size (.cells #[.int .i64 9, .string tx, .int .i64 vk, .int .i64 vn] 61 (0, 0)) * (F))))))) := (h.alloc (.cells #[.int .i64 9, .string tx, .int .i64 vk, .int .i64 vn] 61)).cast (by ac_rfl)
  generalize hxb : w.heap.size = xb at *
  have C := Lib.hid c
  have ⟨c0, c1, c2, c3⟩ := act17c (h1.p6)
  obtain ⟨tn, htn⟩ : ∃ q : Nat, q = min tx.size 5000 := ⟨_, rfl⟩
  have htx : txc tx 5000 = tx.extract 0 tn := by unfold txc; rw [htn]
  have ht1 : (if (5000 : Int) < (tx.size : Int) then (5000 : Int) else (tx.size : Int)) = (tn : Int) := by split <;> omega
  have ht2 : min (tx.size : Int) 5000 = (tn : Int) := by omega
  have ht3 : tn ≤ tx.size := by omega
  have ht4 : ((tn : Int)).toNat = tn := rfl
  have ht5 : (tn : Int) ≤ (tx.size : Int) := by omega
  have ht6 : (0 : Int) ≤ (tn : Int) := by omega
  obtain ⟨qv, hqv⟩ : ∃ q, (if 1000 < vn then (1000 : Int) else vn) = q := ⟨_, rfl⟩
  obtain ⟨cv, hcv⟩ : ∃ q, (if 0 < qv then qv else (0 : Int)) = q := ⟨_, rfl⟩
  have HCV := Lib.hid (show clamp17 vn = cv from by unfold clamp17; rw [hqv, hcv])
  obtain ⟨tt, htt⟩ : ∃ q, tx.extract 0 tn = q := ⟨_, rfl⟩
  have HTT := Lib.hid (show txc tx 5000 = tt from by rw [htx, htt])
  clear h c htx htn
  have HS0 := Lib.hid h1
  clear h1
  go_enter Try.func28, Try.ntmps28
  go_wp2_with fail
  clear c0 c1 c2 c3
  refine wp_gen fun a0 ha => ?_
  have hb0 : base a0 0 = .pointer (some ⟨bb, 0, none⟩) := by rw [ha]; rfl
  have hsz0 : a0.tmps.size = 229 := by rw [ha]; rfl
  have HA0 := Lib.hid (And.intro hsz0 ha)
  clear ha hsz0
  refine GW.start (X := Nat) (w0 := w0) (B := [row bb 58 #[.pointer (some ⟨hp, 0, none⟩), .pointer (some ⟨sp, 0, none⟩), .pointer (some ⟨pp, 0, none⟩), .pointer (some ⟨qp, 0, none⟩)], heapR mN hp A, strR sp hp M, refR13 pp A, refS qp pp R, pt xb (.cells #[.int .i64 9, .string tx, .int .i64 vk, .int .i64 vn] 61 (0, 0)), F]) (a0 := a0) ?_
  refine GW.det (d := (some 153)) [] [] rfl (fun e => by rfl) ?_; apply Exists.intro; refine ⟨fun e w' F hs => ?_, ?_, ?_⟩
  · first | (go_simp; done) | (go_simp; rfl)
  · exact (fun _ _ _ => rfl)
  refine GW.det (d := (some 154)) [] [] rfl (fun e => by rfl) ?_; apply Exists.intro; refine ⟨fun e w' F hs => ?_, ?_, ?_⟩
  · first | (go_simp; done) | (go_simp; rfl)
  · exact (fun _ _ _ => rfl)
  refine GW.det (d := (some 155)) [] [] rfl (fun e => by rfl) ?_; apply Exists.intro; refine ⟨fun e w' F hs => ?_, ?_, ?_⟩
  · first | (go_simp; done) | (go_simp; rfl)
  · exact (fun _ _ _ => rfl)
  refine GW.det (d := (some 156)) [0] [] rfl (fun e => by rfl) ?_; apply Exists.intro; refine ⟨fun e w' F hs => ?_, ?_, ?_⟩
  · have y0 : w'.cell? ⟨bb, 0, none⟩ = some (.pointer (some ⟨hp, 0, none⟩)) := (show Sat w0 w' (row bb 58 #[.pointer (some ⟨hp, 0, none⟩), .pointer (some ⟨sp, 0, none⟩), .pointer (some ⟨pp, 0, none⟩), .pointer (some ⟨qp, 0, none⟩)] * F) from hs).cell 0 rfl; first | (go_simp; done) | (go_simp; rfl)
  · exact (fun _ _ _ => rfl)
  refine GW.new (d := (some 157)) 4 (fun x => .pointer (some ⟨x, 0, none⟩)) (fun x => heapR mN x A) [1] rfl rfl (fun e => by rfl) (fun e w' F K hs hK => ?_) ?_
  · go_simp; (refine (x_Copy C.out.H hB (show Sat w0 w' (heapR mN hp A * F) from hs)).mono ?_; rintro e2 w2 ⟨x2, rfl, h2⟩; exact ⟨_, rfl, hK x2 _ h2.p2⟩)
  refine GW.det (d := (some 158)) [] [] rfl (fun e => by rfl) ?_; apply Exists.intro; refine ⟨fun e w' F hs => ?_, ?_, ?_⟩
  · first | (go_simp; done) | (go_simp; rfl)
  · exact (fun _ _ _ => rfl)
  refine GW.det (d := (some 159)) [] [] rfl (fun e => by rfl) ?_; apply Exists.intro; refine ⟨fun e w' F hs => ?_, ?_, ?_⟩
  · first | (go_simp; done) | (go_simp; rfl)
  · exact (fun _ _ _ => rfl)
  refine GW.det (d := (some 160)) [] [] rfl (fun e => by rfl) ?_; apply Exists.intro; refine ⟨fun e w' F hs => ?_, ?_, ?_⟩
  · first | (go_simp; done) | (go_simp; rfl)
  · exact (fun _ _ _ => rfl)
  refine GW.det (d := (some 161)) [0] [] rfl (fun e => by rfl) ?_; apply Exists.intro; refine ⟨fun e w' F hs => ?_, ?_, ?_⟩
  · have y0 : w'.cell? ⟨bb, 2, none⟩ = some (.pointer (some ⟨pp, 0, none⟩)) := (show Sat w0 w' (row bb 58 #[.pointer (some ⟨hp, 0, none⟩), .pointer (some ⟨sp, 0, none⟩), .pointer (some ⟨pp, 0, none⟩), .pointer (some ⟨qp, 0, none⟩)] * F) from hs).cell 2 rfl; first | (go_simp; done) | (go_simp; rfl)
  · exact (fun _ _ _ => rfl)
  refine GW.new (d := (some 162)) 9 (fun x => .pointer (some ⟨x, 0, none⟩)) (fun x => refR13 x A) [3] rfl rfl (fun e => by rfl) (fun e w' F K hs hK => ?_) ?_
  · go_simp; (refine (r_Copy C.out.H hB hW (show Sat w0 w' (refR13 pp A * F) from hs)).mono ?_; rintro e2 w2 ⟨x2, rfl, h2⟩; exact ⟨_, rfl, hK x2 _ h2.p2⟩)
  refine GW.det (d := (some 11)) [] [4] rfl (fun e => by rfl) ?_; apply Exists.intro; refine ⟨fun e w' F hs => ?_, ?_, ?_⟩
  · first | (go_simp; done) | (go_simp; rfl)
  · exact (fun e e' hl => by first | rfl | simp only [hl 4 (by decide)])
  refine GW.det (d := (some 12)) [] [9] rfl (fun e => by rfl) ?_; apply Exists.intro; refine ⟨fun e w' F hs => ?_, ?_, ?_⟩
  · first | (go_simp; done) | (go_simp; rfl)
  · exact (fun e e' hl => by first | rfl | simp only [hl 9 (by decide)])
  refine GW.done (sz := 229) [0, 1, 2, 3, 4, 5, 6, 7 + 4, 7 + 9] (by kernel_rfl) (by kernel_rfl) HA0.out.1 (by rfl) HS0.out (by rfl) fun e w3 gg => ?_
  have ha := HA0.out.2
  subst ha
  clear HA0 hb0
  simp only [putL, Act.put, List.setIfInBounds_toArray, List.set_cons_zero, List.set_cons_succ]
  replace gg : Sat w0 w3 (row bb 58 #[.pointer (some ⟨hp, 0, none⟩), .pointer (some ⟨sp, 0, none⟩), .pointer (some ⟨pp, 0, none⟩), .pointer (some ⟨qp, 0, none⟩)] * (heapR mN hp A * (strR sp hp M * (refR13 pp A * (refS qp pp R * (pt xb (.cells #[.int .i64 9, .string tx, .int .i64 vk, .int .i64 vn] 61 (0, 0)) * (F * (heapR mN (e 4) A * (refR13 (e 9) A))))))))) := gg
  generalize e 4 = hp2 at *
  generalize e 9 = pp2 at *
  have HS1 := Lib.hid (show Sat w0 w3 (row bb 58 #[.pointer (some ⟨hp, 0, none⟩), .pointer (some ⟨sp, 0, none⟩), .pointer (some ⟨pp, 0, none⟩), .pointer (some ⟨qp, 0, none⟩)] * (heapR mN hp A * (strR sp hp M * (refR13 pp A * (refS qp pp R * (pt xb (.cells #[.int .i64 9, .string tx, .int .i64 vk, .int .i64 vn] 61 (0, 0)) * (heapR mN hp2 A * (refR13 pp2 A * (F))))))))) from gg.cast (by ac_rfl))
  clear gg HS0
  go_wp2_with fail
  refine wp_gen fun a0 ha => ?_
  have hb0 : base a0 0 = .pointer (some ⟨bb, 0, none⟩) := by rw [ha]; rfl
  have hb11 : base a0 11 = .pointer (some ⟨hp2, 0, none⟩) := by rw [ha]; rfl
  have hb12 : base a0 12 = .pointer (some ⟨pp2, 0, none⟩) := by rw [ha]; rfl
  have hsz0 : a0.tmps.size = 229 := by rw [ha]; rfl
  have HA0 := Lib.hid (And.intro hsz0 ha)
  clear ha hsz0
  refine GW.start (X := Nat) (w0 := w0) (B := [row bb 58 #[.pointer (some ⟨hp, 0, none⟩), .pointer (some ⟨sp, 0, none⟩), .pointer (some ⟨pp, 0, none⟩), .pointer (some ⟨qp, 0, none⟩)], heapR mN hp A, strR sp hp M, refR13 pp A, refS qp pp R, pt xb (.cells #[.int .i64 9, .string tx, .int .i64 vk, .int .i64 vn] 61 (0, 0)), (heapR mN hp2 A * (refR13 pp2 A * F))]) (a0 := a0) ?_
  refine GW.det (d := (some 163)) [] [] rfl (fun e => by rfl) ?_; apply Exists.intro; refine ⟨fun e w' F hs => ?_, ?_, ?_⟩
  · first | (go_simp; done) | (go_simp; rfl)
  · exact (fun _ _ _ => rfl)
  refine GW.det (d := (some 164)) [] [] rfl (fun e => by rfl) ?_; apply Exists.intro; refine ⟨fun e w' F hs => ?_, ?_, ?_⟩
  · first | (go_simp; done) | (go_simp; rfl)
  · exact (fun _ _ _ => rfl)
  refine GW.det (d := (some 165)) [] [] rfl (fun e => by rfl) ?_; apply Exists.intro; refine ⟨fun e w' F hs => ?_, ?_, ?_⟩
  · first | (go_simp; done) | (go_simp; rfl)
  · exact (fun _ _ _ => rfl)
  refine GW.det (d := (some 166)) [0] [] rfl (fun e => by rfl) ?_; apply Exists.intro; refine ⟨fun e w' F hs => ?_, ?_, ?_⟩
  · have y0 : w'.cell? ⟨bb, 1, none⟩ = some (.pointer (some ⟨sp, 0, none⟩)) := (show Sat w0 w' (row bb 58 #[.pointer (some ⟨hp, 0, none⟩), .pointer (some ⟨sp, 0, none⟩), .pointer (some ⟨pp, 0, none⟩), .pointer (some ⟨qp, 0, none⟩)] * F) from hs).cell 1 rfl; first | (go_simp; done) | (go_simp; rfl)
  · exact (fun _ _ _ => rfl)
  refine GW.det (d := (some 167)) [] [] rfl (fun e => by rfl) ?_; apply Exists.intro; refine ⟨fun e w' F hs => ?_, ?_, ?_⟩
  · first | (go_simp; done) | (go_simp; rfl)
  · exact (fun _ _ _ => rfl)
  refine GW.new (d := (some 168)) 5 (fun x => .pointer (some ⟨x, 0, none⟩)) (fun x => strR x hp2 M) [2] rfl rfl (fun e => by rfl) (fun e w' F K hs hK => ?_) ?_
  · go_simp; (refine (str_Copy (show Sat w0 w' (strR sp hp M * F) from hs) hp2).mono ?_; rintro e2 w2 ⟨x2, rfl, h2⟩; exact ⟨_, rfl, hK x2 _ h2.p2⟩)
  refine GW.det (d := (some 169)) [] [] rfl (fun e => by rfl) ?_; apply Exists.intro; refine ⟨fun e w' F hs => ?_, ?_, ?_⟩
  · first | (go_simp; done) | (go_simp; rfl)
  · exact (fun _ _ _ => rfl)
  refine GW.det (d := (some 170)) [] [] rfl (fun e => by rfl) ?_; apply Exists.intro; refine ⟨fun e w' F hs => ?_, ?_, ?_⟩
  · first | (go_simp; done) | (go_simp; rfl)
  · exact (fun _ _ _ => rfl)
  refine GW.det (d := (some 171)) [] [] rfl (fun e => by rfl) ?_; apply Exists.intro; refine ⟨fun e w' F hs => ?_, ?_, ?_⟩
  · first | (go_simp; done) | (go_simp; rfl)
  · exact (fun _ _ _ => rfl)
  refine GW.det (d := (some 172)) [0] [] rfl (fun e => by rfl) ?_; apply Exists.intro; refine ⟨fun e w' F hs => ?_, ?_, ?_⟩
  · have y0 : w'.cell? ⟨bb, 3, none⟩ = some (.pointer (some ⟨qp, 0, none⟩)) := (show Sat w0 w' (row bb 58 #[.pointer (some ⟨hp, 0, none⟩), .pointer (some ⟨sp, 0, none⟩), .pointer (some ⟨pp, 0, none⟩), .pointer (some ⟨qp, 0, none⟩)] * F) from hs).cell 3 rfl; first | (go_simp; done) | (go_simp; rfl)
  · exact (fun _ _ _ => rfl)
  refine GW.det (d := (some 173)) [] [] rfl (fun e => by rfl) ?_; apply Exists.intro; refine ⟨fun e w' F hs => ?_, ?_, ?_⟩
  · first | (go_simp; done) | (go_simp; rfl)
  · exact (fun _ _ _ => rfl)
  refine GW.new (d := (some 174)) 11 (fun x => .pointer (some ⟨x, 0, none⟩)) (fun x => refS x pp2 R) [4] rfl rfl (fun e => by rfl) (fun e w' F K hs hK => ?_) ?_
  · go_simp; (refine (ref_Copy (show Sat w0 w' (refS qp pp R * F) from hs) hRl pp2).mono ?_; rintro e2 w2 ⟨x2, rfl, h2⟩; exact ⟨_, rfl, hK x2 _ h2.p2⟩)
  refine GW.det (d := (some 13)) [] [5] rfl (fun e => by rfl) ?_; apply Exists.intro; refine ⟨fun e w' F hs => ?_, ?_, ?_⟩
  · first | (go_simp; done) | (go_simp; rfl)
  · exact (fun e e' hl => by first | rfl | simp only [hl 5 (by decide)])
  refine GW.det (d := (some 14)) [] [11] rfl (fun e => by rfl) ?_; apply Exists.intro; refine ⟨fun e w' F hs => ?_, ?_, ?_⟩
  · first | (go_simp; done) | (go_simp; rfl)
  · exact (fun e e' hl => by first | rfl | simp only [hl 11 (by decide)])
  refine GW.done (sz := 229) [0, 1, 2, 3, 4, 5, 6, 7 + 5, 7 + 11] (by kernel_rfl) (by kernel_rfl) HA0.out.1 (by rfl) HS1.out (by rfl) fun e w3 gg => ?_
  have ha := HA0.out.2
  subst ha
  clear HA0 hb0 hb11 hb12
  simp only [putL, Act.put, List.setIfInBounds_toArray, List.set_cons_zero, List.set_cons_succ]
  replace gg : Sat w0 w3 (row bb 58 #[.pointer (some ⟨hp, 0, none⟩), .pointer (some ⟨sp, 0, none⟩), .pointer (some ⟨pp, 0, none⟩), .pointer (some ⟨qp, 0, none⟩)] * (heapR mN hp A * (strR sp hp M * (refR13 pp A * (refS qp pp R * (pt xb (.cells #[.int .i64 9, .string tx, .int .i64 vk, .int .i64 vn] 61 (0, 0)) * ((heapR mN hp2 A * (refR13 pp2 A * F)) * (strR (e 5) hp2 M * (refS (e 11) pp2 R))))))))) := gg
  generalize e 5 = sp2 at *
  generalize e 11 = qp2 at *
  have h5 := gg.cast (show _ = heapR mN hp2 A * (strR sp2 hp2 M * (refR13 pp2 A * (refS qp2 pp2 R * (row bb 58 #[.pointer (some ⟨hp, 0, none⟩), .pointer (some ⟨sp, 0, none⟩), .pointer (some ⟨pp, 0, none⟩), .pointer (some ⟨qp, 0, none⟩)] * (pt xb (.cells #[.int .i64 9, .string tx, .int .i64 vk, .int .i64 vn] 61 (0, 0)) * (heapR mN hp A * (strR sp hp M * (refR13 pp A * (refS qp pp R * F))))))))) by ac_rfl)
  have HO := Lib.hid (p_Of C.out cpy rfl h5)
  clear gg h5 HS1
  go_wp2_with fail
  refine HO.out.mono ?_
  rintro e w4 ⟨rfl, h6⟩
  have HO2 := Lib.hid (q_Of C.out cpy rfl (h6.cast (show _ = refR13 pp2 A * (refS qp2 pp2 R * (heapR mN hp2 (A.of M cpy) * (strR sp2 hp2 (ofM A M cpy) * (row bb 58 #[.pointer (some ⟨hp, 0, none⟩), .pointer (some ⟨sp, 0, none⟩), .pointer (some ⟨pp, 0, none⟩), .pointer (some ⟨qp, 0, none⟩)] * (pt xb (.cells #[.int .i64 9, .string tx, .int .i64 vk, .int .i64 vn] 61 (0, 0)) * (heapR mN hp A * (strR sp hp M * (refR13 pp A * (refS qp pp R * F))))))))) by ac_rfl)))
  clear h6
  go_wp2_with fail
  refine HO2.out.mono ?_
  rintro e w5 ⟨rfl, h7⟩
  have h8 := h7.cast (show _ = row bb 58 #[.pointer (some ⟨hp, 0, none⟩), .pointer (some ⟨sp, 0, none⟩), .pointer (some ⟨pp, 0, none⟩), .pointer (some ⟨qp, 0, none⟩)] * (heapR mN hp2 (A.of M cpy) * (strR sp2 hp2 (ofM A M cpy) * (refR13 pp2 (A.of M cpy) * (refS qp2 pp2 (rofR A R cpy) * (pt xb (.cells #[.int .i64 9, .string tx, .int .i64 vk, .int .i64 vn] 61 (0, 0)) * (heapR mN hp A * (strR sp hp M * (refR13 pp A * (refS qp pp R * F))))))))) by ac_rfl)
  have z0 := h8.cell 0 (v := .pointer (some ⟨hp, 0, none⟩)) rfl
  have z1 := h8.cell 1 (v := .pointer (some ⟨sp, 0, none⟩)) rfl
  have z2 := h8.cell 2 (v := .pointer (some ⟨pp, 0, none⟩)) rfl
  have z3 := h8.cell 3 (v := .pointer (some ⟨qp, 0, none⟩)) rfl
  have f0 := h8.free 0
  have f1 := h8.free 1
  have f2 := h8.free 2
  have f3 := h8.free 3
  have h9 := (((h8.store (i := 0) (.pointer (some ⟨hp2, 0, none⟩))).store (i := 1) (.pointer (some ⟨sp2, 0, none⟩))).store (i := 2) (.pointer (some ⟨pp2, 0, none⟩))).store (i := 3) (.pointer (some ⟨qp2, 0, none⟩))
  simp only [List.setIfInBounds_toArray, List.set_cons_zero, List.set_cons_succ] at h9
  have HF := Lib.hid (show Sat w0 _ (row bb 58 #[.pointer (some ⟨hp2, 0, none⟩), .pointer (some ⟨sp2, 0, none⟩), .pointer (some ⟨pp2, 0, none⟩), .pointer (some ⟨qp2, 0, none⟩)] * (heapR mN hp2 (A.of M cpy) * (strR sp2 hp2 (ofM A M cpy) * (refR13 pp2 (A.of M cpy) * (refS qp2 pp2 (rofR A R cpy))))) * F) from Sat.drop (P := pt xb (.cells #[.int .i64 9, .string tx, .int .i64 vk, .int .i64 vn] 61 (0, 0)) * (heapR mN hp A * (strR sp hp M * (refR13 pp A * refS qp pp R)))) (h9.cast (by ac_rfl)))
  clear h7 h8 h9
  go_wp2_with fail
  go_ret
  exact ⟨rfl, hp2, sp2, pp2, qp2, HF.out⟩
end
end Go.Proofs.Ytkpcngcegipalaa.Tw
