/- tallowlaw13: do, act by act. No condition. -/
import Derived.Test.YtkpcngcegipalaaZPCells38
namespace Go.Proofs.Ytkpcngcegipalaa.Tw
set_option linter.unusedVariables false
set_option linter.unusedSimpArgs false
open Go Go.RowKit Go.MapKept

attribute [local go_sem] lookE lkE valUpon
section
variable {w0 w : World} {F XK : HP} {m : Hp} {p q : Nat} {A : AHeap} {B : Int}
set_option maxRecDepth 100000 in
set_option maxHeartbeats 4000000 in
theorem p_do_4 (H0 : HW A B) (hB : B ≤ 1000000) (hW : A.watch.length ≤ 1000000) (KX : Knows m XK) (h : Sat w0 w (heapR m p A * (refR13 q A * (XK * F)))) (xn xi vk vn : Int) (la : Option Addr) (ll lc : Nat) (xtx : ByteArray) :
    Calls Try.prog 56 #[.pointer (some ⟨p, 0, none⟩), .pointer (some ⟨q, 0, none⟩), .agg #[.int .i64 4, .int .i64 xn, .int .i64 xi, .int .i64 vk, .int .i64 vn, .slice la ll lc, .string xtx]] w fun e w' => e = .returned (.bool true) ∧ Sat w0 w' (heapR m p (A.drop ⟨vk, vn⟩) * (refR13 q (A.drop ⟨vk, vn⟩) * (XK * F))) := by
  obtain ⟨e0, he0⟩ : ∃ e, cntE A ⟨vk, vn⟩ = e := ⟨_, rfl⟩
  have h1 : Sat w0 (w.alloc (.cells #[.int .i64 4, .int .i64 xn, .int .i64 xi, .int .i64 vk, .int .i64 vn, .slice la ll lc, .string xtx] 100)) (heapR m p A * (refR13 q A * (pt w.heap.size (.cells #[.int .i64 4, .int .i64 xn, .int .i64 xi, .int .i64 vk, .int .i64 vn, .slice la ll lc, .string xtx] 100 (0, 0)) * (XK * F)))) := (h.alloc (.cells #[.int .i64 4, .int .i64 xn, .int .i64 xi, .int .i64 vk, .int .i64 vn, .slice la ll lc, .string xtx] 100)).cast (by ac_rfl)
  generalize hxb : w.heap.size = xb at *
  have H := Lib.hid H0
  have ⟨c0, c1, c2, c3, c4, c5, c6⟩ := act7 h1.p3
  have HXB := Lib.hid hxb
  clear h H0
  have HS0 := Lib.hid h1
  clear h1
  go_enter Try.func56, Try.ntmps56
  go_wp2_with fail
  clear c0 c1 c2 c3 c4 c5 c6
  refine wp_gen fun a0 ha => ?_
  have hb0 : base a0 0 = .pointer (some ⟨p, 0, none⟩) := by rw [ha]; rfl
  have hb1 : base a0 1 = .pointer (some ⟨q, 0, none⟩) := by rw [ha]; rfl
  have hb5 : base a0 5 = .pointer (some ⟨xb, 0, none⟩) := by rw [ha]; rfl
  have hsz0 : a0.tmps.size = 160 := by rw [ha]; rfl
  have HA0 := Lib.hid (And.intro hsz0 ha)
  clear ha hsz0
  refine GW.start (X := Nat) (w0 := w0) (B := [heapR m p A, refR13 q A, pt xb (.cells #[.int .i64 4, .int .i64 xn, .int .i64 xi, .int .i64 vk, .int .i64 vn, .slice la ll lc, .string xtx] 100 (0, 0)), XK, F]) (a0 := a0) ?_
  refine GW.det (d := (some 54)) [] [] rfl (fun e => by rfl) ?_; apply Exists.intro; refine ⟨fun e w' F hs => ?_, ?_, ?_⟩
  · first | (go_simp; done) | (go_simp; rfl)
  · exact (fun _ _ _ => rfl)
  refine GW.det (d := (some 55)) [] [] rfl (fun e => by rfl) ?_; apply Exists.intro; refine ⟨fun e w' F hs => ?_, ?_, ?_⟩
  · first | (go_simp; done) | (go_simp; rfl)
  · exact (fun _ _ _ => rfl)
  refine GW.det (d := (some 56)) [2] [] rfl (fun e => by rfl) ?_; apply Exists.intro; refine ⟨fun e w' F hs => ?_, ?_, ?_⟩
  · have ⟨y0, y1, y2, y3, y4, y5, y6⟩ := act7 (show Sat w0 w' (pt xb (.cells #[.int .i64 4, .int .i64 xn, .int .i64 xi, .int .i64 vk, .int .i64 vn, .slice la ll lc, .string xtx] 100 (0, 0)) * F) from hs); first | (go_simp; done) | (go_simp; rfl)
  · exact (fun _ _ _ => rfl)
  refine GW.take (d := (some 57)) 3 (fun e => .int .i64 e0) (fun e => heapR m p (A.drop ⟨vk, vn⟩)) [3] [0] [] rfl rfl (fun e => by rfl) (fun e e' hl => by exact ⟨rfl, rfl⟩) (fun e w' F K hs hK => ?_) ?_
  · go_simp; (refine (x_Drop H.out hB KX.right (show Sat w0 w' (XK * (heapR m p A * F)) from hs).p2 vk vn he0).mono ?_; rintro e2 w2 ⟨rfl, h2⟩; exact ⟨_, rfl, hK default _ h2.p2⟩)
  refine GW.det (d := (some 58)) [] [] rfl (fun e => by rfl) ?_; apply Exists.intro; refine ⟨fun e w' F hs => ?_, ?_, ?_⟩
  · first | (go_simp; done) | (go_simp; rfl)
  · exact (fun _ _ _ => rfl)
  refine GW.det (d := (some 59)) [] [] rfl (fun e => by rfl) ?_; apply Exists.intro; refine ⟨fun e w' F hs => ?_, ?_, ?_⟩
  · first | (go_simp; done) | (go_simp; rfl)
  · exact (fun _ _ _ => rfl)
  refine GW.det (d := (some 60)) [2] [] rfl (fun e => by rfl) ?_; apply Exists.intro; refine ⟨fun e w' F hs => ?_, ?_, ?_⟩
  · have ⟨y0, y1, y2, y3, y4, y5, y6⟩ := act7 (show Sat w0 w' (pt xb (.cells #[.int .i64 4, .int .i64 xn, .int .i64 xi, .int .i64 vk, .int .i64 vn, .slice la ll lc, .string xtx] 100 (0, 0)) * F) from hs); first | (go_simp; done) | (go_simp; rfl)
  · exact (fun _ _ _ => rfl)
  refine GW.take (d := (some 61)) 7 (fun e => .int .i64 e0) (fun e => refR13 q (A.drop ⟨vk, vn⟩)) [] [1] [] rfl rfl (fun e => by rfl) (fun e e' hl => by exact ⟨rfl, rfl⟩) (fun e w' F K hs hK => ?_) ?_
  · go_simp; (refine (r_Drop H.out hB hW (one_out hs : Sat w0 w' (refR13 q A * F)) vk vn he0).mono ?_; rintro e2 w2 ⟨rfl, h2⟩; exact ⟨_, rfl, hK default _ (one_in h2)⟩)
  refine GW.det (d := (some 62)) [] [] rfl (fun e => by rfl) ?_; apply Exists.intro; refine ⟨fun e w' F hs => ?_, ?_, ?_⟩
  · first | (go_simp; done) | (go_simp; rfl)
  · exact (fun _ _ _ => rfl)
  refine GW.det (d := (some 6)) [] [] rfl (fun e => by rfl) ?_; apply Exists.intro; refine ⟨fun e w' F hs => ?_, ?_, ?_⟩
  · first | (go_simp; done) | (go_simp; rfl)
  · exact (fun _ _ _ => rfl)
  refine GW.done (sz := 160) [5 + 3, 5 + 7, 3, 4] (by kernel_rfl) (by kernel_rfl) HA0.out.1 (by rfl) HS0.out (by rfl) fun e w3 gg => ?_
  have ha := HA0.out.2
  subst ha
  clear HA0 HS0 hb0 hb1 hb5
  simp only [putL, Act.put, List.setIfInBounds_toArray, List.set_cons_zero, List.set_cons_succ]
  have h3 : Sat w0 w3 (heapR m p (A.drop ⟨vk, vn⟩) * (refR13 q (A.drop ⟨vk, vn⟩) * (XK * F))) := gg
  clear gg
  go_wp2_with fail
  go_ret
  exact ⟨rfl, h3⟩
set_option maxRecDepth 100000 in
set_option maxHeartbeats 4000000 in
theorem p_do_5 (H0 : HW A B) (hB : B ≤ 1000000) (hW : A.watch.length ≤ 1000000) (KX : Knows m XK) (h : Sat w0 w (heapR m p A * (refR13 q A * (XK * F)))) (xn xi vk vn : Int) (la : Option Addr) (ll lc : Nat) (xtx : ByteArray) :
    Calls Try.prog 56 #[.pointer (some ⟨p, 0, none⟩), .pointer (some ⟨q, 0, none⟩), .agg #[.int .i64 5, .int .i64 xn, .int .i64 xi, .int .i64 vk, .int .i64 vn, .slice la ll lc, .string xtx]] w fun e w' => e = .returned (.bool true) ∧ Sat w0 w' (heapR m p (A.drop ⟨vk, vn⟩) * (refR13 q (A.drop ⟨vk, vn⟩) * (XK * F))) := by
  obtain ⟨e0, he0⟩ : ∃ e, cntE A ⟨vk, vn⟩ = e := ⟨_, rfl⟩
  have h1 : Sat w0 (w.alloc (.cells #[.int .i64 5, .int .i64 xn, .int .i64 xi, .int .i64 vk, .int .i64 vn, .slice la ll lc, .string xtx] 100)) (heapR m p A * (refR13 q A * (pt w.heap.size (.cells #[.int .i64 5, .int .i64 xn, .int .i64 xi, .int .i64 vk, .int .i64 vn, .slice la ll lc, .string xtx] 100 (0, 0)) * (XK * F)))) := (h.alloc (.cells #[.int .i64 5, .int .i64 xn, .int .i64 xi, .int .i64 vk, .int .i64 vn, .slice la ll lc, .string xtx] 100)).cast (by ac_rfl)
  generalize hxb : w.heap.size = xb at *
  have H := Lib.hid H0
  have ⟨c0, c1, c2, c3, c4, c5, c6⟩ := act7 h1.p3
  have HXB := Lib.hid hxb
  clear h H0
  have HS0 := Lib.hid h1
  clear h1
  go_enter Try.func56, Try.ntmps56
  go_wp2_with fail
  clear c0 c1 c2 c3 c4 c5 c6
  refine wp_gen fun a0 ha => ?_
  have hb0 : base a0 0 = .pointer (some ⟨p, 0, none⟩) := by rw [ha]; rfl
  have hb1 : base a0 1 = .pointer (some ⟨q, 0, none⟩) := by rw [ha]; rfl
  have hb5 : base a0 5 = .pointer (some ⟨xb, 0, none⟩) := by rw [ha]; rfl
  have hsz0 : a0.tmps.size = 160 := by rw [ha]; rfl
  have HA0 := Lib.hid (And.intro hsz0 ha)
  clear ha hsz0
  refine GW.start (X := Nat) (w0 := w0) (B := [heapR m p A, refR13 q A, pt xb (.cells #[.int .i64 5, .int .i64 xn, .int .i64 xi, .int .i64 vk, .int .i64 vn, .slice la ll lc, .string xtx] 100 (0, 0)), XK, F]) (a0 := a0) ?_
  refine GW.det (d := (some 54)) [] [] rfl (fun e => by rfl) ?_; apply Exists.intro; refine ⟨fun e w' F hs => ?_, ?_, ?_⟩
  · first | (go_simp; done) | (go_simp; rfl)
  · exact (fun _ _ _ => rfl)
  refine GW.det (d := (some 55)) [] [] rfl (fun e => by rfl) ?_; apply Exists.intro; refine ⟨fun e w' F hs => ?_, ?_, ?_⟩
  · first | (go_simp; done) | (go_simp; rfl)
  · exact (fun _ _ _ => rfl)
  refine GW.det (d := (some 56)) [2] [] rfl (fun e => by rfl) ?_; apply Exists.intro; refine ⟨fun e w' F hs => ?_, ?_, ?_⟩
  · have ⟨y0, y1, y2, y3, y4, y5, y6⟩ := act7 (show Sat w0 w' (pt xb (.cells #[.int .i64 5, .int .i64 xn, .int .i64 xi, .int .i64 vk, .int .i64 vn, .slice la ll lc, .string xtx] 100 (0, 0)) * F) from hs); first | (go_simp; done) | (go_simp; rfl)
  · exact (fun _ _ _ => rfl)
  refine GW.take (d := (some 57)) 3 (fun e => .int .i64 e0) (fun e => heapR m p (A.drop ⟨vk, vn⟩)) [3] [0] [] rfl rfl (fun e => by rfl) (fun e e' hl => by exact ⟨rfl, rfl⟩) (fun e w' F K hs hK => ?_) ?_
  · go_simp; (refine (x_Drop H.out hB KX.right (show Sat w0 w' (XK * (heapR m p A * F)) from hs).p2 vk vn he0).mono ?_; rintro e2 w2 ⟨rfl, h2⟩; exact ⟨_, rfl, hK default _ h2.p2⟩)
  refine GW.det (d := (some 58)) [] [] rfl (fun e => by rfl) ?_; apply Exists.intro; refine ⟨fun e w' F hs => ?_, ?_, ?_⟩
  · first | (go_simp; done) | (go_simp; rfl)
  · exact (fun _ _ _ => rfl)
  refine GW.det (d := (some 59)) [] [] rfl (fun e => by rfl) ?_; apply Exists.intro; refine ⟨fun e w' F hs => ?_, ?_, ?_⟩
  · first | (go_simp; done) | (go_simp; rfl)
  · exact (fun _ _ _ => rfl)
  refine GW.det (d := (some 60)) [2] [] rfl (fun e => by rfl) ?_; apply Exists.intro; refine ⟨fun e w' F hs => ?_, ?_, ?_⟩
  · have ⟨y0, y1, y2, y3, y4, y5, y6⟩ := act7 (show Sat w0 w' (pt xb (.cells #[.int .i64 5, .int .i64 xn, .int .i64 xi, .int .i64 vk, .int .i64 vn, .slice la ll lc, .string xtx] 100 (0, 0)) * F) from hs); first | (go_simp; done) | (go_simp; rfl)
  · exact (fun _ _ _ => rfl)
  refine GW.take (d := (some 61)) 7 (fun e => .int .i64 e0) (fun e => refR13 q (A.drop ⟨vk, vn⟩)) [] [1] [] rfl rfl (fun e => by rfl) (fun e e' hl => by exact ⟨rfl, rfl⟩) (fun e w' F K hs hK => ?_) ?_
  · go_simp; (refine (r_Drop H.out hB hW (one_out hs : Sat w0 w' (refR13 q A * F)) vk vn he0).mono ?_; rintro e2 w2 ⟨rfl, h2⟩; exact ⟨_, rfl, hK default _ (one_in h2)⟩)
  refine GW.det (d := (some 62)) [] [] rfl (fun e => by rfl) ?_; apply Exists.intro; refine ⟨fun e w' F hs => ?_, ?_, ?_⟩
  · first | (go_simp; done) | (go_simp; rfl)
  · exact (fun _ _ _ => rfl)
  refine GW.det (d := (some 6)) [] [] rfl (fun e => by rfl) ?_; apply Exists.intro; refine ⟨fun e w' F hs => ?_, ?_, ?_⟩
  · first | (go_simp; done) | (go_simp; rfl)
  · exact (fun _ _ _ => rfl)
  refine GW.done (sz := 160) [5 + 3, 5 + 7, 3, 4] (by kernel_rfl) (by kernel_rfl) HA0.out.1 (by rfl) HS0.out (by rfl) fun e w3 gg => ?_
  have ha := HA0.out.2
  subst ha
  clear HA0 HS0 hb0 hb1 hb5
  simp only [putL, Act.put, List.setIfInBounds_toArray, List.set_cons_zero, List.set_cons_succ]
  have h3 : Sat w0 w3 (heapR m p (A.drop ⟨vk, vn⟩) * (refR13 q (A.drop ⟨vk, vn⟩) * (XK * F))) := gg
  clear gg
  go_wp2_with fail
  go_ret
  exact ⟨rfl, h3⟩
set_option maxRecDepth 100000 in
set_option maxHeartbeats 4000000 in
theorem p_do_6 (H0 : HW A B) (hB : B ≤ 1000000) (hW : A.watch.length ≤ 1000000) (KX : Knows m XK) (h : Sat w0 w (heapR m p A * (refR13 q A * (XK * F)))) (xn xi vk vn : Int) (la : Option Addr) (ll lc : Nat) (xtx : ByteArray) :
    Calls Try.prog 56 #[.pointer (some ⟨p, 0, none⟩), .pointer (some ⟨q, 0, none⟩), .agg #[.int .i64 6, .int .i64 xn, .int .i64 xi, .int .i64 vk, .int .i64 vn, .slice la ll lc, .string xtx]] w fun e w' => e = .returned (.bool true) ∧ Sat w0 w' (heapR m p (A.drop ⟨vk, vn⟩) * (refR13 q (A.drop ⟨vk, vn⟩) * (XK * F))) := by
  obtain ⟨e0, he0⟩ : ∃ e, cntE A ⟨vk, vn⟩ = e := ⟨_, rfl⟩
  have h1 : Sat w0 (w.alloc (.cells #[.int .i64 6, .int .i64 xn, .int .i64 xi, .int .i64 vk, .int .i64 vn, .slice la ll lc, .string xtx] 100)) (heapR m p A * (refR13 q A * (pt w.heap.size (.cells #[.int .i64 6, .int .i64 xn, .int .i64 xi, .int .i64 vk, .int .i64 vn, .slice la ll lc, .string xtx] 100 (0, 0)) * (XK * F)))) := (h.alloc (.cells #[.int .i64 6, .int .i64 xn, .int .i64 xi, .int .i64 vk, .int .i64 vn, .slice la ll lc, .string xtx] 100)).cast (by ac_rfl)
  generalize hxb : w.heap.size = xb at *
  have H := Lib.hid H0
  have ⟨c0, c1, c2, c3, c4, c5, c6⟩ := act7 h1.p3
  have HXB := Lib.hid hxb
  clear h H0
  have HS0 := Lib.hid h1
  clear h1
  go_enter Try.func56, Try.ntmps56
  go_wp2_with fail
  clear c0 c1 c2 c3 c4 c5 c6
  refine wp_gen fun a0 ha => ?_
  have hb0 : base a0 0 = .pointer (some ⟨p, 0, none⟩) := by rw [ha]; rfl
  have hb1 : base a0 1 = .pointer (some ⟨q, 0, none⟩) := by rw [ha]; rfl
  have hb5 : base a0 5 = .pointer (some ⟨xb, 0, none⟩) := by rw [ha]; rfl
  have hsz0 : a0.tmps.size = 160 := by rw [ha]; rfl
  have HA0 := Lib.hid (And.intro hsz0 ha)
  clear ha hsz0
  refine GW.start (X := Nat) (w0 := w0) (B := [heapR m p A, refR13 q A, pt xb (.cells #[.int .i64 6, .int .i64 xn, .int .i64 xi, .int .i64 vk, .int .i64 vn, .slice la ll lc, .string xtx] 100 (0, 0)), XK, F]) (a0 := a0) ?_
  refine GW.det (d := (some 54)) [] [] rfl (fun e => by rfl) ?_; apply Exists.intro; refine ⟨fun e w' F hs => ?_, ?_, ?_⟩
  · first | (go_simp; done) | (go_simp; rfl)
  · exact (fun _ _ _ => rfl)
  refine GW.det (d := (some 55)) [] [] rfl (fun e => by rfl) ?_; apply Exists.intro; refine ⟨fun e w' F hs => ?_, ?_, ?_⟩
  · first | (go_simp; done) | (go_simp; rfl)
  · exact (fun _ _ _ => rfl)
  refine GW.det (d := (some 56)) [2] [] rfl (fun e => by rfl) ?_; apply Exists.intro; refine ⟨fun e w' F hs => ?_, ?_, ?_⟩
  · have ⟨y0, y1, y2, y3, y4, y5, y6⟩ := act7 (show Sat w0 w' (pt xb (.cells #[.int .i64 6, .int .i64 xn, .int .i64 xi, .int .i64 vk, .int .i64 vn, .slice la ll lc, .string xtx] 100 (0, 0)) * F) from hs); first | (go_simp; done) | (go_simp; rfl)
  · exact (fun _ _ _ => rfl)
  refine GW.take (d := (some 57)) 3 (fun e => .int .i64 e0) (fun e => heapR m p (A.drop ⟨vk, vn⟩)) [3] [0] [] rfl rfl (fun e => by rfl) (fun e e' hl => by exact ⟨rfl, rfl⟩) (fun e w' F K hs hK => ?_) ?_
  · go_simp; (refine (x_Drop H.out hB KX.right (show Sat w0 w' (XK * (heapR m p A * F)) from hs).p2 vk vn he0).mono ?_; rintro e2 w2 ⟨rfl, h2⟩; exact ⟨_, rfl, hK default _ h2.p2⟩)
  refine GW.det (d := (some 58)) [] [] rfl (fun e => by rfl) ?_; apply Exists.intro; refine ⟨fun e w' F hs => ?_, ?_, ?_⟩
  · first | (go_simp; done) | (go_simp; rfl)
  · exact (fun _ _ _ => rfl)
  refine GW.det (d := (some 59)) [] [] rfl (fun e => by rfl) ?_; apply Exists.intro; refine ⟨fun e w' F hs => ?_, ?_, ?_⟩
  · first | (go_simp; done) | (go_simp; rfl)
  · exact (fun _ _ _ => rfl)
  refine GW.det (d := (some 60)) [2] [] rfl (fun e => by rfl) ?_; apply Exists.intro; refine ⟨fun e w' F hs => ?_, ?_, ?_⟩
  · have ⟨y0, y1, y2, y3, y4, y5, y6⟩ := act7 (show Sat w0 w' (pt xb (.cells #[.int .i64 6, .int .i64 xn, .int .i64 xi, .int .i64 vk, .int .i64 vn, .slice la ll lc, .string xtx] 100 (0, 0)) * F) from hs); first | (go_simp; done) | (go_simp; rfl)
  · exact (fun _ _ _ => rfl)
  refine GW.take (d := (some 61)) 7 (fun e => .int .i64 e0) (fun e => refR13 q (A.drop ⟨vk, vn⟩)) [] [1] [] rfl rfl (fun e => by rfl) (fun e e' hl => by exact ⟨rfl, rfl⟩) (fun e w' F K hs hK => ?_) ?_
  · go_simp; (refine (r_Drop H.out hB hW (one_out hs : Sat w0 w' (refR13 q A * F)) vk vn he0).mono ?_; rintro e2 w2 ⟨rfl, h2⟩; exact ⟨_, rfl, hK default _ (one_in h2)⟩)
  refine GW.det (d := (some 62)) [] [] rfl (fun e => by rfl) ?_; apply Exists.intro; refine ⟨fun e w' F hs => ?_, ?_, ?_⟩
  · first | (go_simp; done) | (go_simp; rfl)
  · exact (fun _ _ _ => rfl)
  refine GW.det (d := (some 6)) [] [] rfl (fun e => by rfl) ?_; apply Exists.intro; refine ⟨fun e w' F hs => ?_, ?_, ?_⟩
  · first | (go_simp; done) | (go_simp; rfl)
  · exact (fun _ _ _ => rfl)
  refine GW.done (sz := 160) [5 + 3, 5 + 7, 3, 4] (by kernel_rfl) (by kernel_rfl) HA0.out.1 (by rfl) HS0.out (by rfl) fun e w3 gg => ?_
  have ha := HA0.out.2
  subst ha
  clear HA0 HS0 hb0 hb1 hb5
  simp only [putL, Act.put, List.setIfInBounds_toArray, List.set_cons_zero, List.set_cons_succ]
  have h3 : Sat w0 w3 (heapR m p (A.drop ⟨vk, vn⟩) * (refR13 q (A.drop ⟨vk, vn⟩) * (XK * F))) := gg
  clear gg
  go_wp2_with fail
  go_ret
  exact ⟨rfl, h3⟩
set_option maxRecDepth 100000 in
set_option maxHeartbeats 4000000 in
theorem p_do_7 (H0 : HW A B) (hB : B ≤ 1000000) (hW : A.watch.length ≤ 1000000) (KX : Knows m XK) (h : Sat w0 w (heapR m p A * (refR13 q A * (XK * F)))) (xn xi vk vn : Int) (la : Option Addr) (ll lc : Nat) (xtx : ByteArray) :
    Calls Try.prog 56 #[.pointer (some ⟨p, 0, none⟩), .pointer (some ⟨q, 0, none⟩), .agg #[.int .i64 7, .int .i64 xn, .int .i64 xi, .int .i64 vk, .int .i64 vn, .slice la ll lc, .string xtx]] w fun e w' => e = .returned (.bool true) ∧ Sat w0 w' (heapR m p (A.freeF xn) * (refR13 q (A.freeF xn) * (XK * F))) := by
  obtain ⟨e0, he0⟩ : ∃ e, A.freeE xn = e := ⟨_, rfl⟩
  have h1 : Sat w0 (w.alloc (.cells #[.int .i64 7, .int .i64 xn, .int .i64 xi, .int .i64 vk, .int .i64 vn, .slice la ll lc, .string xtx] 100)) (heapR m p A * (refR13 q A * (pt w.heap.size (.cells #[.int .i64 7, .int .i64 xn, .int .i64 xi, .int .i64 vk, .int .i64 vn, .slice la ll lc, .string xtx] 100 (0, 0)) * (XK * F)))) := (h.alloc (.cells #[.int .i64 7, .int .i64 xn, .int .i64 xi, .int .i64 vk, .int .i64 vn, .slice la ll lc, .string xtx] 100)).cast (by ac_rfl)
  generalize hxb : w.heap.size = xb at *
  have H := Lib.hid H0
  have ⟨c0, c1, c2, c3, c4, c5, c6⟩ := act7 h1.p3
  have HXB := Lib.hid hxb
  clear h H0
  have HS0 := Lib.hid h1
  clear h1
  go_enter Try.func56, Try.ntmps56
  go_wp2_with fail
  clear c0 c1 c2 c3 c4 c5 c6
  refine wp_gen fun a0 ha => ?_
  have hb0 : base a0 0 = .pointer (some ⟨p, 0, none⟩) := by rw [ha]; rfl
  have hb1 : base a0 1 = .pointer (some ⟨q, 0, none⟩) := by rw [ha]; rfl
  have hb5 : base a0 5 = .pointer (some ⟨xb, 0, none⟩) := by rw [ha]; rfl
  have hsz0 : a0.tmps.size = 160 := by rw [ha]; rfl
  have HA0 := Lib.hid (And.intro hsz0 ha)
  clear ha hsz0
  refine GW.start (X := Nat) (w0 := w0) (B := [heapR m p A, refR13 q A, pt xb (.cells #[.int .i64 7, .int .i64 xn, .int .i64 xi, .int .i64 vk, .int .i64 vn, .slice la ll lc, .string xtx] 100 (0, 0)), XK, F]) (a0 := a0) ?_
  refine GW.det (d := (some 65)) [] [] rfl (fun e => by rfl) ?_; apply Exists.intro; refine ⟨fun e w' F hs => ?_, ?_, ?_⟩
  · first | (go_simp; done) | (go_simp; rfl)
  · exact (fun _ _ _ => rfl)
  refine GW.det (d := (some 66)) [] [] rfl (fun e => by rfl) ?_; apply Exists.intro; refine ⟨fun e w' F hs => ?_, ?_, ?_⟩
  · first | (go_simp; done) | (go_simp; rfl)
  · exact (fun _ _ _ => rfl)
  refine GW.det (d := (some 67)) [2] [] rfl (fun e => by rfl) ?_; apply Exists.intro; refine ⟨fun e w' F hs => ?_, ?_, ?_⟩
  · have ⟨y0, y1, y2, y3, y4, y5, y6⟩ := act7 (show Sat w0 w' (pt xb (.cells #[.int .i64 7, .int .i64 xn, .int .i64 xi, .int .i64 vk, .int .i64 vn, .slice la ll lc, .string xtx] 100 (0, 0)) * F) from hs); first | (go_simp; done) | (go_simp; rfl)
  · exact (fun _ _ _ => rfl)
  refine GW.take (d := (some 68)) 3 (fun e => .int .i64 e0) (fun e => heapR m p (A.freeF xn)) [3] [0] [] rfl rfl (fun e => by rfl) (fun e e' hl => by exact ⟨rfl, rfl⟩) (fun e w' F K hs hK => ?_) ?_
  · go_simp; (refine (x_Free H.out hB KX.right (show Sat w0 w' (XK * (heapR m p A * F)) from hs).p2 xn he0).mono ?_; rintro e2 w2 ⟨rfl, h2⟩; exact ⟨_, rfl, hK default _ h2.p2⟩)
  refine GW.det (d := (some 69)) [] [] rfl (fun e => by rfl) ?_; apply Exists.intro; refine ⟨fun e w' F hs => ?_, ?_, ?_⟩
  · first | (go_simp; done) | (go_simp; rfl)
  · exact (fun _ _ _ => rfl)
  refine GW.det (d := (some 70)) [] [] rfl (fun e => by rfl) ?_; apply Exists.intro; refine ⟨fun e w' F hs => ?_, ?_, ?_⟩
  · first | (go_simp; done) | (go_simp; rfl)
  · exact (fun _ _ _ => rfl)
  refine GW.det (d := (some 71)) [2] [] rfl (fun e => by rfl) ?_; apply Exists.intro; refine ⟨fun e w' F hs => ?_, ?_, ?_⟩
  · have ⟨y0, y1, y2, y3, y4, y5, y6⟩ := act7 (show Sat w0 w' (pt xb (.cells #[.int .i64 7, .int .i64 xn, .int .i64 xi, .int .i64 vk, .int .i64 vn, .slice la ll lc, .string xtx] 100 (0, 0)) * F) from hs); first | (go_simp; done) | (go_simp; rfl)
  · exact (fun _ _ _ => rfl)
  refine GW.take (d := (some 72)) 7 (fun e => .int .i64 e0) (fun e => refR13 q (A.freeF xn)) [] [1] [] rfl rfl (fun e => by rfl) (fun e e' hl => by exact ⟨rfl, rfl⟩) (fun e w' F K hs hK => ?_) ?_
  · go_simp; (refine (r_Free H.out hB hW (one_out hs : Sat w0 w' (refR13 q A * F)) xn he0).mono ?_; rintro e2 w2 ⟨rfl, h2⟩; exact ⟨_, rfl, hK default _ (one_in h2)⟩)
  refine GW.det (d := (some 73)) [] [] rfl (fun e => by rfl) ?_; apply Exists.intro; refine ⟨fun e w' F hs => ?_, ?_, ?_⟩
  · first | (go_simp; done) | (go_simp; rfl)
  · exact (fun _ _ _ => rfl)
  refine GW.det (d := (some 6)) [] [] rfl (fun e => by rfl) ?_; apply Exists.intro; refine ⟨fun e w' F hs => ?_, ?_, ?_⟩
  · first | (go_simp; done) | (go_simp; rfl)
  · exact (fun _ _ _ => rfl)
  refine GW.done (sz := 160) [5 + 3, 5 + 7, 3, 4] (by kernel_rfl) (by kernel_rfl) HA0.out.1 (by rfl) HS0.out (by rfl) fun e w3 gg => ?_
  have ha := HA0.out.2
  subst ha
  clear HA0 HS0 hb0 hb1 hb5
  simp only [putL, Act.put, List.setIfInBounds_toArray, List.set_cons_zero, List.set_cons_succ]
  have h3 : Sat w0 w3 (heapR m p (A.freeF xn) * (refR13 q (A.freeF xn) * (XK * F))) := gg
  clear gg
  go_wp2_with fail
  go_ret
  exact ⟨rfl, h3⟩
set_option maxRecDepth 100000 in
set_option maxHeartbeats 4000000 in
theorem p_do_8 (H0 : HW A B) (hB : B ≤ 1000000) (hW : A.watch.length ≤ 1000000) (KX : Knows m XK) (h : Sat w0 w (heapR m p A * (refR13 q A * (XK * F)))) (xn xi vk vn : Int) (la : Option Addr) (ll lc : Nat) (xtx : ByteArray) :
    Calls Try.prog 56 #[.pointer (some ⟨p, 0, none⟩), .pointer (some ⟨q, 0, none⟩), .agg #[.int .i64 8, .int .i64 xn, .int .i64 xi, .int .i64 vk, .int .i64 vn, .slice la ll lc, .string xtx]] w fun e w' => e = .returned (.bool true) ∧ Sat w0 w' (heapR m p (A.mark xn) * (refR13 q (A.mark xn) * (XK * F))) := by
  obtain ⟨e0, he0⟩ : ∃ e, A.markN xn = e := ⟨_, rfl⟩
  have h1 : Sat w0 (w.alloc (.cells #[.int .i64 8, .int .i64 xn, .int .i64 xi, .int .i64 vk, .int .i64 vn, .slice la ll lc, .string xtx] 100)) (heapR m p A * (refR13 q A * (pt w.heap.size (.cells #[.int .i64 8, .int .i64 xn, .int .i64 xi, .int .i64 vk, .int .i64 vn, .slice la ll lc, .string xtx] 100 (0, 0)) * (XK * F)))) := (h.alloc (.cells #[.int .i64 8, .int .i64 xn, .int .i64 xi, .int .i64 vk, .int .i64 vn, .slice la ll lc, .string xtx] 100)).cast (by ac_rfl)
  generalize hxb : w.heap.size = xb at *
  have H := Lib.hid H0
  have ⟨c0, c1, c2, c3, c4, c5, c6⟩ := act7 h1.p3
  have HXB := Lib.hid hxb
  clear h H0
  have HS0 := Lib.hid h1
  clear h1
  go_enter Try.func56, Try.ntmps56
  go_wp2_with fail
  clear c0 c1 c2 c3 c4 c5 c6
  refine wp_gen fun a0 ha => ?_
  have hb0 : base a0 0 = .pointer (some ⟨p, 0, none⟩) := by rw [ha]; rfl
  have hb1 : base a0 1 = .pointer (some ⟨q, 0, none⟩) := by rw [ha]; rfl
  have hb5 : base a0 5 = .pointer (some ⟨xb, 0, none⟩) := by rw [ha]; rfl
  have hsz0 : a0.tmps.size = 160 := by rw [ha]; rfl
  have HA0 := Lib.hid (And.intro hsz0 ha)
  clear ha hsz0
  refine GW.start (X := Nat) (w0 := w0) (B := [heapR m p A, refR13 q A, pt xb (.cells #[.int .i64 8, .int .i64 xn, .int .i64 xi, .int .i64 vk, .int .i64 vn, .slice la ll lc, .string xtx] 100 (0, 0)), XK, F]) (a0 := a0) ?_
  refine GW.det (d := (some 76)) [] [] rfl (fun e => by rfl) ?_; apply Exists.intro; refine ⟨fun e w' F hs => ?_, ?_, ?_⟩
  · first | (go_simp; done) | (go_simp; rfl)
  · exact (fun _ _ _ => rfl)
  refine GW.det (d := (some 77)) [] [] rfl (fun e => by rfl) ?_; apply Exists.intro; refine ⟨fun e w' F hs => ?_, ?_, ?_⟩
  · first | (go_simp; done) | (go_simp; rfl)
  · exact (fun _ _ _ => rfl)
  refine GW.det (d := (some 78)) [2] [] rfl (fun e => by rfl) ?_; apply Exists.intro; refine ⟨fun e w' F hs => ?_, ?_, ?_⟩
  · have ⟨y0, y1, y2, y3, y4, y5, y6⟩ := act7 (show Sat w0 w' (pt xb (.cells #[.int .i64 8, .int .i64 xn, .int .i64 xi, .int .i64 vk, .int .i64 vn, .slice la ll lc, .string xtx] 100 (0, 0)) * F) from hs); first | (go_simp; done) | (go_simp; rfl)
  · exact (fun _ _ _ => rfl)
  refine GW.take (d := (some 79)) 3 (fun e => .int .i64 e0) (fun e => heapR m p (A.mark xn)) [3] [0] [] rfl rfl (fun e => by rfl) (fun e e' hl => by exact ⟨rfl, rfl⟩) (fun e w' F K hs hK => ?_) ?_
  · go_simp; (refine (x_Mark H.out hB KX.right (show Sat w0 w' (XK * (heapR m p A * F)) from hs).p2 xn he0).mono ?_; rintro e2 w2 ⟨rfl, h2⟩; exact ⟨_, rfl, hK default _ h2.p2⟩)
  refine GW.det (d := (some 80)) [] [] rfl (fun e => by rfl) ?_; apply Exists.intro; refine ⟨fun e w' F hs => ?_, ?_, ?_⟩
  · first | (go_simp; done) | (go_simp; rfl)
  · exact (fun _ _ _ => rfl)
  refine GW.det (d := (some 81)) [] [] rfl (fun e => by rfl) ?_; apply Exists.intro; refine ⟨fun e w' F hs => ?_, ?_, ?_⟩
  · first | (go_simp; done) | (go_simp; rfl)
  · exact (fun _ _ _ => rfl)
  refine GW.det (d := (some 82)) [2] [] rfl (fun e => by rfl) ?_; apply Exists.intro; refine ⟨fun e w' F hs => ?_, ?_, ?_⟩
  · have ⟨y0, y1, y2, y3, y4, y5, y6⟩ := act7 (show Sat w0 w' (pt xb (.cells #[.int .i64 8, .int .i64 xn, .int .i64 xi, .int .i64 vk, .int .i64 vn, .slice la ll lc, .string xtx] 100 (0, 0)) * F) from hs); first | (go_simp; done) | (go_simp; rfl)
  · exact (fun _ _ _ => rfl)
  refine GW.take (d := (some 83)) 7 (fun e => .int .i64 e0) (fun e => refR13 q (A.mark xn)) [] [1] [] rfl rfl (fun e => by rfl) (fun e e' hl => by exact ⟨rfl, rfl⟩) (fun e w' F K hs hK => ?_) ?_
  · go_simp; (refine (r_Mark H.out hB hW (one_out hs : Sat w0 w' (refR13 q A * F)) xn he0).mono ?_; rintro e2 w2 ⟨rfl, h2⟩; exact ⟨_, rfl, hK default _ (one_in h2)⟩)
  refine GW.det (d := (some 84)) [] [] rfl (fun e => by rfl) ?_; apply Exists.intro; refine ⟨fun e w' F hs => ?_, ?_, ?_⟩
  · first | (go_simp; done) | (go_simp; rfl)
  · exact (fun _ _ _ => rfl)
  refine GW.det (d := (some 6)) [] [] rfl (fun e => by rfl) ?_; apply Exists.intro; refine ⟨fun e w' F hs => ?_, ?_, ?_⟩
  · first | (go_simp; done) | (go_simp; rfl)
  · exact (fun _ _ _ => rfl)
  refine GW.done (sz := 160) [5 + 3, 5 + 7, 3, 4] (by kernel_rfl) (by kernel_rfl) HA0.out.1 (by rfl) HS0.out (by rfl) fun e w3 gg => ?_
  have ha := HA0.out.2
  subst ha
  clear HA0 HS0 hb0 hb1 hb5
  simp only [putL, Act.put, List.setIfInBounds_toArray, List.set_cons_zero, List.set_cons_succ]
  have h3 : Sat w0 w3 (heapR m p (A.mark xn) * (refR13 q (A.mark xn) * (XK * F))) := gg
  clear gg
  go_wp2_with fail
  go_ret
  exact ⟨rfl, h3⟩
end
end Go.Proofs.Ytkpcngcegipalaa.Tw
