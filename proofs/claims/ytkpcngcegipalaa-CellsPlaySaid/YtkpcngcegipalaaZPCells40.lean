/- tallowlaw13: do, act by act. No condition. -/
import Derived.Test.YtkpcngcegipalaaZPCells38
import Derived.Test.YtkpcngcegipalaaZPCells28
import Derived.Test.YtkpcngcegipalaaZPCells37
namespace Go.Proofs.Ytkpcngcegipalaa.Tw
set_option linter.unusedVariables false
set_option linter.unusedSimpArgs false
open Go Go.RowKit Go.MapKept

attribute [local go_sem] lookE lkE valUpon
section
variable {w0 w : World} {F XK : HP} {m : Hp} {p q : Nat} {A : AHeap} {B : Int}
set_option maxRecDepth 100000 in
set_option maxHeartbeats 4000000 in
theorem p_do_9 (H0 : HW A B) (hB : B ≤ 1000000) (hW : A.watch.length ≤ 1000000) (KX : Knows m XK) (h : Sat w0 w (heapR m p A * (refR13 q A * (XK * F)))) (xn xi vk vn : Int) (la : Option Addr) (ll lc : Nat) (xtx : ByteArray) :
    Calls Try.prog 56 #[.pointer (some ⟨p, 0, none⟩), .pointer (some ⟨q, 0, none⟩), .agg #[.int .i64 9, .int .i64 xn, .int .i64 xi, .int .i64 vk, .int .i64 vn, .slice la ll lc, .string xtx]] w fun e w' => e = .returned (.bool true) ∧ Sat w0 w' (heapR m p (A.finF xn) * (refR13 q (A.finF xn) * (XK * F))) := by
  obtain ⟨e0, he0⟩ : ∃ e, A.finE xn = e := ⟨_, rfl⟩
  have h1 : Sat w0 (w.alloc (.cells #[.int .i64 9, .int .i64 xn, .int .i64 xi, .int .i64 vk, .int .i64 vn, .slice la ll lc, .string xtx] 100)) (heapR m p A * (refR13 q A * (pt w.heap.size (.cells #[.int .i64 9, .int .i64 xn, .int .i64 xi, .int .i64 vk, .int .i64 vn, .slice la ll lc, .string xtx] 100 (0, 0)) * (XK * F)))) := (h.alloc (.cells #[.int .i64 9, .int .i64 xn, .int .i64 xi, .int .i64 vk, .int .i64 vn, .slice la ll lc, .string xtx] 100)).cast (by ac_rfl)
  generalize hxb : w.heap.size = xb at *
  have H := Lib.hid H0
  have ⟨c0, c1, c2, c3, c4, c5, c6⟩ := act7 h1.p3
  have HXB := Lib.hid hxb
  clear h H0
  have HS0 := Lib.hid h1
  clear h1
  go_enter Try.func56, Try.ntmps56
  go_wp2_with fail
  clear c0 c1 c2 c3 c4 c5 c6
  refine wp_gen fun a0 ha => ?_
  have hb0 : base a0 0 = .pointer (some ⟨p, 0, none⟩) := by rw [ha]; rfl
  have hb1 : base a0 1 = .pointer (some ⟨q, 0, none⟩) := by rw [ha]; rfl
  have hb5 : base a0 5 = .pointer (some ⟨xb, 0, none⟩) := by rw [ha]; rfl
  have hsz0 : a0.tmps.size = 160 := by rw [ha]; rfl
  have HA0 := Lib.hid (And.intro hsz0 ha)
  clear ha hsz0
  refine GW.start (X := Nat) (w0 := w0) (B := [heapR m p A, refR13 q A, pt xb (.cells #[.int .i64 9, .int .i64 xn, .int .i64 xi, .int .i64 vk, .int .i64 vn, .slice la ll lc, .string xtx] 100 (0, 0)), XK, F]) (a0 := a0) ?_
  refine GW.det (d := (some 87)) [] [] rfl (fun e => by rfl) ?_; apply Exists.intro; refine ⟨fun e w' F hs => ?_, ?_, ?_⟩
  · first | (go_simp; done) | (go_simp; rfl)
  · exact (fun _ _ _ => rfl)
  refine GW.det (d := (some 88)) [] [] rfl (fun e => by rfl) ?_; apply Exists.intro; refine ⟨fun e w' F hs => ?_, ?_, ?_⟩
  · first | (go_simp; done) | (go_simp; rfl)
  · exact (fun _ _ _ => rfl)
  refine GW.det (d := (some 89)) [2] [] rfl (fun e => by rfl) ?_; apply Exists.intro; refine ⟨fun e w' F hs => ?_, ?_, ?_⟩
  · have ⟨y0, y1, y2, y3, y4, y5, y6⟩ := act7 (show Sat w0 w' (pt xb (.cells #[.int .i64 9, .int .i64 xn, .int .i64 xi, .int .i64 vk, .int .i64 vn, .slice la ll lc, .string xtx] 100 (0, 0)) * F) from hs); first | (go_simp; done) | (go_simp; rfl)
  · exact (fun _ _ _ => rfl)
  refine GW.take (d := (some 90)) 3 (fun e => .int .i64 e0) (fun e => heapR m p (A.finF xn)) [3] [0] [] rfl rfl (fun e => by rfl) (fun e e' hl => by exact ⟨rfl, rfl⟩) (fun e w' F K hs hK => ?_) ?_
  · go_simp; (refine (x_Fin H.out hB KX.right (show Sat w0 w' (XK * (heapR m p A * F)) from hs).p2 xn he0).mono ?_; rintro e2 w2 ⟨rfl, h2⟩; exact ⟨_, rfl, hK default _ h2.p2⟩)
  refine GW.det (d := (some 91)) [] [] rfl (fun e => by rfl) ?_; apply Exists.intro; refine ⟨fun e w' F hs => ?_, ?_, ?_⟩
  · first | (go_simp; done) | (go_simp; rfl)
  · exact (fun _ _ _ => rfl)
  refine GW.det (d := (some 92)) [] [] rfl (fun e => by rfl) ?_; apply Exists.intro; refine ⟨fun e w' F hs => ?_, ?_, ?_⟩
  · first | (go_simp; done) | (go_simp; rfl)
  · exact (fun _ _ _ => rfl)
  refine GW.det (d := (some 93)) [2] [] rfl (fun e => by rfl) ?_; apply Exists.intro; refine ⟨fun e w' F hs => ?_, ?_, ?_⟩
  · have ⟨y0, y1, y2, y3, y4, y5, y6⟩ := act7 (show Sat w0 w' (pt xb (.cells #[.int .i64 9, .int .i64 xn, .int .i64 xi, .int .i64 vk, .int .i64 vn, .slice la ll lc, .string xtx] 100 (0, 0)) * F) from hs); first | (go_simp; done) | (go_simp; rfl)
  · exact (fun _ _ _ => rfl)
  refine GW.take (d := (some 94)) 7 (fun e => .int .i64 e0) (fun e => refR13 q (A.finF xn)) [] [1] [] rfl rfl (fun e => by rfl) (fun e e' hl => by exact ⟨rfl, rfl⟩) (fun e w' F K hs hK => ?_) ?_
  · go_simp; (refine (r_Fin H.out hB hW (one_out hs : Sat w0 w' (refR13 q A * F)) xn he0).mono ?_; rintro e2 w2 ⟨rfl, h2⟩; exact ⟨_, rfl, hK default _ (one_in h2)⟩)
  refine GW.det (d := (some 95)) [] [] rfl (fun e => by rfl) ?_; apply Exists.intro; refine ⟨fun e w' F hs => ?_, ?_, ?_⟩
  · first | (go_simp; done) | (go_simp; rfl)
  · exact (fun _ _ _ => rfl)
  refine GW.det (d := (some 6)) [] [] rfl (fun e => by rfl) ?_; apply Exists.intro; refine ⟨fun e w' F hs => ?_, ?_, ?_⟩
  · first | (go_simp; done) | (go_simp; rfl)
  · exact (fun _ _ _ => rfl)
  refine GW.done (sz := 160) [5 + 3, 5 + 7, 3, 4] (by kernel_rfl) (by kernel_rfl) HA0.out.1 (by rfl) HS0.out (by rfl) fun e w3 gg => ?_
  have ha := HA0.out.2
  subst ha
  clear HA0 HS0 hb0 hb1 hb5
  simp only [putL, Act.put, List.setIfInBounds_toArray, List.set_cons_zero, List.set_cons_succ]
  have h3 : Sat w0 w3 (heapR m p (A.finF xn) * (refR13 q (A.finF xn) * (XK * F))) := gg
  clear gg
  go_wp2_with fail
  go_ret
  exact ⟨rfl, h3⟩
set_option maxRecDepth 100000 in
set_option maxHeartbeats 4000000 in
theorem p_do_12 (H0 : HW A B) (hB : B ≤ 1000000) (hW : A.watch.length ≤ 1000000) (KX : Knows m XK) (h : Sat w0 w (heapR m p A * (refR13 q A * (XK * F)))) (xn xi vk vn : Int) (la : Option Addr) (ll lc : Nat) (xtx : ByteArray) :
    Calls Try.prog 56 #[.pointer (some ⟨p, 0, none⟩), .pointer (some ⟨q, 0, none⟩), .agg #[.int .i64 12, .int .i64 xn, .int .i64 xi, .int .i64 vk, .int .i64 vn, .slice la ll lc, .string xtx]] w fun e w' => e = .returned (.bool true) ∧ Sat w0 w' (heapR m p (A.suspF xn) * (refR13 q (A.suspF xn) * (XK * F))) := by
  obtain ⟨e0, he0⟩ : ∃ e, (if suspB A xn then (0 : Int) else 2) = e := ⟨_, rfl⟩
  have h1 : Sat w0 (w.alloc (.cells #[.int .i64 12, .int .i64 xn, .int .i64 xi, .int .i64 vk, .int .i64 vn, .slice la ll lc, .string xtx] 100)) (heapR m p A * (refR13 q A * (pt w.heap.size (.cells #[.int .i64 12, .int .i64 xn, .int .i64 xi, .int .i64 vk, .int .i64 vn, .slice la ll lc, .string xtx] 100 (0, 0)) * (XK * F)))) := (h.alloc (.cells #[.int .i64 12, .int .i64 xn, .int .i64 xi, .int .i64 vk, .int .i64 vn, .slice la ll lc, .string xtx] 100)).cast (by ac_rfl)
  generalize hxb : w.heap.size = xb at *
  have H := Lib.hid H0
  have ⟨c0, c1, c2, c3, c4, c5, c6⟩ := act7 h1.p3
  have HXB := Lib.hid hxb
  clear h H0
  have HS0 := Lib.hid h1
  clear h1
  go_enter Try.func56, Try.ntmps56
  go_wp2_with fail
  clear c0 c1 c2 c3 c4 c5 c6
  refine wp_gen fun a0 ha => ?_
  have hb0 : base a0 0 = .pointer (some ⟨p, 0, none⟩) := by rw [ha]; rfl
  have hb1 : base a0 1 = .pointer (some ⟨q, 0, none⟩) := by rw [ha]; rfl
  have hb5 : base a0 5 = .pointer (some ⟨xb, 0, none⟩) := by rw [ha]; rfl
  have hsz0 : a0.tmps.size = 160 := by rw [ha]; rfl
  have HA0 := Lib.hid (And.intro hsz0 ha)
  clear ha hsz0
  refine GW.start (X := Nat) (w0 := w0) (B := [heapR m p A, refR13 q A, pt xb (.cells #[.int .i64 12, .int .i64 xn, .int .i64 xi, .int .i64 vk, .int .i64 vn, .slice la ll lc, .string xtx] 100 (0, 0)), XK, F]) (a0 := a0) ?_
  refine GW.det (d := (some 132)) [] [] rfl (fun e => by rfl) ?_; apply Exists.intro; refine ⟨fun e w' F hs => ?_, ?_, ?_⟩
  · first | (go_simp; done) | (go_simp; rfl)
  · exact (fun _ _ _ => rfl)
  refine GW.det (d := (some 133)) [] [] rfl (fun e => by rfl) ?_; apply Exists.intro; refine ⟨fun e w' F hs => ?_, ?_, ?_⟩
  · first | (go_simp; done) | (go_simp; rfl)
  · exact (fun _ _ _ => rfl)
  refine GW.det (d := (some 134)) [2] [] rfl (fun e => by rfl) ?_; apply Exists.intro; refine ⟨fun e w' F hs => ?_, ?_, ?_⟩
  · have ⟨y0, y1, y2, y3, y4, y5, y6⟩ := act7 (show Sat w0 w' (pt xb (.cells #[.int .i64 12, .int .i64 xn, .int .i64 xi, .int .i64 vk, .int .i64 vn, .slice la ll lc, .string xtx] 100 (0, 0)) * F) from hs); first | (go_simp; done) | (go_simp; rfl)
  · exact (fun _ _ _ => rfl)
  refine GW.take (d := (some 135)) 3 (fun e => .int .i64 e0) (fun e => heapR m p (A.suspF xn)) [3] [0] [] rfl rfl (fun e => by rfl) (fun e e' hl => by exact ⟨rfl, rfl⟩) (fun e w' F K hs hK => ?_) ?_
  · go_simp; (refine (x_Susp H.out hB (show Sat w0 w' (XK * (heapR m p A * F)) from hs).p2 xn he0).mono ?_; rintro e2 w2 ⟨rfl, h2⟩; exact ⟨_, rfl, hK default _ h2.p2⟩)
  refine GW.det (d := (some 136)) [] [] rfl (fun e => by rfl) ?_; apply Exists.intro; refine ⟨fun e w' F hs => ?_, ?_, ?_⟩
  · first | (go_simp; done) | (go_simp; rfl)
  · exact (fun _ _ _ => rfl)
  refine GW.det (d := (some 137)) [] [] rfl (fun e => by rfl) ?_; apply Exists.intro; refine ⟨fun e w' F hs => ?_, ?_, ?_⟩
  · first | (go_simp; done) | (go_simp; rfl)
  · exact (fun _ _ _ => rfl)
  refine GW.det (d := (some 138)) [2] [] rfl (fun e => by rfl) ?_; apply Exists.intro; refine ⟨fun e w' F hs => ?_, ?_, ?_⟩
  · have ⟨y0, y1, y2, y3, y4, y5, y6⟩ := act7 (show Sat w0 w' (pt xb (.cells #[.int .i64 12, .int .i64 xn, .int .i64 xi, .int .i64 vk, .int .i64 vn, .slice la ll lc, .string xtx] 100 (0, 0)) * F) from hs); first | (go_simp; done) | (go_simp; rfl)
  · exact (fun _ _ _ => rfl)
  refine GW.take (d := (some 139)) 7 (fun e => .int .i64 e0) (fun e => refR13 q (A.suspF xn)) [] [1] [] rfl rfl (fun e => by rfl) (fun e e' hl => by exact ⟨rfl, rfl⟩) (fun e w' F K hs hK => ?_) ?_
  · go_simp; (refine (r_Suspect H.out hB (one_out hs : Sat w0 w' (refR13 q A * F)) xn he0).mono ?_; rintro e2 w2 ⟨rfl, h2⟩; exact ⟨_, rfl, hK default _ (one_in h2)⟩)
  refine GW.det (d := (some 140)) [] [] rfl (fun e => by rfl) ?_; apply Exists.intro; refine ⟨fun e w' F hs => ?_, ?_, ?_⟩
  · first | (go_simp; done) | (go_simp; rfl)
  · exact (fun _ _ _ => rfl)
  refine GW.det (d := (some 6)) [] [] rfl (fun e => by rfl) ?_; apply Exists.intro; refine ⟨fun e w' F hs => ?_, ?_, ?_⟩
  · first | (go_simp; done) | (go_simp; rfl)
  · exact (fun _ _ _ => rfl)
  refine GW.done (sz := 160) [5 + 3, 5 + 7, 3, 4] (by kernel_rfl) (by kernel_rfl) HA0.out.1 (by rfl) HS0.out (by rfl) fun e w3 gg => ?_
  have ha := HA0.out.2
  subst ha
  clear HA0 HS0 hb0 hb1 hb5
  simp only [putL, Act.put, List.setIfInBounds_toArray, List.set_cons_zero, List.set_cons_succ]
  have h3 : Sat w0 w3 (heapR m p (A.suspF xn) * (refR13 q (A.suspF xn) * (XK * F))) := gg
  clear gg
  go_wp2_with fail
  go_ret
  exact ⟨rfl, h3⟩
set_option maxRecDepth 100000 in
set_option maxHeartbeats 4000000 in
theorem p_do_10 (H0 : HW A B) (hB : B ≤ 1000000) (hW : A.watch.length ≤ 1000000) (KX : Knows m XK) (h : Sat w0 w (heapR m p A * (refR13 q A * (XK * F)))) (xn xi vk vn : Int) (la : Option Addr) (ll lc : Nat) (xtx : ByteArray) :
    Calls Try.prog 56 #[.pointer (some ⟨p, 0, none⟩), .pointer (some ⟨q, 0, none⟩), .agg #[.int .i64 10, .int .i64 xn, .int .i64 xi, .int .i64 vk, .int .i64 vn, .slice la ll lc, .string xtx]] w fun e w' => e = .returned (.bool true) ∧ Sat w0 w' (heapR m p (A.nextF) * (refR13 q (A.nextF) * (XK * F))) := by
  obtain ⟨vv, hvv⟩ : ∃ v, A.nextV = v := ⟨_, rfl⟩
  have h1 : Sat w0 (w.alloc (.cells #[.int .i64 10, .int .i64 xn, .int .i64 xi, .int .i64 vk, .int .i64 vn, .slice la ll lc, .string xtx] 100)) (heapR m p A * (refR13 q A * (pt w.heap.size (.cells #[.int .i64 10, .int .i64 xn, .int .i64 xi, .int .i64 vk, .int .i64 vn, .slice la ll lc, .string xtx] 100 (0, 0)) * (XK * F)))) := (h.alloc (.cells #[.int .i64 10, .int .i64 xn, .int .i64 xi, .int .i64 vk, .int .i64 vn, .slice la ll lc, .string xtx] 100)).cast (by ac_rfl)
  generalize hxb : w.heap.size = xb at *
  have H := Lib.hid H0
  have ⟨c0, c1, c2, c3, c4, c5, c6⟩ := act7 h1.p3
  have HXB := Lib.hid hxb
  clear h H0
  have HC1 := Lib.hid (x_Next H.out hB (k := vv.kind) (n := vv.n) h1 hvv rfl rfl)
  clear h1
  go_enter Try.func56, Try.ntmps56
  go_wp2_with fail
  refine HC1.out.mono ?_
  rintro e w1 ⟨rfl, h2⟩
  have h4 := h2.alloc (.cells #[.int .i64 vv.kind, .int .i64 vv.n] 28)
  have ⟨x0, x1, x2, x3, x4, x5, x6⟩ := act7 h4.p4
  have HC2 := Lib.hid (by have hh := r_NextFin H.out hB (h4.p3); rw [hvv] at hh; exact hh)
  generalize hb1 : w1.heap.size = b1 at *
  clear h2
  go_wp2_with fail
  refine HC2.out.mono ?_
  rintro e w2 ⟨rfl, h5⟩
  have h7 := h5.alloc (.cells #[.int .i64 vv.kind, .int .i64 vv.n] 28)
  have ⟨v0, v1, _, _⟩ := val2' h7
  have ⟨u0, u1, _, _⟩ := val2' h7.p3
  generalize hb2 : w2.heap.size = b2 at *
  clear h5 x0 x1 x2 x3 x4 x5 x6
  have h8 : Sat w0 _ (heapR m p (A.nextF) * (refR13 q (A.nextF) * (XK * F))) := Sat.drop (P := pt b1 (.cells #[.int .i64 vv.kind, .int .i64 vv.n] 28 (0, 0)) * (pt b2 (.cells #[.int .i64 vv.kind, .int .i64 vv.n] 28 (0, 0)) * pt xb (.cells #[.int .i64 10, .int .i64 xn, .int .i64 xi, .int .i64 vk, .int .i64 vn, .slice la ll lc, .string xtx] 100 (0, 0)))) (h7.cast (by ac_rfl))
  clear h7
  go_wp2_with fail
  go_ret
  exact ⟨by simp, h8⟩
set_option maxRecDepth 100000 in
set_option maxHeartbeats 4000000 in
theorem p_do_11 (H0 : HW A B) (hB : B ≤ 1000000) (hW : A.watch.length ≤ 1000000) (KX : Knows m XK) (h : Sat w0 w (heapR m p A * (refR13 q A * (XK * F)))) (xn xi vk vn : Int) (la : Option Addr) (ll lc : Nat) (xtx : ByteArray) :
    Calls Try.prog 56 #[.pointer (some ⟨p, 0, none⟩), .pointer (some ⟨q, 0, none⟩), .agg #[.int .i64 11, .int .i64 xn, .int .i64 xi, .int .i64 vk, .int .i64 vn, .slice la ll lc, .string xtx]] w fun e w' => e = .returned (.bool true) ∧ Sat w0 w' (heapR m p ({ A with buf := [] }) * (refR13 q ({ A with buf := [] }) * (XK * F))) := by
  have h1 : Sat w0 (w.alloc (.cells #[.int .i64 11, .int .i64 xn, .int .i64 xi, .int .i64 vk, .int .i64 vn, .slice la ll lc, .string xtx] 100)) (heapR m p A * (refR13 q A * (pt w.heap.size (.cells #[.int .i64 11, .int .i64 xn, .int .i64 xi, .int .i64 vk, .int .i64 vn, .slice la ll lc, .string xtx] 100 (0, 0)) * (XK * F)))) := (h.alloc (.cells #[.int .i64 11, .int .i64 xn, .int .i64 xi, .int .i64 vk, .int .i64 vn, .slice la ll lc, .string xtx] 100)).cast (by ac_rfl)
  generalize hxb : w.heap.size = xb at *
  have H := Lib.hid H0
  have ⟨c0, c1, c2, c3, c4, c5, c6⟩ := act7 h1.p3
  have HXB := Lib.hid hxb
  clear h H0
  have hbl := H.out.bl
  have HC1 := Lib.hid (x_Take H.out hB h1 rfl rfl)
  clear h1
  go_enter Try.func56, Try.ntmps56
  go_wp2_with fail
  refine HC1.out.mono ?_
  rintro e w1 ⟨a1, k1, rfl, h2⟩
  have HC2 := Lib.hid (r_TakeBuffer (h2.p3))
  clear h2
  go_wp2_with fail
  refine HC2.out.mono ?_
  rintro e w2 ⟨a2, k2, rfl, h3⟩
  have HC3 := Lib.hid (ref_IntsE (h3.cast (show _ = slc 3 1 a1 A.buf.length k1 (A.buf.map ival) * (slc 3 1 a2 A.buf.length k2 (A.buf.map ival) * (heapR m p { A with buf := [] } * (refR13 q { A with buf := [] } * (pt xb (.cells #[.int .i64 11, .int .i64 xn, .int .i64 xi, .int .i64 vk, .int .i64 vn, .slice la ll lc, .string xtx] 100 (0, 0)) * (XK * F))))) by ac_rfl)) rfl (by omega))
  clear h3
  go_wp2_with fail
  refine HC3.out.mono ?_
  rintro e w3 ⟨rfl, h4⟩
  go_wp2_with fail
  go_ret
  exact ⟨rfl, (h4.drop.drop).p3.drop⟩
set_option maxRecDepth 100000 in
set_option maxHeartbeats 4000000 in
theorem p_do_13 (H0 : HW A B) (hB : B ≤ 1000000) (hW : A.watch.length ≤ 1000000) (KX : Knows m XK) (h : Sat w0 w (heapR m p A * (refR13 q A * (XK * F)))) (xn xi vk vn : Int) (la : Option Addr) (ll lc : Nat) (xtx : ByteArray) :
    Calls Try.prog 56 #[.pointer (some ⟨p, 0, none⟩), .pointer (some ⟨q, 0, none⟩), .agg #[.int .i64 13, .int .i64 xn, .int .i64 xi, .int .i64 vk, .int .i64 vn, .slice la ll lc, .string xtx]] w fun e w' => e = .returned (.bool true) ∧ ∃ m' G, Knows m' G ∧ Sat w0 w' (heapR m' p (A.watchF [xn, xi]) * (refR13 q (A.watchF [xn, xi]) * (G * XK * F))) := by
  have h1 : Sat w0 (w.alloc (.cells #[.int .i64 13, .int .i64 xn, .int .i64 xi, .int .i64 vk, .int .i64 vn, .slice la ll lc, .string xtx] 100)) (heapR m p A * (refR13 q A * (pt w.heap.size (.cells #[.int .i64 13, .int .i64 xn, .int .i64 xi, .int .i64 vk, .int .i64 vn, .slice la ll lc, .string xtx] 100 (0, 0)) * (XK * F)))) := (h.alloc (.cells #[.int .i64 13, .int .i64 xn, .int .i64 xi, .int .i64 vk, .int .i64 vn, .slice la ll lc, .string xtx] 100)).cast (by ac_rfl)
  generalize hxb : w.heap.size = xb at *
  have H := Lib.hid H0
  have ⟨c0, c1, c2, c3, c4, c5, c6⟩ := act7 h1.p3
  have HXB := Lib.hid hxb
  clear h H0
  have hlist := h1.alloc (.cells #[.int .i64 xn, .int .i64 xi] 3)
  have hl2 := Sat.litI (L := [xn, xi]) (n := 2) hlist rfl (by decide)
  rw [size_alloc, HXB.out] at hl2
  have HC1 := Lib.hid (heap_Watch (hl2.cast (show _ = slc 3 1 (some ⟨xb + 1, 0, none⟩) 2 2 ([xn, xi].map ival) * (heapR m p A * (refR13 q A * (pt xb (.cells #[.int .i64 13, .int .i64 xn, .int .i64 xi, .int .i64 vk, .int .i64 vn, .slice la ll lc, .string xtx] 100 (0, 0)) * (XK * F)))) from rfl)) rfl (by decide))
  clear h1 hlist hl2
  go_enter Try.func56, Try.ntmps56
  go_wp2_with fail
  refine HC1.out.mono ?_
  rintro e w1 ⟨rfl, m', G, hG, h2⟩
  have HC2 := Lib.hid (r_Watch (h2.cast (show _ = slc 3 1 (some ⟨xb + 1, 0, none⟩) 2 2 ([xn, xi].map ival) * (refR13 q A * (heapR m' p (A.watchF [xn, xi]) * (G * (pt xb (.cells #[.int .i64 13, .int .i64 xn, .int .i64 xi, .int .i64 vk, .int .i64 vn, .slice la ll lc, .string xtx] 100 (0, 0)) * (XK * F))))) by unfold AHeap.watchF; ac_rfl)) rfl (by decide))
  clear h2
  go_wp2_with fail
  refine HC2.out.mono ?_
  rintro e w2 ⟨rfl, h3⟩
  obtain ⟨g, off, e1, z0, zf⟩ := intCells h3.p2 (k := 0) (x := xn) rfl
  cases e1
  have h4 := (h3.p2.slcStore (j := 0) (by decide) (.int .i64 77))
  rw [Nat.zero_add] at h4 z0 zf
  go_wp2_with fail
  go_ret
  exact ⟨rfl, m', G, hG, Sat.drop (P := pt xb (.cells #[.int .i64 13, .int .i64 xn, .int .i64 xi, .int .i64 vk, .int .i64 vn, .slice la ll lc, .string xtx] 100 (0, 0))) (h4.drop.cast (show _ = _ * (heapR m' p (A.watchF [xn, xi]) * (refR13 q (A.watchF [xn, xi]) * (G * XK * F))) by ac_rfl))⟩
end
end Go.Proofs.Ytkpcngcegipalaa.Tw
namespace Go.Proofs.Ytkpcngcegipalaa.Tw
set_option linter.unusedVariables false
set_option linter.unusedSimpArgs false
open Go Go.RowKit Go.MapKept

/-- an act as it lies: its values' slice -/
structure RAct where
  x : Act13
  la : Option Addr
  lc : Nat
def rcells (r : RAct) : List Value := [.int .i64 r.x.what, .int .i64 r.x.n, .int .i64 r.x.i, .int .i64 r.x.v.kind, .int .i64 r.x.v.n, .slice r.la r.x.l.length r.lc, .string r.x.tx]
def racells (rs : List RAct) : List Value := (rs.map rcells).flatten
theorem racells_get : ∀ {rs : List RAct} {k : Nat} {r : RAct}, rs[k]? = some r → ∀ j v, (rcells r)[j]? = some v → (racells rs)[k * 7 + j]? = some v
  | [], k, r, h, _, _, _ => by simp at h
  | y :: rs, 0, r, h, j, v, hj => by
    simp at h; subst h
    show (rcells y ++ racells rs)[0 * 7 + j]? = _
    rw [List.getElem?_append_left (by have := (List.getElem?_eq_some_iff.1 hj).1; omega), Nat.zero_mul, Nat.zero_add]; exact hj
  | y :: rs, k + 1, r, h, j, v, hj => by
    simp at h
    have := racells_get h j v hj
    show (rcells y ++ racells rs)[(k + 1) * 7 + j]? = _
    rw [List.getElem?_append_right (by show 7 ≤ _; omega)]
    show (racells rs)[(k + 1) * 7 + j - 7]? = _
    rw [show (k + 1) * 7 + j - 7 = k * 7 + j by omega]; exact this
section
variable {w0 w : World} {F CR : HP}
theorem srcV_take {SR : HP} {a : Option Addr} {n c k : Nat} {l : List AVal} (h : SrcV w0 SR a n c l) (hk : k ≤ l.length) : SrcV w0 SR a k c (l.take k) := by
  obtain ⟨h1, h2, h3, h4, h5⟩ := h
  refine ⟨fun w' G hs j x hx => h1 w' G hs j x ?_, by rw [List.length_take]; omega, fun e => ?_, by omega, h5⟩
  · rw [List.getElem?_take] at hx
    split at hx
    · exact hx
    · cases hx
  · have := h3 e; omega
end
end Go.Proofs.Ytkpcngcegipalaa.Tw
