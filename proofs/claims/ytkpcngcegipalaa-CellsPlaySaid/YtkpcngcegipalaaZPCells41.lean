/- tallowlaw13: slots, act by act. No condition. -/
import Derived.Test.YtkpcngcegipalaaZPCells38
import Derived.Test.YtkpcngcegipalaaZPCells40
import Derived.Test.YtkpcngcegipalaaZPCells28
namespace Go.Proofs.Ytkpcngcegipalaa.Tw
set_option linter.unusedVariables false
set_option linter.unusedSimpArgs false
open Go Go.RowKit Go.MapKept

attribute [local go_sem] lookE lkE valUpon
section
variable {w0 w : World} {F XK : HP} {m : Hp} {p q : Nat} {A : AHeap} {B : Int}
set_option maxRecDepth 100000 in
set_option maxHeartbeats 4000000 in
theorem p_slots_0 (H0 : HW A B) (hB : B ≤ 1000000) (hW : A.watch.length ≤ 1000000) (KX : Knows m XK) (h : Sat w0 w (heapR m p A * (refR13 q A * (XK * F)))) (xn xi vk vn : Int) (la : Option Addr) (ll lc : Nat) (xtx : ByteArray) (what : Int) (hr : what.tmod 5 = 0) :
    Calls Try.prog 113 #[.pointer (some ⟨p, 0, none⟩), .pointer (some ⟨q, 0, none⟩), .agg #[.int .i64 what, .int .i64 xn, .int .i64 xi, .int .i64 vk, .int .i64 vn, .slice la ll lc, .string xtx]] w fun e w' => e = .returned (.bool true) ∧ Sat w0 w' (heapR m p (A.pushF xn ⟨vk, vn⟩) * (refR13 q (A.pushF xn ⟨vk, vn⟩) * (XK * F))) := by
  obtain ⟨e0, he0⟩ : ∃ e, A.pushE xn ⟨vk, vn⟩ = e := ⟨_, rfl⟩
  have h1 : Sat w0 (w.alloc (.cells #[.int .i64 what, .int .i64 xn, .int .i64 xi, .int .i64 vk, .int .i64 vn, .slice la ll lc, .string xtx] 100)) (heapR m p A * (refR13 q A * (pt w.heap.size (.cells #[.int .i64 what, .int .i64 xn, .int .i64 xi, .int .i64 vk, .int .i64 vn, .slice la ll lc, .string xtx] 100 (0, 0)) * (XK * F)))) := (h.alloc (.cells #[.int .i64 what, .int .i64 xn, .int .i64 xi, .int .i64 vk, .int .i64 vn, .slice la ll lc, .string xtx] 100)).cast (by ac_rfl)
  generalize hxb : w.heap.size = xb at *
  have H := Lib.hid H0
  have ⟨c0, c1, c2, c3, c4, c5, c6⟩ := act7 h1.p3
  have HXB := Lib.hid hxb
  clear h H0
  have HS0 := Lib.hid h1
  clear h1
  go_enter Try.func113, Try.ntmps113
  go_wp2_with fail
  clear c0 c1 c2 c3 c4 c5 c6
  refine wp_gen fun a0 ha => ?_
  have hb0 : base a0 0 = .pointer (some ⟨p, 0, none⟩) := by rw [ha]; rfl
  have hb1 : base a0 1 = .pointer (some ⟨q, 0, none⟩) := by rw [ha]; rfl
  have hb5 : base a0 5 = .pointer (some ⟨xb, 0, none⟩) := by rw [ha]; rfl
  have hsz0 : a0.tmps.size = 140 := by rw [ha]; rfl
  have HA0 := Lib.hid (And.intro hsz0 ha)
  clear ha hsz0
  refine GW.start (X := Nat) (w0 := w0) (B := [heapR m p A, refR13 q A, pt xb (.cells #[.int .i64 what, .int .i64 xn, .int .i64 xi, .int .i64 vk, .int .i64 vn, .slice la ll lc, .string xtx] 100 (0, 0)), XK, F]) (a0 := a0) ?_
  refine GW.det (d := (some 25)) [] [] rfl (fun e => by rfl) ?_; apply Exists.intro; refine ⟨fun e w' F hs => ?_, ?_, ?_⟩
  · first | (go_simp; done) | (go_simp; rfl)
  · exact (fun _ _ _ => rfl)
  refine GW.det (d := (some 26)) [] [] rfl (fun e => by rfl) ?_; apply Exists.intro; refine ⟨fun e w' F hs => ?_, ?_, ?_⟩
  · first | (go_simp; done) | (go_simp; rfl)
  · exact (fun _ _ _ => rfl)
  refine GW.det (d := (some 27)) [2] [] rfl (fun e => by rfl) ?_; apply Exists.intro; refine ⟨fun e w' F hs => ?_, ?_, ?_⟩
  · have ⟨y0, y1, y2, y3, y4, y5, y6⟩ := act7 (show Sat w0 w' (pt xb (.cells #[.int .i64 what, .int .i64 xn, .int .i64 xi, .int .i64 vk, .int .i64 vn, .slice la ll lc, .string xtx] 100 (0, 0)) * F) from hs); first | (go_simp; done) | (go_simp; rfl)
  · exact (fun _ _ _ => rfl)
  refine GW.det (d := (some 28)) [] [] rfl (fun e => by rfl) ?_; apply Exists.intro; refine ⟨fun e w' F hs => ?_, ?_, ?_⟩
  · first | (go_simp; done) | (go_simp; rfl)
  · exact (fun _ _ _ => rfl)
  refine GW.det (d := (some 29)) [2] [] rfl (fun e => by rfl) ?_; apply Exists.intro; refine ⟨fun e w' F hs => ?_, ?_, ?_⟩
  · have ⟨y0, y1, y2, y3, y4, y5, y6⟩ := act7 (show Sat w0 w' (pt xb (.cells #[.int .i64 what, .int .i64 xn, .int .i64 xi, .int .i64 vk, .int .i64 vn, .slice la ll lc, .string xtx] 100 (0, 0)) * F) from hs); first | (go_simp; done) | (go_simp; rfl)
  · exact (fun _ _ _ => rfl)
  refine GW.take (d := (some 30)) 5 (fun e => .int .i64 e0) (fun e => heapR m p (A.pushF xn ⟨vk, vn⟩)) [3] [0] [] rfl rfl (fun e => by rfl) (fun e e' hl => by exact ⟨rfl, rfl⟩) (fun e w' F K hs hK => ?_) ?_
  · go_simp; (refine (x_Push H.out hB KX.right (show Sat w0 w' (XK * (heapR m p A * F)) from hs).p2 xn vk vn he0).mono ?_; rintro e2 w2 ⟨rfl, h2⟩; exact ⟨_, rfl, hK default _ h2.p2⟩)
  refine GW.det (d := (some 31)) [] [] rfl (fun e => by rfl) ?_; apply Exists.intro; refine ⟨fun e w' F hs => ?_, ?_, ?_⟩
  · first | (go_simp; done) | (go_simp; rfl)
  · exact (fun _ _ _ => rfl)
  refine GW.det (d := (some 32)) [] [] rfl (fun e => by rfl) ?_; apply Exists.intro; refine ⟨fun e w' F hs => ?_, ?_, ?_⟩
  · first | (go_simp; done) | (go_simp; rfl)
  · exact (fun _ _ _ => rfl)
  refine GW.det (d := (some 33)) [2] [] rfl (fun e => by rfl) ?_; apply Exists.intro; refine ⟨fun e w' F hs => ?_, ?_, ?_⟩
  · have ⟨y0, y1, y2, y3, y4, y5, y6⟩ := act7 (show Sat w0 w' (pt xb (.cells #[.int .i64 what, .int .i64 xn, .int .i64 xi, .int .i64 vk, .int .i64 vn, .slice la ll lc, .string xtx] 100 (0, 0)) * F) from hs); first | (go_simp; done) | (go_simp; rfl)
  · exact (fun _ _ _ => rfl)
  refine GW.det (d := (some 34)) [] [] rfl (fun e => by rfl) ?_; apply Exists.intro; refine ⟨fun e w' F hs => ?_, ?_, ?_⟩
  · first | (go_simp; done) | (go_simp; rfl)
  · exact (fun _ _ _ => rfl)
  refine GW.det (d := (some 35)) [2] [] rfl (fun e => by rfl) ?_; apply Exists.intro; refine ⟨fun e w' F hs => ?_, ?_, ?_⟩
  · have ⟨y0, y1, y2, y3, y4, y5, y6⟩ := act7 (show Sat w0 w' (pt xb (.cells #[.int .i64 what, .int .i64 xn, .int .i64 xi, .int .i64 vk, .int .i64 vn, .slice la ll lc, .string xtx] 100 (0, 0)) * F) from hs); first | (go_simp; done) | (go_simp; rfl)
  · exact (fun _ _ _ => rfl)
  refine GW.take (d := (some 36)) 11 (fun e => .int .i64 e0) (fun e => refR13 q (A.pushF xn ⟨vk, vn⟩)) [] [1] [] rfl rfl (fun e => by rfl) (fun e e' hl => by exact ⟨rfl, rfl⟩) (fun e w' F K hs hK => ?_) ?_
  · go_simp; (refine (r_Push H.out hB hW (one_out hs : Sat w0 w' (refR13 q A * F)) xn vk vn he0).mono ?_; rintro e2 w2 ⟨rfl, h2⟩; exact ⟨_, rfl, hK default _ (one_in h2)⟩)
  refine GW.det (d := (some 37)) [] [] rfl (fun e => by rfl) ?_; apply Exists.intro; refine ⟨fun e w' F hs => ?_, ?_, ?_⟩
  · first | (go_simp; done) | (go_simp; rfl)
  · exact (fun _ _ _ => rfl)
  refine GW.det (d := (some 6)) [] [] rfl (fun e => by rfl) ?_; apply Exists.intro; refine ⟨fun e w' F hs => ?_, ?_, ?_⟩
  · first | (go_simp; done) | (go_simp; rfl)
  · exact (fun _ _ _ => rfl)
  refine GW.done (sz := 140) [5 + 5, 5 + 11, 3, 4] (by kernel_rfl) (by kernel_rfl) HA0.out.1 (by rfl) HS0.out (by rfl) fun e w3 gg => ?_
  have ha := HA0.out.2
  subst ha
  clear HA0 HS0 hb0 hb1 hb5
  simp only [putL, Act.put, List.setIfInBounds_toArray, List.set_cons_zero, List.set_cons_succ]
  have h3 : Sat w0 w3 (heapR m p (A.pushF xn ⟨vk, vn⟩) * (refR13 q (A.pushF xn ⟨vk, vn⟩) * (XK * F))) := gg
  clear gg
  go_wp2_with fail
  go_ret
  exact ⟨rfl, h3⟩
set_option maxRecDepth 100000 in
set_option maxHeartbeats 4000000 in
theorem p_slots_1 (H0 : HW A B) (hB : B ≤ 1000000) (hW : A.watch.length ≤ 1000000) (KX : Knows m XK) (h : Sat w0 w (heapR m p A * (refR13 q A * (XK * F)))) (xn xi vk vn : Int) (la : Option Addr) (ll lc : Nat) (xtx : ByteArray) (what : Int) (hr : what.tmod 5 = 1) :
    Calls Try.prog 113 #[.pointer (some ⟨p, 0, none⟩), .pointer (some ⟨q, 0, none⟩), .agg #[.int .i64 what, .int .i64 xn, .int .i64 xi, .int .i64 vk, .int .i64 vn, .slice la ll lc, .string xtx]] w fun e w' => e = .returned (.bool true) ∧ Sat w0 w' (heapR m p (A.popF xn) * (refR13 q (A.popF xn) * (XK * F))) := by
  obtain ⟨vv, hvv⟩ : ∃ v, A.popV xn = v := ⟨_, rfl⟩
  obtain ⟨e0, he0⟩ : ∃ e, A.popE xn = e := ⟨_, rfl⟩
  have h1 : Sat w0 (w.alloc (.cells #[.int .i64 what, .int .i64 xn, .int .i64 xi, .int .i64 vk, .int .i64 vn, .slice la ll lc, .string xtx] 100)) (heapR m p A * (refR13 q A * (pt w.heap.size (.cells #[.int .i64 what, .int .i64 xn, .int .i64 xi, .int .i64 vk, .int .i64 vn, .slice la ll lc, .string xtx] 100 (0, 0)) * (XK * F)))) := (h.alloc (.cells #[.int .i64 what, .int .i64 xn, .int .i64 xi, .int .i64 vk, .int .i64 vn, .slice la ll lc, .string xtx] 100)).cast (by ac_rfl)
  generalize hxb : w.heap.size = xb at *
  have H := Lib.hid H0
  have ⟨c0, c1, c2, c3, c4, c5, c6⟩ := act7 h1.p3
  have HXB := Lib.hid hxb
  clear h H0
  have HC1 := Lib.hid (x_Pop H.out hB KX.right.left.left (k := vv.kind) (x := vv.n) h1 xn hvv he0)
  clear h1
  go_enter Try.func113, Try.ntmps113
  go_wp2_with fail
  refine HC1.out.mono ?_
  rintro e w1 ⟨rfl, h2⟩
  have h4 := h2.alloc (.cells #[.int .i64 vv.kind, .int .i64 vv.n] 28)
  have ⟨x0, x1, x2, x3, x4, x5, x6⟩ := act7 h4.p4
  have HC2 := Lib.hid (r_Pop H.out hB hW h4.p3 xn hvv he0)
  generalize hb1 : w1.heap.size = b1 at *
  clear h2
  go_wp2_with fail
  refine HC2.out.mono ?_
  rintro e w2 ⟨rfl, h5⟩
  have h7 := h5.alloc (.cells #[.int .i64 vv.kind, .int .i64 vv.n] 28)
  have ⟨v0, v1, _, _⟩ := val2' h7
  have ⟨u0, u1, _, _⟩ := val2' h7.p3
  generalize hb2 : w2.heap.size = b2 at *
  clear h5 x0 x1 x2 x3 x4 x5 x6
  have h8 : Sat w0 _ (heapR m p (A.popF xn) * (refR13 q (A.popF xn) * (XK * F))) := Sat.drop (P := pt b1 (.cells #[.int .i64 vv.kind, .int .i64 vv.n] 28 (0, 0)) * (pt b2 (.cells #[.int .i64 vv.kind, .int .i64 vv.n] 28 (0, 0)) * pt xb (.cells #[.int .i64 what, .int .i64 xn, .int .i64 xi, .int .i64 vk, .int .i64 vn, .slice la ll lc, .string xtx] 100 (0, 0)))) (h7.cast (by ac_rfl))
  clear h7
  go_wp2_with fail
  go_ret
  exact ⟨by simp, h8⟩
set_option maxRecDepth 100000 in
set_option maxHeartbeats 4000000 in
theorem p_slots_2 (H0 : HW A B) (hB : B ≤ 1000000) (hW : A.watch.length ≤ 1000000) (KX : Knows m XK) (h : Sat w0 w (heapR m p A * (refR13 q A * (XK * F)))) (xn xi vk vn : Int) (la : Option Addr) (ll lc : Nat) (xtx : ByteArray) (what : Int) (hr : what.tmod 5 = 2) :
    Calls Try.prog 113 #[.pointer (some ⟨p, 0, none⟩), .pointer (some ⟨q, 0, none⟩), .agg #[.int .i64 what, .int .i64 xn, .int .i64 xi, .int .i64 vk, .int .i64 vn, .slice la ll lc, .string xtx]] w fun e w' => e = .returned (.bool true) ∧ Sat w0 w' (heapR m p (A) * (refR13 q (A) * (XK * F))) := by
  obtain ⟨vv, hvv⟩ : ∃ v, A.atVV xn xi = v := ⟨_, rfl⟩
  obtain ⟨e0, he0⟩ : ∃ e, A.atE xn xi = e := ⟨_, rfl⟩
  have h1 : Sat w0 (w.alloc (.cells #[.int .i64 what, .int .i64 xn, .int .i64 xi, .int .i64 vk, .int .i64 vn, .slice la ll lc, .string xtx] 100)) (heapR m p A * (refR13 q A * (pt w.heap.size (.cells #[.int .i64 what, .int .i64 xn, .int .i64 xi, .int .i64 vk, .int .i64 vn, .slice la ll lc, .string xtx] 100 (0, 0)) * (XK * F)))) := (h.alloc (.cells #[.int .i64 what, .int .i64 xn, .int .i64 xi, .int .i64 vk, .int .i64 vn, .slice la ll lc, .string xtx] 100)).cast (by ac_rfl)
  generalize hxb : w.heap.size = xb at *
  have H := Lib.hid H0
  have ⟨c0, c1, c2, c3, c4, c5, c6⟩ := act7 h1.p3
  have HXB := Lib.hid hxb
  clear h H0
  have HC1 := Lib.hid (x_At H.out hB (k := vv.kind) (x := vv.n) h1 xn xi hvv he0)
  clear h1
  go_enter Try.func113, Try.ntmps113
  go_wp2_with fail
  refine HC1.out.mono ?_
  rintro e w1 ⟨rfl, h2⟩
  have h4 := h2.alloc (.cells #[.int .i64 vv.kind, .int .i64 vv.n] 28)
  have ⟨x0, x1, x2, x3, x4, x5, x6⟩ := act7 h4.p4
  have HC2 := Lib.hid (r_At H.out hB h4.p3 xn xi hvv he0)
  generalize hb1 : w1.heap.size = b1 at *
  clear h2
  go_wp2_with fail
  refine HC2.out.mono ?_
  rintro e w2 ⟨rfl, h5⟩
  have h7 := h5.alloc (.cells #[.int .i64 vv.kind, .int .i64 vv.n] 28)
  have ⟨v0, v1, _, _⟩ := val2' h7
  have ⟨u0, u1, _, _⟩ := val2' h7.p3
  generalize hb2 : w2.heap.size = b2 at *
  clear h5 x0 x1 x2 x3 x4 x5 x6
  have h8 : Sat w0 _ (heapR m p (A) * (refR13 q (A) * (XK * F))) := Sat.drop (P := pt b1 (.cells #[.int .i64 vv.kind, .int .i64 vv.n] 28 (0, 0)) * (pt b2 (.cells #[.int .i64 vv.kind, .int .i64 vv.n] 28 (0, 0)) * pt xb (.cells #[.int .i64 what, .int .i64 xn, .int .i64 xi, .int .i64 vk, .int .i64 vn, .slice la ll lc, .string xtx] 100 (0, 0)))) (h7.cast (by ac_rfl))
  clear h7
  go_wp2_with fail
  go_ret
  exact ⟨by simp, h8⟩
set_option maxRecDepth 100000 in
set_option maxHeartbeats 4000000 in
theorem p_slots_3 (H0 : HW A B) (hB : B ≤ 1000000) (hW : A.watch.length ≤ 1000000) (KX : Knows m XK) (h : Sat w0 w (heapR m p A * (refR13 q A * (XK * F)))) (xn xi vk vn : Int) (la : Option Addr) (ll lc : Nat) (xtx : ByteArray) (what : Int) (hr : what.tmod 5 = 3) :
    Calls Try.prog 113 #[.pointer (some ⟨p, 0, none⟩), .pointer (some ⟨q, 0, none⟩), .agg #[.int .i64 what, .int .i64 xn, .int .i64 xi, .int .i64 vk, .int .i64 vn, .slice la ll lc, .string xtx]] w fun e w' => e = .returned (.bool true) ∧ Sat w0 w' (heapR m p (A.swapF xn xi ⟨vk, vn⟩) * (refR13 q (A.swapF xn xi ⟨vk, vn⟩) * (XK * F))) := by
  obtain ⟨vv, hvv⟩ : ∃ v, A.swapV xn xi ⟨vk, vn⟩ = v := ⟨_, rfl⟩
  obtain ⟨e0, he0⟩ : ∃ e, A.swapE xn xi ⟨vk, vn⟩ = e := ⟨_, rfl⟩
  have h1 : Sat w0 (w.alloc (.cells #[.int .i64 what, .int .i64 xn, .int .i64 xi, .int .i64 vk, .int .i64 vn, .slice la ll lc, .string xtx] 100)) (heapR m p A * (refR13 q A * (pt w.heap.size (.cells #[.int .i64 what, .int .i64 xn, .int .i64 xi, .int .i64 vk, .int .i64 vn, .slice la ll lc, .string xtx] 100 (0, 0)) * (XK * F)))) := (h.alloc (.cells #[.int .i64 what, .int .i64 xn, .int .i64 xi, .int .i64 vk, .int .i64 vn, .slice la ll lc, .string xtx] 100)).cast (by ac_rfl)
  generalize hxb : w.heap.size = xb at *
  have H := Lib.hid H0
  have ⟨c0, c1, c2, c3, c4, c5, c6⟩ := act7 h1.p3
  have HXB := Lib.hid hxb
  clear h H0
  have HC1 := Lib.hid (x_Swap H.out hB KX.right.left.left (k2 := vv.kind) (x2 := vv.n) h1 xn xi vk vn hvv he0)
  clear h1
  go_enter Try.func113, Try.ntmps113
  go_wp2_with fail
  refine HC1.out.mono ?_
  rintro e w1 ⟨rfl, h2⟩
  have h4 := h2.alloc (.cells #[.int .i64 vv.kind, .int .i64 vv.n] 28)
  have ⟨x0, x1, x2, x3, x4, x5, x6⟩ := act7 h4.p4
  have HC2 := Lib.hid (r_Swap H.out hB hW h4.p3 xn xi vk vn hvv he0)
  generalize hb1 : w1.heap.size = b1 at *
  clear h2
  go_wp2_with fail
  refine HC2.out.mono ?_
  rintro e w2 ⟨rfl, h5⟩
  have h7 := h5.alloc (.cells #[.int .i64 vv.kind, .int .i64 vv.n] 28)
  have ⟨v0, v1, _, _⟩ := val2' h7
  have ⟨u0, u1, _, _⟩ := val2' h7.p3
  generalize hb2 : w2.heap.size = b2 at *
  clear h5 x0 x1 x2 x3 x4 x5 x6
  have h8 : Sat w0 _ (heapR m p (A.swapF xn xi ⟨vk, vn⟩) * (refR13 q (A.swapF xn xi ⟨vk, vn⟩) * (XK * F))) := Sat.drop (P := pt b1 (.cells #[.int .i64 vv.kind, .int .i64 vv.n] 28 (0, 0)) * (pt b2 (.cells #[.int .i64 vv.kind, .int .i64 vv.n] 28 (0, 0)) * pt xb (.cells #[.int .i64 what, .int .i64 xn, .int .i64 xi, .int .i64 vk, .int .i64 vn, .slice la ll lc, .string xtx] 100 (0, 0)))) (h7.cast (by ac_rfl))
  clear h7
  go_wp2_with fail
  go_ret
  exact ⟨by simp, h8⟩
set_option maxRecDepth 100000 in
set_option maxHeartbeats 4000000 in
theorem p_slots_4 {SR : HP} {l : List AVal} (H0 : HW A B) (hB : B ≤ 1000000) (hW : A.watch.length ≤ 1000000) (KX : Knows m XK) (h : Sat w0 w (heapR m p A * (refR13 q A * (XK * (SR * F))))) (xn xi vk vn : Int) (la : Option Addr) (lc : Nat) (xtx : ByteArray) (what : Int) (hr0 : (what.tmod 5 == 0) = false) (hr1 : (what.tmod 5 == 1) = false) (hr2 : (what.tmod 5 == 2) = false) (hr3 : (what.tmod 5 == 3) = false) (hS : SrcV w0 SR la l.length lc l) :
    Calls Try.prog 113 #[.pointer (some ⟨p, 0, none⟩), .pointer (some ⟨q, 0, none⟩), .agg #[.int .i64 what, .int .i64 xn, .int .i64 xi, .int .i64 vk, .int .i64 vn, .slice la l.length lc, .string xtx]] w fun e w' => e = .returned (.bool true) ∧ Sat w0 w' (heapR m p (A.layF xn (l.take 20)) * (refR13 q (A.layF xn (l.take 20)) * (XK * (SR * F)))) := by
  have h1 : Sat w0 (w.alloc (.cells #[.int .i64 what, .int .i64 xn, .int .i64 xi, .int .i64 vk, .int .i64 vn, .slice la l.length lc, .string xtx] 100)) (heapR m p A * (refR13 q A * (pt w.heap.size (.cells #[.int .i64 what, .int .i64 xn, .int .i64 xi, .int .i64 vk, .int .i64 vn, .slice la l.length lc, .string xtx] 100 (0, 0)) * (XK * (SR * F))))) := (h.alloc (.cells #[.int .i64 what, .int .i64 xn, .int .i64 xi, .int .i64 vk, .int .i64 vn, .slice la l.length lc, .string xtx] 100)).cast (by ac_rfl)
  generalize hxb : w.heap.size = xb at *
  have H := Lib.hid H0
  have ⟨c0, c1, c2, c3, c4, c5, c6⟩ := act7 h1.p3
  have HXB := Lib.hid hxb
  clear h H0
  obtain ⟨tn, htn⟩ : ∃ q : Nat, q = min l.length 20 := ⟨_, rfl⟩
  have hlt2 : l.take 20 = l.take tn := by rw [htn]; exact (List.take_eq_take_min).trans (by rw [Nat.min_comm])
  have HSV := Lib.hid (srcV_take hS (show tn ≤ l.length by omega))
  obtain ⟨e0, he0⟩ : ∃ e, A.layE xn (l.take tn) = e := ⟨_, rfl⟩
  rw [hlt2]
  have ht1 : (if (20 : Int) < (l.length : Int) then (20 : Int) else (l.length : Int)) = (tn : Int) := by split <;> omega
  have ht2 : min (l.length : Int) 20 = (tn : Int) := by omega
  have hcap := hS.2.2.2.1
  have ht3 : tn ≤ lc := by omega
  have ht3b : (tn : Int) ≤ (lc : Int) := by omega
  have ht3c : tn ≤ 20 := by omega
  have ht4 : ((tn : Int)).toNat = tn := rfl
  have ht6 : (0 : Int) ≤ (tn : Int) := by omega
  clear hS hlt2 htn
  have HS0 := Lib.hid h1
  clear h1
  go_enter Try.func113, Try.ntmps113
  go_wp2_with fail
  clear c0 c1 c2 c3 c4 c5 c6
  refine wp_gen fun a0 ha => ?_
  have hb0 : base a0 0 = .pointer (some ⟨p, 0, none⟩) := by rw [ha]; rfl
  have hb1 : base a0 1 = .pointer (some ⟨q, 0, none⟩) := by rw [ha]; rfl
  have hb5 : base a0 5 = .pointer (some ⟨xb, 0, none⟩) := by rw [ha]; rfl
  have hb19 : base a0 19 = .slice la tn lc := by rw [ha]; rfl
  have hsz0 : a0.tmps.size = 140 := by rw [ha]; rfl
  have HA0 := Lib.hid (And.intro hsz0 ha)
  clear ha hsz0
  refine GW.start (X := Nat) (w0 := w0) (B := [heapR m p A, refR13 q A, pt xb (.cells #[.int .i64 what, .int .i64 xn, .int .i64 xi, .int .i64 vk, .int .i64 vn, .slice la l.length lc, .string xtx] 100 (0, 0)), XK, SR, F]) (a0 := a0) ?_
  refine GW.det (d := (some 129)) [] [] rfl (fun e => by rfl) ?_; apply Exists.intro; refine ⟨fun e w' F hs => ?_, ?_, ?_⟩
  · first | (go_simp; done) | (go_simp; rfl)
  · exact (fun _ _ _ => rfl)
  refine GW.det (d := (some 130)) [] [] rfl (fun e => by rfl) ?_; apply Exists.intro; refine ⟨fun e w' F hs => ?_, ?_, ?_⟩
  · first | (go_simp; done) | (go_simp; rfl)
  · exact (fun _ _ _ => rfl)
  refine GW.det (d := (some 131)) [2] [] rfl (fun e => by rfl) ?_; apply Exists.intro; refine ⟨fun e w' F hs => ?_, ?_, ?_⟩
  · have ⟨y0, y1, y2, y3, y4, y5, y6⟩ := act7 (show Sat w0 w' (pt xb (.cells #[.int .i64 what, .int .i64 xn, .int .i64 xi, .int .i64 vk, .int .i64 vn, .slice la l.length lc, .string xtx] 100 (0, 0)) * F) from hs); first | (go_simp; done) | (go_simp; rfl)
  · exact (fun _ _ _ => rfl)
  refine GW.det (d := (some 132)) [] [] rfl (fun e => by rfl) ?_; apply Exists.intro; refine ⟨fun e w' F hs => ?_, ?_, ?_⟩
  · first | (go_simp; done) | (go_simp; rfl)
  · exact (fun _ _ _ => rfl)
  refine GW.take (d := (some 133)) 4 (fun e => .int .i64 e0) (fun e => heapR m p (A.layF xn (l.take tn))) [3, 4] [0] [] rfl rfl (fun e => by rfl) (fun e e' hl => by exact ⟨rfl, rfl⟩) (fun e w' F K hs hK => ?_) ?_
  · go_simp; (refine (x_Lay H.out hB (KX.right (F := F)) xn ((show Sat w0 w' ((XK * SR) * (heapR m p A * F)) from hs).cast (show _ = heapR m p A * (SR * (XK * F)) by ac_rfl)) HSV.out (by omega) he0).mono ?_; rintro e2 w2 ⟨rfl, h2⟩; exact ⟨_, rfl, hK default _ (h2.cast (show _ = (XK * SR) * (heapR m p (A.layF xn (l.take tn)) * F) by ac_rfl))⟩)
  refine GW.det (d := (some 134)) [] [] rfl (fun e => by rfl) ?_; apply Exists.intro; refine ⟨fun e w' F hs => ?_, ?_, ?_⟩
  · first | (go_simp; done) | (go_simp; rfl)
  · exact (fun _ _ _ => rfl)
  refine GW.det (d := (some 135)) [] [] rfl (fun e => by rfl) ?_; apply Exists.intro; refine ⟨fun e w' F hs => ?_, ?_, ?_⟩
  · first | (go_simp; done) | (go_simp; rfl)
  · exact (fun _ _ _ => rfl)
  refine GW.det (d := (some 136)) [2] [] rfl (fun e => by rfl) ?_; apply Exists.intro; refine ⟨fun e w' F hs => ?_, ?_, ?_⟩
  · have ⟨y0, y1, y2, y3, y4, y5, y6⟩ := act7 (show Sat w0 w' (pt xb (.cells #[.int .i64 what, .int .i64 xn, .int .i64 xi, .int .i64 vk, .int .i64 vn, .slice la l.length lc, .string xtx] 100 (0, 0)) * F) from hs); first | (go_simp; done) | (go_simp; rfl)
  · exact (fun _ _ _ => rfl)
  refine GW.det (d := (some 137)) [] [] rfl (fun e => by rfl) ?_; apply Exists.intro; refine ⟨fun e w' F hs => ?_, ?_, ?_⟩
  · first | (go_simp; done) | (go_simp; rfl)
  · exact (fun _ _ _ => rfl)
  refine GW.take (d := (some 138)) 9 (fun e => .int .i64 e0) (fun e => refR13 q (A.layF xn (l.take tn))) [4] [1] [] rfl rfl (fun e => by rfl) (fun e e' hl => by exact ⟨rfl, rfl⟩) (fun e w' F K hs hK => ?_) ?_
  · go_simp; (refine (r_Lay H.out hB hW xn ((show Sat w0 w' (SR * (refR13 q A * F)) from hs).p2) HSV.out (by omega) he0).mono ?_; rintro e2 w2 ⟨rfl, h2⟩; exact ⟨_, rfl, hK default _ h2.p2⟩)
  refine GW.det (d := (some 139)) [] [] rfl (fun e => by rfl) ?_; apply Exists.intro; refine ⟨fun e w' F hs => ?_, ?_, ?_⟩
  · first | (go_simp; done) | (go_simp; rfl)
  · exact (fun _ _ _ => rfl)
  refine GW.det (d := (some 6)) [] [] rfl (fun e => by rfl) ?_; apply Exists.intro; refine ⟨fun e w' F hs => ?_, ?_, ?_⟩
  · first | (go_simp; done) | (go_simp; rfl)
  · exact (fun _ _ _ => rfl)
  refine GW.done (sz := 140) [6 + 4, 6 + 9, 3, 4, 5] (by kernel_rfl) (by kernel_rfl) HA0.out.1 (by rfl) HS0.out (by rfl) fun e w3 gg => ?_
  have ha := HA0.out.2
  subst ha
  clear HA0 HS0 hb0 hb1 hb5 hb19
  simp only [putL, Act.put, List.setIfInBounds_toArray, List.set_cons_zero, List.set_cons_succ]
  have h3 : Sat w0 w3 (heapR m p (A.layF xn (l.take tn)) * (refR13 q (A.layF xn (l.take tn)) * (XK * (SR * F)))) := gg
  clear gg
  go_wp2_with fail
  go_ret
  exact ⟨rfl, h3⟩
end
end Go.Proofs.Ytkpcngcegipalaa.Tw
namespace Go.Proofs.Ytkpcngcegipalaa.Tw
set_option linter.unusedVariables false
set_option linter.unusedSimpArgs false
open Go Go.RowKit Go.MapKept

def slotP (A : AHeap) (x : Act13) : AHeap :=
  if x.what.tmod 5 = 0 then A.pushF x.n x.v
  else if x.what.tmod 5 = 1 then A.popF x.n
  else if x.what.tmod 5 = 2 then A
  else if x.what.tmod 5 = 3 then A.swapF x.n x.i x.v
  else A.layF x.n (x.l.take 20)
def actPl (A : AHeap) (x : Act13) : AHeap :=
  if x.what = 0 ∨ x.what = 1 then A.makeF x.i (txc x.tx 5000)
  else if 2 ≤ x.what ∧ x.what ≤ 13 then actA A x
  else slotP A x
def playPl (l : List Act13) (k : Nat) : AHeap := (l.take k).foldl actPl AHeap.empty
theorem playPl_succ {l : List Act13} {k : Nat} {x : Act13} (h : l[k]? = some x) : playPl l (k + 1) = actPl (playPl l k) x := by
  unfold playPl
  rw [List.take_add_one, h, List.foldl_append]; rfl
theorem HW.slotP {A : AHeap} {B : Int} (h : HW A B) (hB : 20 ≤ B) (x : Act13) : HW (slotP A x) (B + 1) := by
  unfold Tw.slotP
  by_cases h0 : x.what.tmod 5 = 0
  · rw [if_pos h0]; exact h.push _ _
  rw [if_neg h0]
  by_cases h1 : x.what.tmod 5 = 1
  · rw [if_pos h1]; exact (h.pop _).mono (by omega)
  rw [if_neg h1]
  by_cases h2 : x.what.tmod 5 = 2
  · rw [if_pos h2]; exact h.mono (by omega)
  rw [if_neg h2]
  by_cases h3 : x.what.tmod 5 = 3
  · rw [if_pos h3]; exact (h.swap _ _ _).mono (by omega)
  rw [if_neg h3]
  exact (h.lay _ _ (by rw [List.length_take]; omega)).mono (by omega)
theorem HW.actPl {A : AHeap} {B : Int} (h : HW A B) (hB : 20 ≤ B) (x : Act13) : HW (actPl A x) (B + 1) := by
  unfold Tw.actPl
  by_cases h0 : x.what = 0 ∨ x.what = 1
  · rw [if_pos h0]; exact h.make (by omega) _ _
  rw [if_neg h0]
  by_cases h1 : 2 ≤ x.what ∧ x.what ≤ 13
  · rw [if_pos h1]; exact h.act hB x
  rw [if_neg h1]
  exact h.slotP hB x
/-! the watch stays, but where it is laid anew -/
theorem keep_watch (A : AHeap) (v : AVal) : (A.keep v).watch = A.watch := by unfold AHeap.keep; split <;> rfl
theorem drop_watch (A : AHeap) (v : AVal) : (A.drop v).watch = A.watch := by
  unfold AHeap.drop
  split
  · rfl
  · dsimp only
    repeat' split
    all_goals rfl
theorem mark_watch (A : AHeap) (n : Int) : (A.mark n).watch = A.watch := by
  unfold AHeap.mark
  cases A.objs n with
  | none => rfl
  | some o => dsimp only; split <;> rfl
theorem pop_watch (A : AHeap) (n : Int) : (A.popF n).watch = A.watch := by unfold AHeap.popF; repeat' split
                                                                           all_goals rfl
theorem push_watch (A : AHeap) (n : Int) (v : AVal) : (A.pushF n v).watch = A.watch := by unfold AHeap.pushF; repeat' split
                                                                                          all_goals rfl
theorem swap_watch (A : AHeap) (n i : Int) (v : AVal) : (A.swapF n i v).watch = A.watch := by unfold AHeap.swapF; repeat' split
                                                                                              all_goals rfl
theorem lay_watch (A : AHeap) (n : Int) (s : List AVal) : (A.layF n s).watch = A.watch := by unfold AHeap.layF; repeat' split
                                                                                             all_goals rfl
theorem fin_watch (A : AHeap) (n : Int) : (A.finF n).watch = A.watch := by unfold AHeap.finF; repeat' split
                                                                           all_goals rfl
theorem free_watch (A : AHeap) (n : Int) : (A.freeF n).watch = A.watch := by unfold AHeap.freeF; split <;> rfl
theorem make_watch (A : AHeap) (k : Int) (tx : ByteArray) : (A.makeF k tx).watch = A.watch := by unfold AHeap.makeF; split <;> rfl
theorem susp_watch (A : AHeap) (n : Int) : (A.suspF n).watch = A.watch := by unfold AHeap.suspF; split <;> rfl
theorem actA_watch (A : AHeap) (x : Act13) (h : A.watch.length ≤ 2) : (actA A x).watch.length ≤ 2 := by
  unfold actA
  by_cases h0 : x.what = 0 ∨ x.what = 1
  · rw [if_pos h0]; rw [make_watch]; exact h
  rw [if_neg h0]
  by_cases h1 : x.what = 2 ∨ x.what = 3
  · rw [if_pos h1]; rw [keep_watch]; exact h
  rw [if_neg h1]
  by_cases h2 : x.what = 4 ∨ x.what = 5 ∨ x.what = 6
  · rw [if_pos h2]; rw [drop_watch]; exact h
  rw [if_neg h2]
  by_cases h3 : x.what = 7
  · rw [if_pos h3]; rw [free_watch]; exact h
  rw [if_neg h3]
  by_cases h4 : x.what = 8
  · rw [if_pos h4]; rw [mark_watch]; exact h
  rw [if_neg h4]
  by_cases h5 : x.what = 9
  · rw [if_pos h5]; rw [fin_watch]; exact h
  rw [if_neg h5]
  by_cases h6 : x.what = 10
  · rw [if_pos h6]; exact h
  rw [if_neg h6]
  by_cases h7 : x.what = 11
  · rw [if_pos h7]; exact h
  rw [if_neg h7]
  by_cases h8 : x.what = 12
  · rw [if_pos h8]; rw [susp_watch]; exact h
  rw [if_neg h8]
  by_cases h9 : x.what = 13
  · rw [if_pos h9]; exact Nat.le_refl _
  rw [if_neg h9]
  by_cases h10 : x.what = 14
  · rw [if_pos h10]; rw [push_watch]; exact h
  rw [if_neg h10]
  by_cases h11 : x.what = 15
  · rw [if_pos h11]; rw [pop_watch]; exact h
  rw [if_neg h11]
  by_cases h12 : x.what = 16
  · rw [if_pos h12]; rw [swap_watch]; exact h
  rw [if_neg h12]
  rw [lay_watch]; exact h
theorem slotP_watch (A : AHeap) (x : Act13) (h : A.watch.length ≤ 2) : (slotP A x).watch.length ≤ 2 := by
  unfold slotP
  by_cases h0 : x.what.tmod 5 = 0
  · rw [if_pos h0]; rw [push_watch]; exact h
  rw [if_neg h0]
  by_cases h1 : x.what.tmod 5 = 1
  · rw [if_pos h1]; rw [pop_watch]; exact h
  rw [if_neg h1]
  by_cases h2 : x.what.tmod 5 = 2
  · rw [if_pos h2]; exact h
  rw [if_neg h2]
  by_cases h3 : x.what.tmod 5 = 3
  · rw [if_pos h3]; rw [swap_watch]; exact h
  rw [if_neg h3]
  rw [lay_watch]; exact h
theorem actPl_watch (A : AHeap) (x : Act13) (h : A.watch.length ≤ 2) : (actPl A x).watch.length ≤ 2 := by
  unfold actPl
  by_cases h0 : x.what = 0 ∨ x.what = 1
  · rw [if_pos h0, make_watch]; exact h
  rw [if_neg h0]
  by_cases h1 : 2 ≤ x.what ∧ x.what ≤ 13
  · rw [if_pos h1]; exact actA_watch A x h
  rw [if_neg h1]
  exact slotP_watch A x h
theorem playPl_ok (l : List Act13) : ∀ k, HW (playPl l k) (20 + k) ∧ (playPl l k).watch.length ≤ 2
  | 0 => ⟨HW.empty.mono (by omega), by simp [playPl, AHeap.empty]⟩
  | k + 1 => by
    obtain ⟨h1, h2⟩ := playPl_ok l k
    cases h : l[k]? with
    | none =>
      have e : playPl l (k + 1) = playPl l k := by unfold playPl; rw [List.take_add_one, h]; simp
      rw [e]
      exact ⟨h1.mono (by omega), h2⟩
    | some x =>
      rw [playPl_succ h]
      exact ⟨(h1.actPl (by omega) x).mono (by omega), actPl_watch _ x h2⟩
end Go.Proofs.Ytkpcngcegipalaa.Tw
