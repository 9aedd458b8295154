/- tallowlaw14: do, for any act. No condition. -/
import Derived.Test.YtkpcngcegipalaaZPDw40
import Derived.Test.YtkpcngcegipalaaZPDw41
import Derived.Test.YtkpcngcegipalaaZPDw42
import Derived.Test.YtkpcngcegipalaaZPDw43
namespace Go.Proofs.Ytkpcngcegipalaa.Tw
set_option linter.unusedVariables false
set_option linter.unusedSimpArgs false
open Go Go.RowKit Go.MapKept

attribute [local go_sem] lookE lkE valUpon
section
variable {w0 w : World} {F : HP} {p q : Nat} {A : AHeap} {B : Int}
theorem act14c {w : World} {G : HP} {xb : Nat} {what xn vk vn : Int} (h : Sat w0 w (pt xb (.cells #[.int .i64 what, .int .i64 xn, .int .i64 vk, .int .i64 vn] 94 (0, 0)) * G)) :
    w.cell? ⟨xb, 0, none⟩ = some (.int .i64 what) ∧ w.cell? ⟨xb, 1, none⟩ = some (.int .i64 xn) ∧ w.cell? ⟨xb, 2, none⟩ = some (.int .i64 vk) ∧ w.cell? ⟨xb, 3, none⟩ = some (.int .i64 vn) :=
  have cc := fun i v hv => Sat.cell (T := 94) (cs := #[.int .i64 what, .int .i64 xn, .int .i64 vk, .int .i64 vn]) h i (v := v) hv
  ⟨cc 0 _ rfl, cc 1 _ rfl, cc 2 _ rfl, cc 3 _ rfl⟩
set_option maxRecDepth 100000 in
set_option maxHeartbeats 4000000 in
theorem d_do_0 (H0 : HW A B) (hB : B ≤ 100000) (hW : A.watch.length ≤ 2) (h : Sat w0 w (heapR mN p A * (refR13 q A * F))) (xn vk vn : Int) (hx : xn ≤ 9223372036854775807) :
    Calls Try.prog 43 #[.pointer (some ⟨p, 0, none⟩), .pointer (some ⟨q, 0, none⟩), .agg #[.int .i64 0, .int .i64 xn, .int .i64 vk, .int .i64 vn]] w fun e w' => e = .returned (.bool true) ∧ Sat w0 w' (heapR mN p (A.makeF xn (ByteArray.mk #[])) * (refR13 q (A.makeF xn (ByteArray.mk #[])) * F)) := by
  obtain ⟨v, hv⟩ : ∃ v, A.makeV xn (ByteArray.mk #[]) = v := ⟨_, rfl⟩
  have hB6 : B ≤ 1000000 := by omega
  have hW6 : A.watch.length ≤ 1000000 := by omega
  have h1 : Sat w0 (w.alloc (.cells #[.int .i64 0, .int .i64 xn, .int .i64 vk, .int .i64 vn] 94)) (heapR mN p A * (refR13 q A * (pt w.heap.size (.cells #[.int .i64 0, .int .i64 xn, .int .i64 vk, .int .i64 vn] 94 (0, 0)) * F))) := (h.alloc (.cells #[.int .i64 0, .int .i64 xn, .int .i64 vk, .int .i64 vn] 94)).cast (by ac_rfl)
  generalize hxb : w.heap.size = xb at *
  have H := Lib.hid H0
  have ⟨c0, c1, c2, c3⟩ := act14c h1.p3
  clear h H0
  have HS0 := Lib.hid h1
  clear h1
  go_enter Try.func43, Try.ntmps43
  go_wp2_with fail
  clear c0 c1 c2 c3
  refine wp_gen fun a0 ha => ?_
  have hb0 : base a0 0 = .pointer (some ⟨p, 0, none⟩) := by rw [ha]; rfl
  have hb1 : base a0 1 = .pointer (some ⟨q, 0, none⟩) := by rw [ha]; rfl
  have hb5 : base a0 5 = .pointer (some ⟨xb, 0, none⟩) := by rw [ha]; rfl
  have hsz0 : a0.tmps.size = 119 := by rw [ha]; rfl
  have HA0 := Lib.hid (And.intro hsz0 ha)
  clear ha hsz0
  refine GW.start (X := Nat) (w0 := w0) (B := [heapR mN p A, refR13 q A, pt xb (.cells #[.int .i64 0, .int .i64 xn, .int .i64 vk, .int .i64 vn] 94 (0, 0)), F]) (a0 := a0) ?_
  refine GW.det (d := (some 17)) [] [] rfl (fun e => by rfl) ?_; apply Exists.intro; refine ⟨fun e w' F hs => ?_, ?_, ?_⟩
  · first | (go_simp; done) | (go_simp; rfl)
  · exact (fun _ _ _ => rfl)
  refine GW.det (d := (some 18)) [] [] rfl (fun e => by rfl) ?_; apply Exists.intro; refine ⟨fun e w' F hs => ?_, ?_, ?_⟩
  · first | (go_simp; done) | (go_simp; rfl)
  · exact (fun _ _ _ => rfl)
  refine GW.det (d := (some 19)) [2] [] rfl (fun e => by rfl) ?_; apply Exists.intro; refine ⟨fun e w' F hs => ?_, ?_, ?_⟩
  · have ⟨y0, y1, y2, y3⟩ := act14c (show Sat w0 w' (pt xb (.cells #[.int .i64 0, .int .i64 xn, .int .i64 vk, .int .i64 vn] 94 (0, 0)) * F) from hs); first | (go_simp; done) | (go_simp; rfl)
  · exact (fun _ _ _ => rfl)
  refine GW.take (d := (some 20)) 3 (fun e => .agg #[.int .i64 v.kind, .int .i64 v.n]) (fun e => heapR mN p (A.makeF xn (ByteArray.mk #[]))) [] [0] [] rfl rfl (fun e => by rfl) (fun e e' hl => by exact ⟨rfl, rfl⟩) (fun e w' F K hs hK => ?_) ?_
  · go_simp; (refine (x_Make H.out hB6 (one_out hs : Sat w0 w' (heapR mN p A * F)) xn (ByteArray.mk #[]) hv).mono ?_; rintro e2 w2 ⟨rfl, h2⟩; exact ⟨_, rfl, hK default _ (one_in h2)⟩)
  refine GW.det (d := (some 21)) [] [] rfl (fun e => by rfl) ?_; apply Exists.intro; refine ⟨fun e w' F hs => ?_, ?_, ?_⟩
  · first | (go_simp; done) | (go_simp; rfl)
  · exact (fun _ _ _ => rfl)
  refine GW.det (d := (some 22)) [] [] rfl (fun e => by rfl) ?_; apply Exists.intro; refine ⟨fun e w' F hs => ?_, ?_, ?_⟩
  · first | (go_simp; done) | (go_simp; rfl)
  · exact (fun _ _ _ => rfl)
  refine GW.det (d := (some 23)) [2] [] rfl (fun e => by rfl) ?_; apply Exists.intro; refine ⟨fun e w' F hs => ?_, ?_, ?_⟩
  · have ⟨y0, y1, y2, y3⟩ := act14c (show Sat w0 w' (pt xb (.cells #[.int .i64 0, .int .i64 xn, .int .i64 vk, .int .i64 vn] 94 (0, 0)) * F) from hs); first | (go_simp; done) | (go_simp; rfl)
  · exact (fun _ _ _ => rfl)
  refine GW.take (d := (some 24)) 7 (fun e => .agg #[.int .i64 v.kind, .int .i64 v.n]) (fun e => refR13 q (A.makeF xn (ByteArray.mk #[]))) [] [1] [] rfl rfl (fun e => by rfl) (fun e e' hl => by exact ⟨rfl, rfl⟩) (fun e w' F K hs hK => ?_) ?_
  · go_simp; (refine (r_Make H.out hB6 (one_out hs : Sat w0 w' (refR13 q A * F)) xn (ByteArray.mk #[]) hv).mono ?_; rintro e2 w2 ⟨rfl, h2⟩; exact ⟨_, rfl, hK default _ (one_in h2)⟩)
  refine GW.det (d := (some 25)) [] [] rfl (fun e => by rfl) ?_; apply Exists.intro; refine ⟨fun e w' F hs => ?_, ?_, ?_⟩
  · first | (go_simp; done) | (go_simp; rfl)
  · exact (fun _ _ _ => rfl)
  refine GW.det (d := (some 6)) [] [] rfl (fun e => by rfl) ?_; apply Exists.intro; refine ⟨fun e w' F hs => ?_, ?_, ?_⟩
  · first | (go_simp; done) | (go_simp; rfl)
  · exact (fun _ _ _ => rfl)
  refine GW.done (sz := 119) [4 + 3, 4 + 7, 3] (by kernel_rfl) (by kernel_rfl) HA0.out.1 (by rfl) HS0.out (by rfl) fun e w3 gg => ?_
  have ha := HA0.out.2
  subst ha
  clear HA0 HS0 hb0 hb1 hb5
  simp only [putL, Act.put, List.setIfInBounds_toArray, List.set_cons_zero, List.set_cons_succ]
  have h3 : Sat w0 w3 (heapR mN p (A.makeF xn (ByteArray.mk #[])) * (refR13 q (A.makeF xn (ByteArray.mk #[])) * F)) := gg
  clear gg
  go_wp2_with fail
  go_ret
  exact ⟨rfl, h3⟩
set_option maxRecDepth 100000 in
set_option maxHeartbeats 4000000 in
theorem d_do_1 (H0 : HW A B) (hB : B ≤ 100000) (hW : A.watch.length ≤ 2) (h : Sat w0 w (heapR mN p A * (refR13 q A * F))) (xn vk vn : Int) (hx : xn ≤ 9223372036854775807) :
    Calls Try.prog 43 #[.pointer (some ⟨p, 0, none⟩), .pointer (some ⟨q, 0, none⟩), .agg #[.int .i64 1, .int .i64 xn, .int .i64 vk, .int .i64 vn]] w fun e w' => e = .returned (.bool true) ∧ Sat w0 w' (heapR mN p (A.keep ⟨vk, vn⟩) * (refR13 q (A.keep ⟨vk, vn⟩) * F)) := by
  obtain ⟨e0, he0⟩ : ∃ e, cntE A ⟨vk, vn⟩ = e := ⟨_, rfl⟩
  have hB6 : B ≤ 1000000 := by omega
  have hW6 : A.watch.length ≤ 1000000 := by omega
  have h1 : Sat w0 (w.alloc (.cells #[.int .i64 1, .int .i64 xn, .int .i64 vk, .int .i64 vn] 94)) (heapR mN p A * (refR13 q A * (pt w.heap.size (.cells #[.int .i64 1, .int .i64 xn, .int .i64 vk, .int .i64 vn] 94 (0, 0)) * F))) := (h.alloc (.cells #[.int .i64 1, .int .i64 xn, .int .i64 vk, .int .i64 vn] 94)).cast (by ac_rfl)
  generalize hxb : w.heap.size = xb at *
  have H := Lib.hid H0
  have ⟨c0, c1, c2, c3⟩ := act14c h1.p3
  clear h H0
  have HS0 := Lib.hid h1
  clear h1
  go_enter Try.func43, Try.ntmps43
  go_wp2_with fail
  clear c0 c1 c2 c3
  refine wp_gen fun a0 ha => ?_
  have hb0 : base a0 0 = .pointer (some ⟨p, 0, none⟩) := by rw [ha]; rfl
  have hb1 : base a0 1 = .pointer (some ⟨q, 0, none⟩) := by rw [ha]; rfl
  have hb5 : base a0 5 = .pointer (some ⟨xb, 0, none⟩) := by rw [ha]; rfl
  have hsz0 : a0.tmps.size = 119 := by rw [ha]; rfl
  have HA0 := Lib.hid (And.intro hsz0 ha)
  clear ha hsz0
  refine GW.start (X := Nat) (w0 := w0) (B := [heapR mN p A, refR13 q A, pt xb (.cells #[.int .i64 1, .int .i64 xn, .int .i64 vk, .int .i64 vn] 94 (0, 0)), F]) (a0 := a0) ?_
  refine GW.det (d := (some 28)) [] [] rfl (fun e => by rfl) ?_; apply Exists.intro; refine ⟨fun e w' F hs => ?_, ?_, ?_⟩
  · first | (go_simp; done) | (go_simp; rfl)
  · exact (fun _ _ _ => rfl)
  refine GW.det (d := (some 29)) [] [] rfl (fun e => by rfl) ?_; apply Exists.intro; refine ⟨fun e w' F hs => ?_, ?_, ?_⟩
  · first | (go_simp; done) | (go_simp; rfl)
  · exact (fun _ _ _ => rfl)
  refine GW.det (d := (some 30)) [2] [] rfl (fun e => by rfl) ?_; apply Exists.intro; refine ⟨fun e w' F hs => ?_, ?_, ?_⟩
  · have ⟨y0, y1, y2, y3⟩ := act14c (show Sat w0 w' (pt xb (.cells #[.int .i64 1, .int .i64 xn, .int .i64 vk, .int .i64 vn] 94 (0, 0)) * F) from hs); first | (go_simp; done) | (go_simp; rfl)
  · exact (fun _ _ _ => rfl)
  refine GW.take (d := (some 31)) 3 (fun e => .int .i64 e0) (fun e => heapR mN p (A.keep ⟨vk, vn⟩)) [] [0] [] rfl rfl (fun e => by rfl) (fun e e' hl => by exact ⟨rfl, rfl⟩) (fun e w' F K hs hK => ?_) ?_
  · go_simp; (refine (x_Keep H.out hB6 (knowsN _) (one_out hs : Sat w0 w' (heapR mN p A * F)) vk vn he0).mono ?_; rintro e2 w2 ⟨rfl, h2⟩; exact ⟨_, rfl, hK default _ (one_in h2)⟩)
  refine GW.det (d := (some 32)) [] [] rfl (fun e => by rfl) ?_; apply Exists.intro; refine ⟨fun e w' F hs => ?_, ?_, ?_⟩
  · first | (go_simp; done) | (go_simp; rfl)
  · exact (fun _ _ _ => rfl)
  refine GW.det (d := (some 33)) [] [] rfl (fun e => by rfl) ?_; apply Exists.intro; refine ⟨fun e w' F hs => ?_, ?_, ?_⟩
  · first | (go_simp; done) | (go_simp; rfl)
  · exact (fun _ _ _ => rfl)
  refine GW.det (d := (some 34)) [2] [] rfl (fun e => by rfl) ?_; apply Exists.intro; refine ⟨fun e w' F hs => ?_, ?_, ?_⟩
  · have ⟨y0, y1, y2, y3⟩ := act14c (show Sat w0 w' (pt xb (.cells #[.int .i64 1, .int .i64 xn, .int .i64 vk, .int .i64 vn] 94 (0, 0)) * F) from hs); first | (go_simp; done) | (go_simp; rfl)
  · exact (fun _ _ _ => rfl)
  refine GW.take (d := (some 35)) 7 (fun e => .int .i64 e0) (fun e => refR13 q (A.keep ⟨vk, vn⟩)) [] [1] [] rfl rfl (fun e => by rfl) (fun e e' hl => by exact ⟨rfl, rfl⟩) (fun e w' F K hs hK => ?_) ?_
  · go_simp; (refine (r_Keep H.out hB6 hW6 (one_out hs : Sat w0 w' (refR13 q A * F)) vk vn he0).mono ?_; rintro e2 w2 ⟨rfl, h2⟩; exact ⟨_, rfl, hK default _ (one_in h2)⟩)
  refine GW.det (d := (some 36)) [] [] rfl (fun e => by rfl) ?_; apply Exists.intro; refine ⟨fun e w' F hs => ?_, ?_, ?_⟩
  · first | (go_simp; done) | (go_simp; rfl)
  · exact (fun _ _ _ => rfl)
  refine GW.det (d := (some 6)) [] [] rfl (fun e => by rfl) ?_; apply Exists.intro; refine ⟨fun e w' F hs => ?_, ?_, ?_⟩
  · first | (go_simp; done) | (go_simp; rfl)
  · exact (fun _ _ _ => rfl)
  refine GW.done (sz := 119) [4 + 3, 4 + 7, 3] (by kernel_rfl) (by kernel_rfl) HA0.out.1 (by rfl) HS0.out (by rfl) fun e w3 gg => ?_
  have ha := HA0.out.2
  subst ha
  clear HA0 HS0 hb0 hb1 hb5
  simp only [putL, Act.put, List.setIfInBounds_toArray, List.set_cons_zero, List.set_cons_succ]
  have h3 : Sat w0 w3 (heapR mN p (A.keep ⟨vk, vn⟩) * (refR13 q (A.keep ⟨vk, vn⟩) * F)) := gg
  clear gg
  go_wp2_with fail
  go_ret
  exact ⟨rfl, h3⟩
set_option maxRecDepth 100000 in
set_option maxHeartbeats 4000000 in
theorem d_do_2 (H0 : HW A B) (hB : B ≤ 100000) (hW : A.watch.length ≤ 2) (h : Sat w0 w (heapR mN p A * (refR13 q A * F))) (xn vk vn : Int) (hx : xn ≤ 9223372036854775807) :
    Calls Try.prog 43 #[.pointer (some ⟨p, 0, none⟩), .pointer (some ⟨q, 0, none⟩), .agg #[.int .i64 2, .int .i64 xn, .int .i64 vk, .int .i64 vn]] w fun e w' => e = .returned (.bool true) ∧ Sat w0 w' (heapR mN p (A.drop ⟨vk, vn⟩) * (refR13 q (A.drop ⟨vk, vn⟩) * F)) := by
  obtain ⟨e0, he0⟩ : ∃ e, cntE A ⟨vk, vn⟩ = e := ⟨_, rfl⟩
  have hB6 : B ≤ 1000000 := by omega
  have hW6 : A.watch.length ≤ 1000000 := by omega
  have h1 : Sat w0 (w.alloc (.cells #[.int .i64 2, .int .i64 xn, .int .i64 vk, .int .i64 vn] 94)) (heapR mN p A * (refR13 q A * (pt w.heap.size (.cells #[.int .i64 2, .int .i64 xn, .int .i64 vk, .int .i64 vn] 94 (0, 0)) * F))) := (h.alloc (.cells #[.int .i64 2, .int .i64 xn, .int .i64 vk, .int .i64 vn] 94)).cast (by ac_rfl)
  generalize hxb : w.heap.size = xb at *
  have H := Lib.hid H0
  have ⟨c0, c1, c2, c3⟩ := act14c h1.p3
  clear h H0
  have HS0 := Lib.hid h1
  clear h1
  go_enter Try.func43, Try.ntmps43
  go_wp2_with fail
  clear c0 c1 c2 c3
  refine wp_gen fun a0 ha => ?_
  have hb0 : base a0 0 = .pointer (some ⟨p, 0, none⟩) := by rw [ha]; rfl
  have hb1 : base a0 1 = .pointer (some ⟨q, 0, none⟩) := by rw [ha]; rfl
  have hb5 : base a0 5 = .pointer (some ⟨xb, 0, none⟩) := by rw [ha]; rfl
  have hsz0 : a0.tmps.size = 119 := by rw [ha]; rfl
  have HA0 := Lib.hid (And.intro hsz0 ha)
  clear ha hsz0
  refine GW.start (X := Nat) (w0 := w0) (B := [heapR mN p A, refR13 q A, pt xb (.cells #[.int .i64 2, .int .i64 xn, .int .i64 vk, .int .i64 vn] 94 (0, 0)), F]) (a0 := a0) ?_
  refine GW.det (d := (some 39)) [] [] rfl (fun e => by rfl) ?_; apply Exists.intro; refine ⟨fun e w' F hs => ?_, ?_, ?_⟩
  · first | (go_simp; done) | (go_simp; rfl)
  · exact (fun _ _ _ => rfl)
  refine GW.det (d := (some 40)) [] [] rfl (fun e => by rfl) ?_; apply Exists.intro; refine ⟨fun e w' F hs => ?_, ?_, ?_⟩
  · first | (go_simp; done) | (go_simp; rfl)
  · exact (fun _ _ _ => rfl)
  refine GW.det (d := (some 41)) [2] [] rfl (fun e => by rfl) ?_; apply Exists.intro; refine ⟨fun e w' F hs => ?_, ?_, ?_⟩
  · have ⟨y0, y1, y2, y3⟩ := act14c (show Sat w0 w' (pt xb (.cells #[.int .i64 2, .int .i64 xn, .int .i64 vk, .int .i64 vn] 94 (0, 0)) * F) from hs); first | (go_simp; done) | (go_simp; rfl)
  · exact (fun _ _ _ => rfl)
  refine GW.take (d := (some 42)) 3 (fun e => .int .i64 e0) (fun e => heapR mN p (A.drop ⟨vk, vn⟩)) [] [0] [] rfl rfl (fun e => by rfl) (fun e e' hl => by exact ⟨rfl, rfl⟩) (fun e w' F K hs hK => ?_) ?_
  · go_simp; (refine (x_Drop H.out hB6 (knowsN _) (one_out hs : Sat w0 w' (heapR mN p A * F)) vk vn he0).mono ?_; rintro e2 w2 ⟨rfl, h2⟩; exact ⟨_, rfl, hK default _ (one_in h2)⟩)
  refine GW.det (d := (some 43)) [] [] rfl (fun e => by rfl) ?_; apply Exists.intro; refine ⟨fun e w' F hs => ?_, ?_, ?_⟩
  · first | (go_simp; done) | (go_simp; rfl)
  · exact (fun _ _ _ => rfl)
  refine GW.det (d := (some 44)) [] [] rfl (fun e => by rfl) ?_; apply Exists.intro; refine ⟨fun e w' F hs => ?_, ?_, ?_⟩
  · first | (go_simp; done) | (go_simp; rfl)
  · exact (fun _ _ _ => rfl)
  refine GW.det (d := (some 45)) [2] [] rfl (fun e => by rfl) ?_; apply Exists.intro; refine ⟨fun e w' F hs => ?_, ?_, ?_⟩
  · have ⟨y0, y1, y2, y3⟩ := act14c (show Sat w0 w' (pt xb (.cells #[.int .i64 2, .int .i64 xn, .int .i64 vk, .int .i64 vn] 94 (0, 0)) * F) from hs); first | (go_simp; done) | (go_simp; rfl)
  · exact (fun _ _ _ => rfl)
  refine GW.take (d := (some 46)) 7 (fun e => .int .i64 e0) (fun e => refR13 q (A.drop ⟨vk, vn⟩)) [] [1] [] rfl rfl (fun e => by rfl) (fun e e' hl => by exact ⟨rfl, rfl⟩) (fun e w' F K hs hK => ?_) ?_
  · go_simp; (refine (r_Drop H.out hB6 hW6 (one_out hs : Sat w0 w' (refR13 q A * F)) vk vn he0).mono ?_; rintro e2 w2 ⟨rfl, h2⟩; exact ⟨_, rfl, hK default _ (one_in h2)⟩)
  refine GW.det (d := (some 47)) [] [] rfl (fun e => by rfl) ?_; apply Exists.intro; refine ⟨fun e w' F hs => ?_, ?_, ?_⟩
  · first | (go_simp; done) | (go_simp; rfl)
  · exact (fun _ _ _ => rfl)
  refine GW.det (d := (some 6)) [] [] rfl (fun e => by rfl) ?_; apply Exists.intro; refine ⟨fun e w' F hs => ?_, ?_, ?_⟩
  · first | (go_simp; done) | (go_simp; rfl)
  · exact (fun _ _ _ => rfl)
  refine GW.done (sz := 119) [4 + 3, 4 + 7, 3] (by kernel_rfl) (by kernel_rfl) HA0.out.1 (by rfl) HS0.out (by rfl) fun e w3 gg => ?_
  have ha := HA0.out.2
  subst ha
  clear HA0 HS0 hb0 hb1 hb5
  simp only [putL, Act.put, List.setIfInBounds_toArray, List.set_cons_zero, List.set_cons_succ]
  have h3 : Sat w0 w3 (heapR mN p (A.drop ⟨vk, vn⟩) * (refR13 q (A.drop ⟨vk, vn⟩) * F)) := gg
  clear gg
  go_wp2_with fail
  go_ret
  exact ⟨rfl, h3⟩
set_option maxRecDepth 100000 in
set_option maxHeartbeats 4000000 in
theorem d_do_3 (H0 : HW A B) (hB : B ≤ 100000) (hW : A.watch.length ≤ 2) (h : Sat w0 w (heapR mN p A * (refR13 q A * F))) (xn vk vn : Int) (hx : xn ≤ 9223372036854775807) :
    Calls Try.prog 43 #[.pointer (some ⟨p, 0, none⟩), .pointer (some ⟨q, 0, none⟩), .agg #[.int .i64 3, .int .i64 xn, .int .i64 vk, .int .i64 vn]] w fun e w' => e = .returned (.bool true) ∧ Sat w0 w' (heapR mN p (A.pushF xn ⟨vk, vn⟩) * (refR13 q (A.pushF xn ⟨vk, vn⟩) * F)) := by
  obtain ⟨e0, he0⟩ : ∃ e, A.pushE xn ⟨vk, vn⟩ = e := ⟨_, rfl⟩
  have hB6 : B ≤ 1000000 := by omega
  have hW6 : A.watch.length ≤ 1000000 := by omega
  have h1 : Sat w0 (w.alloc (.cells #[.int .i64 3, .int .i64 xn, .int .i64 vk, .int .i64 vn] 94)) (heapR mN p A * (refR13 q A * (pt w.heap.size (.cells #[.int .i64 3, .int .i64 xn, .int .i64 vk, .int .i64 vn] 94 (0, 0)) * F))) := (h.alloc (.cells #[.int .i64 3, .int .i64 xn, .int .i64 vk, .int .i64 vn] 94)).cast (by ac_rfl)
  generalize hxb : w.heap.size = xb at *
  have H := Lib.hid H0
  have ⟨c0, c1, c2, c3⟩ := act14c h1.p3
  clear h H0
  have HS0 := Lib.hid h1
  clear h1
  go_enter Try.func43, Try.ntmps43
  go_wp2_with fail
  clear c0 c1 c2 c3
  refine wp_gen fun a0 ha => ?_
  have hb0 : base a0 0 = .pointer (some ⟨p, 0, none⟩) := by rw [ha]; rfl
  have hb1 : base a0 1 = .pointer (some ⟨q, 0, none⟩) := by rw [ha]; rfl
  have hb5 : base a0 5 = .pointer (some ⟨xb, 0, none⟩) := by rw [ha]; rfl
  have hsz0 : a0.tmps.size = 119 := by rw [ha]; rfl
  have HA0 := Lib.hid (And.intro hsz0 ha)
  clear ha hsz0
  refine GW.start (X := Nat) (w0 := w0) (B := [heapR mN p A, refR13 q A, pt xb (.cells #[.int .i64 3, .int .i64 xn, .int .i64 vk, .int .i64 vn] 94 (0, 0)), F]) (a0 := a0) ?_
  refine GW.det (d := (some 50)) [] [] rfl (fun e => by rfl) ?_; apply Exists.intro; refine ⟨fun e w' F hs => ?_, ?_, ?_⟩
  · first | (go_simp; done) | (go_simp; rfl)
  · exact (fun _ _ _ => rfl)
  refine GW.det (d := (some 51)) [] [] rfl (fun e => by rfl) ?_; apply Exists.intro; refine ⟨fun e w' F hs => ?_, ?_, ?_⟩
  · first | (go_simp; done) | (go_simp; rfl)
  · exact (fun _ _ _ => rfl)
  refine GW.det (d := (some 52)) [2] [] rfl (fun e => by rfl) ?_; apply Exists.intro; refine ⟨fun e w' F hs => ?_, ?_, ?_⟩
  · have ⟨y0, y1, y2, y3⟩ := act14c (show Sat w0 w' (pt xb (.cells #[.int .i64 3, .int .i64 xn, .int .i64 vk, .int .i64 vn] 94 (0, 0)) * F) from hs); first | (go_simp; done) | (go_simp; rfl)
  · exact (fun _ _ _ => rfl)
  refine GW.det (d := (some 53)) [] [] rfl (fun e => by rfl) ?_; apply Exists.intro; refine ⟨fun e w' F hs => ?_, ?_, ?_⟩
  · first | (go_simp; done) | (go_simp; rfl)
  · exact (fun _ _ _ => rfl)
  refine GW.det (d := (some 54)) [2] [] rfl (fun e => by rfl) ?_; apply Exists.intro; refine ⟨fun e w' F hs => ?_, ?_, ?_⟩
  · have ⟨y0, y1, y2, y3⟩ := act14c (show Sat w0 w' (pt xb (.cells #[.int .i64 3, .int .i64 xn, .int .i64 vk, .int .i64 vn] 94 (0, 0)) * F) from hs); first | (go_simp; done) | (go_simp; rfl)
  · exact (fun _ _ _ => rfl)
  refine GW.take (d := (some 55)) 5 (fun e => .int .i64 e0) (fun e => heapR mN p (A.pushF xn ⟨vk, vn⟩)) [] [0] [] rfl rfl (fun e => by rfl) (fun e e' hl => by exact ⟨rfl, rfl⟩) (fun e w' F K hs hK => ?_) ?_
  · go_simp; (refine (x_Push H.out hB6 (knowsN _) (one_out hs : Sat w0 w' (heapR mN p A * F)) xn vk vn he0).mono ?_; rintro e2 w2 ⟨rfl, h2⟩; exact ⟨_, rfl, hK default _ (one_in h2)⟩)
  refine GW.det (d := (some 56)) [] [] rfl (fun e => by rfl) ?_; apply Exists.intro; refine ⟨fun e w' F hs => ?_, ?_, ?_⟩
  · first | (go_simp; done) | (go_simp; rfl)
  · exact (fun _ _ _ => rfl)
  refine GW.det (d := (some 57)) [] [] rfl (fun e => by rfl) ?_; apply Exists.intro; refine ⟨fun e w' F hs => ?_, ?_, ?_⟩
  · first | (go_simp; done) | (go_simp; rfl)
  · exact (fun _ _ _ => rfl)
  refine GW.det (d := (some 58)) [2] [] rfl (fun e => by rfl) ?_; apply Exists.intro; refine ⟨fun e w' F hs => ?_, ?_, ?_⟩
  · have ⟨y0, y1, y2, y3⟩ := act14c (show Sat w0 w' (pt xb (.cells #[.int .i64 3, .int .i64 xn, .int .i64 vk, .int .i64 vn] 94 (0, 0)) * F) from hs); first | (go_simp; done) | (go_simp; rfl)
  · exact (fun _ _ _ => rfl)
  refine GW.det (d := (some 59)) [] [] rfl (fun e => by rfl) ?_; apply Exists.intro; refine ⟨fun e w' F hs => ?_, ?_, ?_⟩
  · first | (go_simp; done) | (go_simp; rfl)
  · exact (fun _ _ _ => rfl)
  refine GW.det (d := (some 60)) [2] [] rfl (fun e => by rfl) ?_; apply Exists.intro; refine ⟨fun e w' F hs => ?_, ?_, ?_⟩
  · have ⟨y0, y1, y2, y3⟩ := act14c (show Sat w0 w' (pt xb (.cells #[.int .i64 3, .int .i64 xn, .int .i64 vk, .int .i64 vn] 94 (0, 0)) * F) from hs); first | (go_simp; done) | (go_simp; rfl)
  · exact (fun _ _ _ => rfl)
  refine GW.take (d := (some 61)) 11 (fun e => .int .i64 e0) (fun e => refR13 q (A.pushF xn ⟨vk, vn⟩)) [] [1] [] rfl rfl (fun e => by rfl) (fun e e' hl => by exact ⟨rfl, rfl⟩) (fun e w' F K hs hK => ?_) ?_
  · go_simp; (refine (r_Push H.out hB6 hW6 (one_out hs : Sat w0 w' (refR13 q A * F)) xn vk vn he0).mono ?_; rintro e2 w2 ⟨rfl, h2⟩; exact ⟨_, rfl, hK default _ (one_in h2)⟩)
  refine GW.det (d := (some 62)) [] [] rfl (fun e => by rfl) ?_; apply Exists.intro; refine ⟨fun e w' F hs => ?_, ?_, ?_⟩
  · first | (go_simp; done) | (go_simp; rfl)
  · exact (fun _ _ _ => rfl)
  refine GW.det (d := (some 6)) [] [] rfl (fun e => by rfl) ?_; apply Exists.intro; refine ⟨fun e w' F hs => ?_, ?_, ?_⟩
  · first | (go_simp; done) | (go_simp; rfl)
  · exact (fun _ _ _ => rfl)
  refine GW.done (sz := 119) [4 + 5, 4 + 11, 3] (by kernel_rfl) (by kernel_rfl) HA0.out.1 (by rfl) HS0.out (by rfl) fun e w3 gg => ?_
  have ha := HA0.out.2
  subst ha
  clear HA0 HS0 hb0 hb1 hb5
  simp only [putL, Act.put, List.setIfInBounds_toArray, List.set_cons_zero, List.set_cons_succ]
  have h3 : Sat w0 w3 (heapR mN p (A.pushF xn ⟨vk, vn⟩) * (refR13 q (A.pushF xn ⟨vk, vn⟩) * F)) := gg
  clear gg
  go_wp2_with fail
  go_ret
  exact ⟨rfl, h3⟩
set_option maxRecDepth 100000 in
set_option maxHeartbeats 4000000 in
theorem d_do_4 (H0 : HW A B) (hB : B ≤ 100000) (hW : A.watch.length ≤ 2) (h : Sat w0 w (heapR mN p A * (refR13 q A * F))) (xn vk vn : Int) (hx : xn ≤ 9223372036854775807) :
    Calls Try.prog 43 #[.pointer (some ⟨p, 0, none⟩), .pointer (some ⟨q, 0, none⟩), .agg #[.int .i64 4, .int .i64 xn, .int .i64 vk, .int .i64 vn]] w fun e w' => e = .returned (.bool true) ∧ Sat w0 w' (heapR mN p (A.mark xn) * (refR13 q (A.mark xn) * F)) := by
  obtain ⟨e0, he0⟩ : ∃ e, A.markN xn = e := ⟨_, rfl⟩
  have hB6 : B ≤ 1000000 := by omega
  have hW6 : A.watch.length ≤ 1000000 := by omega
  have h1 : Sat w0 (w.alloc (.cells #[.int .i64 4, .int .i64 xn, .int .i64 vk, .int .i64 vn] 94)) (heapR mN p A * (refR13 q A * (pt w.heap.size (.cells #[.int .i64 4, .int .i64 xn, .int .i64 vk, .int .i64 vn] 94 (0, 0)) * F))) := (h.alloc (.cells #[.int .i64 4, .int .i64 xn, .int .i64 vk, .int .i64 vn] 94)).cast (by ac_rfl)
  generalize hxb : w.heap.size = xb at *
  have H := Lib.hid H0
  have ⟨c0, c1, c2, c3⟩ := act14c h1.p3
  clear h H0
  have HS0 := Lib.hid h1
  clear h1
  go_enter Try.func43, Try.ntmps43
  go_wp2_with fail
  clear c0 c1 c2 c3
  refine wp_gen fun a0 ha => ?_
  have hb0 : base a0 0 = .pointer (some ⟨p, 0, none⟩) := by rw [ha]; rfl
  have hb1 : base a0 1 = .pointer (some ⟨q, 0, none⟩) := by rw [ha]; rfl
  have hb5 : base a0 5 = .pointer (some ⟨xb, 0, none⟩) := by rw [ha]; rfl
  have hsz0 : a0.tmps.size = 119 := by rw [ha]; rfl
  have HA0 := Lib.hid (And.intro hsz0 ha)
  clear ha hsz0
  refine GW.start (X := Nat) (w0 := w0) (B := [heapR mN p A, refR13 q A, pt xb (.cells #[.int .i64 4, .int .i64 xn, .int .i64 vk, .int .i64 vn] 94 (0, 0)), F]) (a0 := a0) ?_
  refine GW.det (d := (some 65)) [] [] rfl (fun e => by rfl) ?_; apply Exists.intro; refine ⟨fun e w' F hs => ?_, ?_, ?_⟩
  · first | (go_simp; done) | (go_simp; rfl)
  · exact (fun _ _ _ => rfl)
  refine GW.det (d := (some 66)) [] [] rfl (fun e => by rfl) ?_; apply Exists.intro; refine ⟨fun e w' F hs => ?_, ?_, ?_⟩
  · first | (go_simp; done) | (go_simp; rfl)
  · exact (fun _ _ _ => rfl)
  refine GW.det (d := (some 67)) [2] [] rfl (fun e => by rfl) ?_; apply Exists.intro; refine ⟨fun e w' F hs => ?_, ?_, ?_⟩
  · have ⟨y0, y1, y2, y3⟩ := act14c (show Sat w0 w' (pt xb (.cells #[.int .i64 4, .int .i64 xn, .int .i64 vk, .int .i64 vn] 94 (0, 0)) * F) from hs); first | (go_simp; done) | (go_simp; rfl)
  · exact (fun _ _ _ => rfl)
  refine GW.take (d := (some 68)) 3 (fun e => .int .i64 e0) (fun e => heapR mN p (A.mark xn)) [] [0] [] rfl rfl (fun e => by rfl) (fun e e' hl => by exact ⟨rfl, rfl⟩) (fun e w' F K hs hK => ?_) ?_
  · go_simp; (refine (x_Mark H.out hB6 (knowsN _) (one_out hs : Sat w0 w' (heapR mN p A * F)) xn he0).mono ?_; rintro e2 w2 ⟨rfl, h2⟩; exact ⟨_, rfl, hK default _ (one_in h2)⟩)
  refine GW.det (d := (some 69)) [] [] rfl (fun e => by rfl) ?_; apply Exists.intro; refine ⟨fun e w' F hs => ?_, ?_, ?_⟩
  · first | (go_simp; done) | (go_simp; rfl)
  · exact (fun _ _ _ => rfl)
  refine GW.det (d := (some 70)) [] [] rfl (fun e => by rfl) ?_; apply Exists.intro; refine ⟨fun e w' F hs => ?_, ?_, ?_⟩
  · first | (go_simp; done) | (go_simp; rfl)
  · exact (fun _ _ _ => rfl)
  refine GW.det (d := (some 71)) [2] [] rfl (fun e => by rfl) ?_; apply Exists.intro; refine ⟨fun e w' F hs => ?_, ?_, ?_⟩
  · have ⟨y0, y1, y2, y3⟩ := act14c (show Sat w0 w' (pt xb (.cells #[.int .i64 4, .int .i64 xn, .int .i64 vk, .int .i64 vn] 94 (0, 0)) * F) from hs); first | (go_simp; done) | (go_simp; rfl)
  · exact (fun _ _ _ => rfl)
  refine GW.take (d := (some 72)) 7 (fun e => .int .i64 e0) (fun e => refR13 q (A.mark xn)) [] [1] [] rfl rfl (fun e => by rfl) (fun e e' hl => by exact ⟨rfl, rfl⟩) (fun e w' F K hs hK => ?_) ?_
  · go_simp; (refine (r_Mark H.out hB6 hW6 (one_out hs : Sat w0 w' (refR13 q A * F)) xn he0).mono ?_; rintro e2 w2 ⟨rfl, h2⟩; exact ⟨_, rfl, hK default _ (one_in h2)⟩)
  refine GW.det (d := (some 73)) [] [] rfl (fun e => by rfl) ?_; apply Exists.intro; refine ⟨fun e w' F hs => ?_, ?_, ?_⟩
  · first | (go_simp; done) | (go_simp; rfl)
  · exact (fun _ _ _ => rfl)
  refine GW.det (d := (some 6)) [] [] rfl (fun e => by rfl) ?_; apply Exists.intro; refine ⟨fun e w' F hs => ?_, ?_, ?_⟩
  · first | (go_simp; done) | (go_simp; rfl)
  · exact (fun _ _ _ => rfl)
  refine GW.done (sz := 119) [4 + 3, 4 + 7, 3] (by kernel_rfl) (by kernel_rfl) HA0.out.1 (by rfl) HS0.out (by rfl) fun e w3 gg => ?_
  have ha := HA0.out.2
  subst ha
  clear HA0 HS0 hb0 hb1 hb5
  simp only [putL, Act.put, List.setIfInBounds_toArray, List.set_cons_zero, List.set_cons_succ]
  have h3 : Sat w0 w3 (heapR mN p (A.mark xn) * (refR13 q (A.mark xn) * F)) := gg
  clear gg
  go_wp2_with fail
  go_ret
  exact ⟨rfl, h3⟩
set_option maxRecDepth 100000 in
set_option maxHeartbeats 4000000 in
theorem d_do_5 (H0 : HW A B) (hB : B ≤ 100000) (hW : A.watch.length ≤ 2) (h : Sat w0 w (heapR mN p A * (refR13 q A * F))) (xn vk vn : Int) (hx : xn ≤ 9223372036854775807) :
    Calls Try.prog 43 #[.pointer (some ⟨p, 0, none⟩), .pointer (some ⟨q, 0, none⟩), .agg #[.int .i64 5, .int .i64 xn, .int .i64 vk, .int .i64 vn]] w fun e w' => e = .returned (.bool true) ∧ Sat w0 w' (heapR mN p (A.stepF) * (refR13 q (A.stepF) * F)) := by
  obtain ⟨e0, he0⟩ : ∃ e, (!A.queue.isEmpty) = e := ⟨_, rfl⟩
  have hB6 : B ≤ 1000000 := by omega
  have hW6 : A.watch.length ≤ 1000000 := by omega
  have h1 : Sat w0 (w.alloc (.cells #[.int .i64 5, .int .i64 xn, .int .i64 vk, .int .i64 vn] 94)) (heapR mN p A * (refR13 q A * (pt w.heap.size (.cells #[.int .i64 5, .int .i64 xn, .int .i64 vk, .int .i64 vn] 94 (0, 0)) * F))) := (h.alloc (.cells #[.int .i64 5, .int .i64 xn, .int .i64 vk, .int .i64 vn] 94)).cast (by ac_rfl)
  generalize hxb : w.heap.size = xb at *
  have H := Lib.hid H0
  have ⟨c0, c1, c2, c3⟩ := act14c h1.p3
  clear h H0
  have HC1 := Lib.hid (c_Step H.out hB6 h1 he0)
  clear h1
  go_enter Try.func43, Try.ntmps43
  go_wp2_with fail
  refine HC1.out.mono ?_
  rintro e w1 ⟨rfl, h2⟩
  have HC2 := Lib.hid (r_Step H.out hB6 hW6 h2.p2 he0)
  clear h2
  go_wp2_with fail
  refine HC2.out.mono ?_
  rintro e w2 ⟨rfl, h3⟩
  go_wp2_with fail
  go_ret
  exact ⟨by simp, (h3.p2).cast (by ac_rfl) |>.drop⟩
set_option maxRecDepth 100000 in
set_option maxHeartbeats 4000000 in
theorem d_do_6 (H0 : HW A B) (hB : B ≤ 100000) (hW : A.watch.length ≤ 2) (h : Sat w0 w (heapR mN p A * (refR13 q A * F))) (xn vk vn : Int) (hx : xn ≤ 9223372036854775807) :
    Calls Try.prog 43 #[.pointer (some ⟨p, 0, none⟩), .pointer (some ⟨q, 0, none⟩), .agg #[.int .i64 6, .int .i64 xn, .int .i64 vk, .int .i64 vn]] w fun e w' => e = .returned (.bool true) ∧ Sat w0 w' (heapR mN p ((drainN xn.toNat A).2) * (refR13 q ((drainN xn.toNat A).2) * F)) := by
  obtain ⟨e0, he0⟩ : ∃ e, ((drainN xn.toNat A).1 : Int) = e := ⟨_, rfl⟩
  have hB6 : B ≤ 1000000 := by omega
  have hW6 : A.watch.length ≤ 1000000 := by omega
  have h1 : Sat w0 (w.alloc (.cells #[.int .i64 6, .int .i64 xn, .int .i64 vk, .int .i64 vn] 94)) (heapR mN p A * (refR13 q A * (pt w.heap.size (.cells #[.int .i64 6, .int .i64 xn, .int .i64 vk, .int .i64 vn] 94 (0, 0)) * F))) := (h.alloc (.cells #[.int .i64 6, .int .i64 xn, .int .i64 vk, .int .i64 vn] 94)).cast (by ac_rfl)
  generalize hxb : w.heap.size = xb at *
  have H := Lib.hid H0
  have ⟨c0, c1, c2, c3⟩ := act14c h1.p3
  clear h H0
  have HS0 := Lib.hid h1
  clear h1
  go_enter Try.func43, Try.ntmps43
  go_wp2_with fail
  clear c0 c1 c2 c3
  refine wp_gen fun a0 ha => ?_
  have hb0 : base a0 0 = .pointer (some ⟨p, 0, none⟩) := by rw [ha]; rfl
  have hb1 : base a0 1 = .pointer (some ⟨q, 0, none⟩) := by rw [ha]; rfl
  have hb5 : base a0 5 = .pointer (some ⟨xb, 0, none⟩) := by rw [ha]; rfl
  have hsz0 : a0.tmps.size = 119 := by rw [ha]; rfl
  have HA0 := Lib.hid (And.intro hsz0 ha)
  clear ha hsz0
  refine GW.start (X := Nat) (w0 := w0) (B := [heapR mN p A, refR13 q A, pt xb (.cells #[.int .i64 6, .int .i64 xn, .int .i64 vk, .int .i64 vn] 94 (0, 0)), F]) (a0 := a0) ?_
  refine GW.det (d := (some 83)) [] [] rfl (fun e => by rfl) ?_; apply Exists.intro; refine ⟨fun e w' F hs => ?_, ?_, ?_⟩
  · first | (go_simp; done) | (go_simp; rfl)
  · exact (fun _ _ _ => rfl)
  refine GW.det (d := (some 84)) [] [] rfl (fun e => by rfl) ?_; apply Exists.intro; refine ⟨fun e w' F hs => ?_, ?_, ?_⟩
  · first | (go_simp; done) | (go_simp; rfl)
  · exact (fun _ _ _ => rfl)
  refine GW.det (d := (some 85)) [2] [] rfl (fun e => by rfl) ?_; apply Exists.intro; refine ⟨fun e w' F hs => ?_, ?_, ?_⟩
  · have ⟨y0, y1, y2, y3⟩ := act14c (show Sat w0 w' (pt xb (.cells #[.int .i64 6, .int .i64 xn, .int .i64 vk, .int .i64 vn] 94 (0, 0)) * F) from hs); first | (go_simp; done) | (go_simp; rfl)
  · exact (fun _ _ _ => rfl)
  refine GW.take (d := (some 86)) 3 (fun e => .int .i64 e0) (fun e => heapR mN p ((drainN xn.toNat A).2)) [] [0] [] rfl rfl (fun e => by rfl) (fun e e' hl => by exact ⟨rfl, rfl⟩) (fun e w' F K hs hK => ?_) ?_
  · go_simp; (refine (c_Drain H.out hB6 xn hx (one_out hs : Sat w0 w' (heapR mN p A * F)) he0 rfl).mono ?_; rintro e2 w2 ⟨rfl, h2⟩; exact ⟨_, rfl, hK default _ (one_in h2)⟩)
  refine GW.det (d := (some 87)) [] [] rfl (fun e => by rfl) ?_; apply Exists.intro; refine ⟨fun e w' F hs => ?_, ?_, ?_⟩
  · first | (go_simp; done) | (go_simp; rfl)
  · exact (fun _ _ _ => rfl)
  refine GW.det (d := (some 88)) [] [] rfl (fun e => by rfl) ?_; apply Exists.intro; refine ⟨fun e w' F hs => ?_, ?_, ?_⟩
  · first | (go_simp; done) | (go_simp; rfl)
  · exact (fun _ _ _ => rfl)
  refine GW.det (d := (some 89)) [2] [] rfl (fun e => by rfl) ?_; apply Exists.intro; refine ⟨fun e w' F hs => ?_, ?_, ?_⟩
  · have ⟨y0, y1, y2, y3⟩ := act14c (show Sat w0 w' (pt xb (.cells #[.int .i64 6, .int .i64 xn, .int .i64 vk, .int .i64 vn] 94 (0, 0)) * F) from hs); first | (go_simp; done) | (go_simp; rfl)
  · exact (fun _ _ _ => rfl)
  refine GW.take (d := (some 90)) 7 (fun e => .int .i64 e0) (fun e => refR13 q ((drainN xn.toNat A).2)) [] [1] [] rfl rfl (fun e => by rfl) (fun e e' hl => by exact ⟨rfl, rfl⟩) (fun e w' F K hs hK => ?_) ?_
  · go_simp; (refine (r_Drain H.out hB6 hW xn hx (one_out hs : Sat w0 w' (refR13 q A * F)) he0).mono ?_; rintro e2 w2 ⟨rfl, h2⟩; exact ⟨_, rfl, hK default _ (one_in h2)⟩)
  refine GW.det (d := (some 91)) [] [] rfl (fun e => by rfl) ?_; apply Exists.intro; refine ⟨fun e w' F hs => ?_, ?_, ?_⟩
  · first | (go_simp; done) | (go_simp; rfl)
  · exact (fun _ _ _ => rfl)
  refine GW.det (d := (some 6)) [] [] rfl (fun e => by rfl) ?_; apply Exists.intro; refine ⟨fun e w' F hs => ?_, ?_, ?_⟩
  · first | (go_simp; done) | (go_simp; rfl)
  · exact (fun _ _ _ => rfl)
  refine GW.done (sz := 119) [4 + 3, 4 + 7, 3] (by kernel_rfl) (by kernel_rfl) HA0.out.1 (by rfl) HS0.out (by rfl) fun e w3 gg => ?_
  have ha := HA0.out.2
  subst ha
  clear HA0 HS0 hb0 hb1 hb5
  simp only [putL, Act.put, List.setIfInBounds_toArray, List.set_cons_zero, List.set_cons_succ]
  have h3 : Sat w0 w3 (heapR mN p ((drainN xn.toNat A).2) * (refR13 q ((drainN xn.toNat A).2) * F)) := gg
  clear gg
  go_wp2_with fail
  go_ret
  exact ⟨rfl, h3⟩
set_option maxRecDepth 100000 in
set_option maxHeartbeats 4000000 in
theorem d_do_7 (H0 : HW A B) (hB : B ≤ 100000) (hW : A.watch.length ≤ 2) (h : Sat w0 w (heapR mN p A * (refR13 q A * F))) (xn vk vn : Int) (hx : xn ≤ 9223372036854775807) :
    Calls Try.prog 43 #[.pointer (some ⟨p, 0, none⟩), .pointer (some ⟨q, 0, none⟩), .agg #[.int .i64 7, .int .i64 xn, .int .i64 vk, .int .i64 vn]] w fun e w' => e = .returned (.bool true) ∧ Sat w0 w' (heapR mN p (A.nextF) * (refR13 q (A.nextF) * F)) := by
  obtain ⟨vv, hvv⟩ : ∃ v, A.nextV = v := ⟨_, rfl⟩
  have hB6 : B ≤ 1000000 := by omega
  have hW6 : A.watch.length ≤ 1000000 := by omega
  have h1 : Sat w0 (w.alloc (.cells #[.int .i64 7, .int .i64 xn, .int .i64 vk, .int .i64 vn] 94)) (heapR mN p A * (refR13 q A * (pt w.heap.size (.cells #[.int .i64 7, .int .i64 xn, .int .i64 vk, .int .i64 vn] 94 (0, 0)) * F))) := (h.alloc (.cells #[.int .i64 7, .int .i64 xn, .int .i64 vk, .int .i64 vn] 94)).cast (by ac_rfl)
  generalize hxb : w.heap.size = xb at *
  have H := Lib.hid H0
  have ⟨c0, c1, c2, c3⟩ := act14c h1.p3
  clear h H0
  have HC1 := Lib.hid (x_Next H.out hB6 (k := vv.kind) (n := vv.n) h1 hvv rfl rfl)
  clear h1
  go_enter Try.func43, Try.ntmps43
  go_wp2_with fail
  refine HC1.out.mono ?_
  rintro e w1 ⟨rfl, h2⟩
  have h4 := h2.alloc (.cells #[.int .i64 vv.kind, .int .i64 vv.n] 28)
  have HC2 := Lib.hid (by have hh := r_NextFin H.out hB6 (h4.p3); rw [hvv] at hh; exact hh)
  generalize hb1 : w1.heap.size = b1 at *
  clear h2
  go_wp2_with fail
  refine HC2.out.mono ?_
  rintro e w2 ⟨rfl, h5⟩
  have h7 := h5.alloc (.cells #[.int .i64 vv.kind, .int .i64 vv.n] 28)
  generalize hb2 : w2.heap.size = b2 at *
  clear h5
  have h8 : Sat w0 _ (heapR mN p A.nextF * (refR13 q A.nextF * F)) := Sat.drop (P := pt b1 (.cells #[.int .i64 vv.kind, .int .i64 vv.n] 28 (0, 0)) * (pt b2 (.cells #[.int .i64 vv.kind, .int .i64 vv.n] 28 (0, 0)) * pt xb (.cells #[.int .i64 7, .int .i64 xn, .int .i64 vk, .int .i64 vn] 94 (0, 0)))) (h7.cast (by ac_rfl))
  clear h7
  go_wp2_with fail
  go_ret
  exact ⟨by simp, h8⟩
set_option maxRecDepth 100000 in
set_option maxHeartbeats 4000000 in
theorem d_do_8 (H0 : HW A B) (hB : B ≤ 100000) (hW : A.watch.length ≤ 2) (h : Sat w0 w (heapR mN p A * (refR13 q A * F))) (xn vk vn : Int) (hx : xn ≤ 9223372036854775807) (what : Int) (hn : what < 0 ∨ 7 < what) :
    Calls Try.prog 43 #[.pointer (some ⟨p, 0, none⟩), .pointer (some ⟨q, 0, none⟩), .agg #[.int .i64 what, .int .i64 xn, .int .i64 vk, .int .i64 vn]] w fun e w' => e = .returned (.bool true) ∧ Sat w0 w' (heapR mN p (A) * (refR13 q (A) * F)) := by
  obtain ⟨e0, he0⟩ : ∃ e, (A.boundF : Int) = e := ⟨_, rfl⟩
  have hB6 : B ≤ 1000000 := by omega
  have hW6 : A.watch.length ≤ 1000000 := by omega
  have h1 : Sat w0 (w.alloc (.cells #[.int .i64 what, .int .i64 xn, .int .i64 vk, .int .i64 vn] 94)) (heapR mN p A * (refR13 q A * (pt w.heap.size (.cells #[.int .i64 what, .int .i64 xn, .int .i64 vk, .int .i64 vn] 94 (0, 0)) * F))) := (h.alloc (.cells #[.int .i64 what, .int .i64 xn, .int .i64 vk, .int .i64 vn] 94)).cast (by ac_rfl)
  generalize hxb : w.heap.size = xb at *
  have H := Lib.hid H0
  have ⟨c0, c1, c2, c3⟩ := act14c h1.p3
  clear h H0
  have n0 : (what == 0) = false := by simp; omega
  have n1 : (what == 1) = false := by simp; omega
  have n2 : (what == 2) = false := by simp; omega
  have n3 : (what == 3) = false := by simp; omega
  have n4 : (what == 4) = false := by simp; omega
  have n5 : (what == 5) = false := by simp; omega
  have n6 : (what == 6) = false := by simp; omega
  have n7 : (what == 7) = false := by simp; omega
  have HC1 := Lib.hid (c_Bound H.out hB h1 he0)
  clear h1
  go_enter Try.func43, Try.ntmps43
  go_wp2_with fail
  refine HC1.out.mono ?_
  rintro e w1 ⟨rfl, h2⟩
  have HC2 := Lib.hid (r_Bound H.out hB h2.p2 he0)
  clear h2
  go_wp2_with fail
  refine HC2.out.mono ?_
  rintro e w2 ⟨rfl, h3⟩
  go_wp2_with fail
  go_ret
  exact ⟨by simp, (h3.p2).cast (by ac_rfl) |>.drop⟩
/-- an act -/
structure Act14 where
  what : Int
  n : Int
  v : AVal
def act14 (A : AHeap) (x : Act14) : AHeap :=
  if x.what = 0 then A.makeF x.n (ByteArray.mk #[])
  else if x.what = 1 then A.keep x.v
  else if x.what = 2 then A.drop x.v
  else if x.what = 3 then A.pushF x.n x.v
  else if x.what = 4 then A.mark x.n
  else if x.what = 5 then A.stepF
  else if x.what = 6 then (drainN x.n.toNat A).2
  else if x.what = 7 then A.nextF
  else A
theorem d_do (H0 : HW A B) (hB : B ≤ 100000) (hW : A.watch.length ≤ 2) (h : Sat w0 w (heapR mN p A * (refR13 q A * F))) (what xn vk vn : Int) (hx : xn ≤ 9223372036854775807) :
    Calls Try.prog 43 #[.pointer (some ⟨p, 0, none⟩), .pointer (some ⟨q, 0, none⟩), .agg #[.int .i64 what, .int .i64 xn, .int .i64 vk, .int .i64 vn]] w fun e w' => e = .returned (.bool true) ∧ Sat w0 w' (heapR mN p (act14 A ⟨what, xn, ⟨vk, vn⟩⟩) * (refR13 q (act14 A ⟨what, xn, ⟨vk, vn⟩⟩) * F)) := by
  unfold act14
  dsimp only
  by_cases h0 : what = 0
  · subst h0; rw [if_pos rfl]; exact d_do_0 H0 hB hW h xn vk vn hx
  rw [if_neg h0]
  by_cases h1 : what = 1
  · subst h1; rw [if_pos rfl]; exact d_do_1 H0 hB hW h xn vk vn hx
  rw [if_neg h1]
  by_cases h2 : what = 2
  · subst h2; rw [if_pos rfl]; exact d_do_2 H0 hB hW h xn vk vn hx
  rw [if_neg h2]
  by_cases h3 : what = 3
  · subst h3; rw [if_pos rfl]; exact d_do_3 H0 hB hW h xn vk vn hx
  rw [if_neg h3]
  by_cases h4 : what = 4
  · subst h4; rw [if_pos rfl]; exact d_do_4 H0 hB hW h xn vk vn hx
  rw [if_neg h4]
  by_cases h5 : what = 5
  · subst h5; rw [if_pos rfl]; exact d_do_5 H0 hB hW h xn vk vn hx
  rw [if_neg h5]
  by_cases h6 : what = 6
  · subst h6; rw [if_pos rfl]; exact d_do_6 H0 hB hW h xn vk vn hx
  rw [if_neg h6]
  by_cases h7 : what = 7
  · subst h7; rw [if_pos rfl]; exact d_do_7 H0 hB hW h xn vk vn hx
  rw [if_neg h7]
  exact d_do_8 H0 hB hW h xn vk vn hx what (by omega)
def play14 (l : List Act14) (k : Nat) : AHeap := (l.take k).foldl act14 AHeap.empty
theorem play14_succ {l : List Act14} {k : Nat} {x : Act14} (h : l[k]? = some x) : play14 l (k + 1) = act14 (play14 l k) x := by
  unfold play14
  rw [List.take_add_one, h, List.foldl_append]; rfl
theorem HW.act14 {A : AHeap} {B : Int} (h : HW A B) (hB : 1 ≤ B) (x : Act14) : HW (act14 A x) (B + 1) := by
  unfold Tw.act14
  by_cases h0 : x.what = 0
  · rw [if_pos h0]; exact h.make hB _ _
  rw [if_neg h0]
  by_cases h1 : x.what = 1
  · rw [if_pos h1]; exact h.keep _
  rw [if_neg h1]
  by_cases h2 : x.what = 2
  · rw [if_pos h2]; exact (h.drop _).mono (by omega)
  rw [if_neg h2]
  by_cases h3 : x.what = 3
  · rw [if_pos h3]; exact h.push _ _
  rw [if_neg h3]
  by_cases h4 : x.what = 4
  · rw [if_pos h4]; exact h.mark _
  rw [if_neg h4]
  by_cases h5 : x.what = 5
  · rw [if_pos h5]; exact h.step.mono (by omega)
  rw [if_neg h5]
  by_cases h6 : x.what = 6
  · rw [if_pos h6]; exact (h.drain _).mono (by omega)
  rw [if_neg h6]
  by_cases h7 : x.what = 7
  · rw [if_pos h7]; exact h.next.mono (by omega)
  rw [if_neg h7]
  exact h.mono (by omega)
theorem drainN_watch : ∀ (n : Nat) (A : AHeap), A.watch.length ≤ 2 → (drainN n A).2.watch.length ≤ 2
  | 0, A, h => h
  | n + 1, A, h => by
    show (if A.queue = [] then (0, A) else ((drainN n A.stepF).1 + 1, (drainN n A.stepF).2)).2.watch.length ≤ 2
    by_cases hq : A.queue = []
    · rw [if_pos hq]; exact h
    · rw [if_neg hq]; exact drainN_watch n _ (by rw [stepF_watch _ h]; exact h)
theorem act14_watch (A : AHeap) (x : Act14) (h : A.watch.length ≤ 2) : (act14 A x).watch.length ≤ 2 := by
  unfold act14
  by_cases h0 : x.what = 0
  · rw [if_pos h0]; rw [make_watch]; exact h
  rw [if_neg h0]
  by_cases h1 : x.what = 1
  · rw [if_pos h1]; rw [keep_watch]; exact h
  rw [if_neg h1]
  by_cases h2 : x.what = 2
  · rw [if_pos h2]; rw [drop_watch]; exact h
  rw [if_neg h2]
  by_cases h3 : x.what = 3
  · rw [if_pos h3]; rw [push_watch]; exact h
  rw [if_neg h3]
  by_cases h4 : x.what = 4
  · rw [if_pos h4]; rw [mark_watch]; exact h
  rw [if_neg h4]
  by_cases h5 : x.what = 5
  · rw [if_pos h5]; rw [stepF_watch _ h]; exact h
  rw [if_neg h5]
  by_cases h6 : x.what = 6
  · rw [if_pos h6]; exact drainN_watch _ _ h
  rw [if_neg h6]
  by_cases h7 : x.what = 7
  · rw [if_pos h7]; exact h
  rw [if_neg h7]
  exact h
theorem play14_ok (l : List Act14) : ∀ k, HW (play14 l k) (1 + k) ∧ (play14 l k).watch.length ≤ 2
  | 0 => ⟨HW.empty.mono (by omega), by simp [play14, AHeap.empty]⟩
  | k + 1 => by
    obtain ⟨h1, h2⟩ := play14_ok l k
    cases h : l[k]? with
    | none =>
      have e : play14 l (k + 1) = play14 l k := by unfold play14; rw [List.take_add_one, h]; simp
      rw [e]
      exact ⟨h1.mono (by omega), h2⟩
    | some x =>
      rw [play14_succ h]
      exact ⟨(h1.act14 (by omega) x).mono (by omega), act14_watch _ x h2⟩
end
end Go.Proofs.Ytkpcngcegipalaa.Tw
