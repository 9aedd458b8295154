/- tallowlaw13: do, act by act. No condition. -/
import Derived.Test.YtkpcngcegipalaaZPIn27
import Derived.Test.YtkpcngcegipalaaZPIn20
namespace Go.Proofs.Ytkpcngcegipalaa.Tw
set_option linter.unusedVariables false
set_option linter.unusedSimpArgs false
open Go Go.RowKit Go.MapKept

attribute [local go_sem] lookE lkE valUpon
section
variable {w0 w : World} {F XK : HP} {m : Hp} {p q : Nat} {A : AHeap} {B : Int}
theorem act7 {w : World} {G : HP} {xb : Nat} {what xn xi vk vn : Int} {la : Option Addr} {ll lc : Nat} {xtx : ByteArray} (h : Sat w0 w (pt xb (.cells #[.int .i64 what, .int .i64 xn, .int .i64 xi, .int .i64 vk, .int .i64 vn, .slice la ll lc, .string xtx] 100 (0, 0)) * G)) :
    w.cell? ⟨xb, 0, none⟩ = some (.int .i64 what) ∧ w.cell? ⟨xb, 1, none⟩ = some (.int .i64 xn) ∧ w.cell? ⟨xb, 2, none⟩ = some (.int .i64 xi) ∧ w.cell? ⟨xb, 3, none⟩ = some (.int .i64 vk) ∧ w.cell? ⟨xb, 4, none⟩ = some (.int .i64 vn) ∧ w.cell? ⟨xb, 5, none⟩ = some (.slice la ll lc) ∧ w.cell? ⟨xb, 6, none⟩ = some (.string xtx) :=
  have cc := fun i v hv => Sat.cell (T := 100) (cs := #[.int .i64 what, .int .i64 xn, .int .i64 xi, .int .i64 vk, .int .i64 vn, .slice la ll lc, .string xtx]) h i (v := v) hv
  ⟨cc 0 _ rfl, cc 1 _ rfl, cc 2 _ rfl, cc 3 _ rfl, cc 4 _ rfl, cc 5 _ rfl, cc 6 _ rfl⟩
theorem r_Make (H : HW A B) (hB : B ≤ 1000000) (h : Sat w0 w (refR13 p A * F)) (k : Int) (tx : ByteArray) {v : AVal} (hv : A.makeV k tx = v) :
    Calls Try.prog 91 #[.pointer (some ⟨p, 0, none⟩), .int .i64 k, .string tx] w fun e w' => e = .returned (.agg #[.int .i64 v.kind, .int .i64 v.n]) ∧ Sat w0 w' (refR13 p (A.makeF k tx) * F) := by
  subst hv
  unfold AHeap.makeF AHeap.makeV
  cases hok : makeOk k tx with
  | true => exact r_Make_yes H hB h k tx hok
  | false => exact r_Make_no h k tx hok
set_option maxRecDepth 100000 in
set_option maxHeartbeats 4000000 in
theorem p_do_0 (H0 : HW A B) (hB : B ≤ 1000000) (hW : A.watch.length ≤ 1000000) (KX : Knows m XK) (h : Sat w0 w (heapR m p A * (refR13 q A * (XK * F)))) (xn xi vk vn : Int) (la : Option Addr) (ll lc : Nat) (xtx : ByteArray) :
    Calls Try.prog 56 #[.pointer (some ⟨p, 0, none⟩), .pointer (some ⟨q, 0, none⟩), .agg #[.int .i64 0, .int .i64 xn, .int .i64 xi, .int .i64 vk, .int .i64 vn, .slice la ll lc, .string xtx]] w fun e w' => e = .returned (.bool true) ∧ Sat w0 w' (heapR m p (A.makeF xi (txc xtx 5000)) * (refR13 q (A.makeF xi (txc xtx 5000)) * (XK * F))) := by
  have h1 : Sat w0 (w.alloc (.cells #[.int .i64 0, .int .i64 xn, .int .i64 xi, .int .i64 vk, .int .i64 vn, .slice la ll lc, .string xtx] 100)) (heapR m p A * (refR13 q A * (pt w.heap.size (.cells #[.int .i64 0, .int .i64 xn, .int .i64 xi, .int .i64 vk, .int .i64 vn, .slice la ll lc, .string xtx] 100 (0, 0)) * (XK * F)))) := (h.alloc (.cells #[.int .i64 0, .int .i64 xn, .int .i64 xi, .int .i64 vk, .int .i64 vn, .slice la ll lc, .string xtx] 100)).cast (by ac_rfl)
  generalize hxb : w.heap.size = xb at *
  have H := Lib.hid H0
  have ⟨c0, c1, c2, c3, c4, c5, c6⟩ := act7 h1.p3
  have HXB := Lib.hid hxb
  clear h H0
  obtain ⟨tn, htn⟩ : ∃ q : Nat, q = min xtx.size 5000 := ⟨_, rfl⟩
  have htx : txc xtx 5000 = xtx.extract 0 tn := by unfold txc; rw [htn]
  obtain ⟨v, hv⟩ : ∃ v, A.makeV xi (xtx.extract 0 tn) = v := ⟨_, rfl⟩
  rw [htx]
  have ht1 : (if (5000 : Int) < (xtx.size : Int) then (5000 : Int) else (xtx.size : Int)) = (tn : Int) := by split <;> omega
  have ht2 : min (xtx.size : Int) 5000 = (tn : Int) := by omega
  have ht3 : tn ≤ xtx.size := by omega
  have ht4 : ((tn : Int)).toNat = tn := rfl
  have ht5 : (tn : Int) ≤ (xtx.size : Int) := by omega
  have ht6 : (0 : Int) ≤ (tn : Int) := by omega
  clear htx htn
  have HS0 := Lib.hid h1
  clear h1
  go_enter Try.func56, Try.ntmps56
  go_wp2_with fail
  clear c0 c1 c2 c3 c4 c5 c6
  refine wp_gen fun a0 ha => ?_
  have hb0 : base a0 0 = .pointer (some ⟨p, 0, none⟩) := by rw [ha]; rfl
  have hb1 : base a0 1 = .pointer (some ⟨q, 0, none⟩) := by rw [ha]; rfl
  have hb5 : base a0 5 = .pointer (some ⟨xb, 0, none⟩) := by rw [ha]; rfl
  have hb7 : base a0 7 = .string (xtx.extract 0 tn) := by rw [ha]; rfl
  have hsz0 : a0.tmps.size = 160 := by rw [ha]; rfl
  have HA0 := Lib.hid (And.intro hsz0 ha)
  clear ha hsz0
  refine GW.start (X := Nat) (w0 := w0) (B := [heapR m p A, refR13 q A, pt xb (.cells #[.int .i64 0, .int .i64 xn, .int .i64 xi, .int .i64 vk, .int .i64 vn, .slice la ll lc, .string xtx] 100 (0, 0)), XK, F]) (a0 := a0) ?_
  refine GW.det (d := (some 27)) [] [] rfl (fun e => by rfl) ?_; apply Exists.intro; refine ⟨fun e w' F hs => ?_, ?_, ?_⟩
  · first | (go_simp; done) | (go_simp; rfl)
  · exact (fun _ _ _ => rfl)
  refine GW.det (d := (some 28)) [] [] rfl (fun e => by rfl) ?_; apply Exists.intro; refine ⟨fun e w' F hs => ?_, ?_, ?_⟩
  · first | (go_simp; done) | (go_simp; rfl)
  · exact (fun _ _ _ => rfl)
  refine GW.det (d := (some 29)) [2] [] rfl (fun e => by rfl) ?_; apply Exists.intro; refine ⟨fun e w' F hs => ?_, ?_, ?_⟩
  · have ⟨y0, y1, y2, y3, y4, y5, y6⟩ := act7 (show Sat w0 w' (pt xb (.cells #[.int .i64 0, .int .i64 xn, .int .i64 xi, .int .i64 vk, .int .i64 vn, .slice la ll lc, .string xtx] 100 (0, 0)) * F) from hs); first | (go_simp; done) | (go_simp; rfl)
  · exact (fun _ _ _ => rfl)
  refine GW.det (d := (some 30)) [] [] rfl (fun e => by rfl) ?_; apply Exists.intro; refine ⟨fun e w' F hs => ?_, ?_, ?_⟩
  · first | (go_simp; done) | (go_simp; rfl)
  · exact (fun _ _ _ => rfl)
  refine GW.take (d := (some 31)) 4 (fun e => .agg #[.int .i64 v.kind, .int .i64 v.n]) (fun e => heapR m p (A.makeF xi (xtx.extract 0 tn))) [3] [0] [] rfl rfl (fun e => by rfl) (fun e e' hl => by exact ⟨rfl, rfl⟩) (fun e w' F K hs hK => ?_) ?_
  · go_simp; (refine (x_Make H.out hB (show Sat w0 w' (XK * (heapR m p A * F)) from hs).p2 xi (xtx.extract 0 tn) hv).mono ?_; rintro e2 w2 ⟨rfl, h2⟩; exact ⟨_, rfl, hK default _ h2.p2⟩)
  refine GW.det (d := (some 32)) [] [] rfl (fun e => by rfl) ?_; apply Exists.intro; refine ⟨fun e w' F hs => ?_, ?_, ?_⟩
  · first | (go_simp; done) | (go_simp; rfl)
  · exact (fun _ _ _ => rfl)
  refine GW.det (d := (some 33)) [] [] rfl (fun e => by rfl) ?_; apply Exists.intro; refine ⟨fun e w' F hs => ?_, ?_, ?_⟩
  · first | (go_simp; done) | (go_simp; rfl)
  · exact (fun _ _ _ => rfl)
  refine GW.det (d := (some 34)) [2] [] rfl (fun e => by rfl) ?_; apply Exists.intro; refine ⟨fun e w' F hs => ?_, ?_, ?_⟩
  · have ⟨y0, y1, y2, y3, y4, y5, y6⟩ := act7 (show Sat w0 w' (pt xb (.cells #[.int .i64 0, .int .i64 xn, .int .i64 xi, .int .i64 vk, .int .i64 vn, .slice la ll lc, .string xtx] 100 (0, 0)) * F) from hs); first | (go_simp; done) | (go_simp; rfl)
  · exact (fun _ _ _ => rfl)
  refine GW.det (d := (some 35)) [] [] rfl (fun e => by rfl) ?_; apply Exists.intro; refine ⟨fun e w' F hs => ?_, ?_, ?_⟩
  · first | (go_simp; done) | (go_simp; rfl)
  · exact (fun _ _ _ => rfl)
  refine GW.take (d := (some 36)) 9 (fun e => .agg #[.int .i64 v.kind, .int .i64 v.n]) (fun e => refR13 q (A.makeF xi (xtx.extract 0 tn))) [] [1] [] rfl rfl (fun e => by rfl) (fun e e' hl => by exact ⟨rfl, rfl⟩) (fun e w' F K hs hK => ?_) ?_
  · go_simp; (refine (r_Make H.out hB (one_out hs : Sat w0 w' (refR13 q A * F)) xi (xtx.extract 0 tn) hv).mono ?_; rintro e2 w2 ⟨rfl, h2⟩; exact ⟨_, rfl, hK default _ (one_in h2)⟩)
  refine GW.det (d := (some 37)) [] [] rfl (fun e => by rfl) ?_; apply Exists.intro; refine ⟨fun e w' F hs => ?_, ?_, ?_⟩
  · first | (go_simp; done) | (go_simp; rfl)
  · exact (fun _ _ _ => rfl)
  refine GW.det (d := (some 6)) [] [] rfl (fun e => by rfl) ?_; apply Exists.intro; refine ⟨fun e w' F hs => ?_, ?_, ?_⟩
  · first | (go_simp; done) | (go_simp; rfl)
  · exact (fun _ _ _ => rfl)
  refine GW.done (sz := 160) [5 + 4, 5 + 9, 3, 4] (by kernel_rfl) (by kernel_rfl) HA0.out.1 (by rfl) HS0.out (by rfl) fun e w3 gg => ?_
  have ha := HA0.out.2
  subst ha
  clear HA0 HS0 hb0 hb1 hb5 hb7
  simp only [putL, Act.put, List.setIfInBounds_toArray, List.set_cons_zero, List.set_cons_succ]
  have h3 : Sat w0 w3 (heapR m p (A.makeF xi (xtx.extract 0 tn)) * (refR13 q (A.makeF xi (xtx.extract 0 tn)) * (XK * F))) := gg
  clear gg
  go_wp2_with fail
  go_ret
  exact ⟨rfl, h3⟩
set_option maxRecDepth 100000 in
set_option maxHeartbeats 4000000 in
theorem p_do_1 (H0 : HW A B) (hB : B ≤ 1000000) (hW : A.watch.length ≤ 1000000) (KX : Knows m XK) (h : Sat w0 w (heapR m p A * (refR13 q A * (XK * F)))) (xn xi vk vn : Int) (la : Option Addr) (ll lc : Nat) (xtx : ByteArray) :
    Calls Try.prog 56 #[.pointer (some ⟨p, 0, none⟩), .pointer (some ⟨q, 0, none⟩), .agg #[.int .i64 1, .int .i64 xn, .int .i64 xi, .int .i64 vk, .int .i64 vn, .slice la ll lc, .string xtx]] w fun e w' => e = .returned (.bool true) ∧ Sat w0 w' (heapR m p (A.makeF xi (txc xtx 5000)) * (refR13 q (A.makeF xi (txc xtx 5000)) * (XK * F))) := by
  have h1 : Sat w0 (w.alloc (.cells #[.int .i64 1, .int .i64 xn, .int .i64 xi, .int .i64 vk, .int .i64 vn, .slice la ll lc, .string xtx] 100)) (heapR m p A * (refR13 q A * (pt w.heap.size (.cells #[.int .i64 1, .int .i64 xn, .int .i64 xi, .int .i64 vk, .int .i64 vn, .slice la ll lc, .string xtx] 100 (0, 0)) * (XK * F)))) := (h.alloc (.cells #[.int .i64 1, .int .i64 xn, .int .i64 xi, .int .i64 vk, .int .i64 vn, .slice la ll lc, .string xtx] 100)).cast (by ac_rfl)
  generalize hxb : w.heap.size = xb at *
  have H := Lib.hid H0
  have ⟨c0, c1, c2, c3, c4, c5, c6⟩ := act7 h1.p3
  have HXB := Lib.hid hxb
  clear h H0
  obtain ⟨tn, htn⟩ : ∃ q : Nat, q = min xtx.size 5000 := ⟨_, rfl⟩
  have htx : txc xtx 5000 = xtx.extract 0 tn := by unfold txc; rw [htn]
  obtain ⟨v, hv⟩ : ∃ v, A.makeV xi (xtx.extract 0 tn) = v := ⟨_, rfl⟩
  rw [htx]
  have ht1 : (if (5000 : Int) < (xtx.size : Int) then (5000 : Int) else (xtx.size : Int)) = (tn : Int) := by split <;> omega
  have ht2 : min (xtx.size : Int) 5000 = (tn : Int) := by omega
  have ht3 : tn ≤ xtx.size := by omega
  have ht4 : ((tn : Int)).toNat = tn := rfl
  have ht5 : (tn : Int) ≤ (xtx.size : Int) := by omega
  have ht6 : (0 : Int) ≤ (tn : Int) := by omega
  clear htx htn
  have HS0 := Lib.hid h1
  clear h1
  go_enter Try.func56, Try.ntmps56
  go_wp2_with fail
  clear c0 c1 c2 c3 c4 c5 c6
  refine wp_gen fun a0 ha => ?_
  have hb0 : base a0 0 = .pointer (some ⟨p, 0, none⟩) := by rw [ha]; rfl
  have hb1 : base a0 1 = .pointer (some ⟨q, 0, none⟩) := by rw [ha]; rfl
  have hb5 : base a0 5 = .pointer (some ⟨xb, 0, none⟩) := by rw [ha]; rfl
  have hb7 : base a0 7 = .string (xtx.extract 0 tn) := by rw [ha]; rfl
  have hsz0 : a0.tmps.size = 160 := by rw [ha]; rfl
  have HA0 := Lib.hid (And.intro hsz0 ha)
  clear ha hsz0
  refine GW.start (X := Nat) (w0 := w0) (B := [heapR m p A, refR13 q A, pt xb (.cells #[.int .i64 1, .int .i64 xn, .int .i64 xi, .int .i64 vk, .int .i64 vn, .slice la ll lc, .string xtx] 100 (0, 0)), XK, F]) (a0 := a0) ?_
  refine GW.det (d := (some 27)) [] [] rfl (fun e => by rfl) ?_; apply Exists.intro; refine ⟨fun e w' F hs => ?_, ?_, ?_⟩
  · first | (go_simp; done) | (go_simp; rfl)
  · exact (fun _ _ _ => rfl)
  refine GW.det (d := (some 28)) [] [] rfl (fun e => by rfl) ?_; apply Exists.intro; refine ⟨fun e w' F hs => ?_, ?_, ?_⟩
  · first | (go_simp; done) | (go_simp; rfl)
  · exact (fun _ _ _ => rfl)
  refine GW.det (d := (some 29)) [2] [] rfl (fun e => by rfl) ?_; apply Exists.intro; refine ⟨fun e w' F hs => ?_, ?_, ?_⟩
  · have ⟨y0, y1, y2, y3, y4, y5, y6⟩ := act7 (show Sat w0 w' (pt xb (.cells #[.int .i64 1, .int .i64 xn, .int .i64 xi, .int .i64 vk, .int .i64 vn, .slice la ll lc, .string xtx] 100 (0, 0)) * F) from hs); first | (go_simp; done) | (go_simp; rfl)
  · exact (fun _ _ _ => rfl)
  refine GW.det (d := (some 30)) [] [] rfl (fun e => by rfl) ?_; apply Exists.intro; refine ⟨fun e w' F hs => ?_, ?_, ?_⟩
  · first | (go_simp; done) | (go_simp; rfl)
  · exact (fun _ _ _ => rfl)
  refine GW.take (d := (some 31)) 4 (fun e => .agg #[.int .i64 v.kind, .int .i64 v.n]) (fun e => heapR m p (A.makeF xi (xtx.extract 0 tn))) [3] [0] [] rfl rfl (fun e => by rfl) (fun e e' hl => by exact ⟨rfl, rfl⟩) (fun e w' F K hs hK => ?_) ?_
  · go_simp; (refine (x_Make H.out hB (show Sat w0 w' (XK * (heapR m p A * F)) from hs).p2 xi (xtx.extract 0 tn) hv).mono ?_; rintro e2 w2 ⟨rfl, h2⟩; exact ⟨_, rfl, hK default _ h2.p2⟩)
  refine GW.det (d := (some 32)) [] [] rfl (fun e => by rfl) ?_; apply Exists.intro; refine ⟨fun e w' F hs => ?_, ?_, ?_⟩
  · first | (go_simp; done) | (go_simp; rfl)
  · exact (fun _ _ _ => rfl)
  refine GW.det (d := (some 33)) [] [] rfl (fun e => by rfl) ?_; apply Exists.intro; refine ⟨fun e w' F hs => ?_, ?_, ?_⟩
  · first | (go_simp; done) | (go_simp; rfl)
  · exact (fun _ _ _ => rfl)
  refine GW.det (d := (some 34)) [2] [] rfl (fun e => by rfl) ?_; apply Exists.intro; refine ⟨fun e w' F hs => ?_, ?_, ?_⟩
  · have ⟨y0, y1, y2, y3, y4, y5, y6⟩ := act7 (show Sat w0 w' (pt xb (.cells #[.int .i64 1, .int .i64 xn, .int .i64 xi, .int .i64 vk, .int .i64 vn, .slice la ll lc, .string xtx] 100 (0, 0)) * F) from hs); first | (go_simp; done) | (go_simp; rfl)
  · exact (fun _ _ _ => rfl)
  refine GW.det (d := (some 35)) [] [] rfl (fun e => by rfl) ?_; apply Exists.intro; refine ⟨fun e w' F hs => ?_, ?_, ?_⟩
  · first | (go_simp; done) | (go_simp; rfl)
  · exact (fun _ _ _ => rfl)
  refine GW.take (d := (some 36)) 9 (fun e => .agg #[.int .i64 v.kind, .int .i64 v.n]) (fun e => refR13 q (A.makeF xi (xtx.extract 0 tn))) [] [1] [] rfl rfl (fun e => by rfl) (fun e e' hl => by exact ⟨rfl, rfl⟩) (fun e w' F K hs hK => ?_) ?_
  · go_simp; (refine (r_Make H.out hB (one_out hs : Sat w0 w' (refR13 q A * F)) xi (xtx.extract 0 tn) hv).mono ?_; rintro e2 w2 ⟨rfl, h2⟩; exact ⟨_, rfl, hK default _ (one_in h2)⟩)
  refine GW.det (d := (some 37)) [] [] rfl (fun e => by rfl) ?_; apply Exists.intro; refine ⟨fun e w' F hs => ?_, ?_, ?_⟩
  · first | (go_simp; done) | (go_simp; rfl)
  · exact (fun _ _ _ => rfl)
  refine GW.det (d := (some 6)) [] [] rfl (fun e => by rfl) ?_; apply Exists.intro; refine ⟨fun e w' F hs => ?_, ?_, ?_⟩
  · first | (go_simp; done) | (go_simp; rfl)
  · exact (fun _ _ _ => rfl)
  refine GW.done (sz := 160) [5 + 4, 5 + 9, 3, 4] (by kernel_rfl) (by kernel_rfl) HA0.out.1 (by rfl) HS0.out (by rfl) fun e w3 gg => ?_
  have ha := HA0.out.2
  subst ha
  clear HA0 HS0 hb0 hb1 hb5 hb7
  simp only [putL, Act.put, List.setIfInBounds_toArray, List.set_cons_zero, List.set_cons_succ]
  have h3 : Sat w0 w3 (heapR m p (A.makeF xi (xtx.extract 0 tn)) * (refR13 q (A.makeF xi (xtx.extract 0 tn)) * (XK * F))) := gg
  clear gg
  go_wp2_with fail
  go_ret
  exact ⟨rfl, h3⟩
set_option maxRecDepth 100000 in
set_option maxHeartbeats 4000000 in
theorem p_do_2 (H0 : HW A B) (hB : B ≤ 1000000) (hW : A.watch.length ≤ 1000000) (KX : Knows m XK) (h : Sat w0 w (heapR m p A * (refR13 q A * (XK * F)))) (xn xi vk vn : Int) (la : Option Addr) (ll lc : Nat) (xtx : ByteArray) :
    Calls Try.prog 56 #[.pointer (some ⟨p, 0, none⟩), .pointer (some ⟨q, 0, none⟩), .agg #[.int .i64 2, .int .i64 xn, .int .i64 xi, .int .i64 vk, .int .i64 vn, .slice la ll lc, .string xtx]] w fun e w' => e = .returned (.bool true) ∧ Sat w0 w' (heapR m p (A.keep ⟨vk, vn⟩) * (refR13 q (A.keep ⟨vk, vn⟩) * (XK * F))) := by
  obtain ⟨e0, he0⟩ : ∃ e, cntE A ⟨vk, vn⟩ = e := ⟨_, rfl⟩
  have h1 : Sat w0 (w.alloc (.cells #[.int .i64 2, .int .i64 xn, .int .i64 xi, .int .i64 vk, .int .i64 vn, .slice la ll lc, .string xtx] 100)) (heapR m p A * (refR13 q A * (pt w.heap.size (.cells #[.int .i64 2, .int .i64 xn, .int .i64 xi, .int .i64 vk, .int .i64 vn, .slice la ll lc, .string xtx] 100 (0, 0)) * (XK * F)))) := (h.alloc (.cells #[.int .i64 2, .int .i64 xn, .int .i64 xi, .int .i64 vk, .int .i64 vn, .slice la ll lc, .string xtx] 100)).cast (by ac_rfl)
  generalize hxb : w.heap.size = xb at *
  have H := Lib.hid H0
  have ⟨c0, c1, c2, c3, c4, c5, c6⟩ := act7 h1.p3
  have HXB := Lib.hid hxb
  clear h H0
  have HS0 := Lib.hid h1
  clear h1
  go_enter Try.func56, Try.ntmps56
  go_wp2_with fail
  clear c0 c1 c2 c3 c4 c5 c6
  refine wp_gen fun a0 ha => ?_
  have hb0 : base a0 0 = .pointer (some ⟨p, 0, none⟩) := by rw [ha]; rfl
  have hb1 : base a0 1 = .pointer (some ⟨q, 0, none⟩) := by rw [ha]; rfl
  have hb5 : base a0 5 = .pointer (some ⟨xb, 0, none⟩) := by rw [ha]; rfl
  have hsz0 : a0.tmps.size = 160 := by rw [ha]; rfl
  have HA0 := Lib.hid (And.intro hsz0 ha)
  clear ha hsz0
  refine GW.start (X := Nat) (w0 := w0) (B := [heapR m p A, refR13 q A, pt xb (.cells #[.int .i64 2, .int .i64 xn, .int .i64 xi, .int .i64 vk, .int .i64 vn, .slice la ll lc, .string xtx] 100 (0, 0)), XK, F]) (a0 := a0) ?_
  refine GW.det (d := (some 41)) [] [] rfl (fun e => by rfl) ?_; apply Exists.intro; refine ⟨fun e w' F hs => ?_, ?_, ?_⟩
  · first | (go_simp; done) | (go_simp; rfl)
  · exact (fun _ _ _ => rfl)
  refine GW.det (d := (some 42)) [] [] rfl (fun e => by rfl) ?_; apply Exists.intro; refine ⟨fun e w' F hs => ?_, ?_, ?_⟩
  · first | (go_simp; done) | (go_simp; rfl)
  · exact (fun _ _ _ => rfl)
  refine GW.det (d := (some 43)) [2] [] rfl (fun e => by rfl) ?_; apply Exists.intro; refine ⟨fun e w' F hs => ?_, ?_, ?_⟩
  · have ⟨y0, y1, y2, y3, y4, y5, y6⟩ := act7 (show Sat w0 w' (pt xb (.cells #[.int .i64 2, .int .i64 xn, .int .i64 xi, .int .i64 vk, .int .i64 vn, .slice la ll lc, .string xtx] 100 (0, 0)) * F) from hs); first | (go_simp; done) | (go_simp; rfl)
  · exact (fun _ _ _ => rfl)
  refine GW.take (d := (some 44)) 3 (fun e => .int .i64 e0) (fun e => heapR m p (A.keep ⟨vk, vn⟩)) [3] [0] [] rfl rfl (fun e => by rfl) (fun e e' hl => by exact ⟨rfl, rfl⟩) (fun e w' F K hs hK => ?_) ?_
  · go_simp; (refine (x_Keep H.out hB KX.right (show Sat w0 w' (XK * (heapR m p A * F)) from hs).p2 vk vn he0).mono ?_; rintro e2 w2 ⟨rfl, h2⟩; exact ⟨_, rfl, hK default _ h2.p2⟩)
  refine GW.det (d := (some 45)) [] [] rfl (fun e => by rfl) ?_; apply Exists.intro; refine ⟨fun e w' F hs => ?_, ?_, ?_⟩
  · first | (go_simp; done) | (go_simp; rfl)
  · exact (fun _ _ _ => rfl)
  refine GW.det (d := (some 46)) [] [] rfl (fun e => by rfl) ?_; apply Exists.intro; refine ⟨fun e w' F hs => ?_, ?_, ?_⟩
  · first | (go_simp; done) | (go_simp; rfl)
  · exact (fun _ _ _ => rfl)
  refine GW.det (d := (some 47)) [2] [] rfl (fun e => by rfl) ?_; apply Exists.intro; refine ⟨fun e w' F hs => ?_, ?_, ?_⟩
  · have ⟨y0, y1, y2, y3, y4, y5, y6⟩ := act7 (show Sat w0 w' (pt xb (.cells #[.int .i64 2, .int .i64 xn, .int .i64 xi, .int .i64 vk, .int .i64 vn, .slice la ll lc, .string xtx] 100 (0, 0)) * F) from hs); first | (go_simp; done) | (go_simp; rfl)
  · exact (fun _ _ _ => rfl)
  refine GW.take (d := (some 48)) 7 (fun e => .int .i64 e0) (fun e => refR13 q (A.keep ⟨vk, vn⟩)) [] [1] [] rfl rfl (fun e => by rfl) (fun e e' hl => by exact ⟨rfl, rfl⟩) (fun e w' F K hs hK => ?_) ?_
  · go_simp; (refine (r_Keep H.out hB hW (one_out hs : Sat w0 w' (refR13 q A * F)) vk vn he0).mono ?_; rintro e2 w2 ⟨rfl, h2⟩; exact ⟨_, rfl, hK default _ (one_in h2)⟩)
  refine GW.det (d := (some 49)) [] [] rfl (fun e => by rfl) ?_; apply Exists.intro; refine ⟨fun e w' F hs => ?_, ?_, ?_⟩
  · first | (go_simp; done) | (go_simp; rfl)
  · exact (fun _ _ _ => rfl)
  refine GW.det (d := (some 6)) [] [] rfl (fun e => by rfl) ?_; apply Exists.intro; refine ⟨fun e w' F hs => ?_, ?_, ?_⟩
  · first | (go_simp; done) | (go_simp; rfl)
  · exact (fun _ _ _ => rfl)
  refine GW.done (sz := 160) [5 + 3, 5 + 7, 3, 4] (by kernel_rfl) (by kernel_rfl) HA0.out.1 (by rfl) HS0.out (by rfl) fun e w3 gg => ?_
  have ha := HA0.out.2
  subst ha
  clear HA0 HS0 hb0 hb1 hb5
  simp only [putL, Act.put, List.setIfInBounds_toArray, List.set_cons_zero, List.set_cons_succ]
  have h3 : Sat w0 w3 (heapR m p (A.keep ⟨vk, vn⟩) * (refR13 q (A.keep ⟨vk, vn⟩) * (XK * F))) := gg
  clear gg
  go_wp2_with fail
  go_ret
  exact ⟨rfl, h3⟩
set_option maxRecDepth 100000 in
set_option maxHeartbeats 4000000 in
theorem p_do_3 (H0 : HW A B) (hB : B ≤ 1000000) (hW : A.watch.length ≤ 1000000) (KX : Knows m XK) (h : Sat w0 w (heapR m p A * (refR13 q A * (XK * F)))) (xn xi vk vn : Int) (la : Option Addr) (ll lc : Nat) (xtx : ByteArray) :
    Calls Try.prog 56 #[.pointer (some ⟨p, 0, none⟩), .pointer (some ⟨q, 0, none⟩), .agg #[.int .i64 3, .int .i64 xn, .int .i64 xi, .int .i64 vk, .int .i64 vn, .slice la ll lc, .string xtx]] w fun e w' => e = .returned (.bool true) ∧ Sat w0 w' (heapR m p (A.keep ⟨vk, vn⟩) * (refR13 q (A.keep ⟨vk, vn⟩) * (XK * F))) := by
  obtain ⟨e0, he0⟩ : ∃ e, cntE A ⟨vk, vn⟩ = e := ⟨_, rfl⟩
  have h1 : Sat w0 (w.alloc (.cells #[.int .i64 3, .int .i64 xn, .int .i64 xi, .int .i64 vk, .int .i64 vn, .slice la ll lc, .string xtx] 100)) (heapR m p A * (refR13 q A * (pt w.heap.size (.cells #[.int .i64 3, .int .i64 xn, .int .i64 xi, .int .i64 vk, .int .i64 vn, .slice la ll lc, .string xtx] 100 (0, 0)) * (XK * F)))) := (h.alloc (.cells #[.int .i64 3, .int .i64 xn, .int .i64 xi, .int .i64 vk, .int .i64 vn, .slice la ll lc, .string xtx] 100)).cast (by ac_rfl)
  generalize hxb : w.heap.size = xb at *
  have H := Lib.hid H0
  have ⟨c0, c1, c2, c3, c4, c5, c6⟩ := act7 h1.p3
  have HXB := Lib.hid hxb
  clear h H0
  have HS0 := Lib.hid h1
  clear h1
  go_enter Try.func56, Try.ntmps56
  go_wp2_with fail
  clear c0 c1 c2 c3 c4 c5 c6
  refine wp_gen fun a0 ha => ?_
  have hb0 : base a0 0 = .pointer (some ⟨p, 0, none⟩) := by rw [ha]; rfl
  have hb1 : base a0 1 = .pointer (some ⟨q, 0, none⟩) := by rw [ha]; rfl
  have hb5 : base a0 5 = .pointer (some ⟨xb, 0, none⟩) := by rw [ha]; rfl
  have hsz0 : a0.tmps.size = 160 := by rw [ha]; rfl
  have HA0 := Lib.hid (And.intro hsz0 ha)
  clear ha hsz0
  refine GW.start (X := Nat) (w0 := w0) (B := [heapR m p A, refR13 q A, pt xb (.cells #[.int .i64 3, .int .i64 xn, .int .i64 xi, .int .i64 vk, .int .i64 vn, .slice la ll lc, .string xtx] 100 (0, 0)), XK, F]) (a0 := a0) ?_
  refine GW.det (d := (some 41)) [] [] rfl (fun e => by rfl) ?_; apply Exists.intro; refine ⟨fun e w' F hs => ?_, ?_, ?_⟩
  · first | (go_simp; done) | (go_simp; rfl)
  · exact (fun _ _ _ => rfl)
  refine GW.det (d := (some 42)) [] [] rfl (fun e => by rfl) ?_; apply Exists.intro; refine ⟨fun e w' F hs => ?_, ?_, ?_⟩
  · first | (go_simp; done) | (go_simp; rfl)
  · exact (fun _ _ _ => rfl)
  refine GW.det (d := (some 43)) [2] [] rfl (fun e => by rfl) ?_; apply Exists.intro; refine ⟨fun e w' F hs => ?_, ?_, ?_⟩
  · have ⟨y0, y1, y2, y3, y4, y5, y6⟩ := act7 (show Sat w0 w' (pt xb (.cells #[.int .i64 3, .int .i64 xn, .int .i64 xi, .int .i64 vk, .int .i64 vn, .slice la ll lc, .string xtx] 100 (0, 0)) * F) from hs); first | (go_simp; done) | (go_simp; rfl)
  · exact (fun _ _ _ => rfl)
  refine GW.take (d := (some 44)) 3 (fun e => .int .i64 e0) (fun e => heapR m p (A.keep ⟨vk, vn⟩)) [3] [0] [] rfl rfl (fun e => by rfl) (fun e e' hl => by exact ⟨rfl, rfl⟩) (fun e w' F K hs hK => ?_) ?_
  · go_simp; (refine (x_Keep H.out hB KX.right (show Sat w0 w' (XK * (heapR m p A * F)) from hs).p2 vk vn he0).mono ?_; rintro e2 w2 ⟨rfl, h2⟩; exact ⟨_, rfl, hK default _ h2.p2⟩)
  refine GW.det (d := (some 45)) [] [] rfl (fun e => by rfl) ?_; apply Exists.intro; refine ⟨fun e w' F hs => ?_, ?_, ?_⟩
  · first | (go_simp; done) | (go_simp; rfl)
  · exact (fun _ _ _ => rfl)
  refine GW.det (d := (some 46)) [] [] rfl (fun e => by rfl) ?_; apply Exists.intro; refine ⟨fun e w' F hs => ?_, ?_, ?_⟩
  · first | (go_simp; done) | (go_simp; rfl)
  · exact (fun _ _ _ => rfl)
  refine GW.det (d := (some 47)) [2] [] rfl (fun e => by rfl) ?_; apply Exists.intro; refine ⟨fun e w' F hs => ?_, ?_, ?_⟩
  · have ⟨y0, y1, y2, y3, y4, y5, y6⟩ := act7 (show Sat w0 w' (pt xb (.cells #[.int .i64 3, .int .i64 xn, .int .i64 xi, .int .i64 vk, .int .i64 vn, .slice la ll lc, .string xtx] 100 (0, 0)) * F) from hs); first | (go_simp; done) | (go_simp; rfl)
  · exact (fun _ _ _ => rfl)
  refine GW.take (d := (some 48)) 7 (fun e => .int .i64 e0) (fun e => refR13 q (A.keep ⟨vk, vn⟩)) [] [1] [] rfl rfl (fun e => by rfl) (fun e e' hl => by exact ⟨rfl, rfl⟩) (fun e w' F K hs hK => ?_) ?_
  · go_simp; (refine (r_Keep H.out hB hW (one_out hs : Sat w0 w' (refR13 q A * F)) vk vn he0).mono ?_; rintro e2 w2 ⟨rfl, h2⟩; exact ⟨_, rfl, hK default _ (one_in h2)⟩)
  refine GW.det (d := (some 49)) [] [] rfl (fun e => by rfl) ?_; apply Exists.intro; refine ⟨fun e w' F hs => ?_, ?_, ?_⟩
  · first | (go_simp; done) | (go_simp; rfl)
  · exact (fun _ _ _ => rfl)
  refine GW.det (d := (some 6)) [] [] rfl (fun e => by rfl) ?_; apply Exists.intro; refine ⟨fun e w' F hs => ?_, ?_, ?_⟩
  · first | (go_simp; done) | (go_simp; rfl)
  · exact (fun _ _ _ => rfl)
  refine GW.done (sz := 160) [5 + 3, 5 + 7, 3, 4] (by kernel_rfl) (by kernel_rfl) HA0.out.1 (by rfl) HS0.out (by rfl) fun e w3 gg => ?_
  have ha := HA0.out.2
  subst ha
  clear HA0 HS0 hb0 hb1 hb5
  simp only [putL, Act.put, List.setIfInBounds_toArray, List.set_cons_zero, List.set_cons_succ]
  have h3 : Sat w0 w3 (heapR m p (A.keep ⟨vk, vn⟩) * (refR13 q (A.keep ⟨vk, vn⟩) * (XK * F))) := gg
  clear gg
  go_wp2_with fail
  go_ret
  exact ⟨rfl, h3⟩
end
end Go.Proofs.Ytkpcngcegipalaa.Tw
