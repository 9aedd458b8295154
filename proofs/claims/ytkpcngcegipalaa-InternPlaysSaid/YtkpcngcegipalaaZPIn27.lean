/- tallowlaw13: lists. No condition. -/
import Derived.Test.YtkpcngcegipalaaZPIn26
import Derived.Test.YtkpcngcegipalaaZPIn21
import Derived.Test.YtkpcngcegipalaaZPIn2
import Derived.Deep.Strs
namespace Go.Proofs.Ytkpcngcegipalaa.Tw
set_option linter.unusedVariables false
set_option linter.unusedSimpArgs false
open Go Go.RowKit Go.MapKept

attribute [local go_sem] lookE lkE valUpon
section
variable {w0 w : World} {F : HP} {m : Hp} {p q : Nat} {A : AHeap} {B : Int}
theorem ref_IntsE {a b : Option Addr} {c c' n : Nat} {l : List Int} (h : Sat w0 w (slc 3 1 a n c (l.map ival) * (slc 3 1 b n c' (l.map ival) * F))) (hl : l.length = n) (hn : n ≤ 1000000000) :
    Calls Try.prog 105 #[.slice a n c, .slice b n c'] w fun e w' => e = .returned (.bool true) ∧ Sat w0 w' (slc 3 1 a n c (l.map ival) * (slc 3 1 b n c' (l.map ival) * F)) := by
  have := ref_Ints h hl hl hn hn
  rwa [decide_eq_true rfl] at this
theorem refO_q (q : Nat) (A : AHeap) (X : List XObj) (oa : Option Addr) (oc : Nat) (qa : Option Addr) (qc : Nat) (ba : Option Addr) (bc : Nat) (fa : Option Addr) (fc : Nat) (sa : Option Addr) (sc : Nat) : ∃ R, refO q A X oa oc qa qc ba bc fa fc sa sc = slc 3 1 qa A.queue.length qc (A.queue.map ival) * R :=
  ⟨row q 51 (rcellsH A oa oc qa qc ba bc fa fc sa sc) * (slc 39 5 oa A.T.length oc (xscells X) * (xslotsR X * (slc 3 1 ba A.buf.length bc (A.buf.map ival) * (slc 176 2 fa A.fins.length fc (finCells A.fins) * (slc 3 1 sa A.watch.length sc (A.watch.map ival) * 1))))), by unfold refO opG rrest; ac_rfl⟩
theorem refO_b (q : Nat) (A : AHeap) (X : List XObj) (oa : Option Addr) (oc : Nat) (qa : Option Addr) (qc : Nat) (ba : Option Addr) (bc : Nat) (fa : Option Addr) (fc : Nat) (sa : Option Addr) (sc : Nat) : ∃ R, refO q A X oa oc qa qc ba bc fa fc sa sc = slc 3 1 ba A.buf.length bc (A.buf.map ival) * R :=
  ⟨row q 51 (rcellsH A oa oc qa qc ba bc fa fc sa sc) * (slc 39 5 oa A.T.length oc (xscells X) * (xslotsR X * (slc 3 1 qa A.queue.length qc (A.queue.map ival) * (slc 176 2 fa A.fins.length fc (finCells A.fins) * (slc 3 1 sa A.watch.length sc (A.watch.map ival) * 1))))), by unfold refO opG rrest; ac_rfl⟩
theorem graphL_sl {N : Nat} (H : HW A B) (hB : B ≤ 1000000) : ∀ o ∈ graphL A N, o.slots.length ≤ 1000000 := by
  intro o ho
  unfold graphL at ho
  obtain ⟨k, _, rfl⟩ := List.mem_map.1 ho
  unfold AHeap.obj
  cases h : A.objs (k + 1) with
  | none => simp [AObj.none]
  | some o => have := H.c _ o h; simp; omega
set_option maxRecDepth 100000 in
set_option maxHeartbeats 4000000 in
theorem p_lists (H0 : HW A B) (hB : B ≤ 1000000) (h : Sat w0 w (heapR m p A * (refR13 q A * F))) :
    Calls Try.prog 54 #[.pointer (some ⟨p, 0, none⟩), .pointer (some ⟨q, 0, none⟩)] w fun e w' => e = .returned (.bool true) ∧ Sat w0 w' (heapR m p A * (refR13 q A * F)) := by
  obtain ⟨X, oa, oc, qa, qc, ba, bc, fa, fc, sa, sc, op⟩ := h.p2.openR
  have HX := Lib.hid op.hx
  have hT := H0.t
  have hql := H0.ql
  have hbl := H0.bl
  have hfl : A.fins.length ≤ 1000000 := by have := H0.fl; omega
  have hlast := lastT_le A.T
  obtain ⟨N, hN⟩ : ∃ N, lastT A.T = N := ⟨_, rfl⟩
  obtain ⟨L, hL⟩ : ∃ L, graphL A N = L := ⟨_, rfl⟩
  have HL := Lib.hid (And.intro hN (And.intro hL (And.intro (show N ≤ 1000000 by omega) (show ∀ o ∈ L, o.slots.length ≤ 1000000 from hL ▸ graphL_sl H0 hB))))
  have h0 : Sat w0 w (heapR m p A * (refO q A X oa oc qa qc ba bc fa fc sa sc * F)) := (op.hs.cast (refO_F q A X oa oc qa qc ba bc fa fc sa sc (heapR m p A * F))).p2
  obtain ⟨FL, hFL⟩ : ∃ L, A.fins.map (·.1) = L := ⟨_, rfl⟩
  obtain ⟨fn, hfn⟩ : ∃ n, FL.length = n := ⟨_, rfl⟩
  have HFL := Lib.hid (And.intro hFL (And.intro hfn (show fn ≤ 1000000000 by rw [← hfn, ← hFL, List.length_map]; omega)))
  have H := Lib.hid H0
  clear op h H0 hN hL hlast hT hFL hfn
  go_enter Try.func54, Try.ntmps54
  go_wp2_with fail
  refine wp_gen fun a0 ha => ?_
  have hb0 : base a0 0 = .pointer (some ⟨p, 0, none⟩) := by rw [ha]; rfl
  have hb1 : base a0 1 = .pointer (some ⟨q, 0, none⟩) := by rw [ha]; rfl
  have hsz0 : a0.tmps.size = 44 := by rw [ha]; rfl
  have HA0 := Lib.hid (And.intro hsz0 ha)
  clear ha hsz0
  refine GW.start (X := Option Addr × Nat) (w0 := w0) (B := [heapR m p A, refO q A X oa oc qa qc ba bc fa fc sa sc, F]) (a0 := a0) ?_
  refine GW.det (d := (some 5)) [] [] rfl (fun e => by rfl) ?_; apply Exists.intro; refine ⟨fun e w' F hs => ?_, ?_, ?_⟩
  · first | (go_simp; done) | (go_simp; rfl)
  · exact (fun _ _ _ => rfl)
  refine GW.new (d := (some 6)) 1 (fun x => .agg #[.slice x.1 N x.2]) (fun x => objsV x.1 N x.2 L) [0] rfl rfl (fun e => by rfl) (fun e w' F K hs hK => ?_) ?_
  · go_simp; (refine (x_Graph H.out hB (show Sat w0 w' (heapR m p A * F) from hs) HL.out.1 HL.out.2.1).mono ?_; rintro e w2 ⟨a2, c2, rfl, h2⟩; exact ⟨_, rfl, hK (a2, c2) _ (h2.cast (mul_left_comm _ _ _))⟩)
  refine GW.det (d := (some 7)) [] [] rfl (fun e => by rfl) ?_; apply Exists.intro; refine ⟨fun e w' F hs => ?_, ?_, ?_⟩
  · first | (go_simp; done) | (go_simp; rfl)
  · exact (fun _ _ _ => rfl)
  refine GW.new (d := (some 8)) 3 (fun x => .agg #[.slice x.1 N x.2]) (fun x => objsV x.1 N x.2 L) [1] rfl rfl (fun e => by rfl) (fun e w' F K hs hK => ?_) ?_
  · go_simp; (refine (r_Graph_O H.out hB HX.out (show Sat w0 w' (refO q A X oa oc qa qc ba bc fa fc sa sc * F) from hs) HL.out.1 HL.out.2.1).mono ?_; rintro e w2 ⟨a2, c2, rfl, h2⟩; exact ⟨_, rfl, hK (a2, c2) _ (h2.cast (mul_left_comm _ _ _))⟩)
  refine GW.keep (d := (some 9)) (fun e => .bool true) [4, 6] [] rfl (fun e => by rfl) (fun _ _ _ => rfl) (fun e w' F K hs hK => ?_) ?_
  · go_simp; (refine (ref_Same ((show Sat w0 w' ((objsV (e 1).1 N (e 1).2 L * objsV (e 3).1 N (e 3).2 L) * F) from hs).assoc) HL.out.2.2.1 HL.out.2.2.2).mono ?_; rintro e2 w2 ⟨rfl, h2⟩; exact ⟨_, rfl, hK _ h2.unassoc⟩)
  refine GW.det (d := (some 10)) [] [] rfl (fun e => by rfl) ?_; apply Exists.intro; refine ⟨fun e w' F hs => ?_, ?_, ?_⟩
  · first | (go_simp; done) | (go_simp; rfl)
  · exact (fun _ _ _ => rfl)
  refine GW.det (d := (some 11)) [] [] rfl (fun e => by rfl) ?_; apply Exists.intro; refine ⟨fun e w' F hs => ?_, ?_, ?_⟩
  · first | (go_simp; done) | (go_simp; rfl)
  · exact (fun _ _ _ => rfl)
  refine GW.new (d := (some 12)) 7 (fun x => .slice x.1 A.queue.length x.2) (fun x => slc 3 1 x.1 A.queue.length x.2 (A.queue.map ival)) [0] rfl rfl (fun e => by rfl) (fun e w' F K hs hK => ?_) ?_
  · go_simp; (refine (x_Queue H.out hB (show Sat w0 w' (heapR m p A * F) from hs) rfl rfl).mono ?_; rintro e w2 ⟨a2, c2, rfl, h2⟩; exact ⟨_, rfl, hK (a2, c2) _ (h2.cast (mul_left_comm _ _ _))⟩)
  refine GW.det (d := (some 13)) [] [] rfl (fun e => by rfl) ?_; apply Exists.intro; refine ⟨fun e w' F hs => ?_, ?_, ?_⟩
  · first | (go_simp; done) | (go_simp; rfl)
  · exact (fun _ _ _ => rfl)
  refine GW.det (d := (some 14)) [] [] rfl (fun e => by rfl) ?_; apply Exists.intro; refine ⟨fun e w' F hs => ?_, ?_, ?_⟩
  · first | (go_simp; done) | (go_simp; rfl)
  · exact (fun _ _ _ => rfl)
  refine GW.det (d := (some 15)) [] [] rfl (fun e => by rfl) ?_; apply Exists.intro; refine ⟨fun e w' F hs => ?_, ?_, ?_⟩
  · first | (go_simp; done) | (go_simp; rfl)
  · exact (fun _ _ _ => rfl)
  refine GW.det (d := (some 16)) [1] [] rfl (fun e => by rfl) ?_; apply Exists.intro; refine ⟨fun e w' F hs => ?_, ?_, ?_⟩
  · have y0 := ROpen.c1 ⟨HX.out, ((show Sat w0 w' (refO q A X oa oc qa qc ba bc fa fc sa sc * F) from hs)).cast (refO_F _ _ _ _ _ _ _ _ _ _ _ _ _ _).symm⟩; first | (go_simp; done) | (go_simp; rfl)
  · exact (fun _ _ _ => rfl)
  refine GW.keep (d := (some 17)) (fun e => .bool true) [10, 1] [] rfl (fun e => by rfl) (fun _ _ _ => rfl) (fun e w' F K hs hK => ?_) ?_
  · go_simp; (obtain ⟨R, eR⟩ := refO_q q A X oa oc qa qc ba bc fa fc sa sc; refine (ref_IntsE ((show Sat w0 w' ((slc 3 1 (e 7).1 A.queue.length (e 7).2 (A.queue.map ival) * refO q A X oa oc qa qc ba bc fa fc sa sc) * F) from hs).cast (show _ = slc 3 1 (e 7).1 A.queue.length (e 7).2 (A.queue.map ival) * (slc 3 1 qa A.queue.length qc (A.queue.map ival) * (R * F)) by rw [eR]; ac_rfl)) rfl (by omega)).mono ?_; rintro e2 w2 ⟨rfl, h2⟩; exact ⟨_, rfl, hK _ (h2.cast (show _ = (slc 3 1 (e 7).1 A.queue.length (e 7).2 (A.queue.map ival) * refO q A X oa oc qa qc ba bc fa fc sa sc) * F by rw [eR]; ac_rfl))⟩)
  refine GW.det (d := (some 18)) [] [] rfl (fun e => by rfl) ?_; apply Exists.intro; refine ⟨fun e w' F hs => ?_, ?_, ?_⟩
  · first | (go_simp; done) | (go_simp; rfl)
  · exact (fun _ _ _ => rfl)
  refine GW.det (d := (some 19)) [] [] rfl (fun e => by rfl) ?_; apply Exists.intro; refine ⟨fun e w' F hs => ?_, ?_, ?_⟩
  · first | (go_simp; done) | (go_simp; rfl)
  · exact (fun _ _ _ => rfl)
  refine GW.det (d := (some 20)) [] [] rfl (fun e => by rfl) ?_; apply Exists.intro; refine ⟨fun e w' F hs => ?_, ?_, ?_⟩
  · first | (go_simp; done) | (go_simp; rfl)
  · exact (fun _ _ _ => rfl)
  refine GW.new (d := (some 21)) 16 (fun x => .slice x.1 A.buf.length x.2) (fun x => slc 3 1 x.1 A.buf.length x.2 (A.buf.map ival)) [0] rfl rfl (fun e => by rfl) (fun e w' F K hs hK => ?_) ?_
  · go_simp; (refine (x_Buf H.out hB (show Sat w0 w' (heapR m p A * F) from hs) rfl rfl).mono ?_; rintro e w2 ⟨a2, c2, rfl, h2⟩; exact ⟨_, rfl, hK (a2, c2) _ (h2.cast (mul_left_comm _ _ _))⟩)
  refine GW.det (d := (some 22)) [] [] rfl (fun e => by rfl) ?_; apply Exists.intro; refine ⟨fun e w' F hs => ?_, ?_, ?_⟩
  · first | (go_simp; done) | (go_simp; rfl)
  · exact (fun _ _ _ => rfl)
  refine GW.det (d := (some 23)) [] [] rfl (fun e => by rfl) ?_; apply Exists.intro; refine ⟨fun e w' F hs => ?_, ?_, ?_⟩
  · first | (go_simp; done) | (go_simp; rfl)
  · exact (fun _ _ _ => rfl)
  refine GW.det (d := (some 24)) [] [] rfl (fun e => by rfl) ?_; apply Exists.intro; refine ⟨fun e w' F hs => ?_, ?_, ?_⟩
  · first | (go_simp; done) | (go_simp; rfl)
  · exact (fun _ _ _ => rfl)
  refine GW.det (d := (some 25)) [1] [] rfl (fun e => by rfl) ?_; apply Exists.intro; refine ⟨fun e w' F hs => ?_, ?_, ?_⟩
  · have y0 := ROpen.c2 ⟨HX.out, ((show Sat w0 w' (refO q A X oa oc qa qc ba bc fa fc sa sc * F) from hs)).cast (refO_F _ _ _ _ _ _ _ _ _ _ _ _ _ _).symm⟩; first | (go_simp; done) | (go_simp; rfl)
  · exact (fun _ _ _ => rfl)
  refine GW.keep (d := (some 26)) (fun e => .bool true) [19, 1] [] rfl (fun e => by rfl) (fun _ _ _ => rfl) (fun e w' F K hs hK => ?_) ?_
  · go_simp; (obtain ⟨R, eR⟩ := refO_b q A X oa oc qa qc ba bc fa fc sa sc; refine (ref_IntsE ((show Sat w0 w' ((slc 3 1 (e 16).1 A.buf.length (e 16).2 (A.buf.map ival) * refO q A X oa oc qa qc ba bc fa fc sa sc) * F) from hs).cast (show _ = slc 3 1 (e 16).1 A.buf.length (e 16).2 (A.buf.map ival) * (slc 3 1 ba A.buf.length bc (A.buf.map ival) * (R * F)) by rw [eR]; ac_rfl)) rfl (by omega)).mono ?_; rintro e2 w2 ⟨rfl, h2⟩; exact ⟨_, rfl, hK _ (h2.cast (show _ = (slc 3 1 (e 16).1 A.buf.length (e 16).2 (A.buf.map ival) * refO q A X oa oc qa qc ba bc fa fc sa sc) * F by rw [eR]; ac_rfl))⟩)
  refine GW.det (d := (some 27)) [] [] rfl (fun e => by rfl) ?_; apply Exists.intro; refine ⟨fun e w' F hs => ?_, ?_, ?_⟩
  · first | (go_simp; done) | (go_simp; rfl)
  · exact (fun _ _ _ => rfl)
  refine GW.det (d := (some 28)) [] [] rfl (fun e => by rfl) ?_; apply Exists.intro; refine ⟨fun e w' F hs => ?_, ?_, ?_⟩
  · first | (go_simp; done) | (go_simp; rfl)
  · exact (fun _ _ _ => rfl)
  refine GW.det (d := (some 29)) [] [] rfl (fun e => by rfl) ?_; apply Exists.intro; refine ⟨fun e w' F hs => ?_, ?_, ?_⟩
  · first | (go_simp; done) | (go_simp; rfl)
  · exact (fun _ _ _ => rfl)
  refine GW.new (d := (some 30)) 25 (fun x => .slice x.1 fn x.2) (fun x => slc 3 1 x.1 fn x.2 (FL.map ival)) [0] rfl rfl (fun e => by rfl) (fun e w' F K hs hK => ?_) ?_
  · go_simp; (refine (x_Fins H.out hB (show Sat w0 w' (heapR m p A * F) from hs) HFL.out.1 HFL.out.2.1).mono ?_; rintro e w2 ⟨a2, c2, rfl, h2⟩; exact ⟨_, rfl, hK (a2, c2) _ (h2.cast (mul_left_comm _ _ _))⟩)
  refine GW.det (d := (some 31)) [] [] rfl (fun e => by rfl) ?_; apply Exists.intro; refine ⟨fun e w' F hs => ?_, ?_, ?_⟩
  · first | (go_simp; done) | (go_simp; rfl)
  · exact (fun _ _ _ => rfl)
  refine GW.new (d := (some 32)) 27 (fun x => .slice x.1 fn x.2) (fun x => slc 3 1 x.1 fn x.2 (FL.map ival)) [1] rfl rfl (fun e => by rfl) (fun e w' F K hs hK => ?_) ?_
  · go_simp; (refine (r_Waiting_O ⟨HX.out, ((show Sat w0 w' (refO q A X oa oc qa qc ba bc fa fc sa sc * F) from hs)).cast (refO_F _ _ _ _ _ _ _ _ _ _ _ _ _ _).symm⟩ hfl HFL.out.1 HFL.out.2.1).mono ?_; rintro e w2 ⟨a2, c2, rfl, h2⟩; exact ⟨_, rfl, hK (a2, c2) _ (h2.cast (by rw [refO_F]; exact mul_left_comm _ _ _))⟩)
  refine GW.keep (d := (some 33)) (fun e => .bool true) [28, 30] [] rfl (fun e => by rfl) (fun _ _ _ => rfl) (fun e w' F K hs hK => ?_) ?_
  · go_simp; (refine (ref_IntsE ((show Sat w0 w' ((slc 3 1 (e 25).1 fn (e 25).2 (FL.map ival) * slc 3 1 (e 27).1 fn (e 27).2 (FL.map ival)) * F) from hs).assoc) HFL.out.2.1 HFL.out.2.2).mono ?_; rintro e2 w2 ⟨rfl, h2⟩; exact ⟨_, rfl, hK _ h2.unassoc⟩)
  refine GW.det (d := (some 34)) [] [] rfl (fun e => by rfl) ?_; apply Exists.intro; refine ⟨fun e w' F hs => ?_, ?_, ?_⟩
  · first | (go_simp; done) | (go_simp; rfl)
  · exact (fun _ _ _ => rfl)
  refine GW.det (d := (some 35)) [] [] rfl (fun e => by rfl) ?_; apply Exists.intro; refine ⟨fun e w' F hs => ?_, ?_, ?_⟩
  · first | (go_simp; done) | (go_simp; rfl)
  · exact (fun _ _ _ => rfl)
  refine GW.det (d := (some 36)) [] [] rfl (fun e => by rfl) ?_; apply Exists.intro; refine ⟨fun e w' F hs => ?_, ?_, ?_⟩
  · first | (go_simp; done) | (go_simp; rfl)
  · exact (fun _ _ _ => rfl)
  refine GW.keep (d := (some 37)) (fun e => .bool A.touched) [0] [] rfl (fun e => by rfl) (fun _ _ _ => rfl) (fun e w' F K hs hK => ?_) ?_
  · go_simp; (refine (x_Touched (show Sat w0 w' (heapR m p A * F) from hs) rfl).mono ?_; rintro e2 w2 ⟨rfl, h2⟩; exact ⟨_, rfl, hK _ h2⟩)
  refine GW.det (d := (some 38)) [] [] rfl (fun e => by rfl) ?_; apply Exists.intro; refine ⟨fun e w' F hs => ?_, ?_, ?_⟩
  · first | (go_simp; done) | (go_simp; rfl)
  · exact (fun _ _ _ => rfl)
  refine GW.det (d := (some 39)) [] [] rfl (fun e => by rfl) ?_; apply Exists.intro; refine ⟨fun e w' F hs => ?_, ?_, ?_⟩
  · first | (go_simp; done) | (go_simp; rfl)
  · exact (fun _ _ _ => rfl)
  refine GW.det (d := (some 40)) [] [] rfl (fun e => by rfl) ?_; apply Exists.intro; refine ⟨fun e w' F hs => ?_, ?_, ?_⟩
  · first | (go_simp; done) | (go_simp; rfl)
  · exact (fun _ _ _ => rfl)
  refine GW.det (d := (some 41)) [1] [] rfl (fun e => by rfl) ?_; apply Exists.intro; refine ⟨fun e w' F hs => ?_, ?_, ?_⟩
  · have y0 := ROpen.c6 ⟨HX.out, ((show Sat w0 w' (refO q A X oa oc qa qc ba bc fa fc sa sc * F) from hs)).cast (refO_F _ _ _ _ _ _ _ _ _ _ _ _ _ _).symm⟩; first | (go_simp; done) | (go_simp; rfl)
  · exact (fun _ _ _ => rfl)
  refine GW.det (d := (some 42)) [] [] rfl (fun e => by rfl) ?_; apply Exists.intro; refine ⟨fun e w' F hs => ?_, ?_, ?_⟩
  · first | (go_simp; done) | (go_simp; rfl)
  · exact (fun _ _ _ => rfl)
  refine GW.det (d := (some 43)) [] [] rfl (fun e => by rfl) ?_; apply Exists.intro; refine ⟨fun e w' F hs => ?_, ?_, ?_⟩
  · first | (go_simp; done) | (go_simp; rfl)
  · exact (fun _ _ _ => rfl)
  refine GW.det (d := (some 4)) [] [] rfl (fun e => by rfl) ?_; apply Exists.intro; refine ⟨fun e w' F hs => ?_, ?_, ?_⟩
  · first | (go_simp; done) | (go_simp; rfl)
  · exact (fun _ _ _ => rfl)
  refine GW.done (sz := 44) [0, 1, 2] (by kernel_rfl) (by kernel_rfl) HA0.out.1 (by rfl) h0 (by rfl) fun e w3 gg => ?_
  have ha := HA0.out.2
  subst ha
  clear HA0 hb0 hb1 h0
  simp only [putL, Act.put, List.setIfInBounds_toArray, List.set_cons_zero, List.set_cons_succ]
  have h3 : Sat w0 w3 (heapR m p A * (refO q A X oa oc qa qc ba bc fa fc sa sc * F)) := gg
  have h4 := (ROpen.shutO HX.out (h3.cast (by rw [refO_F]))).p2
  clear gg h3
  go_wp2_with fail
  go_ret
  exact ⟨by simp, h4⟩
end
end Go.Proofs.Ytkpcngcegipalaa.Tw
namespace Go.Proofs.Ytkpcngcegipalaa.Tw
set_option linter.unusedVariables false
set_option linter.unusedSimpArgs false
open Go Go.RowKit Go.MapKept Go.ChangeShapes Go.WideShapes Go.Deep

/-- the cells of an argument, wherever CR is held -/
def ArgAt (w0 : World) (CR : HP) (a : Option Addr) (cs : List Value) : Prop :=
  ∀ w' F j v, Sat w0 w' (CR * F) → cs[j]? = some v → ∃ g off, a = some ⟨g, off, none⟩ ∧ w'.cell? ⟨g, off + j, none⟩ = some v
theorem addr_of_cellR {w : World} {x : Addr} {v : Value} (h : w.cell? (x.add 0) = some v) : ∃ b off, x = ⟨b, off, none⟩ := by
  obtain ⟨b, off, sp⟩ := x
  cases sp with
  | none => exact ⟨b, off, rfl⟩
  | some s =>
    simp [Addr.add, World.cell?] at h
    split at h <;> simp at h
theorem flatten_get {sz : Nat} (hsz : 0 < sz) : ∀ (css : List (List Value)) (j : Nat) (v : Value), (∀ cs ∈ css, cs.length = sz) → css.flatten[j]? = some v → ∃ cs, css[j / sz]? = some cs ∧ cs[j % sz]? = some v
  | [], j, v, _, h => by simp at h
  | cs :: css, j, v, hl, h => by
    have h0 := hl cs (by simp)
    rw [List.flatten_cons] at h
    by_cases hj : j < sz
    · rw [List.getElem?_append_left (by omega)] at h
      refine ⟨cs, ?_, ?_⟩
      · rw [Nat.div_eq_of_lt hj]; rfl
      · rw [Nat.mod_eq_of_lt hj]; exact h
    · rw [List.getElem?_append_right (by omega), h0] at h
      obtain ⟨cs', h1, h2⟩ := flatten_get hsz css (j - sz) v (fun c hc => hl c (List.mem_cons_of_mem _ hc)) h
      refine ⟨cs', ?_, ?_⟩
      · have : j / sz = (j - sz) / sz + 1 := by
          rw [Nat.div_eq_sub_div hsz (by omega)]
        rw [this, List.getElem?_cons_succ]; exact h1
      · rw [Nat.mod_eq_sub_mod (by omega)]; exact h2
theorem of_forall_ex {α β : Type} {f : β → α} {R : β → Prop} : ∀ (l : List α), (∀ x ∈ l, ∃ y, R y ∧ x = f y) → ∃ r : List β, l = r.map f ∧ ∀ y ∈ r, R y
  | [], _ => ⟨[], rfl, by simp⟩
  | x :: l, h => by
    obtain ⟨y, hy, rfl⟩ := h x (by simp)
    obtain ⟨r, rfl, hr⟩ := of_forall_ex l fun z hz => h z (List.mem_cons_of_mem _ hz)
    exact ⟨y :: r, rfl, fun z hz => by
      rcases List.mem_cons.1 hz with rfl | hz
      · exact hy
      · exact hr z hz⟩
section
variable {H : Type} {enc : TypeId × Value → H} {P : Program} {w : World} {base : Nat} {held : Bool} {fuel : Nat} {x : DataW H × List MemPlace}
theorem open_recs {T e : TypeId} (hT : P.underlying T = some (.slice e)) {sz : Nat} (hs : P.cellsOf e = sz) (hsz : 0 < sz) {E : List Value → Prop}
    (hE : ∀ fuel cs x, DataW.trod enc P w base (fun _ => true) held fuel e cs = some x → E cs) {a : Option Addr} {len cap : Nat}
    (h : DataW.trod enc P w base (fun _ => true) held fuel T [.slice a len cap] = some x) :
    len ≤ cap ∧ cap ≤ maxLen ∧ ∃ css : List (List Value), css.length = len ∧ (∀ cs ∈ css, E cs) ∧ ArgAt w (Old w) a css.flatten := by
  rcases open_slice hT h with ⟨hcs, _⟩ | ⟨ad, l, c, m, n, D, Pl, hcs, _, hl, hm, hmm, _, hx⟩
  · simp at hcs
    obtain ⟨rfl, rfl, rfl⟩ := hcs
    exact ⟨Nat.le_refl _, Nat.zero_le _, [], rfl, by simp, fun w' F j v _ hj => by simp at hj⟩
  · simp at hcs
    obtain ⟨rfl, rfl, rfl⟩ := hcs
    rw [hs] at hx
    have hmc : m = cap := by rw [hmm]; rfl
    subst hmc
    have each : ∀ i, i < m → ∃ cs : List Value, cs.length = sz ∧ E cs ∧ ∀ j, j < sz → ∃ v, cs[j]? = some v ∧ w.cell? (ad.add (i * sz + j)) = some v := fun i hi => by
      obtain ⟨cs', hc, ht⟩ := hx i hi
      obtain ⟨_, hcl, hat⟩ := World.cells?_some hc
      refine ⟨cs', by omega, hE _ _ _ ht, fun j hj => ?_⟩
      have h1 := hat j (by omega)
      rw [Go.Deep.add_add] at h1
      refine ⟨_, List.getElem?_eq_getElem (by omega), ?_⟩
      simpa [hcl, hj] using h1
    let css : List (List Value) := (List.range len).map fun i => if hi : i < m then (each i hi).choose else []
    have hcss : ∀ k cs, css[k]? = some cs → ∃ hk : k < m, cs = (each k hk).choose := fun k cs hk => by
      have hkl : k < len := by
        have := (List.getElem?_eq_some_iff.1 hk).1
        simpa [css] using this
      have hkm : k < m := by omega
      refine ⟨hkm, ?_⟩
      simp [css, hkl, hkm] at hk
      exact hk.symm
    have hlen : ∀ cs ∈ css, cs.length = sz := fun cs hc => by
      obtain ⟨k, hk⟩ := List.mem_iff_getElem?.1 hc
      obtain ⟨h1, rfl⟩ := hcss k cs hk
      exact (each k h1).choose_spec.1
    refine ⟨hl, hm, css, by simp [css], fun cs hc => ?_, fun w' F j v hsat hj => ?_⟩
    · obtain ⟨k, hk⟩ := List.mem_iff_getElem?.1 hc
      obtain ⟨h1, rfl⟩ := hcss k cs hk
      exact (each k h1).choose_spec.2.1
    · obtain ⟨cs, h1, h2⟩ := flatten_get hsz css j v hlen hj
      obtain ⟨h3, rfl⟩ := hcss _ _ h1
      have h4 := (each _ h3).choose_spec.2.2 (j % sz) (Nat.mod_lt _ hsz)
      obtain ⟨v', h5, h6⟩ := h4
      rw [h2] at h5; cases h5
      have hm0 : 0 < m := Nat.lt_of_le_of_lt (Nat.zero_le _) h3
      obtain ⟨v0, _, h7⟩ := (each 0 hm0).choose_spec.2.2 0 hsz
      rw [Nat.zero_mul, Nat.zero_add] at h7
      obtain ⟨b, off, rfl⟩ := addr_of_cellR h7
      rw [addr_add, Nat.mul_comm, Nat.div_add_mod] at h6
      exact ⟨b, off, rfl, hsat.oldCell h6⟩
end
end Go.Proofs.Ytkpcngcegipalaa.Tw
