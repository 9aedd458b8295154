/- tallowref13: Copy. No condition. -/
import Derived.Test.YtkpcngcegipalaaZPIn26
namespace Go.Proofs.Ytkpcngcegipalaa.Tw
set_option linter.unusedVariables false
set_option linter.unusedSimpArgs false
open Go Go.RowKit Go.MapKept
attribute [local go_sem] lookE lkE valUpon
section
variable {P : Program} {w0 w : World} {F : HP} {o : Oper} {a : Act} {Q : Exit → Act → World → Prop} {K : Act → World → Prop}
/-- numbers behind an owned slice, from wherever: in a drawn region -/
theorem wp_catInt (s x : Operand) (hop : o.op = .call { callee := .builtin .append, args := #[s, x], argTypes := #[48, 48] })
    (sa : Option Addr) (n c : Nat) (l : List Int) (hs : a.eval s = .slice sa n c) (h : Sat w0 w (slc 3 1 sa n c (l.map ival) * F)) (xa : Option Addr) (m c' : Nat) (r : List Int) (hx : a.eval x = .slice xa m c') (hr : r.length = m)
    (hsrc : (∀ ad, xa = some ad → ∀ j u, (r.map ival)[j]? = some u → w.cell? (ad.add j) = some u) ∧ (xa = none → m = 0 ∧ c' = 0)) (hn : n + m ≤ 1000000000)
    (hK : ∀ a' c'' w', Sat w0 w' (slc 3 1 a' (n + m) c'' ((l ++ r).map ival) * F) → K (a.put o.dst (.slice a' (n + m) c'')) w') : o.wp Try.prog a w K Q := by
  obtain ⟨i0, hi, hz0, hz1, hz2⟩ := info_parts info_int'
  refine wp_append_any s x 48 hop i0 (.int .i64 0) 8 Try.underlying48 hi hz0 hz1 hz2 rfl sa n c (l.map ival) hs h xa m c' (r.map ival) hx (by simp [hr]) hsrc (oneCell_ivals _) (by unfold maxLen; omega) (by omega) fun a' c'' w' h2 _ => ?_
  exact hK a' c'' w' (by rw [List.map_append]; exact h2)
theorem finCells_len : ∀ r : List (Int × Int), (finCells r).length = r.length * 2
  | [] => rfl
  | y :: r => by
    have := finCells_len r
    simp only [finCells, List.flatMap_cons, List.length_append, List.length_cons, List.length_nil] at this ⊢
    omega
/-- finalisers' rows behind an owned slice, from wherever: in a drawn region -/
theorem wp_catFin (s x : Operand) (hop : o.op = .call { callee := .builtin .append, args := #[s, x], argTypes := #[49, 49] })
    (sa : Option Addr) (n c : Nat) (l : List (Int × Int)) (hs : a.eval s = .slice sa n c) (h : Sat w0 w (slc 176 2 sa n c (finCells l) * F)) (xa : Option Addr) (m c' : Nat) (r : List (Int × Int)) (hx : a.eval x = .slice xa m c') (hr : r.length = m)
    (hsrc : (∀ ad, xa = some ad → ∀ j u, (finCells r)[j]? = some u → w.cell? (ad.add j) = some u) ∧ (xa = none → m = 0 ∧ c' = 0)) (hn : n + m ≤ 1000000000)
    (hK : ∀ a' c'' w', Sat w0 w' (slc 176 2 a' (n + m) c'' (finCells (l ++ r)) * F) → K (a.put o.dst (.slice a' (n + m) c'')) w') : o.wp Try.prog a w K Q := by
  obtain ⟨i0, hi, hz0, hz1, hz2⟩ := info_parts info_finR
  have hl : (finCells r).length = m * 2 := by rw [← hr]; exact finCells_len r
  refine wp_append_any s x 49 hop i0 (.agg #[.int .i64 0, .int .i64 0]) 16 Try.underlying49 hi hz0 hz1 hz2 rfl sa n c (finCells l) hs h xa m c' (finCells r) hx hl hsrc (oneCell_finCells _) (by unfold maxLen; omega) (by omega) fun a' c'' w' h2 _ => ?_
  exact hK a' c'' w' (by unfold finCells at *; rw [List.flatMap_append]; exact h2)
end
section
variable {w0 w : World} {p : Nat} {A : AHeap} {F SR : HP} {B : Int} {X : List XObj}
set_option maxRecDepth 100000 in
set_option maxHeartbeats 4000000 in
theorem r_Copy (H : HW A B) (hB : B ≤ 1000000) (hW : A.watch.length ≤ 1000000) (h : Sat w0 w (refR13 p A * F)) :
    Calls Try.prog 55 #[.pointer (some ⟨p, 0, none⟩)] w fun e w' => ∃ q, e = .returned (.pointer (some ⟨q, 0, none⟩)) ∧ Sat w0 w' (refR13 q A * (refR13 p A * F)) := by
  have hT := H.t
  obtain ⟨X, oa, oc, qa, qc, ba, bc, fa, fc, sa, sc, op⟩ := h.openR
  have c4 := op.c4
  have c6 := op.c6
  have h1 := h.alloc (.cells #[.slice none 0 0, .slice none 0 0, .slice none 0 0, .slice none 0 0, .int .i64 A.marks, .slice none 0 0, .bool A.touched] 51)
  generalize hrb : w.heap.size = rb at *
  have HO := Lib.hid (fun (w' : World) (G : HP) (hh : Sat w0 w' (refR13 p A * G)) (k : Nat) (o : AObj) (ho : A.obj ((k : Int) + 1) = o) => r_Obj H hB hh ((k : Int) + 1) ho rfl)
  have HC := Lib.hid (fun (w' : World) (G : HP) (hh : Sat w0 w' (refR13 p A * G)) => (show ∃ oa oc, w'.cell? ⟨p, 0, none⟩ = some (.slice oa A.T.length oc) from by obtain ⟨_, oa, oc, _, _, _, _, _, _, _, _, oo⟩ := hh.openR; exact ⟨oa, oc, oo.c0⟩))
  have HGR := Lib.hid (show ∀ k, graphL A (k + 1) = graphL A k ++ [A.obj (k + 1)] from fun k => by unfold graphL; rw [List.range_succ, List.map_append]; rfl)
  have HH := Lib.hid H
  have H1 := Lib.hid h1
  clear op h h1 H
  generalize hM : A.T.length = M at *
  go_enter Try.func55, Try.ntmps55
  go_wp2_with fail
  refine wp_region_tail 9 (by kernel_rfl) (by kernel_rfl) ?_
  simp only [List.take_succ_cons, List.take_zero, List.drop_succ_cons, List.drop_zero]
  iterate 9 still_step
  refine wpStill_nil ?_
  go_wp2_with fail
  go_loopw [4] (fun iv wr => ∃ (k : Nat) (ga : Option Addr) (gc : Nat) (X : List XObj), iv = .int .i64 ((k : Int) + 1) ∧ k ≤ M ∧ Hid (X.map (·.1) = graphL A k) ∧ Sat w0 wr (slc 39 5 ga k gc (xscells X) * (xslotsR X * (pt rb (.cells #[.slice ga k gc, .slice none 0 0, .slice none 0 0, .slice none 0 0, .int .i64 A.marks, .slice none 0 0, .bool A.touched] 51 (0, 0)) * (refR13 p A * F))))) (fun iv _ => M + 1 - (intOf iv).toNat)
  case atStart => exact ⟨0, none, 0, [], rfl, by omega, Lib.hid rfl, (by first | exact H1.out | exact H1.out.drew : Sat w0 _ _).nilSlc.cast (by rw [xslotsR, one_mul]; rfl)⟩
  case round =>
    obtain ⟨k, ga, gc, X, rfl, hk, HX, hs⟩ := hrel
    obtain ⟨oa0, oc0, c0⟩ := HC.out _ _ hs.p4
    by_cases hlt : k < M
    · have g0 : wr.cell? ⟨rb, 0, none⟩ = some (.slice ga k gc) := Sat.cell (T := 51) (cs := #[.slice ga k gc, .slice none 0 0, .slice none 0 0, .slice none 0 0, .int .i64 A.marks, .slice none 0 0, .bool A.touched]) hs.p3 0 rfl
      have hlt2 : (k : Int) + 1 ≤ (M : Int) := by omega
      generalize hob : A.obj ((k : Int) + 1) = ob at *
      have HO2 := Lib.hid (HO.out wr.drew _ hs.drew.p4 k ob hob)
      go_wp2_with fail
      go_region_law (first
        | (refine step_of rfl (wp_pushObj _ _ rfl ga k gc X (by simp [Act.eval, Act.put]) h7.p4 w2.heap.size 1 (ob, oa, oc) (by simp [Act.eval, Act.put]) (five_cells h7) (by omega) ?_); intro a' c' w4 h9; have f4 : w4.frozen? ⟨rb, 0, none⟩ = false := Sat.free (T := 51) (cs := #[.slice ga k gc, .slice none 0 0, .slice none 0 0, .slice none 0 0, .int .i64 A.marks, .slice none 0 0, .bool A.touched]) h9.p6 0; have q4 : w4.cell? ⟨rb, 0, none⟩ = some (.slice ga k gc) := Sat.cell (T := 51) (cs := #[.slice ga k gc, .slice none 0 0, .slice none 0 0, .slice none 0 0, .int .i64 A.marks, .slice none 0 0, .bool A.touched]) h9.p6 0 rfl)
        | (refine step_of rfl ?_; go_simp; go_at_call 57; refine HO2.out.mono ?_; rintro e w2 ⟨oa, oc, rfl, h6⟩; have g2 : w2.cell? ⟨rb, 0, none⟩ = some (.slice ga k gc) := Sat.cell (T := 51) (cs := #[.slice ga k gc, .slice none 0 0, .slice none 0 0, .slice none 0 0, .int .i64 A.marks, .slice none 0 0, .bool A.touched]) h6.p5 0 rfl; have h7 := h6.alloc (.cells (xcells (ob, oa, oc)).toArray 39); have g2a : (w2.alloc (.cells (xcells (ob, oa, oc)).toArray 39)).cell? ⟨rb, 0, none⟩ = some (.slice ga k gc) := Sat.cell (T := 51) (cs := #[.slice ga k gc, .slice none 0 0, .slice none 0 0, .slice none 0 0, .int .i64 A.marks, .slice none 0 0, .bool A.touched]) h7.p6 0 rfl; simp only [xcells] at g2a))
      all_goals
        have h10 := Sat.store (T := 51) (cs := #[.slice ga k gc, .slice none 0 0, .slice none 0 0, .slice none 0 0, .int .i64 A.marks, .slice none 0 0, .bool A.touched]) h9.p6 (i := 0) (.slice a' (k + 1) c')
        have HXX : Hid ((X ++ [(ob, oa, oc)]).map (·.1) = graphL A (k + 1)) := Lib.hid (by rw [List.map_append, HX.out, HGR.out, hob]; rfl)
        go_wp2_with fail
        go_roundw
        case rel =>
          refine ⟨k + 1, a', c', X ++ [(ob, oa, oc)], by go_num, by omega, HXX, ?_⟩
          rw [show xslotsR (X ++ [(ob, oa, oc)]) = slc 28 2 oa ob.slots.length oc (avcells ob.slots) * xslotsR X by rw [xslotsR_split X [] (ob, oa, oc), List.append_nil]]
          exact (h10.p3.drop).cast (by show row _ _ _ * _ = _; unfold row; simp only [List.setIfInBounds_toArray, List.set_cons_zero]; ac_rfl)
        case measure => simp [intOf]; omega
    · obtain rfl : k = M := by omega
      obtain ⟨X', oa, oc, qa, qc, ba, bc, fa, fc, sa, sc, op⟩ := hs.p4.openR
      obtain ⟨RST, hRST⟩ : ∃ R : HP, R = slc 39 5 oa A.T.length oc (xscells X') * (xslotsR X' * (slc 39 5 ga k gc (xscells X) * (xslotsR X * F))) := ⟨_, rfl⟩
      have hx' := Lib.hid op.hx
      have h0 : Sat w0 wr (pt rb (.cells #[.slice ga k gc, .slice none 0 0, .slice none 0 0, .slice none 0 0, .int .i64 A.marks, .slice none 0 0, .bool A.touched] 51 (0, 0)) * (row p 51 (rcellsH A oa oc qa qc ba bc fa fc sa sc) * (slc 3 1 qa A.queue.length qc (A.queue.map ival) * (slc 3 1 ba A.buf.length bc (A.buf.map ival) * (slc 176 2 fa A.fins.length fc (finCells A.fins) * (slc 3 1 sa A.watch.length sc (A.watch.map ival) * RST)))))) := op.hs.cast (by unfold rrest; rw [hRST]; ac_rfl)
      have hql := HH.out.ql
      have hbl := HH.out.bl
      have hfl := HH.out.fl
      have HRST := Lib.hid hRST
      have hlt2 : ¬ ((k : Int) + 1 ≤ (k : Int)) := by omega
      clear op hs hRST HC HO
      obtain ⟨RX0, hR0⟩ : ∃ R : HP, R = slc 3 1 ba A.buf.length bc (A.buf.map ival) * (slc 176 2 fa A.fins.length fc (finCells A.fins) * (slc 3 1 sa A.watch.length sc (A.watch.map ival) * (RST))) := ⟨_, rfl⟩
      have H0 := Lib.hid (show Sat w0 _ (pt rb (.cells #[.slice ga k gc, .slice none 0 0, .slice none 0 0, .slice none 0 0, .int .i64 A.marks, .slice none 0 0, .bool A.touched] 51 (0, 0)) * (row p 51 (rcellsH A oa oc qa qc ba bc fa fc sa sc) * (slc 3 1 qa A.queue.length qc (A.queue.map ival) * RX0))) from h0.cast (by rw [hR0] <;> ac_rfl))
      have HR0 := Lib.hid hR0
      clear h0 hR0
      go_wp2_with fail
      clear c0
      refine wp_gen fun a0 ha => ?_
      have hb0 : base a0 0 = .pointer (some ⟨p, 0, none⟩) := by rw [ha]; rfl
      have hb3 : base a0 3 = .pointer (some ⟨rb, 0, none⟩) := by rw [ha]; rfl
      have hsz0 : a0.tmps.size = 85 := by rw [ha]; rfl
      have HA0 := Lib.hid (And.intro hsz0 ha)
      clear ha hsz0
      refine GW.start (X := Option Addr × Nat) (w0 := w0) (B := [pt rb (.cells #[.slice ga k gc, .slice none 0 0, .slice none 0 0, .slice none 0 0, .int .i64 A.marks, .slice none 0 0, .bool A.touched] 51 (0, 0)), row p 51 (rcellsH A oa oc qa qc ba bc fa fc sa sc), slc 3 1 qa A.queue.length qc (A.queue.map ival), RX0]) (a0 := a0) ?_
      refine GW.det (d := (some 36)) [] [] rfl (fun e => by rfl) ?_; apply Exists.intro; refine ⟨fun e w' F hs => ?_, ?_, ?_⟩
      · first | (go_simp; done) | (go_simp; rfl)
      · exact (fun _ _ _ => rfl)
      refine GW.det (d := (some 37)) [] [] rfl (fun e => by rfl) ?_; apply Exists.intro; refine ⟨fun e w' F hs => ?_, ?_, ?_⟩
      · first | (go_simp; done) | (go_simp; rfl)
      · exact (fun _ _ _ => rfl)
      refine GW.det (d := (some 38)) [] [] rfl (fun e => by rfl) ?_; apply Exists.intro; refine ⟨fun e w' F hs => ?_, ?_, ?_⟩
      · first | (go_simp; done) | (go_simp; rfl)
      · exact (fun _ _ _ => rfl)
      refine GW.det (d := (some 39)) [] [] rfl (fun e => by rfl) ?_; apply Exists.intro; refine ⟨fun e w' F hs => ?_, ?_, ?_⟩
      · first | (go_simp; done) | (go_simp; rfl)
      · exact (fun _ _ _ => rfl)
      refine GW.det (d := (some 40)) [0] [] rfl (fun e => by rfl) ?_; apply Exists.intro; refine ⟨fun e w' F hs => ?_, ?_, ?_⟩
      · have y0 : w'.cell? ⟨rb, 1, none⟩ = some (.slice none 0 0) := Sat.cell (T := 51) (cs := #[.slice ga k gc, .slice none 0 0, .slice none 0 0, .slice none 0 0, .int .i64 A.marks, .slice none 0 0, .bool A.touched]) (show Sat w0 w' (pt rb (.cells #[.slice ga k gc, .slice none 0 0, .slice none 0 0, .slice none 0 0, .int .i64 A.marks, .slice none 0 0, .bool A.touched] 51 (0, 0)) * F) from hs) 1 rfl; first | (go_simp; done) | (go_simp; rfl)
      · exact (fun _ _ _ => rfl)
      refine GW.det (d := (some 41)) [] [] rfl (fun e => by rfl) ?_; apply Exists.intro; refine ⟨fun e w' F hs => ?_, ?_, ?_⟩
      · first | (go_simp; done) | (go_simp; rfl)
      · exact (fun _ _ _ => rfl)
      refine GW.det (d := (some 42)) [] [] rfl (fun e => by rfl) ?_; apply Exists.intro; refine ⟨fun e w' F hs => ?_, ?_, ?_⟩
      · first | (go_simp; done) | (go_simp; rfl)
      · exact (fun _ _ _ => rfl)
      refine GW.det (d := (some 43)) [] [] rfl (fun e => by rfl) ?_; apply Exists.intro; refine ⟨fun e w' F hs => ?_, ?_, ?_⟩
      · first | (go_simp; done) | (go_simp; rfl)
      · exact (fun _ _ _ => rfl)
      refine GW.det (d := (some 44)) [1] [] rfl (fun e => by rfl) ?_; apply Exists.intro; refine ⟨fun e w' F hs => ?_, ?_, ?_⟩
      · have y0 : w'.cell? ⟨p, 1, none⟩ = some (.slice qa A.queue.length qc) := (show Sat w0 w' (row p 51 (rcellsH A oa oc qa qc ba bc fa fc sa sc) * F) from hs).cell 1 rfl; first | (go_simp; done) | (go_simp; rfl)
      · exact (fun _ _ _ => rfl)
      refine GW.new (d := (some 45)) 9 (fun x => .slice x.1 A.queue.length x.2) (fun x => slc 3 1 x.1 A.queue.length x.2 (A.queue.map ival)) [2] rfl rfl (fun e => by rfl) (fun e w' F K hs hK => ?_) ?_
      · have hs := show Sat w0 w' (slc 3 1 qa A.queue.length qc (A.queue.map ival) * F) from hs; have hsr := hs.slcSrc; refine wp_look (d := 45) (sz := 85) rfl HA0.out.1 (by decide) (by rfl) fun a1' ha1 => ?_; refine wp_catInt _ _ rfl none 0 0 [] ((ha1 _).trans rfl) hs.nilSlc qa A.queue.length qc A.queue ((ha1 _).trans rfl) rfl hsr (by omega) fun a' c'' w2 h2 => ⟨rfl, _, rfl, ?_⟩; rw [Nat.zero_add] at h2 ⊢; exact hK (a', c'') _ (h2.cast (by rw [List.nil_append]; exact mul_left_comm _ _ _))
      refine GW.det (d := (some 46)) [] [] rfl (fun e => by rfl) ?_; apply Exists.intro; refine ⟨fun e w' F hs => ?_, ?_, ?_⟩
      · first | (go_simp; done) | (go_simp; rfl)
      · exact (fun _ _ _ => rfl)
      refine GW.det (d := (some 47)) [] [] rfl (fun e => by rfl) ?_; apply Exists.intro; refine ⟨fun e w' F hs => ?_, ?_, ?_⟩
      · first | (go_simp; done) | (go_simp; rfl)
      · exact (fun _ _ _ => rfl)
      refine GW.take (d := none) 12 (fun e => undef) (fun e => pt rb (.cells #[.slice ga k gc, .slice (e 9).1 A.queue.length (e 9).2, .slice none 0 0, .slice none 0 0, .int .i64 A.marks, .slice none 0 0, .bool A.touched] 51 (0, 0))) [] [0] [0, 9] rfl rfl (fun e => by rfl) (fun e e' hl => by simp only [hl 0 (by decide), hl 9 (by decide)]; exact ⟨trivial, trivial⟩) (fun e w' F K hs hK => ?_) ?_
      · have hs := show Sat w0 w' (row rb 51 #[.slice ga k gc, .slice none 0 0, .slice none 0 0, .slice none 0 0, .int .i64 A.marks, .slice none 0 0, .bool A.touched] * F) from one_out hs; have z0 : w'.cell? ⟨rb, 1, none⟩ = some (.slice none 0 0) := hs.cell 1 rfl; have z1 := hs.free 1; go_simp; exact hK default _ (one_in (hs.store (i := 1) (.slice (e 9).1 A.queue.length (e 9).2)))
      refine GW.done (sz := 85) [4 + 12, 4 + 9, 1, 2, 3] (by kernel_rfl) (by kernel_rfl) HA0.out.1 (by rfl) H0.out (by rfl) fun e w1 gg => ?_
      have ha := HA0.out.2
      subst ha
      clear HA0 H0 hb0 hb3
      simp only [putL, Act.put, List.setIfInBounds_toArray, List.set_cons_zero, List.set_cons_succ]
      replace gg : Sat w0 w1 (pt rb (.cells #[.slice ga k gc, .slice (e 9).1 A.queue.length (e 9).2, .slice none 0 0, .slice none 0 0, .int .i64 A.marks, .slice none 0 0, .bool A.touched] 51 (0, 0)) * (slc 3 1 (e 9).1 A.queue.length (e 9).2 (A.queue.map ival) * (row p 51 (rcellsH A oa oc qa qc ba bc fa fc sa sc) * (slc 3 1 qa A.queue.length qc (A.queue.map ival) * RX0)))) := gg
      generalize e 9 = y at *
      obtain ⟨a1, c1⟩ := y
      dsimp only at gg ⊢
      obtain ⟨RS1, hS1⟩ : ∃ R : HP, R = slc 3 1 a1 A.queue.length c1 (A.queue.map ival) * RST := ⟨_, rfl⟩
      have h0 : Sat w0 w1 (pt rb (.cells #[.slice ga k gc, .slice a1 A.queue.length c1, .slice none 0 0, .slice none 0 0, .int .i64 A.marks, .slice none 0 0, .bool A.touched] 51 (0, 0)) * (row p 51 (rcellsH A oa oc qa qc ba bc fa fc sa sc) * (slc 3 1 qa A.queue.length qc (A.queue.map ival) * (slc 3 1 ba A.buf.length bc (A.buf.map ival) * (slc 176 2 fa A.fins.length fc (finCells A.fins) * (slc 3 1 sa A.watch.length sc (A.watch.map ival) * RS1)))))) := gg.cast (by rw [HR0.out, hS1] <;> ac_rfl)
      have HS1 := Lib.hid hS1
      clear gg hS1 HR0
      obtain ⟨RX1, hR1⟩ : ∃ R : HP, R = slc 3 1 qa A.queue.length qc (A.queue.map ival) * (slc 176 2 fa A.fins.length fc (finCells A.fins) * (slc 3 1 sa A.watch.length sc (A.watch.map ival) * (RS1))) := ⟨_, rfl⟩
      have H0 := Lib.hid (show Sat w0 _ (pt rb (.cells #[.slice ga k gc, .slice a1 A.queue.length c1, .slice none 0 0, .slice none 0 0, .int .i64 A.marks, .slice none 0 0, .bool A.touched] 51 (0, 0)) * (row p 51 (rcellsH A oa oc qa qc ba bc fa fc sa sc) * (slc 3 1 ba A.buf.length bc (A.buf.map ival) * RX1))) from h0.cast (by rw [hR1] <;> ac_rfl))
      have HR1 := Lib.hid hR1
      clear h0 hR1
      go_wp2_with fail
      refine wp_gen fun a0 ha => ?_
      have hb0 : base a0 0 = .pointer (some ⟨p, 0, none⟩) := by rw [ha]; rfl
      have hb3 : base a0 3 = .pointer (some ⟨rb, 0, none⟩) := by rw [ha]; rfl
      have hsz0 : a0.tmps.size = 85 := by rw [ha]; rfl
      have HA0 := Lib.hid (And.intro hsz0 ha)
      clear ha hsz0
      refine GW.start (X := Option Addr × Nat) (w0 := w0) (B := [pt rb (.cells #[.slice ga k gc, .slice a1 A.queue.length c1, .slice none 0 0, .slice none 0 0, .int .i64 A.marks, .slice none 0 0, .bool A.touched] 51 (0, 0)), row p 51 (rcellsH A oa oc qa qc ba bc fa fc sa sc), slc 3 1 ba A.buf.length bc (A.buf.map ival), RX1]) (a0 := a0) ?_
      refine GW.det (d := (some 48)) [] [] rfl (fun e => by rfl) ?_; apply Exists.intro; refine ⟨fun e w' F hs => ?_, ?_, ?_⟩
      · first | (go_simp; done) | (go_simp; rfl)
      · exact (fun _ _ _ => rfl)
      refine GW.det (d := (some 49)) [] [] rfl (fun e => by rfl) ?_; apply Exists.intro; refine ⟨fun e w' F hs => ?_, ?_, ?_⟩
      · first | (go_simp; done) | (go_simp; rfl)
      · exact (fun _ _ _ => rfl)
      refine GW.det (d := (some 50)) [] [] rfl (fun e => by rfl) ?_; apply Exists.intro; refine ⟨fun e w' F hs => ?_, ?_, ?_⟩
      · first | (go_simp; done) | (go_simp; rfl)
      · exact (fun _ _ _ => rfl)
      refine GW.det (d := (some 51)) [] [] rfl (fun e => by rfl) ?_; apply Exists.intro; refine ⟨fun e w' F hs => ?_, ?_, ?_⟩
      · first | (go_simp; done) | (go_simp; rfl)
      · exact (fun _ _ _ => rfl)
      refine GW.det (d := (some 52)) [0] [] rfl (fun e => by rfl) ?_; apply Exists.intro; refine ⟨fun e w' F hs => ?_, ?_, ?_⟩
      · have y0 : w'.cell? ⟨rb, 2, none⟩ = some (.slice none 0 0) := Sat.cell (T := 51) (cs := #[.slice ga k gc, .slice a1 A.queue.length c1, .slice none 0 0, .slice none 0 0, .int .i64 A.marks, .slice none 0 0, .bool A.touched]) (show Sat w0 w' (pt rb (.cells #[.slice ga k gc, .slice a1 A.queue.length c1, .slice none 0 0, .slice none 0 0, .int .i64 A.marks, .slice none 0 0, .bool A.touched] 51 (0, 0)) * F) from hs) 2 rfl; first | (go_simp; done) | (go_simp; rfl)
      · exact (fun _ _ _ => rfl)
      refine GW.det (d := (some 53)) [] [] rfl (fun e => by rfl) ?_; apply Exists.intro; refine ⟨fun e w' F hs => ?_, ?_, ?_⟩
      · first | (go_simp; done) | (go_simp; rfl)
      · exact (fun _ _ _ => rfl)
      refine GW.det (d := (some 54)) [] [] rfl (fun e => by rfl) ?_; apply Exists.intro; refine ⟨fun e w' F hs => ?_, ?_, ?_⟩
      · first | (go_simp; done) | (go_simp; rfl)
      · exact (fun _ _ _ => rfl)
      refine GW.det (d := (some 55)) [] [] rfl (fun e => by rfl) ?_; apply Exists.intro; refine ⟨fun e w' F hs => ?_, ?_, ?_⟩
      · first | (go_simp; done) | (go_simp; rfl)
      · exact (fun _ _ _ => rfl)
      refine GW.det (d := (some 56)) [1] [] rfl (fun e => by rfl) ?_; apply Exists.intro; refine ⟨fun e w' F hs => ?_, ?_, ?_⟩
      · have y0 : w'.cell? ⟨p, 2, none⟩ = some (.slice ba A.buf.length bc) := (show Sat w0 w' (row p 51 (rcellsH A oa oc qa qc ba bc fa fc sa sc) * F) from hs).cell 2 rfl; first | (go_simp; done) | (go_simp; rfl)
      · exact (fun _ _ _ => rfl)
      refine GW.new (d := (some 57)) 9 (fun x => .slice x.1 A.buf.length x.2) (fun x => slc 3 1 x.1 A.buf.length x.2 (A.buf.map ival)) [2] rfl rfl (fun e => by rfl) (fun e w' F K hs hK => ?_) ?_
      · have hs := show Sat w0 w' (slc 3 1 ba A.buf.length bc (A.buf.map ival) * F) from hs; have hsr := hs.slcSrc; refine wp_look (d := 57) (sz := 85) rfl HA0.out.1 (by decide) (by rfl) fun a1' ha1 => ?_; refine wp_catInt _ _ rfl none 0 0 [] ((ha1 _).trans rfl) hs.nilSlc ba A.buf.length bc A.buf ((ha1 _).trans rfl) rfl hsr (by omega) fun a' c'' w2 h2 => ⟨rfl, _, rfl, ?_⟩; rw [Nat.zero_add] at h2 ⊢; exact hK (a', c'') _ (h2.cast (by rw [List.nil_append]; exact mul_left_comm _ _ _))
      refine GW.det (d := (some 58)) [] [] rfl (fun e => by rfl) ?_; apply Exists.intro; refine ⟨fun e w' F hs => ?_, ?_, ?_⟩
      · first | (go_simp; done) | (go_simp; rfl)
      · exact (fun _ _ _ => rfl)
      refine GW.det (d := (some 59)) [] [] rfl (fun e => by rfl) ?_; apply Exists.intro; refine ⟨fun e w' F hs => ?_, ?_, ?_⟩
      · first | (go_simp; done) | (go_simp; rfl)
      · exact (fun _ _ _ => rfl)
      refine GW.take (d := none) 12 (fun e => undef) (fun e => pt rb (.cells #[.slice ga k gc, .slice a1 A.queue.length c1, .slice (e 9).1 A.buf.length (e 9).2, .slice none 0 0, .int .i64 A.marks, .slice none 0 0, .bool A.touched] 51 (0, 0))) [] [0] [0, 9] rfl rfl (fun e => by rfl) (fun e e' hl => by simp only [hl 0 (by decide), hl 9 (by decide)]; exact ⟨trivial, trivial⟩) (fun e w' F K hs hK => ?_) ?_
      · have hs := show Sat w0 w' (row rb 51 #[.slice ga k gc, .slice a1 A.queue.length c1, .slice none 0 0, .slice none 0 0, .int .i64 A.marks, .slice none 0 0, .bool A.touched] * F) from one_out hs; have z0 : w'.cell? ⟨rb, 2, none⟩ = some (.slice none 0 0) := hs.cell 2 rfl; have z1 := hs.free 2; go_simp; exact hK default _ (one_in (hs.store (i := 2) (.slice (e 9).1 A.buf.length (e 9).2)))
      refine GW.done (sz := 85) [4 + 12, 4 + 9, 1, 2, 3] (by kernel_rfl) (by kernel_rfl) HA0.out.1 (by rfl) H0.out (by rfl) fun e w2 gg => ?_
      have ha := HA0.out.2
      subst ha
      clear HA0 H0 hb0 hb3
      simp only [putL, Act.put, List.setIfInBounds_toArray, List.set_cons_zero, List.set_cons_succ]
      replace gg : Sat w0 w2 (pt rb (.cells #[.slice ga k gc, .slice a1 A.queue.length c1, .slice (e 9).1 A.buf.length (e 9).2, .slice none 0 0, .int .i64 A.marks, .slice none 0 0, .bool A.touched] 51 (0, 0)) * (slc 3 1 (e 9).1 A.buf.length (e 9).2 (A.buf.map ival) * (row p 51 (rcellsH A oa oc qa qc ba bc fa fc sa sc) * (slc 3 1 ba A.buf.length bc (A.buf.map ival) * RX1)))) := gg
      generalize e 9 = y at *
      obtain ⟨a2, c2⟩ := y
      dsimp only at gg ⊢
      obtain ⟨RS2, hS2⟩ : ∃ R : HP, R = slc 3 1 a2 A.buf.length c2 (A.buf.map ival) * RS1 := ⟨_, rfl⟩
      have h0 : Sat w0 w2 (pt rb (.cells #[.slice ga k gc, .slice a1 A.queue.length c1, .slice a2 A.buf.length c2, .slice none 0 0, .int .i64 A.marks, .slice none 0 0, .bool A.touched] 51 (0, 0)) * (row p 51 (rcellsH A oa oc qa qc ba bc fa fc sa sc) * (slc 3 1 qa A.queue.length qc (A.queue.map ival) * (slc 3 1 ba A.buf.length bc (A.buf.map ival) * (slc 176 2 fa A.fins.length fc (finCells A.fins) * (slc 3 1 sa A.watch.length sc (A.watch.map ival) * RS2)))))) := gg.cast (by rw [HR1.out, hS2] <;> ac_rfl)
      have HS2 := Lib.hid hS2
      clear gg hS2 HR1
      obtain ⟨RX2, hR2⟩ : ∃ R : HP, R = slc 3 1 qa A.queue.length qc (A.queue.map ival) * (slc 3 1 ba A.buf.length bc (A.buf.map ival) * (slc 3 1 sa A.watch.length sc (A.watch.map ival) * (RS2))) := ⟨_, rfl⟩
      have H0 := Lib.hid (show Sat w0 _ (pt rb (.cells #[.slice ga k gc, .slice a1 A.queue.length c1, .slice a2 A.buf.length c2, .slice none 0 0, .int .i64 A.marks, .slice none 0 0, .bool A.touched] 51 (0, 0)) * (row p 51 (rcellsH A oa oc qa qc ba bc fa fc sa sc) * (slc 176 2 fa A.fins.length fc (finCells A.fins) * RX2))) from h0.cast (by rw [hR2] <;> ac_rfl))
      have HR2 := Lib.hid hR2
      clear h0 hR2
      go_wp2_with fail
      refine wp_gen fun a0 ha => ?_
      have hb0 : base a0 0 = .pointer (some ⟨p, 0, none⟩) := by rw [ha]; rfl
      have hb3 : base a0 3 = .pointer (some ⟨rb, 0, none⟩) := by rw [ha]; rfl
      have hsz0 : a0.tmps.size = 85 := by rw [ha]; rfl
      have HA0 := Lib.hid (And.intro hsz0 ha)
      clear ha hsz0
      refine GW.start (X := Option Addr × Nat) (w0 := w0) (B := [pt rb (.cells #[.slice ga k gc, .slice a1 A.queue.length c1, .slice a2 A.buf.length c2, .slice none 0 0, .int .i64 A.marks, .slice none 0 0, .bool A.touched] 51 (0, 0)), row p 51 (rcellsH A oa oc qa qc ba bc fa fc sa sc), slc 176 2 fa A.fins.length fc (finCells A.fins), RX2]) (a0 := a0) ?_
      refine GW.det (d := (some 60)) [] [] rfl (fun e => by rfl) ?_; apply Exists.intro; refine ⟨fun e w' F hs => ?_, ?_, ?_⟩
      · first | (go_simp; done) | (go_simp; rfl)
      · exact (fun _ _ _ => rfl)
      refine GW.det (d := (some 61)) [] [] rfl (fun e => by rfl) ?_; apply Exists.intro; refine ⟨fun e w' F hs => ?_, ?_, ?_⟩
      · first | (go_simp; done) | (go_simp; rfl)
      · exact (fun _ _ _ => rfl)
      refine GW.det (d := (some 62)) [] [] rfl (fun e => by rfl) ?_; apply Exists.intro; refine ⟨fun e w' F hs => ?_, ?_, ?_⟩
      · first | (go_simp; done) | (go_simp; rfl)
      · exact (fun _ _ _ => rfl)
      refine GW.det (d := (some 63)) [] [] rfl (fun e => by rfl) ?_; apply Exists.intro; refine ⟨fun e w' F hs => ?_, ?_, ?_⟩
      · first | (go_simp; done) | (go_simp; rfl)
      · exact (fun _ _ _ => rfl)
      refine GW.det (d := (some 64)) [0] [] rfl (fun e => by rfl) ?_; apply Exists.intro; refine ⟨fun e w' F hs => ?_, ?_, ?_⟩
      · have y0 : w'.cell? ⟨rb, 3, none⟩ = some (.slice none 0 0) := Sat.cell (T := 51) (cs := #[.slice ga k gc, .slice a1 A.queue.length c1, .slice a2 A.buf.length c2, .slice none 0 0, .int .i64 A.marks, .slice none 0 0, .bool A.touched]) (show Sat w0 w' (pt rb (.cells #[.slice ga k gc, .slice a1 A.queue.length c1, .slice a2 A.buf.length c2, .slice none 0 0, .int .i64 A.marks, .slice none 0 0, .bool A.touched] 51 (0, 0)) * F) from hs) 3 rfl; first | (go_simp; done) | (go_simp; rfl)
      · exact (fun _ _ _ => rfl)
      refine GW.det (d := (some 65)) [] [] rfl (fun e => by rfl) ?_; apply Exists.intro; refine ⟨fun e w' F hs => ?_, ?_, ?_⟩
      · first | (go_simp; done) | (go_simp; rfl)
      · exact (fun _ _ _ => rfl)
      refine GW.det (d := (some 66)) [] [] rfl (fun e => by rfl) ?_; apply Exists.intro; refine ⟨fun e w' F hs => ?_, ?_, ?_⟩
      · first | (go_simp; done) | (go_simp; rfl)
      · exact (fun _ _ _ => rfl)
      refine GW.det (d := (some 67)) [] [] rfl (fun e => by rfl) ?_; apply Exists.intro; refine ⟨fun e w' F hs => ?_, ?_, ?_⟩
      · first | (go_simp; done) | (go_simp; rfl)
      · exact (fun _ _ _ => rfl)
      refine GW.det (d := (some 68)) [1] [] rfl (fun e => by rfl) ?_; apply Exists.intro; refine ⟨fun e w' F hs => ?_, ?_, ?_⟩
      · have y0 : w'.cell? ⟨p, 3, none⟩ = some (.slice fa A.fins.length fc) := (show Sat w0 w' (row p 51 (rcellsH A oa oc qa qc ba bc fa fc sa sc) * F) from hs).cell 3 rfl; first | (go_simp; done) | (go_simp; rfl)
      · exact (fun _ _ _ => rfl)
      refine GW.new (d := (some 69)) 9 (fun x => .slice x.1 A.fins.length x.2) (fun x => slc 176 2 x.1 A.fins.length x.2 (finCells A.fins)) [2] rfl rfl (fun e => by rfl) (fun e w' F K hs hK => ?_) ?_
      · have hs := show Sat w0 w' (slc 176 2 fa A.fins.length fc (finCells A.fins) * F) from hs; have hsr := hs.slcSrc; refine wp_look (d := 69) (sz := 85) rfl HA0.out.1 (by decide) (by rfl) fun a1' ha1 => ?_; refine wp_catFin _ _ rfl none 0 0 [] ((ha1 _).trans rfl) hs.nilSlc fa A.fins.length fc A.fins ((ha1 _).trans rfl) rfl hsr (by omega) fun a' c'' w2 h2 => ⟨rfl, _, rfl, ?_⟩; rw [Nat.zero_add] at h2 ⊢; exact hK (a', c'') _ (h2.cast (by rw [List.nil_append]; exact mul_left_comm _ _ _))
      refine GW.det (d := (some 70)) [] [] rfl (fun e => by rfl) ?_; apply Exists.intro; refine ⟨fun e w' F hs => ?_, ?_, ?_⟩
      · first | (go_simp; done) | (go_simp; rfl)
      · exact (fun _ _ _ => rfl)
      refine GW.det (d := (some 71)) [] [] rfl (fun e => by rfl) ?_; apply Exists.intro; refine ⟨fun e w' F hs => ?_, ?_, ?_⟩
      · first | (go_simp; done) | (go_simp; rfl)
      · exact (fun _ _ _ => rfl)
      refine GW.take (d := none) 12 (fun e => undef) (fun e => pt rb (.cells #[.slice ga k gc, .slice a1 A.queue.length c1, .slice a2 A.buf.length c2, .slice (e 9).1 A.fins.length (e 9).2, .int .i64 A.marks, .slice none 0 0, .bool A.touched] 51 (0, 0))) [] [0] [0, 9] rfl rfl (fun e => by rfl) (fun e e' hl => by simp only [hl 0 (by decide), hl 9 (by decide)]; exact ⟨trivial, trivial⟩) (fun e w' F K hs hK => ?_) ?_
      · have hs := show Sat w0 w' (row rb 51 #[.slice ga k gc, .slice a1 A.queue.length c1, .slice a2 A.buf.length c2, .slice none 0 0, .int .i64 A.marks, .slice none 0 0, .bool A.touched] * F) from one_out hs; have z0 : w'.cell? ⟨rb, 3, none⟩ = some (.slice none 0 0) := hs.cell 3 rfl; have z1 := hs.free 3; go_simp; exact hK default _ (one_in (hs.store (i := 3) (.slice (e 9).1 A.fins.length (e 9).2)))
      refine GW.done (sz := 85) [4 + 12, 4 + 9, 1, 2, 3] (by kernel_rfl) (by kernel_rfl) HA0.out.1 (by rfl) H0.out (by rfl) fun e w3 gg => ?_
      have ha := HA0.out.2
      subst ha
      clear HA0 H0 hb0 hb3
      simp only [putL, Act.put, List.setIfInBounds_toArray, List.set_cons_zero, List.set_cons_succ]
      replace gg : Sat w0 w3 (pt rb (.cells #[.slice ga k gc, .slice a1 A.queue.length c1, .slice a2 A.buf.length c2, .slice (e 9).1 A.fins.length (e 9).2, .int .i64 A.marks, .slice none 0 0, .bool A.touched] 51 (0, 0)) * (slc 176 2 (e 9).1 A.fins.length (e 9).2 (finCells A.fins) * (row p 51 (rcellsH A oa oc qa qc ba bc fa fc sa sc) * (slc 176 2 fa A.fins.length fc (finCells A.fins) * RX2)))) := gg
      generalize e 9 = y at *
      obtain ⟨a3, c3⟩ := y
      dsimp only at gg ⊢
      obtain ⟨RS3, hS3⟩ : ∃ R : HP, R = slc 176 2 a3 A.fins.length c3 (finCells A.fins) * RS2 := ⟨_, rfl⟩
      have h0 : Sat w0 w3 (pt rb (.cells #[.slice ga k gc, .slice a1 A.queue.length c1, .slice a2 A.buf.length c2, .slice a3 A.fins.length c3, .int .i64 A.marks, .slice none 0 0, .bool A.touched] 51 (0, 0)) * (row p 51 (rcellsH A oa oc qa qc ba bc fa fc sa sc) * (slc 3 1 qa A.queue.length qc (A.queue.map ival) * (slc 3 1 ba A.buf.length bc (A.buf.map ival) * (slc 176 2 fa A.fins.length fc (finCells A.fins) * (slc 3 1 sa A.watch.length sc (A.watch.map ival) * RS3)))))) := gg.cast (by rw [HR2.out, hS3] <;> ac_rfl)
      have HS3 := Lib.hid hS3
      clear gg hS3 HR2
      obtain ⟨RX3, hR3⟩ : ∃ R : HP, R = slc 3 1 qa A.queue.length qc (A.queue.map ival) * (slc 3 1 ba A.buf.length bc (A.buf.map ival) * (slc 176 2 fa A.fins.length fc (finCells A.fins) * (RS3))) := ⟨_, rfl⟩
      have H0 := Lib.hid (show Sat w0 _ (pt rb (.cells #[.slice ga k gc, .slice a1 A.queue.length c1, .slice a2 A.buf.length c2, .slice a3 A.fins.length c3, .int .i64 A.marks, .slice none 0 0, .bool A.touched] 51 (0, 0)) * (row p 51 (rcellsH A oa oc qa qc ba bc fa fc sa sc) * (slc 3 1 sa A.watch.length sc (A.watch.map ival) * RX3))) from h0.cast (by rw [hR3] <;> ac_rfl))
      have HR3 := Lib.hid hR3
      clear h0 hR3
      go_wp2_with fail
      refine wp_gen fun a0 ha => ?_
      have hb0 : base a0 0 = .pointer (some ⟨p, 0, none⟩) := by rw [ha]; rfl
      have hb3 : base a0 3 = .pointer (some ⟨rb, 0, none⟩) := by rw [ha]; rfl
      have hsz0 : a0.tmps.size = 85 := by rw [ha]; rfl
      have HA0 := Lib.hid (And.intro hsz0 ha)
      clear ha hsz0
      refine GW.start (X := Option Addr × Nat) (w0 := w0) (B := [pt rb (.cells #[.slice ga k gc, .slice a1 A.queue.length c1, .slice a2 A.buf.length c2, .slice a3 A.fins.length c3, .int .i64 A.marks, .slice none 0 0, .bool A.touched] 51 (0, 0)), row p 51 (rcellsH A oa oc qa qc ba bc fa fc sa sc), slc 3 1 sa A.watch.length sc (A.watch.map ival), RX3]) (a0 := a0) ?_
      refine GW.det (d := (some 72)) [] [] rfl (fun e => by rfl) ?_; apply Exists.intro; refine ⟨fun e w' F hs => ?_, ?_, ?_⟩
      · first | (go_simp; done) | (go_simp; rfl)
      · exact (fun _ _ _ => rfl)
      refine GW.det (d := (some 73)) [] [] rfl (fun e => by rfl) ?_; apply Exists.intro; refine ⟨fun e w' F hs => ?_, ?_, ?_⟩
      · first | (go_simp; done) | (go_simp; rfl)
      · exact (fun _ _ _ => rfl)
      refine GW.det (d := (some 74)) [] [] rfl (fun e => by rfl) ?_; apply Exists.intro; refine ⟨fun e w' F hs => ?_, ?_, ?_⟩
      · first | (go_simp; done) | (go_simp; rfl)
      · exact (fun _ _ _ => rfl)
      refine GW.det (d := (some 75)) [] [] rfl (fun e => by rfl) ?_; apply Exists.intro; refine ⟨fun e w' F hs => ?_, ?_, ?_⟩
      · first | (go_simp; done) | (go_simp; rfl)
      · exact (fun _ _ _ => rfl)
      refine GW.det (d := (some 76)) [0] [] rfl (fun e => by rfl) ?_; apply Exists.intro; refine ⟨fun e w' F hs => ?_, ?_, ?_⟩
      · have y0 : w'.cell? ⟨rb, 5, none⟩ = some (.slice none 0 0) := Sat.cell (T := 51) (cs := #[.slice ga k gc, .slice a1 A.queue.length c1, .slice a2 A.buf.length c2, .slice a3 A.fins.length c3, .int .i64 A.marks, .slice none 0 0, .bool A.touched]) (show Sat w0 w' (pt rb (.cells #[.slice ga k gc, .slice a1 A.queue.length c1, .slice a2 A.buf.length c2, .slice a3 A.fins.length c3, .int .i64 A.marks, .slice none 0 0, .bool A.touched] 51 (0, 0)) * F) from hs) 5 rfl; first | (go_simp; done) | (go_simp; rfl)
      · exact (fun _ _ _ => rfl)
      refine GW.det (d := (some 77)) [] [] rfl (fun e => by rfl) ?_; apply Exists.intro; refine ⟨fun e w' F hs => ?_, ?_, ?_⟩
      · first | (go_simp; done) | (go_simp; rfl)
      · exact (fun _ _ _ => rfl)
      refine GW.det (d := (some 78)) [] [] rfl (fun e => by rfl) ?_; apply Exists.intro; refine ⟨fun e w' F hs => ?_, ?_, ?_⟩
      · first | (go_simp; done) | (go_simp; rfl)
      · exact (fun _ _ _ => rfl)
      refine GW.det (d := (some 79)) [] [] rfl (fun e => by rfl) ?_; apply Exists.intro; refine ⟨fun e w' F hs => ?_, ?_, ?_⟩
      · first | (go_simp; done) | (go_simp; rfl)
      · exact (fun _ _ _ => rfl)
      refine GW.det (d := (some 80)) [1] [] rfl (fun e => by rfl) ?_; apply Exists.intro; refine ⟨fun e w' F hs => ?_, ?_, ?_⟩
      · have y0 : w'.cell? ⟨p, 5, none⟩ = some (.slice sa A.watch.length sc) := (show Sat w0 w' (row p 51 (rcellsH A oa oc qa qc ba bc fa fc sa sc) * F) from hs).cell 5 rfl; first | (go_simp; done) | (go_simp; rfl)
      · exact (fun _ _ _ => rfl)
      refine GW.new (d := (some 81)) 9 (fun x => .slice x.1 A.watch.length x.2) (fun x => slc 3 1 x.1 A.watch.length x.2 (A.watch.map ival)) [2] rfl rfl (fun e => by rfl) (fun e w' F K hs hK => ?_) ?_
      · have hs := show Sat w0 w' (slc 3 1 sa A.watch.length sc (A.watch.map ival) * F) from hs; have hsr := hs.slcSrc; refine wp_look (d := 81) (sz := 85) rfl HA0.out.1 (by decide) (by rfl) fun a1' ha1 => ?_; refine wp_catInt _ _ rfl none 0 0 [] ((ha1 _).trans rfl) hs.nilSlc sa A.watch.length sc A.watch ((ha1 _).trans rfl) rfl hsr (by omega) fun a' c'' w2 h2 => ⟨rfl, _, rfl, ?_⟩; rw [Nat.zero_add] at h2 ⊢; exact hK (a', c'') _ (h2.cast (by rw [List.nil_append]; exact mul_left_comm _ _ _))
      refine GW.det (d := (some 82)) [] [] rfl (fun e => by rfl) ?_; apply Exists.intro; refine ⟨fun e w' F hs => ?_, ?_, ?_⟩
      · first | (go_simp; done) | (go_simp; rfl)
      · exact (fun _ _ _ => rfl)
      refine GW.det (d := (some 83)) [] [] rfl (fun e => by rfl) ?_; apply Exists.intro; refine ⟨fun e w' F hs => ?_, ?_, ?_⟩
      · first | (go_simp; done) | (go_simp; rfl)
      · exact (fun _ _ _ => rfl)
      refine GW.take (d := none) 12 (fun e => undef) (fun e => pt rb (.cells #[.slice ga k gc, .slice a1 A.queue.length c1, .slice a2 A.buf.length c2, .slice a3 A.fins.length c3, .int .i64 A.marks, .slice (e 9).1 A.watch.length (e 9).2, .bool A.touched] 51 (0, 0))) [] [0] [9] rfl rfl (fun e => by rfl) (fun e e' hl => by simp only [hl 9 (by decide)]; exact ⟨trivial, trivial⟩) (fun e w' F K hs hK => ?_) ?_
      · have hs := show Sat w0 w' (row rb 51 #[.slice ga k gc, .slice a1 A.queue.length c1, .slice a2 A.buf.length c2, .slice a3 A.fins.length c3, .int .i64 A.marks, .slice none 0 0, .bool A.touched] * F) from one_out hs; have z0 : w'.cell? ⟨rb, 5, none⟩ = some (.slice none 0 0) := hs.cell 5 rfl; have z1 := hs.free 5; go_simp; exact hK default _ (one_in (hs.store (i := 5) (.slice (e 9).1 A.watch.length (e 9).2)))
      refine GW.done (sz := 85) [4 + 12, 4 + 9, 1, 2, 3] (by kernel_rfl) (by kernel_rfl) HA0.out.1 (by rfl) H0.out (by rfl) fun e w4 gg => ?_
      have ha := HA0.out.2
      subst ha
      clear HA0 H0 hb0 hb3
      simp only [putL, Act.put, List.setIfInBounds_toArray, List.set_cons_zero, List.set_cons_succ]
      replace gg : Sat w0 w4 (pt rb (.cells #[.slice ga k gc, .slice a1 A.queue.length c1, .slice a2 A.buf.length c2, .slice a3 A.fins.length c3, .int .i64 A.marks, .slice (e 9).1 A.watch.length (e 9).2, .bool A.touched] 51 (0, 0)) * (slc 3 1 (e 9).1 A.watch.length (e 9).2 (A.watch.map ival) * (row p 51 (rcellsH A oa oc qa qc ba bc fa fc sa sc) * (slc 3 1 sa A.watch.length sc (A.watch.map ival) * RX3)))) := gg
      generalize e 9 = y at *
      obtain ⟨a4, c4⟩ := y
      dsimp only at gg ⊢
      obtain ⟨RS4, hS4⟩ : ∃ R : HP, R = slc 3 1 a4 A.watch.length c4 (A.watch.map ival) * RS3 := ⟨_, rfl⟩
      have h0 : Sat w0 w4 (pt rb (.cells #[.slice ga k gc, .slice a1 A.queue.length c1, .slice a2 A.buf.length c2, .slice a3 A.fins.length c3, .int .i64 A.marks, .slice a4 A.watch.length c4, .bool A.touched] 51 (0, 0)) * (row p 51 (rcellsH A oa oc qa qc ba bc fa fc sa sc) * (slc 3 1 qa A.queue.length qc (A.queue.map ival) * (slc 3 1 ba A.buf.length bc (A.buf.map ival) * (slc 176 2 fa A.fins.length fc (finCells A.fins) * (slc 3 1 sa A.watch.length sc (A.watch.map ival) * RS4)))))) := gg.cast (by rw [HR3.out, hS4] <;> ac_rfl)
      have HS4 := Lib.hid hS4
      clear gg hS4 HR3
      have HF := Lib.hid h0
      clear h0
      go_wp2_with fail
      go_ret
      refine ⟨rb, rfl, ?_⟩
      have opn : ROpen w0 _ rb A (opG p A X' oa oc qa qc ba bc fa fc sa sc F) X ga gc a1 c1 a2 c2 a3 c3 a4 c4 := ⟨by rw [hM]; exact HX.out, HF.out.cast (by unfold opG rrest rcellsH; rw [HS4.out, HS3.out, HS2.out, HS1.out, HRST.out, hM]; unfold row; ac_rfl)⟩
      exact (ROpen.shutO hx'.out opn.shut).p2
end
end Go.Proofs.Ytkpcngcegipalaa.Tw
