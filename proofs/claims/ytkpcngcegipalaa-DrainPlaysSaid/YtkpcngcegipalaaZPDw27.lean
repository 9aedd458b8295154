/- tallowref13: Fin. No condition. -/
import Derived.Test.YtkpcngcegipalaaZPDw26
import Derived.Test.YtkpcngcegipalaaZPDw21
namespace Go.Proofs.Ytkpcngcegipalaa.Tw
set_option linter.unusedVariables false
set_option linter.unusedSimpArgs false
open Go Go.RowKit Go.MapKept

section
variable {P : Program} {w0 w : World} {F : HP} {ops : Array Oper} {rest : List Oper} {o : Oper} {a : Act} {Q : Exit → Act → World → Prop} {K : Act → World → Prop}
theorem info_finR : (Try.prog.info? 176).map (fun i => (i.zero, i.size, i.bytes)) = some (some (.agg #[.int .i64 0, .int .i64 0]), 2, 16) := by kernel_rfl
theorem wp_pushFinR (s x : Operand) (hop : o.op = .call { callee := .builtin .append, args := #[s, x], argTypes := #[49, 49] })
    (sa : Option Addr) (n c : Nat) (l : List (Int × Int)) (hs : a.eval s = .slice sa n c) (h : Sat w0 w (slc 176 2 sa n c (finCells l) * F)) (bx c' : Nat) (v : Int × Int) (hx : a.eval x = .slice (some ⟨bx, 0, none⟩) 1 c') (hc0 : w.cell? ⟨bx, 0, none⟩ = some (.int .i64 v.1)) (hc1 : w.cell? ⟨bx, 1, none⟩ = some (.int .i64 v.2)) (hn : n ≤ 1000000000)
    (hK : ∀ a' c'' w', Sat w0 w' (slc 176 2 a' (n + 1) c'' (finCells (l ++ [v])) * F) → K (a.put o.dst (.slice a' (n + 1) c'')) w') : o.wp Try.prog a w K Q := by
  obtain ⟨i0, hi, hz0, hz1, hz2⟩ := info_parts info_finR
  refine wp_append s x 49 hop i0 (.agg #[.int .i64 0, .int .i64 0]) 16 Try.underlying49 hi hz0 hz1 hz2 rfl sa n c (finCells l) hs h ⟨bx, 0, none⟩ 1 c' [.int .i64 v.1, .int .i64 v.2] hx rfl (two_cells hc0 hc1) (by simp [Value.oneCell']) (by unfold maxLen; omega) (by omega) fun a' c'' w' h2 _ => ?_
  refine hK a' c'' w' ?_
  rw [finCells_append]; exact h2
end
attribute [local go_sem] lookE lkE valUpon
section
variable {w0 w : World} {p : Nat} {A : AHeap} {F : HP} {B : Int} {X : List XObj} {oa : Option Addr} {oc : Nat} {qa : Option Addr} {qc : Nat} {ba : Option Addr} {bc : Nat} {fa : Option Addr} {fc : Nat} {sa : Option Addr} {sc : Nat}
theorem upd_upd (A : AHeap) (n : Int) (o o' : AObj) : (A.upd n o).upd n o' = A.upd n o' := by
  unfold AHeap.upd
  dsimp only
  congr 1
  funext k
  by_cases e : k = n <;> simp [e]
theorem obj_upd (A : AHeap) (n : Int) (o : AObj) : (A.upd n o).obj n = o := by unfold AHeap.obj AHeap.upd; simp
set_option maxRecDepth 100000 in
set_option maxHeartbeats 2000000 in
theorem r_Fin (H : HW A B) (hB : B ≤ 1000000) (hW : A.watch.length ≤ 1000000) (h : Sat w0 w (refR13 p A * F)) (n : Int) {r : Int} (hr : A.finE n = r) :
    Calls Try.prog 109 #[.pointer (some ⟨p, 0, none⟩), .int .i64 n] w fun e w' => e = .returned (.int .i64 r) ∧ Sat w0 w' (refR13 p (A.finF n) * F) := by
  subst hr
  cases ho : A.objs n with
  | none =>
    have HC := Lib.hid (r_There H hB h n (b := false) (by rw [ho]; rfl))
    have e1 : A.finF n = A := by unfold AHeap.finF; rw [ho]
    have e2 : A.finE n = 2 := by unfold AHeap.finE finB; rw [ho]; rfl
    rw [e1, e2]
    clear e1 e2 ho H
    go_enter Try.func109, Try.ntmps109
    go_wp2_with fail
    refine HC.out.mono ?_
    rintro e w1 ⟨rfl, rfl⟩
    go_wp2_with fail
    go_ret
    exact ⟨rfl, h⟩
  | some o =>
    have HC := Lib.hid (r_There H hB h n (b := true) (by rw [ho]; rfl))
    have hrng := obj_in H (n := n) (by rw [ho]; rfl)
    have hT := H.t
    have hfl := H.fl
    have hql := H.ql
    have hcn := H.c n o ho
    obtain ⟨j, rfl⟩ : ∃ j : Nat, n = (j : Int) + 1 := ⟨(n - 1).toNat, by omega⟩
    have hobj : A.obj ((j : Int) + 1) = o := by unfold AHeap.obj; rw [ho]; rfl
    obtain ⟨X, oa, oc, qa, qc, ba, bc, fa, fc, sa, sc, op⟩ := h.openR
    obtain ⟨g, off, xa, xc, eoa, hx, d0, d1, d2, d3, d4⟩ := op.obj (k := j) (by omega)
    subst eoa
    have c0 := op.c0
    rw [hobj] at d4 hx
    have hj1 : (j : Int) + 1 - 1 = j := by omega
    have hj2 : (0 : Int) ≤ (j : Int) := by omega
    have hj3 : (j : Int) < (A.T.length : Int) := by omega
    have hj4 : IntKind.i64.wrap (j : Int) = j := IntWalk.i64_in _ (by omega)
    by_cases hmk : 1 ≤ o.mark
    · have e1 : A.finF ((j : Int) + 1) = A.fin ((j : Int) + 1) o := by unfold AHeap.finF; rw [ho]; simp [hmk]
      have e2 : A.finE ((j : Int) + 1) = 0 := by unfold AHeap.finE finB; rw [ho]; simp [hmk]
      rw [e1, e2]
      have fm : decide (o.mark < 1) = false := by simp; omega
      obtain ⟨RR, hRR⟩ : ∃ R : HP, R = xslotsR X * (slc 3 1 qa A.queue.length qc (A.queue.map ival) * (slc 3 1 ba A.buf.length bc (A.buf.map ival) * (slc 3 1 sa A.watch.length sc (A.watch.map ival) * F))) := ⟨_, rfl⟩
      have h0 : Sat w0 w (row p 51 (rcellsH A (some ⟨g, off, none⟩) oc qa qc ba bc fa fc sa sc) * (slc 39 5 (some ⟨g, off, none⟩) A.T.length oc (xscells X) * (slc 176 2 fa A.fins.length fc (finCells A.fins) * RR))) := op.hs.cast (by rw [hRR]; unfold rrest; ac_rfl)
      have HX := Lib.hid hx
      have hOX := Lib.hid op.hx
      have HRR := Lib.hid hRR
      have hfin1 : A.fins.length ≤ 1000000 := by omega
      have hqn : A.queue.length ≤ 1000000 := by omega
      have HOB := Lib.hid hobj
      clear op h H ho e1 e2 hobj hx d0 d1 d2 d3 hRR hrng
      go_enter Try.func109, Try.ntmps109
      go_wp2_with fail
      refine HC.out.mono ?_
      rintro e w1 ⟨rfl, rfl⟩
      go_wp2_with fail
      clear d4 c0
      refine wp_gen fun a0 ha => ?_
      have hb0 : base a0 0 = .pointer (some ⟨p, 0, none⟩) := by rw [ha]; rfl
      have hb1 : base a0 1 = .int .i64 ((j : Int) + 1) := by rw [ha]; rfl
      have hsz0 : a0.tmps.size = 73 := by rw [ha]; rfl
      have HA0 := Lib.hid (And.intro hsz0 ha)
      clear ha hsz0
      refine GW.start (X := Option Addr × Nat) (w0 := w0) (B := [row p 51 (rcellsH A (some ⟨g, off, none⟩) oc qa qc ba bc fa fc sa sc), slc 39 5 (some ⟨g, off, none⟩) A.T.length oc (xscells X), slc 176 2 fa A.fins.length fc (finCells A.fins), RR]) (a0 := a0) ?_
      refine GW.det (d := (some 21)) [] [] rfl (fun e => by rfl) ?_; apply Exists.intro; refine ⟨fun e w' F hs => ?_, ?_, ?_⟩
      · first | (go_simp; done) | (go_simp; rfl)
      · exact (fun _ _ _ => rfl)
      refine GW.det (d := (some 22)) [] [] rfl (fun e => by rfl) ?_; apply Exists.intro; refine ⟨fun e w' F hs => ?_, ?_, ?_⟩
      · first | (go_simp; done) | (go_simp; rfl)
      · exact (fun _ _ _ => rfl)
      refine GW.det (d := (some 23)) [] [] rfl (fun e => by rfl) ?_; apply Exists.intro; refine ⟨fun e w' F hs => ?_, ?_, ?_⟩
      · first | (go_simp; done) | (go_simp; rfl)
      · exact (fun _ _ _ => rfl)
      refine GW.det (d := (some 24)) [] [] rfl (fun e => by rfl) ?_; apply Exists.intro; refine ⟨fun e w' F hs => ?_, ?_, ?_⟩
      · first | (go_simp; done) | (go_simp; rfl)
      · exact (fun _ _ _ => rfl)
      refine GW.det (d := (some 25)) [0] [] rfl (fun e => by rfl) ?_; apply Exists.intro; refine ⟨fun e w' F hs => ?_, ?_, ?_⟩
      · have y0 : w'.cell? ⟨p, 3, none⟩ = some (.slice fa A.fins.length fc) := (show Sat w0 w' (row p 51 (rcellsH A (some ⟨g, off, none⟩) oc qa qc ba bc fa fc sa sc) * F) from hs).cell 3 rfl; first | (go_simp; done) | (go_simp; rfl)
      · exact (fun _ _ _ => rfl)
      refine GW.det (d := (some 26)) [] [] rfl (fun e => by rfl) ?_; apply Exists.intro; refine ⟨fun e w' F hs => ?_, ?_, ?_⟩
      · first | (go_simp; done) | (go_simp; rfl)
      · exact (fun _ _ _ => rfl)
      refine GW.det (d := (some 27)) [] [] rfl (fun e => by rfl) ?_; apply Exists.intro; refine ⟨fun e w' F hs => ?_, ?_, ?_⟩
      · first | (go_simp; done) | (go_simp; rfl)
      · exact (fun _ _ _ => rfl)
      refine GW.det (d := (some 28)) [] [] rfl (fun e => by rfl) ?_; apply Exists.intro; refine ⟨fun e w' F hs => ?_, ?_, ?_⟩
      · first | (go_simp; done) | (go_simp; rfl)
      · exact (fun _ _ _ => rfl)
      refine GW.det (d := (some 29)) [] [] rfl (fun e => by rfl) ?_; apply Exists.intro; refine ⟨fun e w' F hs => ?_, ?_, ?_⟩
      · first | (go_simp; done) | (go_simp; rfl)
      · exact (fun _ _ _ => rfl)
      refine GW.det (d := (some 30)) [0] [] rfl (fun e => by rfl) ?_; apply Exists.intro; refine ⟨fun e w' F hs => ?_, ?_, ?_⟩
      · have y0 : w'.cell? ⟨p, 0, none⟩ = some (.slice (some ⟨g, off, none⟩) A.T.length oc) := (show Sat w0 w' (row p 51 (rcellsH A (some ⟨g, off, none⟩) oc qa qc ba bc fa fc sa sc) * F) from hs).cell 0 rfl; first | (go_simp; done) | (go_simp; rfl)
      · exact (fun _ _ _ => rfl)
      refine GW.det (d := (some 31)) [] [] rfl (fun e => by rfl) ?_; apply Exists.intro; refine ⟨fun e w' F hs => ?_, ?_, ?_⟩
      · first | (go_simp; done) | (go_simp; rfl)
      · exact (fun _ _ _ => rfl)
      refine GW.det (d := (some 32)) [] [] rfl (fun e => by rfl) ?_; apply Exists.intro; refine ⟨fun e w' F hs => ?_, ?_, ?_⟩
      · first | (go_simp; done) | (go_simp; rfl)
      · exact (fun _ _ _ => rfl)
      refine GW.det (d := (some 33)) [] [] rfl (fun e => by rfl) ?_; apply Exists.intro; refine ⟨fun e w' F hs => ?_, ?_, ?_⟩
      · first | (go_simp; done) | (go_simp; rfl)
      · exact (fun _ _ _ => rfl)
      refine GW.det (d := (some 34)) [] [] rfl (fun e => by rfl) ?_; apply Exists.intro; refine ⟨fun e w' F hs => ?_, ?_, ?_⟩
      · first | (go_simp; done) | (go_simp; rfl)
      · exact (fun _ _ _ => rfl)
      refine GW.det (d := (some 35)) [1] [] rfl (fun e => by rfl) ?_; apply Exists.intro; refine ⟨fun e w' F hs => ?_, ?_, ?_⟩
      · obtain ⟨g', off', e', _, _, _, _, y4⟩ := objAtX (show Sat w0 w' (slc 39 5 (some ⟨g, off, none⟩) A.T.length oc (xscells X) * F) from hs) HX.out; cases e'; dsimp only at y4; first | (go_simp; done) | (go_simp; rfl)
      · exact (fun _ _ _ => rfl)
      refine GW.det (d := (some 36)) [] [] rfl (fun e => by rfl) ?_; apply Exists.intro; refine ⟨fun e w' F hs => ?_, ?_, ?_⟩
      · first | (go_simp; done) | (go_simp; rfl)
      · exact (fun _ _ _ => rfl)
      refine GW.new (d := (some 37)) 16 (fun x => .slice x.1 1 1) (fun x => lits x.1 176 [.int .i64 ((j : Int) + 1), .int .i64 o.mark]) [] rfl rfl (fun e => by rfl) (fun e w' F K hs hK => ?_) ?_
      · go_simp; exact hK (some ⟨_, 0, none⟩, 0) _ (lits_mk ((hs.alloc (.cells #[.int .i64 ((j : Int) + 1), .int .i64 o.mark] 176)).cast (mul_left_comm _ _ _)))
      refine GW.take (d := (some 38)) 17 (fun e => .slice (e 17).1 (A.fins.length + 1) (e 17).2) (fun e => slc 176 2 (e 17).1 (A.fins.length + 1) (e 17).2 (finCells (A.fins ++ [((j : Int) + 1, o.mark)]))) [] [2, 20] [17] rfl rfl (fun e => by rfl) (fun e e' hl => by simp only [hl 17 (by decide)]; exact ⟨trivial, trivial⟩) (fun e w' F K hs hK => ?_) ?_
      · obtain ⟨q, hq, hs⟩ := lits_open (show Sat w0 w' ((lits (e 16).1 176 [.int .i64 ((j : Int) + 1), .int .i64 o.mark]) * (slc 176 2 fa A.fins.length fc (finCells A.fins) * F)) from Sat.cast (show Sat w0 w' ((slc 176 2 fa A.fins.length fc (finCells A.fins) * lits (e 16).1 176 [.int .i64 ((j : Int) + 1), .int .i64 o.mark]) * F) from one_out hs) (by ac_rfl)); refine wp_look (d := 38) (sz := 73) rfl HA0.out.1 (by decide) (by rfl) fun a1 ha1 => ?_; refine wp_pushFinR _ _ rfl fa A.fins.length fc A.fins ((ha1 _).trans rfl) hs.p2 q 1 ((j : Int) + 1, o.mark) ((ha1 _).trans (by rw [← hq]; rfl)) (Sat.cell (T := 176) (cs := #[.int .i64 ((j : Int) + 1), .int .i64 o.mark]) hs 0 rfl) (Sat.cell (T := 176) (cs := #[.int .i64 ((j : Int) + 1), .int .i64 o.mark]) hs 1 rfl) (by omega) fun a' c'' w2 h2 => ⟨rfl, _, rfl, ?_⟩; exact hK (a', c'') _ (one_in (h2.drop2))
      refine GW.det (d := (some 39)) [] [] rfl (fun e => by rfl) ?_; apply Exists.intro; refine ⟨fun e w' F hs => ?_, ?_, ?_⟩
      · first | (go_simp; done) | (go_simp; rfl)
      · exact (fun _ _ _ => rfl)
      refine GW.det (d := (some 40)) [] [] rfl (fun e => by rfl) ?_; apply Exists.intro; refine ⟨fun e w' F hs => ?_, ?_, ?_⟩
      · first | (go_simp; done) | (go_simp; rfl)
      · exact (fun _ _ _ => rfl)
      refine GW.take (d := none) 20 (fun e => undef) (fun e => row p 51 ((rcellsH A (some ⟨g, off, none⟩) oc qa qc ba bc fa fc sa sc).setIfInBounds 3 (.slice (e 17).1 (A.fins.length + 1) (e 17).2))) [] [0] [17] rfl rfl (fun e => by rfl) (fun e e' hl => by simp only [hl 17 (by decide)]; exact ⟨trivial, trivial⟩) (fun e w' F K hs hK => ?_) ?_
      · have hs := show Sat w0 w' (row p 51 (rcellsH A (some ⟨g, off, none⟩) oc qa qc ba bc fa fc sa sc) * F) from one_out hs; have z0 : w'.cell? ⟨p, 3, none⟩ = some (.slice fa A.fins.length fc) := hs.cell 3 rfl; have z1 := hs.free 3; go_simp; exact hK default _ (one_in (hs.store (i := 3) (.slice (e 17).1 (A.fins.length + 1) (e 17).2)))
      refine GW.done (sz := 73) [4 + 20, 1, 4 + 17, 3] (by kernel_rfl) (by kernel_rfl) HA0.out.1 (by rfl) h0 (by rfl) fun e w2 gg => ?_
      have ha := HA0.out.2
      subst ha
      clear HA0 hb0 hb1 h0
      simp only [putL, Act.put, List.setIfInBounds_toArray, List.set_cons_zero, List.set_cons_succ]
      have h1 : Sat w0 w2 (row p 51 ((rcellsH A (some ⟨g, off, none⟩) oc qa qc ba bc fa fc sa sc).setIfInBounds 3 (.slice (e 17).1 (A.fins.length + 1) (e 17).2)) * (slc 39 5 (some ⟨g, off, none⟩) A.T.length oc (xscells X) * (slc 176 2 (e 17).1 (A.fins.length + 1) (e 17).2 (finCells (A.fins ++ [((j : Int) + 1, o.mark)])) * RR))) := gg
      clear gg
      generalize e 17 = y17 at *
      generalize e 16 = y16
      obtain ⟨fa', fc'⟩ := y17
      dsimp only at h1 ⊢
      obtain ⟨A1, hA1⟩ : ∃ A1, A1 = { A with fins := A.fins ++ [((j : Int) + 1, o.mark)] } := ⟨_, rfl⟩
      have op1 : ROpen w0 w2 p A1 F X (some ⟨g, off, none⟩) oc qa qc ba bc fa' fc' sa sc := ⟨by rw [hA1]; exact hOX.out, h1.cast (by rw [HRR.out, hA1]; unfold rrest rcellsH; dsimp only; rw [List.length_append]; ac_rfl)⟩
      have hA1o : A1.obj ((j : Int) + 1) = o := by rw [hA1]; exact HOB.out
      have hA1t : A1.T = A.T := by rw [hA1]
      have hA1q : A1.queue = A.queue := by rw [hA1]
      have hA1w : A1.watch = A.watch := by rw [hA1]
      have HA1 := Lib.hid (And.intro hA1 (And.intro hA1o (And.intro hA1t (And.intro hA1q hA1w))))
      clear h1 hA1
      obtain ⟨g', off', xa', xc', e', hx', _, d1, _, _, d4⟩ := op1.obj (k := j) (by rw [hA1t]; omega)
      cases e'
      rw [hA1o] at d1 d4 hx'
      have c0 := op1.c0
      rw [hA1t] at c0
      have f1 := op1.free rfl (k := j) (by rw [hA1t]; omega) (j := 1) (by omega)
      have hc1 : IntKind.i64.wrap (o.count + 1) = o.count + 1 := IntWalk.i64_in _ (by omega)
      have op2 := op1.setObj (f := 1) (o' := { o with count := o.count + 1 }) (v := .int .i64 (o.count + 1)) hx' (by rw [hA1t]; omega) (by omega) rfl rfl
      have hx2 : (X.set j ({ o with count := o.count + 1 }, xa', xc'))[j]? = some ({ o with count := o.count + 1 }, xa', xc') := by rw [List.getElem?_set_self]; have := (List.getElem?_eq_some_iff.1 hx').1; omega
      have op3 := op2.setObj (f := 4) (o' := { o with count := o.count + 1, mark := -1 }) (v := .int .i64 (-1)) hx2 (by show j < A1.T.length; rw [hA1t]; omega) (by omega) rfl rfl
      obtain ⟨g2, off2, _, _, e2, _, _, _, _, _, m4⟩ := op2.obj (k := j) (by show j < A1.T.length; rw [hA1t]; omega)
      cases e2
      rw [obj_upd] at m4
      dsimp only at m4
      have m4f := op2.free rfl (k := j) (by show j < A1.T.length; rw [hA1t]; omega) (j := 4) (by omega)
      have c0b : _ = some (Value.slice (some ⟨g, off, none⟩) A1.T.length oc) := op2.c0
      rw [hA1t] at c0b
      have c1c : _ = some (Value.slice qa A1.queue.length qc) := op3.c1
      rw [hA1q] at c1c
      have hq : Sat w0 _ (slc 3 1 qa A.queue.length qc (A.queue.map ival) * _) := op3.hs.cast (show _ = slc 3 1 qa A.queue.length qc (A.queue.map ival) * (row p 51 (rcellsH ((A1.upd ((j : Int) + 1) { o with count := o.count + 1 }).upd ((j : Int) + 1) { o with count := o.count + 1, mark := -1 }) (some ⟨g, off, none⟩) oc qa qc ba bc fa' fc' sa sc) * (slc 39 5 (some ⟨g, off, none⟩) A1.T.length oc (xscells ((X.set j ({ o with count := o.count + 1 }, xa', xc')).set j ({ o with count := o.count + 1, mark := -1 }, xa', xc'))) * (xslotsR ((X.set j ({ o with count := o.count + 1 }, xa', xc')).set j ({ o with count := o.count + 1, mark := -1 }, xa', xc')) * (slc 3 1 ba A1.buf.length bc (A1.buf.map ival) * (slc 176 2 fa' A1.fins.length fc' (finCells A1.fins) * (slc 3 1 sa A1.watch.length sc (A1.watch.map ival) * F)))))) by unfold rrest; rw [← hA1q]; show _ * (_ * (_ * (_ * (_ * (_ * (_ * _)))))) = _; ac_rfl)
      have HQ := Lib.hid (r_without hq rfl hqn ((j : Int) + 1))
      have hOX3 := Lib.hid op3.hx
      generalize A.queue.length = qn at *
      clear op1 op2 op3 hx' hx2 hq
      go_wp2_with fail
      refine HQ.out.mono ?_
      rintro e w5 ⟨ra, rc, rfl, h5⟩
      have k1 := (Sat.drop2 h5).p2.cell (i := 1) (v := .slice qa A1.queue.length qc) rfl
      have k1f := (Sat.drop2 h5).p2.free 1
      have h6 := (Sat.drop2 h5).p2.store (i := 1) (.slice ra (wout A.queue ((j : Int) + 1)).length rc)
      have op4 : ROpen w0 (w5.setCell ⟨p, 1, none⟩ (.slice ra (wout A.queue ((j : Int) + 1)).length rc)) p { ((A1.upd ((j : Int) + 1) { o with count := o.count + 1 }).upd ((j : Int) + 1) { o with count := o.count + 1, mark := -1 }) with queue := wout A.queue ((j : Int) + 1) } F ((X.set j ({ o with count := o.count + 1 }, xa', xc')).set j ({ o with count := o.count + 1, mark := -1 }, xa', xc')) (some ⟨g, off, none⟩) oc ra rc ba bc fa' fc' sa sc :=
        ⟨hOX3.out, h6.cast (by unfold rrest; show _ = row _ _ _ * (_ * (_ * (_ * (_ * (_ * (_ * _)))))); show row _ _ (rcellsH { ((A1.upd ((j : Int) + 1) { o with count := o.count + 1 }).upd ((j : Int) + 1) { o with count := o.count + 1, mark := -1 }) with queue := wout A.queue ((j : Int) + 1) } _ _ ra rc _ _ _ _ _ _) * _ = _; ac_rfl)⟩
      have e5 : AHeap.touch { ((A1.upd ((j : Int) + 1) { o with count := o.count + 1 }).upd ((j : Int) + 1) { o with count := o.count + 1, mark := -1 }) with queue := wout A.queue ((j : Int) + 1) } ((j : Int) + 1) = A.fin ((j : Int) + 1) o := by
        rw [upd_upd, HA1.out.1]; rfl
      have HT := Lib.hid (e5 ▸ r_touch (by show A1.watch.length ≤ _; rw [hA1w]; exact hW) op4.shut ((j : Int) + 1))
      clear op4 h6 h5 e5
      generalize (wout A.queue ((j : Int) + 1)).length = wn at *
      go_wp2_with fail
      refine HT.out.mono ?_
      rintro e w6 ⟨rfl, h7⟩
      go_wp2_with fail
      go_ret
      exact ⟨rfl, h7⟩
    · have e1 : A.finF ((j : Int) + 1) = A := by unfold AHeap.finF; rw [ho]; simp [hmk]
      have e2 : A.finE ((j : Int) + 1) = 2 := by unfold AHeap.finE finB; rw [ho]; simp [hmk]
      rw [e1, e2]
      have fm : decide (o.mark < 1) = true := by simp; omega
      clear op hx H ho e1 e2 hobj hmk
      generalize A.T.length = N at *
      go_enter Try.func109, Try.ntmps109
      go_wp2_with fail
      refine HC.out.mono ?_
      rintro e w1 ⟨rfl, rfl⟩
      go_wp2_with fail
      go_ret
      exact ⟨rfl, h⟩
end
end Go.Proofs.Ytkpcngcegipalaa.Tw
namespace Go.Proofs.Ytkpcngcegipalaa.Tw
set_option linter.unusedVariables false
set_option linter.unusedSimpArgs false
open Go Go.RowKit Go.MapKept

structure Act13 where
  what : Int
  n : Int
  i : Int
  v : AVal
  l : List AVal
  tx : ByteArray
def clampI (x : Int) : Int := max 0 (min x 79)
def txc (t : ByteArray) (k : Nat) : ByteArray := t.extract 0 (min t.size k)
def incN (net : List Int) (k : Int) (d : Int) : List Int := net.set k.toNat (net.getD k.toNat 0 + d)
def actA (A : AHeap) (x : Act13) : AHeap :=
  if x.what = 0 ∨ x.what = 1 then A.makeF x.i (txc x.tx 100)
  else if x.what = 2 ∨ x.what = 3 then A.keep x.v
  else if x.what = 4 ∨ x.what = 5 ∨ x.what = 6 then A.drop x.v
  else if x.what = 7 then A.freeF x.n
  else if x.what = 8 then A.mark x.n
  else if x.what = 9 then A.finF x.n
  else if x.what = 10 then A.nextF
  else if x.what = 11 then { A with buf := [] }
  else if x.what = 12 then A.suspF x.n
  else if x.what = 13 then A.watchF [x.n, x.i]
  else if x.what = 14 then A.pushF x.n x.v
  else if x.what = 15 then A.popF x.n
  else if x.what = 16 then A.swapF x.n x.i x.v
  else A.layF x.n (x.l.take 20)
def actN (A : AHeap) (net : List Int) (x : Act13) : List Int :=
  if x.what = 0 ∨ x.what = 1 then (if 0 < (A.makeV x.i (txc x.tx 100)).n ∧ (A.makeV x.i (txc x.tx 100)).n < 80 then net.set (A.makeV x.i (txc x.tx 100)).n.toNat 1 else net)
  else if x.what = 2 ∨ x.what = 3 then (if cntE A x.v = 0 ∧ refV x.v = true then incN net (clampI x.v.n) 1 else net)
  else if x.what = 4 ∨ x.what = 5 ∨ x.what = 6 then (if cntE A x.v = 0 ∧ refV x.v = true then incN net (clampI x.v.n) (-1) else net)
  else if x.what = 7 then (if A.freeE x.n = 0 then net.set (clampI x.n).toNat 0 else net)
  else if x.what = 9 then (if A.finE x.n = 0 then incN net (clampI x.n) 1 else net)
  else net
def act1 (s : AHeap × List Int) (x : Act13) : AHeap × List Int := (actA s.1 x, actN s.1 s.2 x)
def play13 (l : List Act13) (k : Nat) : AHeap × List Int := (l.take k).foldl act1 (AHeap.empty, List.replicate 80 0)
theorem play13_succ {l : List Act13} {k : Nat} {x : Act13} (h : l[k]? = some x) : play13 l (k + 1) = act1 (play13 l k) x := by
  unfold play13
  rw [List.take_add_one, h, List.foldl_append]; rfl
theorem clampI_rng (x : Int) : 0 ≤ clampI x ∧ clampI x ≤ 79 := by unfold clampI; omega
theorem actN_len (A : AHeap) (net : List Int) (x : Act13) : (actN A net x).length = net.length := by
  unfold actN incN
  repeat' split
  all_goals simp
theorem makeF_T (A : AHeap) (k : Int) (tx : ByteArray) : (A.makeF k tx).T.length ≤ A.T.length + 1 := by
  unfold AHeap.makeF
  split
  · show (takeT A.T).length ≤ _
    rw [takeT_length]
    have := firstFree_le A.T
    omega
  · omega
theorem keep_T (A : AHeap) (v : AVal) : (A.keep v).T = A.T := by unfold AHeap.keep; split <;> rfl
theorem drop_T (A : AHeap) (v : AVal) : (A.drop v).T = A.T := by
  unfold AHeap.drop
  split
  · rfl
  · dsimp only
    repeat' split
    all_goals rfl
theorem free_T (A : AHeap) (n : Int) : (A.freeF n).T.length = A.T.length := by
  unfold AHeap.freeF
  split
  · exact giveT_length _ _
  · rfl
theorem mark_T (A : AHeap) (n : Int) : (A.mark n).T = A.T := by
  unfold AHeap.mark
  cases A.objs n with
  | none => rfl
  | some o =>
    dsimp only
    split <;> rfl
theorem actA_T (A : AHeap) (x : Act13) : (actA A x).T.length ≤ A.T.length + 1 := by
  unfold actA
  by_cases h0 : x.what = 0 ∨ x.what = 1
  · rw [if_pos h0]
    exact makeF_T _ _ _
  rw [if_neg h0]
  by_cases h1 : x.what = 2 ∨ x.what = 3
  · rw [if_pos h1]
    rw [keep_T]; omega
  rw [if_neg h1]
  by_cases h2 : x.what = 4 ∨ x.what = 5 ∨ x.what = 6
  · rw [if_pos h2]
    rw [drop_T]; omega
  rw [if_neg h2]
  by_cases h3 : x.what = 7
  · rw [if_pos h3]
    rw [free_T]; omega
  rw [if_neg h3]
  by_cases h4 : x.what = 8
  · rw [if_pos h4]
    rw [mark_T]; omega
  rw [if_neg h4]
  by_cases h5 : x.what = 9
  · rw [if_pos h5]
    unfold AHeap.finF; repeat' split
    all_goals (show A.T.length ≤ _; omega)
  rw [if_neg h5]
  by_cases h6 : x.what = 10
  · rw [if_pos h6]
    show A.T.length ≤ _; omega
  rw [if_neg h6]
  by_cases h7 : x.what = 11
  · rw [if_pos h7]
    show A.T.length ≤ _; omega
  rw [if_neg h7]
  by_cases h8 : x.what = 12
  · rw [if_pos h8]
    unfold AHeap.suspF; split <;> (show A.T.length ≤ _; omega)
  rw [if_neg h8]
  by_cases h9 : x.what = 13
  · rw [if_pos h9]
    show A.T.length ≤ _; omega
  rw [if_neg h9]
  by_cases h10 : x.what = 14
  · rw [if_pos h10]
    unfold AHeap.pushF; repeat' split
    all_goals (show A.T.length ≤ _; omega)
  rw [if_neg h10]
  by_cases h11 : x.what = 15
  · rw [if_pos h11]
    unfold AHeap.popF; repeat' split
    all_goals (show A.T.length ≤ _; omega)
  rw [if_neg h11]
  by_cases h12 : x.what = 16
  · rw [if_pos h12]
    unfold AHeap.swapF; repeat' split
    all_goals (show A.T.length ≤ _; omega)
  rw [if_neg h12]
  unfold AHeap.layF; repeat' split
  all_goals (show A.T.length ≤ _; omega)
theorem HW.act {A : AHeap} {B : Int} (h : HW A B) (hB : 20 ≤ B) (x : Act13) : HW (actA A x) (B + 1) := by
  unfold actA
  by_cases h0 : x.what = 0 ∨ x.what = 1
  · rw [if_pos h0]
    exact h.make (by omega) _ _
  rw [if_neg h0]
  by_cases h1 : x.what = 2 ∨ x.what = 3
  · rw [if_pos h1]
    exact h.keep _
  rw [if_neg h1]
  by_cases h2 : x.what = 4 ∨ x.what = 5 ∨ x.what = 6
  · rw [if_pos h2]
    exact (h.drop _).mono (by omega)
  rw [if_neg h2]
  by_cases h3 : x.what = 7
  · rw [if_pos h3]
    exact (h.free _).mono (by omega)
  rw [if_neg h3]
  by_cases h4 : x.what = 8
  · rw [if_pos h4]
    exact h.mark _
  rw [if_neg h4]
  by_cases h5 : x.what = 9
  · rw [if_pos h5]
    exact (h.fin _).mono (by omega)
  rw [if_neg h5]
  by_cases h6 : x.what = 10
  · rw [if_pos h6]
    exact h.next.mono (by omega)
  rw [if_neg h6]
  by_cases h7 : x.what = 11
  · rw [if_pos h7]
    exact h.take.mono (by omega)
  rw [if_neg h7]
  by_cases h8 : x.what = 12
  · rw [if_pos h8]
    exact (h.susp _).mono (by omega)
  rw [if_neg h8]
  by_cases h9 : x.what = 13
  · rw [if_pos h9]
    exact (h.watch _).mono (by omega)
  rw [if_neg h9]
  by_cases h10 : x.what = 14
  · rw [if_pos h10]
    exact h.push _ _
  rw [if_neg h10]
  by_cases h11 : x.what = 15
  · rw [if_pos h11]
    exact (h.pop _).mono (by omega)
  rw [if_neg h11]
  by_cases h12 : x.what = 16
  · rw [if_pos h12]
    exact (h.swap _ _ _).mono (by omega)
  rw [if_neg h12]
  exact (h.lay _ _ (by rw [List.length_take]; omega)).mono (by omega)
/-- numbers of a net, bounded -/
def NetB (net : List Int) (k : Int) : Prop := ∀ j, -k ≤ net.getD j 0 ∧ net.getD j 0 ≤ k + 1
theorem netB_set {net : List Int} {k : Int} (h : NetB net k) (i : Nat) (z : Int) (hz : -(k + 1) ≤ z ∧ z ≤ k + 2) : NetB (net.set i z) (k + 1) := by
  intro j
  have := h j
  simp only [List.getD, List.getElem?_set] at this ⊢
  split
  · split
    · simp; omega
    · have h0 := h net.length
      simp [List.getD] at h0
      simp; omega
  · omega
theorem actN_b {A : AHeap} {net : List Int} {k : Int} (h : NetB net k) (hk : 0 ≤ k) (x : Act13) : NetB (actN A net x) (k + 1) := by
  have hm : NetB net (k + 1) := fun j => by have := h j; omega
  unfold actN incN
  by_cases h0 : x.what = 0 ∨ x.what = 1
  · rw [if_pos h0]
    split
    · exact netB_set h _ _ (by omega)
    · exact hm
  rw [if_neg h0]
  by_cases h1 : x.what = 2 ∨ x.what = 3
  · rw [if_pos h1]
    split
    · have := h (clampI x.v.n).toNat
      exact netB_set h _ _ (by omega)
    · exact hm
  rw [if_neg h1]
  by_cases h2 : x.what = 4 ∨ x.what = 5 ∨ x.what = 6
  · rw [if_pos h2]
    split
    · have := h (clampI x.v.n).toNat
      exact netB_set h _ _ (by omega)
    · exact hm
  rw [if_neg h2]
  by_cases h3 : x.what = 7
  · rw [if_pos h3]
    split
    · exact netB_set h _ _ (by omega)
    · exact hm
  rw [if_neg h3]
  by_cases h4 : x.what = 9
  · rw [if_pos h4]
    split
    · have := h (clampI x.n).toNat
      exact netB_set h _ _ (by omega)
    · exact hm
  rw [if_neg h4]
  exact hm
theorem play13_hw (l : List Act13) : ∀ k, HW (play13 l k).1 (20 + k) ∧ (play13 l k).1.T.length ≤ k ∧ (play13 l k).2.length = 80 ∧ NetB (play13 l k).2 k
  | 0 => ⟨HW.empty.mono (by omega), by simp [play13, AHeap.empty], by simp [play13], fun j => by
      have : (play13 l 0).2 = List.replicate 80 0 := rfl
      rw [this]
      simp only [List.getD, List.getElem?_replicate]
      split <;> simp⟩
  | k + 1 => by
    obtain ⟨h1, h2, h3, h4⟩ := play13_hw l k
    cases h : l[k]? with
    | none =>
      have e : play13 l (k + 1) = play13 l k := by unfold play13; rw [List.take_add_one, h]; simp
      rw [e]
      exact ⟨h1.mono (by omega), by omega, h3, fun j => by have := h4 j; omega⟩
    | some x =>
      rw [play13_succ h]
      refine ⟨?_, ?_, ?_, ?_⟩
      · exact (h1.act (by omega) x).mono (by omega)
      · have := actA_T (play13 l k).1 x
        show (actA _ _).T.length ≤ _
        omega
      · show (actN _ _ _).length = 80
        rw [actN_len]; exact h3
      · have := actN_b (A := (play13 l k).1) h4 (by omega) x
        exact this
section
variable {w0 w : World} {F : HP} {nb nc : Nat} {net : List Int}
theorem netAt (h : Sat w0 w (slc 3 1 (some ⟨nb, 0, none⟩) 80 nc (net.map ival) * F)) (hl : net.length = 80) {j : Nat} (hj : j < 80) : w.cell? ⟨nb, j, none⟩ = some (.int .i64 (net.getD j 0)) ∧ w.frozen? ⟨nb, j, none⟩ = false := by
  have hx : net[j]? = some (net[j]'(by omega)) := List.getElem?_eq_getElem _
  obtain ⟨g, off, e, c0, f0⟩ := intCells h hx
  cases e
  rw [Nat.zero_add] at c0 f0
  have : net.getD j 0 = net[j]'(by omega) := by simp [List.getD, hx]
  rw [this]
  exact ⟨c0, f0⟩
theorem netSet (h : Sat w0 w (slc 3 1 (some ⟨nb, 0, none⟩) 80 nc (net.map ival) * F)) {j : Nat} (hj : j < 80) (z : Int) : Sat w0 (w.setCell ⟨nb, j, none⟩ (.int .i64 z)) (slc 3 1 (some ⟨nb, 0, none⟩) 80 nc ((net.set j z).map ival) * F) := by
  have := h.slcStore (j := j) (by omega) (ival z)
  rw [Nat.zero_add] at this
  rw [List.map_set]; exact this
end
end Go.Proofs.Ytkpcngcegipalaa.Tw
