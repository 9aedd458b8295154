/- tallowref13: NextFin. No condition. -/
import Derived.Test.YtkpcngcegipalaaZPIn18
namespace Go.Proofs.Ytkpcngcegipalaa.Tw
set_option linter.unusedVariables false
set_option linter.unusedSimpArgs false
open Go Go.RowKit Go.MapKept

section
variable {w0 w : World} {p : Nat} {A : AHeap} {F : HP} {B : Int} {X : List XObj} {oa : Option Addr} {oc : Nat} {qa : Option Addr} {qc : Nat} {ba : Option Addr} {bc : Nat} {fa : Option Addr} {fc : Nat} {sa : Option Addr} {sc : Nat}
theorem ROpen.alloc (h : ROpen w0 w p A F X oa oc qa qc ba bc fa fc sa sc) (o : Obj) : ROpen w0 (w.alloc o) p A (pt w.heap.size o * F) X oa oc qa qc ba bc fa fc sa sc := ⟨h.hx, (h.hs.alloc o).cast (by unfold rrest; ac_rfl)⟩
theorem ROpen.drew (h : ROpen w0 w p A F X oa oc qa qc ba bc fa fc sa sc) : ROpen w0 w.drew p A F X oa oc qa qc ba bc fa fc sa sc := ⟨h.hx, h.hs.drew⟩
/-- the frame's first block in front -/
theorem ROpen.front {G : HP} (h : ROpen w0 w p A (G * F) X oa oc qa qc ba bc fa fc sa sc) : Sat w0 w (G * opG p A X oa oc qa qc ba bc fa fc sa sc F) := h.hs.cast (by unfold opG rrest; ac_rfl)
theorem ROpen.unfront {G : HP} (hx : X.map (·.1) = graphL A A.T.length) (h : Sat w0 w (G * opG p A X oa oc qa qc ba bc fa fc sa sc F)) : ROpen w0 w p A (G * F) X oa oc qa qc ba bc fa fc sa sc := ⟨hx, h.cast (by unfold opG rrest; ac_rfl)⟩
set_option maxRecDepth 100000 in
set_option maxHeartbeats 2000000 in
theorem r_NextFin (H : HW A B) (hB : B ≤ 1000000) (h : Sat w0 w (refR13 p A * F)) :
    Calls Try.prog 104 #[.pointer (some ⟨p, 0, none⟩)] w fun e w' => e = .returned (.tuple #[.agg #[.int .i64 A.nextV.kind, .int .i64 A.nextV.n], .int .i64 A.nextM, .bool (!A.fins.isEmpty)]) ∧ Sat w0 w' (refR13 p A.nextF * F) := by
  obtain ⟨X, oa, oc, qa, qc, ba, bc, fa, fc, sa, sc, op⟩ := h.openR
  have op1 := op.alloc (.cells #[.int .i64 0, .int .i64 0] 28)
  have c3 := op1.c3
  have hfl := H.fl
  cases hf : A.fins with
  | nil =>
    have h1 := (h.alloc (.cells #[.int .i64 0, .int .i64 0] 28))
    have e1 : A.nextF = A := by unfold AHeap.nextF; rw [hf]; cases A; simp at hf; subst hf; rfl
    have e2 : A.nextV = ⟨0, 0⟩ := by unfold AHeap.nextV; rw [hf]
    have e3 : A.nextM = 0 := by unfold AHeap.nextM; rw [hf]
    rw [e1, e2, e3]
    rw [hf] at c3
    simp only [List.length_nil] at c3
    clear e1 e2 e3 op op1 hf hfl H
    go_enter Try.func104, Try.ntmps104
    go_wp2
    refine bodyPost_cell_tmp2 rfl rfl rfl rfl (load_val h1) rfl ⟨rfl, h1.drop⟩
  | cons x q =>
    obtain ⟨n, mk⟩ := x
    obtain ⟨o, ho, _⟩ := H.f1 (n, mk) (by rw [hf]; exact List.mem_cons_self)
    dsimp only at ho
    have hrng := obj_in H (n := n) (by rw [ho]; rfl)
    have hT := H.t
    obtain ⟨j, rfl⟩ : ∃ j : Nat, n = (j : Int) + 1 := ⟨(n - 1).toNat, by omega⟩
    have hobj : A.obj ((j : Int) + 1) = o := by unfold AHeap.obj; rw [ho]; rfl
    have e2 : A.nextV = ⟨o.kind, (j : Int) + 1⟩ := by unfold AHeap.nextV; rw [hf]; dsimp only; rw [hobj]
    have e3 : A.nextM = mk := by unfold AHeap.nextM; rw [hf]
    rw [e2, e3]
    have hlen : A.fins.length = q.length + 1 := by rw [hf]; rfl
    have hs7 : Sat w0 w (slc 176 2 fa A.fins.length fc (finCells A.fins) * _) := op.hs.cast (show _ = slc 176 2 fa A.fins.length fc (finCells A.fins) * (row p 51 (rcellsH A oa oc qa qc ba bc fa fc sa sc) * (slc 39 5 oa A.T.length oc (xscells X) * (xslotsR X * (slc 3 1 qa A.queue.length qc (A.queue.map ival) * (slc 3 1 ba A.buf.length bc (A.buf.map ival) * (slc 3 1 sa A.watch.length sc (A.watch.map ival) * F)))))) by unfold rrest; ac_rfl)
    obtain ⟨g, off, rfl, _, _⟩ := finAtR hs7 (k := 0) (by rw [hf]; rfl)
    have hcap := hs7.slcCap
    rw [hlen] at hcap
    have op2 := op1.alloc (.cells #[.int .i64 ((j : Int) + 1), .int .i64 mk] 176)
    rw [size_alloc] at op2
    have hsA : Sat w0 _ (slc 176 2 (some ⟨g, off, none⟩) A.fins.length fc (finCells A.fins) * _) := op1.hs.cast (show _ = slc 176 2 (some ⟨g, off, none⟩) A.fins.length fc (finCells A.fins) * (row p 51 (rcellsH A oa oc qa qc ba bc (some ⟨g, off, none⟩) fc sa sc) * (slc 39 5 oa A.T.length oc (xscells X) * (xslotsR X * (slc 3 1 qa A.queue.length qc (A.queue.map ival) * (slc 3 1 ba A.buf.length bc (A.buf.map ival) * (slc 3 1 sa A.watch.length sc (A.watch.map ival) * (pt w.heap.size (.cells #[.int .i64 0, .int .i64 0] 28) * F))))))) by unfold rrest; ac_rfl)
    obtain ⟨_, _, e', x0, x1⟩ := finAtR hsA (k := 0) (by rw [hf]; rfl)
    cases e'
    simp only [Nat.zero_mul, Nat.add_zero] at x0 x1
    have hsB : Sat w0 _ (slc 176 2 (some ⟨g, off, none⟩) A.fins.length fc (finCells A.fins) * _) := op2.hs.cast (show _ = slc 176 2 (some ⟨g, off, none⟩) A.fins.length fc (finCells A.fins) * (row p 51 (rcellsH A oa oc qa qc ba bc (some ⟨g, off, none⟩) fc sa sc) * (slc 39 5 oa A.T.length oc (xscells X) * (xslotsR X * (slc 3 1 qa A.queue.length qc (A.queue.map ival) * (slc 3 1 ba A.buf.length bc (A.buf.map ival) * (slc 3 1 sa A.watch.length sc (A.watch.map ival) * (pt (w.heap.size + 1) (.cells #[.int .i64 ((j : Int) + 1), .int .i64 mk] 176) * (pt w.heap.size (.cells #[.int .i64 0, .int .i64 0] 28) * F)))))))) by unfold rrest; ac_rfl)
    have eF : finCells A.fins = [.int .i64 ((j : Int) + 1), .int .i64 mk] ++ finCells q := by rw [hf]; rfl
    rw [eF, hlen] at hsB
    have hs3 := (hsB.slcTailN rfl).p2
    obtain ⟨off', hoff⟩ : ∃ off', (if fc = 1 then off else off + 2) = off' := ⟨_, rfl⟩
    rw [hoff] at hs3
    have hl1 : ((q.length : Int) + 1 == 0) = false := by simp; omega
    have hl2 : 0 < q.length + 1 := by omega
    have c3b : (((w.alloc (.cells #[.int .i64 0, .int .i64 0] 28)).alloc (.cells #[.int .i64 ((j : Int) + 1), .int .i64 mk] 176))).cell? ⟨p, 3, none⟩ = some (.slice (some ⟨g, off, none⟩) (q.length + 1) fc) := by rw [← hlen]; exact op2.c3
    rw [hlen] at c3
    have f3 := op2.hs.free 3
    have hs4 := hs3.store (i := 3) (.slice (some ⟨g, off', none⟩) q.length (fc - 1))
    have hrun : (Instr.sliceAt 49 (.slice (some ⟨g, off, none⟩) (q.length + 1) fc) (some (.int .i64 1)) none none).run Try.prog ((w.alloc (.cells #[.int .i64 0, .int .i64 0] 28)).alloc (.cells #[.int .i64 ((j : Int) + 1), .int .i64 mk] 176)) = .ok (.slice (some ⟨g, off', none⟩) q.length (fc - 1)) ((w.alloc (.cells #[.int .i64 0, .int .i64 0] 28)).alloc (.cells #[.int .i64 ((j : Int) + 1), .int .i64 mk] 176)) := by
      have := run_tail1 (P := Try.prog) ((w.alloc (.cells #[.int .i64 0, .int .i64 0] 28)).alloc (.cells #[.int .i64 ((j : Int) + 1), .int .i64 mk] 176)) 49 176 Try.underlying49 2 (fun w => by kernel_rfl) g off q.length fc hcap.1
      rw [hoff] at this
      simpa [Instr.sliceAt] using this
    have op3 : ROpen w0 (((w.alloc (.cells #[.int .i64 0, .int .i64 0] 28)).alloc (.cells #[.int .i64 ((j : Int) + 1), .int .i64 mk] 176)).setCell ⟨p, 3, none⟩ (.slice (some ⟨g, off', none⟩) q.length (fc - 1))) p A.nextF (pt (w.heap.size + 1) (.cells #[.int .i64 ((j : Int) + 1), .int .i64 mk] 176) * (pt w.heap.size (.cells #[.int .i64 0, .int .i64 0] 28) * F)) X oa oc qa qc ba bc (some ⟨g, off', none⟩) (fc - 1) sa sc :=
      ⟨op.hx, hs4.cast (by unfold rrest rcellsH AHeap.nextF; dsimp only; rw [hf]; simp only [List.tail_cons]; ac_rfl)⟩
    have hobj2 : A.nextF.obj ((j : Int) + 1) = o := hobj
    generalize hr : w.heap.size = rb at *
    clear hs4 hs3 hsB hsA hs7 eF hf hoff op op1 op2 h H hcap hobj e2 e3 ho
    go_enter Try.func104, Try.ntmps104
    go_wp2_with fail
    generalize hw3 : World.setCell _ ⟨p, 3, none⟩ (.slice (some ⟨g, off', none⟩) q.length (fc - 1)) = w3 at *
    obtain ⟨g2, off2, xa, xc, e1, hx, d0, _⟩ := op3.obj (k := j) (by show j < A.T.length; omega)
    subst e1
    rw [hobj2] at d0
    have b0 := op3.c0
    have hj1 : (j : Int) + 1 - 1 = j := by omega
    have hj2 : (0 : Int) ≤ (j : Int) := by omega
    have hj3 : (j : Int) < (A.nextF.T.length : Int) := by show (j : Int) < (A.T.length : Int); omega
    have hj4 : IntKind.i64.wrap (j : Int) = j := IntWalk.i64_in _ (by omega)
    have hj5 : IntKind.i64.wrap ((j : Int) + 1 - 1) = j := by rw [hj1]; exact hj4
    have y0 : w3.cell? ⟨rb + 1, 0, none⟩ = some (.int .i64 ((j : Int) + 1)) := Sat.cell (T := 176) (cs := #[.int .i64 ((j : Int) + 1), .int .i64 mk]) op3.front 0 rfl
    have y1 : w3.cell? ⟨rb + 1, 1, none⟩ = some (.int .i64 mk) := Sat.cell (T := 176) (cs := #[.int .i64 ((j : Int) + 1), .int .i64 mk]) op3.front 1 rfl
    have hv : Sat w0 w3 (pt rb (.cells #[.int .i64 0, .int .i64 0] 28) * opG p A.nextF X (some ⟨g2, off2, none⟩) oc qa qc ba bc (some ⟨g, off', none⟩) (fc - 1) sa sc F) := ROpen.front ⟨op3.hx, op3.front.drop⟩
    have ⟨v0, v1, vf0, vf1⟩ := val2' hv
    have hv2 := (hv.setVal o.kind ((j : Int) + 1)).drew
    have HFIN := Lib.hid (And.intro hv2 (ROpen.shut ⟨op3.hx, hv2.drop⟩))
    clear op3 hx hv hv2
    generalize A.nextF.T.length = N at *
    go_region
    go_wp2_with fail
    refine bodyPost_cell_tmp2 rfl rfl rfl rfl (load_val HFIN.out.1) rfl ⟨rfl, HFIN.out.2⟩
end
end Go.Proofs.Ytkpcngcegipalaa.Tw
namespace Go.Proofs.Ytkpcngcegipalaa.Tw
set_option linter.unusedVariables false
set_option linter.unusedSimpArgs false
open Go Go.RowKit Go.MapKept

section
variable {P : Program} {w0 w : World} {F : HP} {ops : Array Oper} {rest : List Oper} {o : Oper} {a : Act} {Q : Exit → Act → World → Prop} {K : Act → World → Prop}
theorem info_finR : (Try.prog.info? 176).map (fun i => (i.zero, i.size, i.bytes)) = some (some (.agg #[.int .i64 0, .int .i64 0]), 2, 16) := by kernel_rfl
theorem wp_pushFinR (s x : Operand) (hop : o.op = .call { callee := .builtin .append, args := #[s, x], argTypes := #[49, 49] })
    (sa : Option Addr) (n c : Nat) (l : List (Int × Int)) (hs : a.eval s = .slice sa n c) (h : Sat w0 w (slc 176 2 sa n c (finCells l) * F)) (bx c' : Nat) (v : Int × Int) (hx : a.eval x = .slice (some ⟨bx, 0, none⟩) 1 c') (hc0 : w.cell? ⟨bx, 0, none⟩ = some (.int .i64 v.1)) (hc1 : w.cell? ⟨bx, 1, none⟩ = some (.int .i64 v.2)) (hn : n ≤ 1000000000)
    (hK : ∀ a' c'' w', Sat w0 w' (slc 176 2 a' (n + 1) c'' (finCells (l ++ [v])) * F) → K (a.put o.dst (.slice a' (n + 1) c'')) w') : o.wp Try.prog a w K Q := by
  obtain ⟨i0, hi, hz0, hz1, hz2⟩ := info_parts info_finR
  refine wp_append s x 49 hop i0 (.agg #[.int .i64 0, .int .i64 0]) 16 Try.underlying49 hi hz0 hz1 hz2 rfl sa n c (finCells l) hs h ⟨bx, 0, none⟩ 1 c' [.int .i64 v.1, .int .i64 v.2] hx rfl (two_cells hc0 hc1) (by simp [Value.oneCell']) (by unfold maxLen; omega) (by omega) fun a' c'' w' h2 _ => ?_
  refine hK a' c'' w' ?_
  rw [finCells_append]; exact h2
end
attribute [local go_sem] lookE lkE valUpon
section
variable {w0 w : World} {p : Nat} {A : AHeap} {F : HP} {B : Int} {X : List XObj} {oa : Option Addr} {oc : Nat} {qa : Option Addr} {qc : Nat} {ba : Option Addr} {bc : Nat} {fa : Option Addr} {fc : Nat} {sa : Option Addr} {sc : Nat}
theorem upd_upd (A : AHeap) (n : Int) (o o' : AObj) : (A.upd n o).upd n o' = A.upd n o' := by
  unfold AHeap.upd
  dsimp only
  congr 1
  funext k
  by_cases e : k = n <;> simp [e]
theorem obj_upd (A : AHeap) (n : Int) (o : AObj) : (A.upd n o).obj n = o := by unfold AHeap.obj AHeap.upd; simp
set_option maxRecDepth 100000 in
set_option maxHeartbeats 2000000 in
theorem r_Fin (H : HW A B) (hB : B ≤ 1000000) (hW : A.watch.length ≤ 1000000) (h : Sat w0 w (refR13 p A * F)) (n : Int) {r : Int} (hr : A.finE n = r) :
    Calls Try.prog 109 #[.pointer (some ⟨p, 0, none⟩), .int .i64 n] w fun e w' => e = .returned (.int .i64 r) ∧ Sat w0 w' (refR13 p (A.finF n) * F) := by
  subst hr
  cases ho : A.objs n with
  | none =>
    have HC := Lib.hid (r_There H hB h n (b := false) (by rw [ho]; rfl))
    have e1 : A.finF n = A := by unfold AHeap.finF; rw [ho]
    have e2 : A.finE n = 2 := by unfold AHeap.finE finB; rw [ho]; rfl
    rw [e1, e2]
    clear e1 e2 ho H
    go_enter Try.func109, Try.ntmps109
    go_wp2_with fail
    refine HC.out.mono ?_
    rintro e w1 ⟨rfl, rfl⟩
    go_wp2_with fail
    go_ret
    exact ⟨rfl, h⟩
  | some o =>
    have HC := Lib.hid (r_There H hB h n (b := true) (by rw [ho]; rfl))
    have hrng := obj_in H (n := n) (by rw [ho]; rfl)
    have hT := H.t
    have hfl := H.fl
    have hql := H.ql
    have hcn := H.c n o ho
    obtain ⟨j, rfl⟩ : ∃ j : Nat, n = (j : Int) + 1 := ⟨(n - 1).toNat, by omega⟩
    have hobj : A.obj ((j : Int) + 1) = o := by unfold AHeap.obj; rw [ho]; rfl
    obtain ⟨X, oa, oc, qa, qc, ba, bc, fa, fc, sa, sc, op⟩ := h.openR
    obtain ⟨g, off, xa, xc, eoa, hx, d0, d1, d2, d3, d4⟩ := op.obj (k := j) (by omega)
    subst eoa
    have c0 := op.c0
    rw [hobj] at d4 hx
    have hj1 : (j : Int) + 1 - 1 = j := by omega
    have hj2 : (0 : Int) ≤ (j : Int) := by omega
    have hj3 : (j : Int) < (A.T.length : Int) := by omega
    have hj4 : IntKind.i64.wrap (j : Int) = j := IntWalk.i64_in _ (by omega)
    by_cases hmk : 1 ≤ o.mark
    · have e1 : A.finF ((j : Int) + 1) = A.fin ((j : Int) + 1) o := by unfold AHeap.finF; rw [ho]; simp [hmk]
      have e2 : A.finE ((j : Int) + 1) = 0 := by unfold AHeap.finE finB; rw [ho]; simp [hmk]
      rw [e1, e2]
      have fm : decide (o.mark < 1) = false := by simp; omega
      obtain ⟨RR, hRR⟩ : ∃ R : HP, R = xslotsR X * (slc 3 1 qa A.queue.length qc (A.queue.map ival) * (slc 3 1 ba A.buf.length bc (A.buf.map ival) * (slc 3 1 sa A.watch.length sc (A.watch.map ival) * F))) := ⟨_, rfl⟩
      have h0 : Sat w0 w (row p 51 (rcellsH A (some ⟨g, off, none⟩) oc qa qc ba bc fa fc sa sc) * (slc 39 5 (some ⟨g, off, none⟩) A.T.length oc (xscells X) * (slc 176 2 fa A.fins.length fc (finCells A.fins) * RR))) := op.hs.cast (by rw [hRR]; unfold rrest; ac_rfl)
      have HX := Lib.hid hx
      have hOX := Lib.hid op.hx
      have HRR := Lib.hid hRR
      have hfin1 : A.fins.length ≤ 1000000 := by omega
      have hqn : A.queue.length ≤ 1000000 := by omega
      have HOB := Lib.hid hobj
      clear op h H ho e1 e2 hobj hx d0 d1 d2 d3 hRR hrng
      go_enter Try.func109, Try.ntmps109
      go_wp2_with fail
      refine HC.out.mono ?_
      rintro e w1 ⟨rfl, rfl⟩
      go_wp2_with fail
      clear d4 c0
      refine wp_gen fun a0 ha => ?_
      have hb0 : base a0 0 = .pointer (some ⟨p, 0, none⟩) := by rw [ha]; rfl
      have hb1 : base a0 1 = .int .i64 ((j : Int) + 1) := by rw [ha]; rfl
      have hsz0 : a0.tmps.size = 73 := by rw [ha]; rfl
      have HA0 := Lib.hid (And.intro hsz0 ha)
      clear ha hsz0
      refine GW.start (X := Option Addr × Nat) (w0 := w0) (B := [row p 51 (rcellsH A (some ⟨g, off, none⟩) oc qa qc ba bc fa fc sa sc), slc 39 5 (some ⟨g, off, none⟩) A.T.length oc (xscells X), slc 176 2 fa A.fins.length fc (finCells A.fins), RR]) (a0 := a0) ?_
      refine GW.det (d := (some 21)) [] [] rfl (fun e => by rfl) ?_; apply Exists.intro; refine ⟨fun e w' F hs => ?_, ?_, ?_⟩
      · first | (go_simp; done) | (go_simp; rfl)
      · exact (fun _ _ _ => rfl)
      refine GW.det (d := (some 22)) [] [] rfl (fun e => by rfl) ?_; apply Exists.intro; refine ⟨fun e w' F hs => ?_, ?_, ?_⟩
      · first | (go_simp; done) | (go_simp; rfl)
      · exact (fun _ _ _ => rfl)
      refine GW.det (d := (some 23)) [] [] rfl (fun e => by rfl) ?_; apply Exists.intro; refine ⟨fun e w' F hs => ?_, ?_, ?_⟩
      · first | (go_simp; done) | (go_simp; rfl)
      · exact (fun _ _ _ => rfl)
      refine GW.det (d := (some 24)) [] [] rfl (fun e => by rfl) ?_; apply Exists.intro; refine ⟨fun e w' F hs => ?_, ?_, ?_⟩
      · first | (go_simp; done) | (go_simp; rfl)
      · exact (fun _ _ _ => rfl)
      refine GW.det (d := (some 25)) [0] [] rfl (fun e => by rfl) ?_; apply Exists.intro; refine ⟨fun e w' F hs => ?_, ?_, ?_⟩
      · have y0 : w'.cell? ⟨p, 3, none⟩ = some (.slice fa A.fins.length fc) := (show Sat w0 w' (row p 51 (rcellsH A (some ⟨g, off, none⟩) oc qa qc ba bc fa fc sa sc) * F) from hs).cell 3 rfl; first | (go_simp; done) | (go_simp; rfl)
      · exact (fun _ _ _ => rfl)
      refine GW.det (d := (some 26)) [] [] rfl (fun e => by rfl) ?_; apply Exists.intro; refine ⟨fun e w' F hs => ?_, ?_, ?_⟩
      · first | (go_simp; done) | (go_simp; rfl)
      · exact (fun _ _ _ => rfl)
      refine GW.det (d := (some 27)) [] [] rfl (fun e => by rfl) ?_; apply Exists.intro; refine ⟨fun e w' F hs => ?_, ?_, ?_⟩
      · first | (go_simp; done) | (go_simp; rfl)
      · exact (fun _ _ _ => rfl)
      refine GW.det (d := (some 28)) [] [] rfl (fun e => by rfl) ?_; apply Exists.intro; refine ⟨fun e w' F hs => ?_, ?_, ?_⟩
      · first | (go_simp; done) | (go_simp; rfl)
      · exact (fun _ _ _ => rfl)
      refine GW.det (d := (some 29)) [] [] rfl (fun e => by rfl) ?_; apply Exists.intro; refine ⟨fun e w' F hs => ?_, ?_, ?_⟩
      · first | (go_simp; done) | (go_simp; rfl)
      · exact (fun _ _ _ => rfl)
      refine GW.det (d := (some 30)) [0] [] rfl (fun e => by rfl) ?_; apply Exists.intro; refine ⟨fun e w' F hs => ?_, ?_, ?_⟩
      · have y0 : w'.cell? ⟨p, 0, none⟩ = some (.slice (some ⟨g, off, none⟩) A.T.length oc) := (show Sat w0 w' (row p 51 (rcellsH A (some ⟨g, off, none⟩) oc qa qc ba bc fa fc sa sc) * F) from hs).cell 0 rfl; first | (go_simp; done) | (go_simp; rfl)
      · exact (fun _ _ _ => rfl)
      refine GW.det (d := (some 31)) [] [] rfl (fun e => by rfl) ?_; apply Exists.intro; refine ⟨fun e w' F hs => ?_, ?_, ?_⟩
      · first | (go_simp; done) | (go_simp; rfl)
      · exact (fun _ _ _ => rfl)
      refine GW.det (d := (some 32)) [] [] rfl (fun e => by rfl) ?_; apply Exists.intro; refine ⟨fun e w' F hs => ?_, ?_, ?_⟩
      · first | (go_simp; done) | (go_simp; rfl)
      · exact (fun _ _ _ => rfl)
      refine GW.det (d := (some 33)) [] [] rfl (fun e => by rfl) ?_; apply Exists.intro; refine ⟨fun e w' F hs => ?_, ?_, ?_⟩
      · first | (go_simp; done) | (go_simp; rfl)
      · exact (fun _ _ _ => rfl)
      refine GW.det (d := (some 34)) [] [] rfl (fun e => by rfl) ?_; apply Exists.intro; refine ⟨fun e w' F hs => ?_, ?_, ?_⟩
      · first | (go_simp; done) | (go_simp; rfl)
      · exact (fun _ _ _ => rfl)
      refine GW.det (d := (some 35)) [1] [] rfl (fun e => by rfl) ?_; apply Exists.intro; refine ⟨fun e w' F hs => ?_, ?_, ?_⟩
      · obtain ⟨g', off', e', _, _, _, _, y4⟩ := objAtX (show Sat w0 w' (slc 39 5 (some ⟨g, off, none⟩) A.T.length oc (xscells X) * F) from hs) HX.out; cases e'; dsimp only at y4; first | (go_simp; done) | (go_simp; rfl)
      · exact (fun _ _ _ => rfl)
      refine GW.det (d := (some 36)) [] [] rfl (fun e => by rfl) ?_; apply Exists.intro; refine ⟨fun e w' F hs => ?_, ?_, ?_⟩
      · first | (go_simp; done) | (go_simp; rfl)
      · exact (fun _ _ _ => rfl)
      refine GW.new (d := (some 37)) 16 (fun x => .slice x.1 1 1) (fun x => lits x.1 176 [.int .i64 ((j : Int) + 1), .int .i64 o.mark]) [] rfl rfl (fun e => by rfl) (fun e w' F K hs hK => ?_) ?_
      · go_simp; exact hK (some ⟨_, 0, none⟩, 0) _ (lits_mk ((hs.alloc (.cells #[.int .i64 ((j : Int) + 1), .int .i64 o.mark] 176)).cast (mul_left_comm _ _ _)))
      refine GW.take (d := (some 38)) 17 (fun e => .slice (e 17).1 (A.fins.length + 1) (e 17).2) (fun e => slc 176 2 (e 17).1 (A.fins.length + 1) (e 17).2 (finCells (A.fins ++ [((j : Int) + 1, o.mark)]))) [] [2, 20] [17] rfl rfl (fun e => by rfl) (fun e e' hl => by simp only [hl 17 (by decide)]; exact ⟨trivial, trivial⟩) (fun e w' F K hs hK => ?_) ?_
      · obtain ⟨q, hq, hs⟩ := lits_open (show Sat w0 w' ((lits (e 16).1 176 [.int .i64 ((j : Int) + 1), .int .i64 o.mark]) * (slc 176 2 fa A.fins.length fc (finCells A.fins) * F)) from Sat.cast (show Sat w0 w' ((slc 176 2 fa A.fins.length fc (finCells A.fins) * lits (e 16).1 176 [.int .i64 ((j : Int) + 1), .int .i64 o.mark]) * F) from one_out hs) (by ac_rfl)); refine wp_look (d := 38) (sz := 73) rfl HA0.out.1 (by decide) (by rfl) fun a1 ha1 => ?_; refine wp_pushFinR _ _ rfl fa A.fins.length fc A.fins ((ha1 _).trans rfl) hs.p2 q 1 ((j : Int) + 1, o.mark) ((ha1 _).trans (by rw [← hq]; rfl)) (Sat.cell (T := 176) (cs := #[.int .i64 ((j : Int) + 1), .int .i64 o.mark]) hs 0 rfl) (Sat.cell (T := 176) (cs := #[.int .i64 ((j : Int) + 1), .int .i64 o.mark]) hs 1 rfl) (by omega) fun a' c'' w2 h2 => ⟨rfl, _, rfl, ?_⟩; exact hK (a', c'') _ (one_in (h2.drop2))
      refine GW.det (d := (some 39)) [] [] rfl (fun e => by rfl) ?_; apply Exists.intro; refine ⟨fun e w' F hs => ?_, ?_, ?_⟩
      · first | (go_simp; done) | (go_simp; rfl)
      · exact (fun _ _ _ => rfl)
      refine GW.det (d := (some 40)) [] [] rfl (fun e => by rfl) ?_; apply Exists.intro; refine ⟨fun e w' F hs => ?_, ?_, ?_⟩
      · first | (go_simp; done) | (go_simp; rfl)
      · exact (fun _ _ _ => rfl)
      refine GW.take (d := none) 20 (fun e => undef) (fun e => row p 51 ((rcellsH A (some ⟨g, off, none⟩) oc qa qc ba bc fa fc sa sc).setIfInBounds 3 (.slice (e 17).1 (A.fins.length + 1) (e 17).2))) [] [0] [17] rfl rfl (fun e => by rfl) (fun e e' hl => by simp only [hl 17 (by decide)]; exact ⟨trivial, trivial⟩) (fun e w' F K hs hK => ?_) ?_
      · have hs := show Sat w0 w' (row p 51 (rcellsH A (some ⟨g, off, none⟩) oc qa qc ba bc fa fc sa sc) * F) from one_out hs; have z0 : w'.cell? ⟨p, 3, none⟩ = some (.slice fa A.fins.length fc) := hs.cell 3 rfl; have z1 := hs.free 3; go_simp; exact hK default _ (one_in (hs.store (i := 3) (.slice (e 17).1 (A.fins.length + 1) (e 17).2)))
      refine GW.done (sz := 73) [4 + 20, 1, 4 + 17, 3] (by kernel_rfl) (by kernel_rfl) HA0.out.1 (by rfl) h0 (by rfl) fun e w2 gg => ?_
      have ha := HA0.out.2
      subst ha
      clear HA0 hb0 hb1 h0
      simp only [putL, Act.put, List.setIfInBounds_toArray, List.set_cons_zero, List.set_cons_succ]
      have h1 : Sat w0 w2 (row p 51 ((rcellsH A (some ⟨g, off, none⟩) oc qa qc ba bc fa fc sa sc).setIfInBounds 3 (.slice (e 17).1 (A.fins.length + 1) (e 17).2)) * (slc 39 5 (some ⟨g, off, none⟩) A.T.length oc (xscells X) * (slc 176 2 (e 17).1 (A.fins.length + 1) (e 17).2 (finCells (A.fins ++ [((j : Int) + 1, o.mark)])) * RR))) := gg
      clear gg
      generalize e 17 = y17 at *
      generalize e 16 = y16
      obtain ⟨fa', fc'⟩ := y17
      dsimp only at h1 ⊢
      obtain ⟨A1, hA1⟩ : ∃ A1, A1 = { A with fins := A.fins ++ [((j : Int) + 1, o.mark)] } := ⟨_, rfl⟩
      have op1 : ROpen w0 w2 p A1 F X (some ⟨g, off, none⟩) oc qa qc ba bc fa' fc' sa sc := ⟨by rw [hA1]; exact hOX.out, h1.cast (by rw [HRR.out, hA1]; unfold rrest rcellsH; dsimp only; rw [List.length_append]; ac_rfl)⟩
      have hA1o : A1.obj ((j : Int) + 1) = o := by rw [hA1]; exact HOB.out
      have hA1t : A1.T = A.T := by rw [hA1]
      have hA1q : A1.queue = A.queue := by rw [hA1]
      have hA1w : A1.watch = A.watch := by rw [hA1]
      have HA1 := Lib.hid (And.intro hA1 (And.intro hA1o (And.intro hA1t (And.intro hA1q hA1w))))
      clear h1 hA1
      obtain ⟨g', off', xa', xc', e', hx', _, d1, _, _, d4⟩ := op1.obj (k := j) (by rw [hA1t]; omega)
      cases e'
      rw [hA1o] at d1 d4 hx'
      have c0 := op1.c0
      rw [hA1t] at c0
      have f1 := op1.free rfl (k := j) (by rw [hA1t]; omega) (j := 1) (by omega)
      have hc1 : IntKind.i64.wrap (o.count + 1) = o.count + 1 := IntWalk.i64_in _ (by omega)
      have op2 := op1.setObj (f := 1) (o' := { o with count := o.count + 1 }) (v := .int .i64 (o.count + 1)) hx' (by rw [hA1t]; omega) (by omega) rfl rfl
      have hx2 : (X.set j ({ o with count := o.count + 1 }, xa', xc'))[j]? = some ({ o with count := o.count + 1 }, xa', xc') := by rw [List.getElem?_set_self]; have := (List.getElem?_eq_some_iff.1 hx').1; omega
      have op3 := op2.setObj (f := 4) (o' := { o with count := o.count + 1, mark := -1 }) (v := .int .i64 (-1)) hx2 (by show j < A1.T.length; rw [hA1t]; omega) (by omega) rfl rfl
      obtain ⟨g2, off2, _, _, e2, _, _, _, _, _, m4⟩ := op2.obj (k := j) (by show j < A1.T.length; rw [hA1t]; omega)
      cases e2
      rw [obj_upd] at m4
      dsimp only at m4
      have m4f := op2.free rfl (k := j) (by show j < A1.T.length; rw [hA1t]; omega) (j := 4) (by omega)
      have c0b : _ = some (Value.slice (some ⟨g, off, none⟩) A1.T.length oc) := op2.c0
      rw [hA1t] at c0b
      have c1c : _ = some (Value.slice qa A1.queue.length qc) := op3.c1
      rw [hA1q] at c1c
      have hq : Sat w0 _ (slc 3 1 qa A.queue.length qc (A.queue.map ival) * _) := op3.hs.cast (show _ = slc 3 1 qa A.queue.length qc (A.queue.map ival) * (row p 51 (rcellsH ((A1.upd ((j : Int) + 1) { o with count := o.count + 1 }).upd ((j : Int) + 1) { o with count := o.count + 1, mark := -1 }) (some ⟨g, off, none⟩) oc qa qc ba bc fa' fc' sa sc) * (slc 39 5 (some ⟨g, off, none⟩) A1.T.length oc (xscells ((X.set j ({ o with count := o.count + 1 }, xa', xc')).set j ({ o with count := o.count + 1, mark := -1 }, xa', xc'))) * (xslotsR ((X.set j ({ o with count := o.count + 1 }, xa', xc')).set j ({ o with count := o.count + 1, mark := -1 }, xa', xc')) * (slc 3 1 ba A1.buf.length bc (A1.buf.map ival) * (slc 176 2 fa' A1.fins.length fc' (finCells A1.fins) * (slc 3 1 sa A1.watch.length sc (A1.watch.map ival) * F)))))) by unfold rrest; rw [← hA1q]; show _ * (_ * (_ * (_ * (_ * (_ * (_ * _)))))) = _; ac_rfl)
      have HQ := Lib.hid (r_without hq rfl hqn ((j : Int) + 1))
      have hOX3 := Lib.hid op3.hx
      generalize A.queue.length = qn at *
      clear op1 op2 op3 hx' hx2 hq
      go_wp2_with fail
      refine HQ.out.mono ?_
      rintro e w5 ⟨ra, rc, rfl, h5⟩
      have k1 := (Sat.drop2 h5).p2.cell (i := 1) (v := .slice qa A1.queue.length qc) rfl
      have k1f := (Sat.drop2 h5).p2.free 1
      have h6 := (Sat.drop2 h5).p2.store (i := 1) (.slice ra (wout A.queue ((j : Int) + 1)).length rc)
      have op4 : ROpen w0 (w5.setCell ⟨p, 1, none⟩ (.slice ra (wout A.queue ((j : Int) + 1)).length rc)) p { ((A1.upd ((j : Int) + 1) { o with count := o.count + 1 }).upd ((j : Int) + 1) { o with count := o.count + 1, mark := -1 }) with queue := wout A.queue ((j : Int) + 1) } F ((X.set j ({ o with count := o.count + 1 }, xa', xc')).set j ({ o with count := o.count + 1, mark := -1 }, xa', xc')) (some ⟨g, off, none⟩) oc ra rc ba bc fa' fc' sa sc :=
        ⟨hOX3.out, h6.cast (by unfold rrest; show _ = row _ _ _ * (_ * (_ * (_ * (_ * (_ * (_ * _)))))); show row _ _ (rcellsH { ((A1.upd ((j : Int) + 1) { o with count := o.count + 1 }).upd ((j : Int) + 1) { o with count := o.count + 1, mark := -1 }) with queue := wout A.queue ((j : Int) + 1) } _ _ ra rc _ _ _ _ _ _) * _ = _; ac_rfl)⟩
      have e5 : AHeap.touch { ((A1.upd ((j : Int) + 1) { o with count := o.count + 1 }).upd ((j : Int) + 1) { o with count := o.count + 1, mark := -1 }) with queue := wout A.queue ((j : Int) + 1) } ((j : Int) + 1) = A.fin ((j : Int) + 1) o := by
        rw [upd_upd, HA1.out.1]; rfl
      have HT := Lib.hid (e5 ▸ r_touch (by show A1.watch.length ≤ _; rw [hA1w]; exact hW) op4.shut ((j : Int) + 1))
      clear op4 h6 h5 e5
      generalize (wout A.queue ((j : Int) + 1)).length = wn at *
      go_wp2_with fail
      refine HT.out.mono ?_
      rintro e w6 ⟨rfl, h7⟩
      go_wp2_with fail
      go_ret
      exact ⟨rfl, h7⟩
    · have e1 : A.finF ((j : Int) + 1) = A := by unfold AHeap.finF; rw [ho]; simp [hmk]
      have e2 : A.finE ((j : Int) + 1) = 2 := by unfold AHeap.finE finB; rw [ho]; simp [hmk]
      rw [e1, e2]
      have fm : decide (o.mark < 1) = true := by simp; omega
      clear op hx H ho e1 e2 hobj hmk
      generalize A.T.length = N at *
      go_enter Try.func109, Try.ntmps109
      go_wp2_with fail
      refine HC.out.mono ?_
      rintro e w1 ⟨rfl, rfl⟩
      go_wp2_with fail
      go_ret
      exact ⟨rfl, h⟩
end
end Go.Proofs.Ytkpcngcegipalaa.Tw
