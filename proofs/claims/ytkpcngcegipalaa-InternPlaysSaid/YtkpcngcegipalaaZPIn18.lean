/- tallowref13: Keep, Drop. No condition. -/
import Derived.Test.YtkpcngcegipalaaZPIn17
import Derived.Test.YtkpcngcegipalaaZPIn11
namespace Go.Proofs.Ytkpcngcegipalaa.Tw
set_option linter.unusedVariables false
set_option linter.unusedSimpArgs false
open Go Go.RowKit Go.MapKept

section
variable {w0 w : World} {p : Nat} {A : AHeap} {F : HP} {B : Int} {X : List XObj} {oa : Option Addr} {oc : Nat} {qa : Option Addr} {qc : Nat} {ba : Option Addr} {bc : Nat} {fa : Option Addr} {fc : Nat} {sa : Option Addr} {sc : Nat}
/-- one object's new state, the slots as they were -/
theorem ROpen.setObj {k f g off xc : Nat} {xa : Option Addr} {o o' : AObj} {v : Value} (h : ROpen w0 w p A F X (some ⟨g, off, none⟩) oc qa qc ba bc fa fc sa sc) (hx : X[k]? = some (o, xa, xc)) (hk : k < A.T.length) (hf : f < 5)
    (hc : xcells (o', xa, xc) = (xcells (o, xa, xc)).set f v) (hs : o'.slots = o.slots) : ROpen w0 (w.setCell ⟨g, off + k * 5 + f, none⟩ v) p (A.upd ((k : Int) + 1) o') F (X.set k (o', xa, xc)) (some ⟨g, off, none⟩) oc qa qc ba bc fa fc sa sc :=
  ⟨graphL_set hk h.hx (by unfold AHeap.obj AHeap.upd; simp) (fun n hn => by unfold AHeap.obj AHeap.upd; simp [hn]), storeObjX h.hs hx hk hf hc hs⟩
theorem upd_touch (A : AHeap) (n m : Int) (o : AObj) : (A.upd n o).touch m = (A.touch m).upd n o := rfl
set_option maxHeartbeats 1000000 in
theorem r_Keep (H : HW A B) (hB : B ≤ 1000000) (hW : A.watch.length ≤ 1000000) (h : Sat w0 w (refR13 p A * F)) (k n : Int) {e0 : Int} (he : cntE A ⟨k, n⟩ = e0) :
    Calls Try.prog 99 #[.pointer (some ⟨p, 0, none⟩), .agg #[.int .i64 k, .int .i64 n]] w fun e w' => e = .returned (.int .i64 e0) ∧ Sat w0 w' (refR13 p (A.keep ⟨k, n⟩) * F) := by
  subst he
  have h1 := h.alloc (.cells #[.int .i64 k, .int .i64 n] 28)
  have ⟨y0, y1⟩ := valR h1
  have HC := Lib.hid (r_count H hB h1.p2 k n rfl rfl)
  cases ho : cntO A ⟨k, n⟩ with
  | none =>
    have e1 : cntN A ⟨k, n⟩ = 0 := by unfold cntN; rw [ho]
    have e2 : A.keep ⟨k, n⟩ = A := by unfold AHeap.keep; rw [ho]
    rw [e1] at HC
    rw [e2]
    generalize cntE A ⟨k, n⟩ = e0 at *
    clear h1 h H ho e1 e2
    go_enter Try.func99, Try.ntmps99
    go_wp2_with fail
    refine HC.out.mono ?_
    rintro e w1 ⟨rfl, h2⟩
    go_wp2_with fail
    go_ret
    exact ⟨rfl, h2.p2.drop⟩
  | some o =>
    have hA := cntO_some ho
    dsimp only at hA
    have hrng := obj_in H (n := n) (by rw [hA]; rfl)
    have hcn := H.c n o hA
    obtain ⟨j, rfl⟩ : ∃ j : Nat, n = (j : Int) + 1 := ⟨(n - 1).toNat, by omega⟩
    have e1 : cntN A ⟨k, (j : Int) + 1⟩ = (j : Int) + 1 := by unfold cntN; rw [ho]
    have e2 : A.keep ⟨k, (j : Int) + 1⟩ = (A.upd ((j : Int) + 1) { o with count := o.count + 1 }).touch ((j : Int) + 1) := by unfold AHeap.keep; rw [ho]; rfl
    have e3 : cntE A ⟨k, (j : Int) + 1⟩ = 0 := by unfold cntE; rw [ho]; simp
    rw [e1, e3] at HC
    rw [e2, e3]
    have hobj : A.obj ((j : Int) + 1) = o := by unfold AHeap.obj; rw [hA]; rfl
    have hT := H.t
    have hj1 : (j : Int) + 1 - 1 = j := by omega
    have hj2 : (0 : Int) ≤ (j : Int) := by omega
    have hj3 : (j : Int) < (A.T.length : Int) := by omega
    have hj4 : IntKind.i64.wrap (j : Int) = j := IntWalk.i64_in _ (by omega)
    have hj5 : (0 : Int) < (j : Int) + 1 := by omega
    have hc1 : IntKind.i64.wrap (o.count + 1) = o.count + 1 := IntWalk.i64_in _ (by omega)
    have HT := Lib.hid (And.intro hobj (And.intro (show j < A.T.length by omega) hW))
    clear h1 h H ho e1 e2 e3 hA hobj hrng hT hcn hW
    go_enter Try.func99, Try.ntmps99
    go_wp2_with fail
    refine HC.out.mono ?_
    rintro e w1 ⟨rfl, h2⟩
    obtain ⟨X, oa, oc, qa, qc, ba, bc, fa, fc, sa, sc, op⟩ := h2.openR
    obtain ⟨g, off, xa, xc, eoa, hx, _, d1, _⟩ := op.obj (k := j) HT.out.2.1
    have f1 := op.free eoa HT.out.2.1 (j := 1) (by omega)
    subst eoa
    have c0 := op.c0
    rw [HT.out.1] at d1 hx
    have h3 := (op.setObj (f := 1) (o' := { o with count := o.count + 1 }) (v := .int .i64 (o.count + 1)) hx HT.out.2.1 (by omega) rfl rfl).shut
    have HC2 := Lib.hid (r_touch (A := A.upd ((j : Int) + 1) { o with count := o.count + 1 }) HT.out.2.2 h3 ((j : Int) + 1))
    generalize A.T.length = N at *
    clear h3 hx op h2
    go_wp2_with fail
    refine HC2.out.mono ?_
    rintro e w2 ⟨rfl, h4⟩
    go_wp2_with fail
    go_ret
    exact ⟨rfl, h4.p2.drop⟩
theorem wout_nil (x : Int) : wout [] x = [] := rfl
set_option maxHeartbeats 2000000 in
theorem r_Drop (H : HW A B) (hB : B ≤ 1000000) (hW : A.watch.length ≤ 1000000) (h : Sat w0 w (refR13 p A * F)) (k n : Int) {e0 : Int} (he : cntE A ⟨k, n⟩ = e0) :
    Calls Try.prog 89 #[.pointer (some ⟨p, 0, none⟩), .agg #[.int .i64 k, .int .i64 n]] w fun e w' => e = .returned (.int .i64 e0) ∧ Sat w0 w' (refR13 p (A.drop ⟨k, n⟩) * F) := by
  subst he
  have h1 := h.alloc (.cells #[.int .i64 k, .int .i64 n] 28)
  have ⟨y0, y1⟩ := valR h1
  have HC := Lib.hid (r_count H hB h1.p2 k n rfl rfl)
  cases ho : cntO A ⟨k, n⟩ with
  | none =>
    have e1 : cntN A ⟨k, n⟩ = 0 := by unfold cntN; rw [ho]
    have e2 : A.drop ⟨k, n⟩ = A := by unfold AHeap.drop; rw [ho]
    rw [e1] at HC
    rw [e2]
    generalize cntE A ⟨k, n⟩ = e0 at *
    clear h1 h H ho e1 e2
    go_enter Try.func89, Try.ntmps89
    go_wp2_with fail
    refine HC.out.mono ?_
    rintro e w1 ⟨rfl, h2⟩
    go_wp2_with fail
    go_ret
    exact ⟨rfl, h2.p2.drop⟩
  | some o =>
    have hA := cntO_some ho
    dsimp only at hA
    have hrng := obj_in H (n := n) (by rw [hA]; rfl)
    have hcn := H.c n o hA
    have hql := H.ql
    have hbl := H.bl
    obtain ⟨j, rfl⟩ : ∃ j : Nat, n = (j : Int) + 1 := ⟨(n - 1).toNat, by omega⟩
    have e1 : cntN A ⟨k, (j : Int) + 1⟩ = (j : Int) + 1 := by unfold cntN; rw [ho]
    have e3 : cntE A ⟨k, (j : Int) + 1⟩ = 0 := by unfold cntE; rw [ho]; simp
    rw [e1, e3] at HC
    rw [e3]
    have hobj : A.obj ((j : Int) + 1) = o := by unfold AHeap.obj; rw [hA]; rfl
    have hT := H.t
    have hj1 : (j : Int) + 1 - 1 = j := by omega
    have hj2 : (0 : Int) ≤ (j : Int) := by omega
    have hj3 : (j : Int) < (A.T.length : Int) := by omega
    have hj4 : IntKind.i64.wrap (j : Int) = j := IntWalk.i64_in _ (by omega)
    have hj5 : ((j : Int) + 1 == 0) = false := by simp; omega
    have hc1 : IntKind.i64.wrap (o.count - 1) = o.count - 1 := IntWalk.i64_in _ (by omega)
    obtain ⟨A1, hA1⟩ : ∃ A1, A1 = (A.upd ((j : Int) + 1) { o with count := o.count - 1 }).touch ((j : Int) + 1) := ⟨_, rfl⟩
    have hdrop : A.drop ⟨k, (j : Int) + 1⟩ = if o.count - 1 = 0 then { A1 with queue := A.queue ++ [(j : Int) + 1], buf := wout A.buf ((j : Int) + 1) } else if o.kind ≠ 5 ∧ (j : Int) + 1 ∉ A.buf then { A1 with buf := A.buf ++ [(j : Int) + 1] } else A1 := by
      unfold AHeap.drop; rw [ho, hA1]; rfl
    have hobj1 : A1.obj ((j : Int) + 1) = { o with count := o.count - 1 } := by rw [hA1]; unfold AHeap.obj AHeap.touch AHeap.upd; simp
    have hq1 : A1.queue = A.queue := by rw [hA1]; rfl
    have hb1 : A1.buf = A.buf := by rw [hA1]; rfl
    have ht1 : A1.T = A.T := by rw [hA1]; rfl
    have HT := Lib.hid (And.intro hobj (And.intro (show j < A.T.length by omega) (And.intro hW (And.intro hA1 (And.intro hobj1 (And.intro hq1 (And.intro hb1 ht1)))))))
    have HD := Lib.hid hdrop
    clear h1 h H ho e1 e3 hA hobj hrng hT hW hA1 hdrop hobj1 hq1 hb1 ht1
    go_enter Try.func89, Try.ntmps89
    go_wp2_with fail
    refine HC.out.mono ?_
    rintro e w1 ⟨rfl, h2⟩
    obtain ⟨X, oa, oc, qa, qc, ba, bc, fa, fc, sa, sc, op⟩ := h2.openR
    obtain ⟨g, off, xa, xc, eoa, hx, _, d1, _⟩ := op.obj (k := j) HT.out.2.1
    have f1 := op.free eoa HT.out.2.1 (j := 1) (by omega)
    subst eoa
    have c0 := op.c0
    rw [HT.out.1] at d1 hx
    have h3 := (op.setObj (f := 1) (o' := { o with count := o.count - 1 }) (v := .int .i64 (o.count - 1)) hx HT.out.2.1 (by omega) rfl rfl).shut
    have HC2 := Lib.hid (r_touch (A := A.upd ((j : Int) + 1) { o with count := o.count - 1 }) HT.out.2.2.1 h3 ((j : Int) + 1))
    rw [← HT.out.2.2.2.1] at HC2
    clear h3 hx op h2
    go_wp2_with fail
    refine HC2.out.mono ?_
    rintro e w2 ⟨rfl, h4⟩
    clear c0 d1 f1
    obtain ⟨X, oa, oc, qa, qc, ba, bc, fa, fc, sa, sc, op⟩ := h4.openR
    obtain ⟨g, off, xa, xc, eoa, hx, d0, d1, _⟩ := op.obj (k := j) (by rw [HT.out.2.2.2.2.2.2.2]; exact HT.out.2.1)
    subst eoa
    have c0 := op.c0
    have c1 := op.c1
    have c2 := op.c2
    rw [HT.out.2.2.2.2.1] at d0 d1
    dsimp only at d0 d1
    rw [HT.out.2.2.2.2.2.2.2] at c0
    rw [HT.out.2.2.2.2.2.1] at c1
    rw [HT.out.2.2.2.2.2.2.1] at c2
    have hql1 : (A.queue.length : Int) ≤ 1000000 := by omega
    have hbl1 : (A.buf.length : Int) ≤ 1000000 := by omega
    have hqq : Sat w0 w2 (slc 3 1 qa A.queue.length qc (A.queue.map ival) * (row p 51 (rcellsH A1 (some ⟨g, off, none⟩) oc qa qc ba bc fa fc sa sc) * (slc 3 1 ba A.buf.length bc (A.buf.map ival) * (slc 39 5 (some ⟨g, off, none⟩) A1.T.length oc (xscells X) * (xslotsR X * (slc 176 2 fa A1.fins.length fc (finCells A1.fins) * (slc 3 1 sa A1.watch.length sc (A1.watch.map ival) * (pt w.heap.size (.cells #[.int .i64 k, .int .i64 ((j : Int) + 1)] 28 (0, 0)) * F)))))))) := op.hs.cast (by unfold rrest; rw [HT.out.2.2.2.2.2.1, HT.out.2.2.2.2.2.2.1]; ac_rfl)
    have hOX := Lib.hid op.hx
    have H4 := Lib.hid h4
    clear h4 op hx
    by_cases hz : o.count - 1 = 0
    · have hd1 := HD.out
      rw [if_pos hz] at hd1
      have HD1 := Lib.hid hd1
      clear hd1 HD
      have fz : (o.count - 1 == 0) = true := by simpa using hz
      have h5 := hqq.alloc (.cells #[.int .i64 ((j : Int) + 1)] 3)
      have b0 : (w2.alloc (.cells #[.int .i64 ((j : Int) + 1)] 3)).cell? ⟨w2.heap.size, 0, none⟩ = some (.int .i64 ((j : Int) + 1)) := Sat.cell (T := 3) (cs := #[.int .i64 ((j : Int) + 1)]) h5 0 rfl
      have k1 := h5.p3.cell (i := 1) (v := .slice qa A.queue.length qc) (by rw [← HT.out.2.2.2.2.2.1]; rfl)
      have k1f := h5.p3.free 1
      clear hqq hz
      generalize w.heap.size = bv at *
      go_wp2_with (at_builtin; refine wpList_push rfl _ _ rfl qa A.queue.length qc A.queue rfl h5.p2 w2.heap.size 1 ((j : Int) + 1) rfl b0 (by omega) ?_; intro a' c' w4 h6; have k4 := (Sat.drop2 h6).p2.cell (i := 1) (v := .slice qa A.queue.length qc) (by rw [← HT.out.2.2.2.2.2.1]; rfl); have k4f := (Sat.drop2 h6).p2.free 1; have h7 := (Sat.drop2 h6).p2.store (i := 1) (.slice a' (A.queue.length + 1) c'); have k5 := h7.cell (i := 2) (v := .slice ba A.buf.length bc) (by rw [← HT.out.2.2.2.2.2.2.1]; rfl))
      refine (r_without h7.p3 rfl (by omega) ((j : Int) + 1)).mono ?_
      rintro e w6 ⟨ra, rc, rfl, h8⟩
      have k6 := (Sat.drop2 h8).p2.cell (i := 2) (v := .slice ba A.buf.length bc) (by rw [← HT.out.2.2.2.2.2.2.1]; rfl)
      have k6f := (Sat.drop2 h8).p2.free 2
      have h9 := (Sat.drop2 h8).p2.store (i := 2) (.slice ra (wout A.buf ((j : Int) + 1)).length rc)
      clear h8 h7 h5 k1 k1f b0
      have hfin : Sat w0 (w6.setCell ⟨p, 2, none⟩ (.slice ra (wout A.buf ((j : Int) + 1)).length rc)) (refR13 p (A.drop ⟨k, (j : Int) + 1⟩) * (pt bv (.cells #[.int .i64 k, .int .i64 ((j : Int) + 1)] 28 (0, 0)) * F)) := by
        rw [HD1.out]
        exact ROpen.shut (X := X) (oa := some ⟨g, off, none⟩) (oc := oc) (qa := a') (qc := c') (ba := ra) (bc := rc) (fa := fa) (fc := fc) (sa := sa) (sc := sc) ⟨hOX.out, h9.cast (by unfold rrest rcellsH; dsimp only; rw [List.length_append]; ac_rfl)⟩
      have HFIN := Lib.hid hfin
      clear hfin h9
      generalize A.queue.length = qn at *
      generalize A.buf.length = bn at *
      generalize (wout A.buf ((j : Int) + 1)).length = wn at *
      go_wp2_with fail
      go_ret
      exact ⟨rfl, HFIN.out.p2.drop⟩
    · have hd1 := HD.out
      rw [if_neg hz] at hd1
      have fz : (o.count - 1 == 0) = false := by simpa using hz
      clear hz HD
      by_cases hk5 : o.kind = 5
      · rw [if_neg (fun c => c.1 hk5)] at hd1
        have HD1 := Lib.hid hd1
        have fk : (o.kind != 5) = false := by simpa using hk5
        clear hd1 hk5 hqq
        go_wp2_with fail
        go_ret
        exact ⟨rfl, by rw [HD1.out]; exact H4.out.p2.drop⟩
      · have fk : (o.kind != 5) = true := by simpa using hk5
        by_cases hin : ((j : Int) + 1) ∈ A.buf
        · rw [if_neg (fun c => c.2 hin)] at hd1
          have HD1 := Lib.hid hd1
          have HI := Lib.hid (r_in hqq.p3 rfl (by omega) ((j : Int) + 1) (decide_eq_true hin))
          clear hd1 hk5 hqq hin
          go_wp2_with fail
          refine HI.out.mono ?_
          rintro e w4 ⟨rfl, rfl⟩
          go_wp2_with fail
          go_ret
          exact ⟨rfl, by rw [HD1.out]; exact H4.out.p2.drop⟩
        · rw [if_pos ⟨hk5, hin⟩] at hd1
          have HD1 := Lib.hid hd1
          have HI := Lib.hid (r_in hqq.p3 rfl (by omega) ((j : Int) + 1) (decide_eq_false hin))
          have h5 := (hqq.alloc (.cells #[.int .i64 ((j : Int) + 1)] 3)).p4
          have b0 : (w2.alloc (.cells #[.int .i64 ((j : Int) + 1)] 3)).cell? ⟨w2.heap.size, 0, none⟩ = some (.int .i64 ((j : Int) + 1)) := Sat.cell (T := 3) (cs := #[.int .i64 ((j : Int) + 1)]) (hqq.alloc (.cells #[.int .i64 ((j : Int) + 1)] 3)) 0 rfl
          clear hd1 hk5 hqq hin
          generalize w.heap.size = bv at *
          go_wp2_with fail
          refine HI.out.mono ?_
          rintro e w4 ⟨rfl, rfl⟩
          go_wp2_with (at_builtin; refine wpList_push rfl _ _ rfl ba A.buf.length bc A.buf rfl h5 w2.heap.size 1 ((j : Int) + 1) rfl b0 (by omega) ?_; intro a' c' w4 h6; have k4 := h6.p4.cell (i := 2) (v := .slice ba A.buf.length bc) (by rw [← HT.out.2.2.2.2.2.2.1]; rfl); have k4f := h6.p4.free 2)
          have h7 := h6.p4.store (i := 2) (.slice a' (A.buf.length + 1) c')
          have hfin : Sat w0 (w4.setCell ⟨p, 2, none⟩ (.slice a' (A.buf.length + 1) c')) (refR13 p (A.drop ⟨k, (j : Int) + 1⟩) * (pt bv (.cells #[.int .i64 k, .int .i64 ((j : Int) + 1)] 28 (0, 0)) * (pt w2.heap.size (.cells #[.int .i64 ((j : Int) + 1)] 3 (0, 0)) * F))) := by
            rw [HD1.out]
            exact ROpen.shut (X := X) (oa := some ⟨g, off, none⟩) (oc := oc) (qa := qa) (qc := qc) (ba := a') (bc := c') (fa := fa) (fc := fc) (sa := sa) (sc := sc) ⟨hOX.out, h7.cast (by unfold rrest rcellsH; dsimp only; rw [List.length_append, HT.out.2.2.2.2.2.1]; ac_rfl)⟩
          go_ret
          exact ⟨rfl, hfin.p2.drop.p2.drop⟩
end
end Go.Proofs.Ytkpcngcegipalaa.Tw
namespace Go.Proofs.Ytkpcngcegipalaa.Tw
set_option linter.unusedVariables false
set_option linter.unusedSimpArgs false
open Go Go.RowKit Go.MapKept

section
variable {w0 w : World} {p : Nat} {A : AHeap} {F : HP} {B : Int} {X : List XObj} {oa : Option Addr} {oc : Nat} {qa : Option Addr} {qc : Nat} {ba : Option Addr} {bc : Nat} {fa : Option Addr} {fc : Nat} {sa : Option Addr} {sc : Nat}
/-- the heap's own row, written, nothing else -/
theorem ROpen.setRow {i : Nat} {v : Value} {A' : AHeap} (h : ROpen w0 w p A F X oa oc qa qc ba bc fa fc sa sc) (hr : (rcellsH A oa oc qa qc ba bc fa fc sa sc).setIfInBounds i v = rcellsH A' oa oc qa qc ba bc fa fc sa sc)
    (hT : A'.T = A.T) (ho : A'.objs = A.objs) (hq : A'.queue = A.queue) (hb : A'.buf = A.buf) (hf : A'.fins = A.fins) (hw : A'.watch = A.watch) : ROpen w0 (w.setCell ⟨p, i, none⟩ v) p A' F X oa oc qa qc ba bc fa fc sa sc := by
  refine ⟨?_, ?_⟩
  · rw [h.hx, hT]; unfold graphL AHeap.obj; rw [ho]
  · have := h.hs.store (i := i) v
    rw [hr] at this
    unfold rrest at this ⊢
    rw [hT, hq, hb, hf, hw]
    exact this
set_option maxRecDepth 100000 in
set_option maxHeartbeats 1000000 in
theorem r_Mark (H : HW A B) (hB : B ≤ 1000000) (hW : A.watch.length ≤ 1000000) (h : Sat w0 w (refR13 p A * F)) (n : Int) {r : Int} (hr : A.markN n = r) :
    Calls Try.prog 101 #[.pointer (some ⟨p, 0, none⟩), .int .i64 n] w fun e w' => e = .returned (.int .i64 r) ∧ Sat w0 w' (refR13 p (A.mark n) * F) := by
  subst hr
  cases ho : A.objs n with
  | none =>
    have HC := Lib.hid (r_There H hB h n (b := false) (by rw [ho]; rfl))
    have e1 : A.mark n = A := by unfold AHeap.mark; rw [ho]
    have e2 : A.markN n = 0 := by unfold AHeap.markN; rw [ho]
    rw [e1, e2]
    clear e1 e2 ho H
    go_enter Try.func101, Try.ntmps101
    go_wp2_with fail
    refine HC.out.mono ?_
    rintro e w1 ⟨rfl, rfl⟩
    go_wp2_with fail
    go_ret
    exact ⟨rfl, h⟩
  | some o =>
    have HC := Lib.hid (r_There H hB h n (b := true) (by rw [ho]; rfl))
    have hrng := obj_in H (n := n) (by rw [ho]; rfl)
    have hm := H.m
    have hT := H.t
    obtain ⟨j, rfl⟩ : ∃ j : Nat, n = (j : Int) + 1 := ⟨(n - 1).toNat, by omega⟩
    have hobj : A.obj ((j : Int) + 1) = o := by unfold AHeap.obj; rw [ho]; rfl
    obtain ⟨X, oa, oc, qa, qc, ba, bc, fa, fc, sa, sc, op⟩ := h.openR
    obtain ⟨g, off, xa, xc, eoa, hx, d0, d1, d2, d3, d4⟩ := op.obj (k := j) (by omega)
    subst eoa
    have c0 := op.c0
    have c4 := op.c4
    have f4 := op.hs.free 4
    rw [hobj] at d4 hx
    have hj1 : (j : Int) + 1 - 1 = j := by omega
    have hj2 : (0 : Int) ≤ (j : Int) := by omega
    have hj3 : (j : Int) < (A.T.length : Int) := by omega
    have hj4 : IntKind.i64.wrap (j : Int) = j := IntWalk.i64_in _ (by omega)
    by_cases hmk : o.mark = 0
    · have e1 : A.mark ((j : Int) + 1) = (AHeap.upd { A with marks := A.marks + 1 } ((j : Int) + 1) { o with mark := A.marks + 1 }).touch ((j : Int) + 1) := by unfold AHeap.mark; rw [ho]; simp [hmk]
      have e2 : A.markN ((j : Int) + 1) = A.marks + 1 := by unfold AHeap.markN; rw [ho]; simp [hmk]
      rw [e1, e2]
      have fm : (o.mark != 0) = false := by simpa using hmk
      have op2 := op.setRow (i := 4) (v := .int .i64 (A.marks + 1)) (A' := { A with marks := A.marks + 1 }) rfl rfl rfl rfl rfl rfl rfl
      obtain ⟨g', off', xa', xc', e', hx', _, _, _, _, b4⟩ := op2.obj (k := j) (by show j < A.T.length; omega)
      cases e'
      rw [show AHeap.obj { A with marks := A.marks + 1 } ((j : Int) + 1) = o from hobj] at hx' b4
      have b0 := op2.c0
      have b5 := op2.c4
      have bf := op2.free rfl (k := j) (by show j < A.T.length; omega) (j := 4) (by omega)
      have op3 := op2.setObj (f := 4) (o' := { o with mark := A.marks + 1 }) (v := .int .i64 (A.marks + 1)) hx' (by show j < A.T.length; omega) (by omega) rfl rfl
      have HT2 := Lib.hid (r_touch (A := AHeap.upd { A with marks := A.marks + 1 } ((j : Int) + 1) { o with mark := A.marks + 1 }) hW op3.shut.drew ((j : Int) + 1))
      have hc1 : IntKind.i64.wrap (A.marks + 1) = A.marks + 1 := IntWalk.i64_in _ (by omega)
      have HM := Lib.hid (fun (w' : World) (hh : Sat w0 w' (refR13 p ((AHeap.upd { A with marks := A.marks + 1 } ((j : Int) + 1) { o with mark := A.marks + 1 }).touch ((j : Int) + 1)) * F)) => (show w'.cell? ⟨p, 4, none⟩ = some (.int .i64 (A.marks + 1)) from by obtain ⟨_, _, _, _, _, _, _, _, _, _, _, oo⟩ := hh.openR; exact oo.c4))
      clear op op2 op3 hx hx' h H ho e1 e2 hobj hmk d0 d1 d2 d3
      generalize A.T.length = N at *
      go_enter Try.func101, Try.ntmps101
      go_wp2_with fail
      refine HC.out.mono ?_
      rintro e w1 ⟨rfl, rfl⟩
      go_wp2_with fail
      refine wp_region_tail 12 (by kernel_rfl) (by kernel_rfl) ?_
      simp only [List.take_succ_cons, List.take_zero, List.drop_succ_cons, List.drop_zero]
      iterate 12 still_step
      refine wpStill_nil ?_
      go_wp2_with fail
      refine HT2.out.mono ?_
      rintro e w2 ⟨rfl, h4⟩
      have m4 := HM.out _ h4
      go_wp2_with fail
      go_ret
      exact ⟨rfl, h4⟩
    · have e1 : A.mark ((j : Int) + 1) = A := by unfold AHeap.mark; rw [ho]; simp [hmk]
      have e2 : A.markN ((j : Int) + 1) = 0 := by unfold AHeap.markN; rw [ho]; simp [hmk]
      rw [e1, e2]
      have fm : (o.mark != 0) = true := by simpa using hmk
      clear op hx H ho e1 e2 hobj hmk
      generalize A.T.length = N at *
      go_enter Try.func101, Try.ntmps101
      go_wp2_with fail
      refine HC.out.mono ?_
      rintro e w1 ⟨rfl, rfl⟩
      go_wp2_with fail
      go_ret
      exact ⟨rfl, h⟩
set_option maxHeartbeats 1000000 in
theorem r_Suspect (H : HW A B) (hB : B ≤ 1000000) (h : Sat w0 w (refR13 p A * F)) (n : Int) {r : Int} (hr : (if suspB A n then (0 : Int) else 2) = r) :
    Calls Try.prog 111 #[.pointer (some ⟨p, 0, none⟩), .int .i64 n] w fun e w' => e = .returned (.int .i64 r) ∧ Sat w0 w' (refR13 p (A.suspF n) * F) := by
  subst hr
  cases ho : A.objs n with
  | none =>
    have HC := Lib.hid (r_There H hB h n (b := false) (by rw [ho]; rfl))
    have e0 : suspB A n = false := by unfold suspB; rw [ho]
    have e1 : A.suspF n = A := by unfold AHeap.suspF; rw [e0]; rfl
    rw [e1, e0, if_neg Bool.false_ne_true]
    clear e1 e0 ho H
    go_enter Try.func111, Try.ntmps111
    go_wp2_with fail
    refine HC.out.mono ?_
    rintro e w1 ⟨rfl, rfl⟩
    go_wp2_with fail
    go_ret
    exact ⟨rfl, h⟩
  | some o =>
    have HC := Lib.hid (r_There H hB h n (b := true) (by rw [ho]; rfl))
    have hrng := obj_in H (n := n) (by rw [ho]; rfl)
    have hT := H.t
    have hbl := H.bl
    obtain ⟨j, rfl⟩ : ∃ j : Nat, n = (j : Int) + 1 := ⟨(n - 1).toNat, by omega⟩
    have hobj : A.obj ((j : Int) + 1) = o := by unfold AHeap.obj; rw [ho]; rfl
    have es : suspB A ((j : Int) + 1) = (!decide (o.kind = 5) && !decide (o.count = 0) && !decide (((j : Int) + 1) ∈ A.buf)) := by unfold suspB; rw [ho]
    obtain ⟨X, oa, oc, qa, qc, ba, bc, fa, fc, sa, sc, op⟩ := h.openR
    obtain ⟨g, off, xa, xc, eoa, hx, d0, d1, d2, d3, d4⟩ := op.obj (k := j) (by omega)
    subst eoa
    have c0 := op.c0
    have c2 := op.c2
    have f2 := op.hs.free 2
    rw [hobj] at d0 d1
    have hj1 : (j : Int) + 1 - 1 = j := by omega
    have hj2 : (0 : Int) ≤ (j : Int) := by omega
    have hj3 : (j : Int) < (A.T.length : Int) := by omega
    have hj4 : IntKind.i64.wrap (j : Int) = j := IntWalk.i64_in _ (by omega)
    by_cases hk5 : o.kind = 5
    · have e0 : suspB A ((j : Int) + 1) = false := by rw [es, decide_eq_true hk5]; rfl
      have e1 : A.suspF ((j : Int) + 1) = A := by unfold AHeap.suspF; rw [e0]; rfl
      rw [e1, e0, if_neg Bool.false_ne_true]
      have fk : (o.kind == 5) = true := by simpa using hk5
      clear op hx H ho e1 e0 es hobj hk5
      generalize A.T.length = N at *
      go_enter Try.func111, Try.ntmps111
      go_wp2_with fail
      refine HC.out.mono ?_
      rintro e w1 ⟨rfl, rfl⟩
      go_wp2_with fail
      go_ret
      exact ⟨rfl, h⟩
    · have fk : (o.kind == 5) = false := by simpa using hk5
      by_cases hc0 : o.count = 0
      · have e0 : suspB A ((j : Int) + 1) = false := by rw [es, decide_eq_true hc0]; simp
        have e1 : A.suspF ((j : Int) + 1) = A := by unfold AHeap.suspF; rw [e0]; rfl
        rw [e1, e0, if_neg Bool.false_ne_true]
        have fc0 : (o.count == 0) = true := by simpa using hc0
        clear op hx H ho e1 e0 es hobj hk5 hc0
        generalize A.T.length = N at *
        go_enter Try.func111, Try.ntmps111
        go_wp2_with fail
        refine HC.out.mono ?_
        rintro e w1 ⟨rfl, rfl⟩
        go_wp2_with fail
        go_ret
        exact ⟨rfl, h⟩
      · have fc0 : (o.count == 0) = false := by simpa using hc0
        have hbb : Sat w0 w (slc 3 1 ba A.buf.length bc (A.buf.map ival) * (row p 51 (rcellsH A (some ⟨g, off, none⟩) oc qa qc ba bc fa fc sa sc) * (slc 3 1 qa A.queue.length qc (A.queue.map ival) * (slc 39 5 (some ⟨g, off, none⟩) A.T.length oc (xscells X) * (xslotsR X * (slc 176 2 fa A.fins.length fc (finCells A.fins) * (slc 3 1 sa A.watch.length sc (A.watch.map ival) * F))))))) := op.hs.cast (by unfold rrest; ac_rfl)
        by_cases hin : ((j : Int) + 1) ∈ A.buf
        · have e0 : suspB A ((j : Int) + 1) = false := by rw [es, decide_eq_true hin]; simp
          have e1 : A.suspF ((j : Int) + 1) = A := by unfold AHeap.suspF; rw [e0]; rfl
          rw [e1, e0, if_neg Bool.false_ne_true]
          have HI := Lib.hid (r_in hbb rfl (by omega) ((j : Int) + 1) (decide_eq_true hin))
          clear op hx H ho e1 e0 es hobj hk5 hc0 hbb hin
          generalize A.T.length = N at *
          generalize A.buf.length = bn at *
          go_enter Try.func111, Try.ntmps111
          go_wp2_with fail
          refine HC.out.mono ?_
          rintro e w1 ⟨rfl, rfl⟩
          go_wp2_with fail
          refine HI.out.mono ?_
          rintro e w2 ⟨rfl, rfl⟩
          go_wp2_with fail
          go_ret
          exact ⟨rfl, h⟩
        · have e0 : suspB A ((j : Int) + 1) = true := by rw [es, decide_eq_false hin, decide_eq_false hk5, decide_eq_false hc0]; rfl
          have e1 : A.suspF ((j : Int) + 1) = { A with buf := A.buf ++ [(j : Int) + 1] } := by unfold AHeap.suspF; rw [e0]; rfl
          rw [e1, e0, if_pos rfl]
          have HI := Lib.hid (r_in hbb rfl (by omega) ((j : Int) + 1) (decide_eq_false hin))
          have h5 := (hbb.alloc (.cells #[.int .i64 ((j : Int) + 1)] 3)).p2
          have b0 : (w.alloc (.cells #[.int .i64 ((j : Int) + 1)] 3)).cell? ⟨w.heap.size, 0, none⟩ = some (.int .i64 ((j : Int) + 1)) := Sat.cell (T := 3) (cs := #[.int .i64 ((j : Int) + 1)]) (hbb.alloc (.cells #[.int .i64 ((j : Int) + 1)] 3)) 0 rfl
          have hOX := Lib.hid op.hx
          clear op hx H ho e1 e0 es hobj hk5 hc0 hbb hin h
          go_enter Try.func111, Try.ntmps111
          go_wp2_with fail
          refine HC.out.mono ?_
          rintro e w1 ⟨rfl, rfl⟩
          go_wp2_with fail
          refine HI.out.mono ?_
          rintro e w2 ⟨rfl, rfl⟩
          go_wp2_with (at_builtin; refine wpList_push rfl _ _ rfl ba A.buf.length bc A.buf rfl h5 w.heap.size 1 ((j : Int) + 1) rfl b0 (by omega) ?_; intro a' c' w4 h6; have k4 := h6.p3.cell (i := 2) (v := .slice ba A.buf.length bc) rfl; have k4f := h6.p3.free 2)
          have h7 := h6.p3.store (i := 2) (.slice a' (A.buf.length + 1) c')
          have hfin : Sat w0 (w4.setCell ⟨p, 2, none⟩ (.slice a' (A.buf.length + 1) c')) (refR13 p { A with buf := A.buf ++ [(j : Int) + 1] } * (pt w.heap.size (.cells #[.int .i64 ((j : Int) + 1)] 3 (0, 0)) * F)) :=
            ROpen.shut (X := X) (oa := some ⟨g, off, none⟩) (oc := oc) (qa := qa) (qc := qc) (ba := a') (bc := c') (fa := fa) (fc := fc) (sa := sa) (sc := sc) ⟨hOX.out, h7.cast (by unfold rrest rcellsH; dsimp only; rw [List.length_append]; ac_rfl)⟩
          go_ret
          exact ⟨rfl, hfin.p2.drop⟩
end
end Go.Proofs.Ytkpcngcegipalaa.Tw
namespace Go.Proofs.Ytkpcngcegipalaa.Tw
set_option linter.unusedVariables false
set_option linter.unusedSimpArgs false
open Go Go.RowKit Go.MapKept

section
variable {P : Program} {w0 w : World} {F : HP} {ops : Array Oper} {rest : List Oper} {o : Oper} {a : Act} {Q : Exit → Act → World → Prop} {K : Act → World → Prop}
/-- numbers behind an owned slice, from wherever -/
theorem wpList_catInt (hg : o.guard = none) (s x : Operand) (hop : o.op = .call { callee := .builtin .append, args := #[s, x], argTypes := #[48, 48] })
    (sa : Option Addr) (n c : Nat) (l : List Int) (hs : a.eval s = .slice sa n c) (h : Sat w0 w (slc 3 1 sa n c (l.map ival) * F)) (xa : Option Addr) (m c' : Nat) (r : List Int) (hx : a.eval x = .slice xa m c') (hr : r.length = m)
    (hsrc : (∀ ad, xa = some ad → ∀ j u, (r.map ival)[j]? = some u → w.cell? (ad.add j) = some u) ∧ (xa = none → m = 0 ∧ c' = 0)) (hn : n + m ≤ 1000000000)
    (hK : ∀ a' c'' w', Sat w0 w' (slc 3 1 a' (n + m) c'' ((l ++ r).map ival) * F) → wpList Try.prog ops Q rest (a.put o.dst (.slice a' (n + m) c'')) w') : wpList Try.prog ops Q (o :: rest) a w := by
  obtain ⟨i0, hi, hz0, hz1, hz2⟩ := info_parts info_int'
  refine wpList_append_any hg s x 48 hop i0 (.int .i64 0) 8 Try.underlying48 hi hz0 hz1 hz2 rfl sa n c (l.map ival) hs h xa m c' (r.map ival) hx (by simp [hr]) hsrc (oneCell_ivals _) (by unfold maxLen; omega) (by omega) fun a' c'' w' h2 _ => ?_
  exact hK a' c'' w' (by rw [List.map_append]; exact h2)
end
section
variable {w0 w : World} {p : Nat} {A : AHeap} {F : HP} {B : Int} {X : List XObj} {oa : Option Addr} {oc : Nat} {qa : Option Addr} {qc : Nat} {ba : Option Addr} {bc : Nat} {fa : Option Addr} {fc : Nat} {sa : Option Addr} {sc : Nat}
set_option maxHeartbeats 1000000 in
theorem r_Watch {a : Option Addr} {n c : Nat} {l : List Int} (h : Sat w0 w (slc 3 1 a n c (l.map ival) * (refR13 p A * F))) (hl : l.length = n) (hn : n ≤ 1000000) :
    Calls Try.prog 112 #[.pointer (some ⟨p, 0, none⟩), .slice a n c] w fun e w' => e = .returned (.tuple #[]) ∧ Sat w0 w' (refR13 p (A.watchF l) * (slc 3 1 a n c (l.map ival) * F)) := by
  obtain ⟨X, oa, oc, qa, qc, ba, bc, fa, fc, sa, sc, op⟩ := h.p2.openR
  have hsrc := h.slcSrc
  have h1 : Sat w0 w (slc 3 1 none 0 0 (([] : List Int).map ival) * opG p A X oa oc qa qc ba bc fa fc sa sc (slc 3 1 a n c (l.map ival) * F)) := op.hs.nilSlc
  have hOX := Lib.hid op.hx
  clear op h
  go_enter Try.func112, Try.ntmps112
  go_wp2_with (at_builtin; refine wpList_catInt rfl _ _ rfl none 0 0 [] rfl h1 a n c l rfl hl hsrc (by omega) ?_; intro a' c' w4 h6; rw [Nat.zero_add] at h6; have k5 := h6.p2.cell (i := 5) (v := .slice sa A.watch.length sc) rfl; have k5f := h6.p2.free 5; have h7 := h6.p2.store (i := 5) (.slice a' n c'); have k6 := h7.cell (i := 6) (v := .bool A.touched) rfl; have k6f := h7.free 6; have h8 := h7.store (i := 6) (.bool false))
  go_end0
  refine ⟨rfl, ROpen.shut (X := X) (oa := oa) (oc := oc) (qa := qa) (qc := qc) (ba := ba) (bc := bc) (fa := fa) (fc := fc) (sa := a') (sc := c') ⟨hOX.out, ?_⟩⟩
  subst hl
  have h9 := Sat.drop (P := slc 3 1 sa A.watch.length sc (A.watch.map ival)) (h8.cast (show _ = slc 3 1 sa A.watch.length sc (A.watch.map ival) * opG p (A.watchF l) X oa oc qa qc ba bc fa fc a' c' (slc 3 1 a l.length c (l.map ival) * F) by unfold opG rrest rcellsH AHeap.watchF; dsimp only; rw [List.nil_append]; ac_rfl))
  exact h9
theorem r_TakeBuffer (h : Sat w0 w (refR13 p A * F)) :
    Calls Try.prog 110 #[.pointer (some ⟨p, 0, none⟩)] w fun e w' => ∃ a c, e = .returned (.slice a A.buf.length c) ∧ Sat w0 w' (slc 3 1 a A.buf.length c (A.buf.map ival) * (refR13 p { A with buf := [] } * F)) := by
  obtain ⟨X, oa, oc, qa, qc, ba, bc, fa, fc, sa, sc, op⟩ := h.openR
  have c2 := op.c2
  have f2 := op.hs.free 2
  have h1 := op.hs.store (i := 2) (.slice none 0 0)
  have h2 : Sat w0 (w.setCell ⟨p, 2, none⟩ (.slice none 0 0)) (refR13 p { A with buf := [] } * (slc 3 1 ba A.buf.length bc (A.buf.map ival) * F)) :=
    ROpen.shut (X := X) (oa := oa) (oc := oc) (qa := qa) (qc := qc) (ba := none) (bc := 0) (fa := fa) (fc := fc) (sa := sa) (sc := sc) ⟨op.hx, (h1.nilSlc (T := 3) (sz := 1)).cast (by unfold rrest rcellsH; dsimp only; rw [List.length_nil, List.map_nil]; ac_rfl)⟩
  generalize A.buf.length = bn at *
  clear op h1 h
  go_enter Try.func110, Try.ntmps110
  go_wp2_with fail
  go_ret
  exact ⟨ba, bc, rfl, h2.p2⟩
theorem finAtR {fa : Option Addr} {n c : Nat} {l : List (Int × Int)} (h : Sat w0 w (slc 176 2 fa n c (finCells l) * F)) {k : Nat} {x : Int × Int} (hk : l[k]? = some x) :
    ∃ g off, fa = some ⟨g, off, none⟩ ∧ w.cell? ⟨g, off + k * 2, none⟩ = some (.int .i64 x.1) ∧ w.cell? ⟨g, off + k * 2 + 1, none⟩ = some (.int .i64 x.2) := by
  have key : ∀ (l : List (Int × Int)) (k : Nat) (x : Int × Int), l[k]? = some x → (finCells l)[k * 2]? = some (.int .i64 x.1) ∧ (finCells l)[k * 2 + 1]? = some (.int .i64 x.2) := by
    intro l
    induction l with
    | nil => intro k x h; simp at h
    | cons v vs ih =>
      intro k x h
      cases k with
      | zero => simp at h; subst h; simp [finCells]
      | succ k =>
        have := ih k x (by simpa using h)
        have e : finCells (v :: vs) = [Value.int .i64 v.1, Value.int .i64 v.2] ++ finCells vs := rfl
        rw [e, List.getElem?_append_right (by simp; omega), List.getElem?_append_right (by simp; omega)]
        simp only [List.length_cons, List.length_nil]
        rw [show (k + 1) * 2 - (0 + 1 + 1) = k * 2 by omega, show (k + 1) * 2 + 1 - (0 + 1 + 1) = k * 2 + 1 by omega]
        exact this
  obtain ⟨e0, e1⟩ := key l k x hk
  obtain ⟨g, off, ea, c0, _⟩ := h.slcAt e0
  obtain ⟨g', off', ea', c1, _⟩ := h.slcAt e1
  rw [ea] at ea'; cases ea'
  exact ⟨g, off, ea, c0, by rw [Nat.add_assoc]; exact c1⟩
set_option maxHeartbeats 1000000 in
theorem r_Waiting_O (op : ROpen w0 w p A F X oa oc qa qc ba bc fa fc sa sc) (hf : A.fins.length ≤ 1000000) {n : Nat} {L : List Int} (hL : A.fins.map (·.1) = L) (hn : L.length = n) :
    Calls Try.prog 106 #[.pointer (some ⟨p, 0, none⟩)] w fun e w' => ∃ a c, e = .returned (.slice a n c) ∧ Sat w0 w' (slc 3 1 a n c (L.map ival) * opG p A X oa oc qa qc ba bc fa fc sa sc F) := by
  subst hL hn
  rw [List.length_map]
  have hOX := Lib.hid op.hx
  have h0 : Sat w0 w (slc 3 1 none 0 0 (((A.fins.map (·.1)).take 0).map ival) * opG p A X oa oc qa qc ba bc fa fc sa sc F) := op.hs.nilSlc
  have HFA := Lib.hid (fun (w' : World) (G : HP) (hx : Sat w0 w' (G * opG p A X oa oc qa qc ba bc fa fc sa sc F)) (k : Nat) (x : Int × Int) (hk : A.fins[k]? = some x) => And.intro (ROpen.c3 (F := G * F) ⟨op.hx, hx.cast (by unfold opG rrest; ac_rfl)⟩) (finAtR (hx.cast (show _ = slc 176 2 fa A.fins.length fc (finCells A.fins) * (G * (row p 51 (rcellsH A oa oc qa qc ba bc fa fc sa sc) * (slc 39 5 oa A.T.length oc (xscells X) * (xslotsR X * (slc 3 1 qa A.queue.length qc (A.queue.map ival) * (slc 3 1 ba A.buf.length bc (A.buf.map ival) * (slc 3 1 sa A.watch.length sc (A.watch.map ival) * F))))))) by unfold opG rrest; ac_rfl)) hk))
  have HC3 := Lib.hid (fun (w' : World) (G : HP) (hx : Sat w0 w' (G * opG p A X oa oc qa qc ba bc fa fc sa sc F)) => ROpen.c3 (F := G * F) ⟨op.hx, hx.cast (by unfold opG rrest; ac_rfl)⟩)
  clear op
  go_enter Try.func106, Try.ntmps106
  go_wp2_with fail
  go_loopw [3, 4] (fun ov iv wr => ∃ (k : Nat) (a : Option Addr) (c : Nat), iv = .int .i64 k ∧ k ≤ A.fins.length ∧ ov = .slice a k c ∧ Sat w0 wr (slc 3 1 a k c (((A.fins.map (·.1)).take k).map ival) * opG p A X oa oc qa qc ba bc fa fc sa sc F)) (fun _ iv _ => A.fins.length - (intOf iv).toNat)
  case atStart => exact ⟨0, none, 0, rfl, by omega, rfl, h0⟩
  case round =>
    obtain ⟨k, a, c, rfl, hk, rfl, hs⟩ := hrel
    have c3 := HC3.out _ _ hs
    by_cases hlt : k < A.fins.length
    · obtain ⟨x, hx⟩ : ∃ x, A.fins[k]? = some x := ⟨A.fins[k]'(by omega), List.getElem?_eq_getElem _⟩
      obtain ⟨_, g, off, rfl, x0, x1⟩ := HFA.out _ _ hs k x hx
      obtain ⟨y, z⟩ := x
      dsimp only at x0 x1
      have h1 := hs.alloc (.cells #[.int .i64 y] 3)
      have b0 : (wr.alloc (.cells #[.int .i64 y] 3)).cell? ⟨wr.heap.size, 0, none⟩ = some (.int .i64 y) := Sat.cell (T := 3) (cs := #[.int .i64 y]) h1 0 rfl
      have htk : (A.fins.map (·.1)).take (k + 1) = (A.fins.map (·.1)).take k ++ [y] := by rw [List.take_add_one, List.getElem?_map, hx]; rfl
      have HTK := Lib.hid htk
      clear hx htk
      go_wp2_with (at_builtin; refine wpList_push rfl _ _ rfl a k c ((A.fins.map (·.1)).take k) rfl h1.p2 wr.heap.size 1 y rfl b0 (by omega) ?_; intro a' c' w4 h4)
      go_roundw
      case rel =>
        refine ⟨k + 1, a', c', by go_num, by omega, rfl, ?_⟩
        rw [HTK.out]
        exact h4.drop2
      case measure => simp [intOf]; omega
    · obtain rfl : k = A.fins.length := by omega
      go_wp2_with fail
      go_ret
      refine ⟨a, c, rfl, ?_⟩
      rw [List.take_of_length_le (by simp)] at hs
      exact hs
theorem r_Waiting (h : Sat w0 w (refR13 p A * F)) (hf : A.fins.length ≤ 1000000) {n : Nat} {L : List Int} (hL : A.fins.map (·.1) = L) (hn : L.length = n) :
    Calls Try.prog 106 #[.pointer (some ⟨p, 0, none⟩)] w fun e w' => ∃ a c, e = .returned (.slice a n c) ∧ Sat w0 w' (slc 3 1 a n c (L.map ival) * (refR13 p A * F)) := by
  obtain ⟨X, oa, oc, qa, qc, ba, bc, fa, fc, sa, sc, op⟩ := h.openR
  refine (r_Waiting_O op hf hL hn).mono ?_
  rintro e w' ⟨a, c, rfl, h2⟩
  exact ⟨a, c, rfl, (ROpen.shutO op.hx h2).p2⟩
end
end Go.Proofs.Ytkpcngcegipalaa.Tw
