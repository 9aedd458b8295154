/- The heap of cells: Drop. No condition. -/
import Derived.Test.YtkpcngcegipalaaZPDw12
namespace Go.Proofs.Ytkpcngcegipalaa.Tw
set_option linter.unusedVariables false
set_option linter.unusedSimpArgs false
open Go Go.RowKit Go.MapKept

def AHeap.drop1 (A : AHeap) (n : Int) (o : AObj) : AHeap := (A.touch n).upd n { o with count := o.count - 1 }
def AHeap.drop (A : AHeap) (v : AVal) : AHeap :=
  match cntO A v with
  | none => A
  | some o =>
    if o.count - 1 = 0 then { A.drop1 v.n o with queue := A.queue ++ [v.n], buf := A.buf.filter fun x => !decide (v.n = x) }
    else if o.kind ≠ 5 ∧ v.n ∉ A.buf then { A.drop1 v.n o with buf := A.buf ++ [v.n] } else A.drop1 v.n o

def hcells (pb mb : Nat) (qa : Option Addr) (qn qc : Nat) (ba : Option Addr) (bn bc : Nat) (fa : Option Addr) (fn fc : Nat) (mk : Int) (fv : Value) (tb : Bool) : Array Value :=
  #[.pointer (some ⟨pb, 0, none⟩), .map (some mb), .slice qa qn qc, .slice ba bn bc, .slice fa fn fc, .int .i64 mk, fv, .bool tb]
section
variable {w0 w : World} {m : Hp} {p : Nat} {A : AHeap} {F : HP} {pb mb : Nat} {O : List (Int × Nat × AObj)} {qa : Option Addr} {qc : Nat} {ba : Option Addr} {bc : Nat} {fa : Option Addr} {fc : Nat} {fv : Value}
theorem Opened.queue (h : Opened w0 w m p A F pb mb O qa qc ba bc fa fc fv) {w' : World} {q : List Int} {qa' : Option Addr} {n qc' : Nat} (hn : q.length = n)
    (hs : Sat w0 w' (row p 90 (hcells pb mb qa' n qc' ba A.buf.length bc fa A.fins.length fc A.marks fv A.touched) * (slc 3 1 qa' n qc' (q.map ival) * (poolR pb A.T * (mapR (.int .i64) (Value.int .i64) mb (omap O) * (objsR O * (slc 3 1 ba A.buf.length bc (A.buf.map ival) * (slc 135 2 fa A.fins.length fc (finCells A.fins) * F)))))))) :
    Opened w0 w' m p { A with queue := q } F pb mb O qa' qc' ba bc fa fc fv := by subst hn; exact ⟨h.ho, h.ht, h.hw, hs.cast (by unfold hcells heapCells; ac_rfl)⟩
theorem Opened.buf (h : Opened w0 w m p A F pb mb O qa qc ba bc fa fc fv) {w' : World} {q : List Int} {ba' : Option Addr} {n bc' : Nat} (hn : q.length = n)
    (hs : Sat w0 w' (row p 90 (hcells pb mb qa A.queue.length qc ba' n bc' fa A.fins.length fc A.marks fv A.touched) * (slc 3 1 ba' n bc' (q.map ival) * (poolR pb A.T * (mapR (.int .i64) (Value.int .i64) mb (omap O) * (objsR O * (slc 3 1 qa A.queue.length qc (A.queue.map ival) * (slc 135 2 fa A.fins.length fc (finCells A.fins) * F)))))))) :
    Opened w0 w' m p { A with buf := q } F pb mb O qa qc ba' bc' fa fc fv := by subst hn; exact ⟨h.ho, h.ht, h.hw, hs.cast (by unfold hcells heapCells; ac_rfl)⟩
theorem Opened.fins (h : Opened w0 w m p A F pb mb O qa qc ba bc fa fc fv) {w' : World} {q : List (Int × Int)} {fa' : Option Addr} {n fc' : Nat} (hn : q.length = n)
    (hs : Sat w0 w' (row p 90 (hcells pb mb qa A.queue.length qc ba A.buf.length bc fa' n fc' A.marks fv A.touched) * (slc 135 2 fa' n fc' (finCells q) * (poolR pb A.T * (mapR (.int .i64) (Value.int .i64) mb (omap O) * (objsR O * (slc 3 1 qa A.queue.length qc (A.queue.map ival) * (slc 3 1 ba A.buf.length bc (A.buf.map ival) * F)))))))) :
    Opened w0 w' m p { A with fins := q } F pb mb O qa qc ba bc fa' fc' fv := by subst hn; exact ⟨h.ho, h.ht, h.hw, hs.cast (by unfold hcells heapCells; ac_rfl)⟩
end

set_option maxHeartbeats 1000000 in
theorem heap_Drop_nil (w : World) (v : AVal) {w0 : World} {F : HP} (h : Sat w0 w F) :
    Calls Try.prog 19 #[.pointer none, .agg #[.int .i64 v.kind, .int .i64 v.n]] w fun e w' => e = .returned (.int .i64 1) ∧ Sat w0 w' F := by
  have h1 := h.alloc (.cells #[.int .i64 v.kind, .int .i64 v.n] 28)
  have d0 : (w.alloc (.cells #[.int .i64 v.kind, .int .i64 v.n] 28)).cell? ⟨w.heap.size, 0, none⟩ = some (.int .i64 v.kind) := Sat.cell (T := 28) (cs := #[.int .i64 v.kind, .int .i64 v.n]) h1 0 rfl
  have d1 : (w.alloc (.cells #[.int .i64 v.kind, .int .i64 v.n] 28)).cell? ⟨w.heap.size, 1, none⟩ = some (.int .i64 v.n) := Sat.cell (T := 28) (cs := #[.int .i64 v.kind, .int .i64 v.n]) h1 1 rfl
  have h2 := h1.drop
  go_enter Try.func19, Try.ntmps19
  go_wp2_with fail
  refine (heap_counted_nil _ v h2).mono ?_
  rintro e w1 ⟨rfl, h3⟩
  go_wp2_with fail
  go_ret
  exact ⟨rfl, h3⟩

set_option maxRecDepth 100000 in
set_option maxHeartbeats 2000000 in
theorem heap_Drop {w0 w : World} {m : Hp} {p : Nat} {A : AHeap} {F : HP} (h : Sat w0 w (heapR m p A * F)) (K : Knows m F) (v : AVal) (hB : ∀ o, cntO A v = some o → IntKind.i64.wrap (o.count - 1) = o.count - 1) (hq : A.queue.length ≤ 1000000000) (hb : A.buf.length ≤ 1000000000) :
    Calls Try.prog 19 #[.pointer (some ⟨p, 0, none⟩), .agg #[.int .i64 v.kind, .int .i64 v.n]] w fun e w' => e = .returned (.int .i64 (cntE A v)) ∧ Sat w0 w' (heapR m p (A.drop v) * F) := by
  obtain ⟨pb, mb, O, qa, qc, ba, bc, fa, fc, fv, op0⟩ := h.openHeap
  obtain ⟨k, n⟩ := v
  have op := op0.alloc (.cells #[.int .i64 k, .int .i64 n] 28)
  generalize hbx : w.heap.size = bx at *
  have hx := op.box2
  have d0 := hx.1
  have d1 := hx.2
  clear hx
  cases hc : cntO A ⟨k, n⟩ with
  | none =>
    have hC := heap_counted_no op ⟨k, n⟩ hc
    have ek : A.drop ⟨k, n⟩ = A := by unfold AHeap.drop; rw [hc]
    rw [ek]
    have HC := Lib.hid hC
    clear hC hc ek hB
    go_enter Try.func19, Try.ntmps19
    try rw [hbx]
    go_wp2_with fail
    refine HC.out.mono ?_
    rintro e w1 ⟨rfl, op1⟩
    clear HC
    go_wp2_with fail
    go_ret
    exact ⟨rfl, op1.unframe.shut⟩
  | some o =>
    have ho := cntO_some hc
    obtain ⟨b, l, r, eO, hl, e3⟩ := op.obj ho
    have hC := heap_counted op K.left ⟨k, n⟩ hc e3
    have hwr := hB o hc
    have ek : A.drop ⟨k, n⟩ = if o.count - 1 = 0 then { A.drop1 n o with queue := A.queue ++ [n], buf := A.buf.filter fun x => !decide (n = x) } else if o.kind ≠ 5 ∧ n ∉ A.buf then { A.drop1 n o with buf := A.buf ++ [n] } else A.drop1 n o := by unfold AHeap.drop; rw [hc]
    have ee : cntE A ⟨k, n⟩ = 0 := by unfold cntE; rw [hc]; simp
    rw [ee]
    have EK := Lib.hid ek
    have HC := Lib.hid hC
    have HO := Lib.hid eO
    clear hC hc ek hB ee eO e3 ho
    go_enter Try.func19, Try.ntmps19
    try rw [hbx]
    go_wp2_with fail
    refine HC.out.mono ?_
    rintro e w1 ⟨rfl, op1⟩
    obtain ⟨a, c, G, hG⟩ := op1.objCells HO.out
    have hcell : w1.cell? ⟨b, 1, none⟩ = some (.int .i64 o.count) := hG.cell 1 rfl
    have hkind : w1.cell? ⟨b, 0, none⟩ = some (.int .i64 o.kind) := hG.cell 0 rfl
    have hfree := hG.free 1
    have hx := op1.box2
    have d0 := hx.1
    have d1 := hx.2
    have hfin : Opened w0 _ m p (A.drop1 n o) _ pb mb _ qa qc ba bc fa fc fv := op1.storeObj HO.out hl 1 (.int .i64 (o.count - 1)) (o' := { o with count := o.count - 1 }) rfl (fun _ _ => rfl)
    obtain ⟨a2, c2, G2, hG2⟩ := hfin.objCells rfl
    have hcell2 : (w1.setCell ⟨b, 1, none⟩ (.int .i64 (o.count - 1))).cell? ⟨b, 1, none⟩ = some (.int .i64 (o.count - 1)) := hG2.cell 1 rfl
    have hkind2 : (w1.setCell ⟨b, 1, none⟩ (.int .i64 (o.count - 1))).cell? ⟨b, 0, none⟩ = some (.int .i64 o.kind) := hG2.cell 0 rfl
    clear HC hG hx hG2
    have q2 : (w1.setCell ⟨b, 1, none⟩ (.int .i64 (o.count - 1))).cell? ⟨p, 2, none⟩ = some (.slice qa A.queue.length qc) := hfin.hs.cell 2 rfl
    have q3 : (w1.setCell ⟨b, 1, none⟩ (.int .i64 (o.count - 1))).cell? ⟨p, 3, none⟩ = some (.slice ba A.buf.length bc) := hfin.hs.cell 3 rfl
    by_cases hz : o.count - 1 = 0
    · have hz' : (o.count - 1 == 0) = true := by simpa using hz
      have HZ := Lib.hid hz
      clear hz
      have ha := hfin.alloc (.cells #[.int .i64 n] 3)
      generalize hw2 : (w1.setCell ⟨b, 1, none⟩ (.int .i64 (o.count - 1))) = w2 at *
      have c0 : (w2.alloc (.cells #[.int .i64 n] 3)).cell? ⟨w2.heap.size, 0, none⟩ = some (.int .i64 n) := Sat.cell (T := 3) (cs := #[.int .i64 n]) ha.front 0 rfl
      go_wp2_with (at_builtin; refine wpList_push rfl _ _ rfl qa A.queue.length qc A.queue rfl ha.hs.p5 w2.heap.size 1 n rfl c0 hq ?_; intro a' c' w4 h4; have f2 := h4.p2.free 2; have q24 : w4.cell? ⟨p, 2, none⟩ = some (.slice qa A.queue.length qc) := h4.p2.cell 2 rfl; have op4 := ha.queue (by simp) (h4.p2.store (i := 2) (.slice a' (A.queue.length + 1) c')); have q34 : (w4.setCell ⟨p, 2, none⟩ (.slice a' (A.queue.length + 1) c')).cell? ⟨p, 3, none⟩ = some (.slice ba A.buf.length bc) := op4.hs.cell 3 rfl)
      refine (without_int n op4.hs.p6 rfl hb).mono ?_
      rintro e w5 ⟨rfl, h5⟩
      have f3 := h5.p2.free 3
      have q35 : w5.cell? ⟨p, 3, none⟩ = some (.slice ba A.buf.length bc) := h5.p2.cell 3 rfl
      have op6 := op4.buf rfl (h5.p2.store (i := 3) (.slice ba (A.buf.filter fun x => !decide (n = x)).length bc))
      go_wp2_with fail
      go_ret
      refine ⟨rfl, ?_⟩
      rw [EK.out, if_pos HZ.out]
      exact op6.unframe.unframe.shut
    · have hz' : (o.count - 1 == 0) = false := by simpa using hz
      have HZ := Lib.hid hz
      clear hz
      generalize hw2 : (w1.setCell ⟨b, 1, none⟩ (.int .i64 (o.count - 1))) = w2 at *
      by_cases hk5 : o.kind = 5
      · have hk5' : (o.kind != 5) = false := by simp [hk5]
        have HK5 := Lib.hid hk5
        clear hk5
        go_wp2_with fail
        go_ret
        refine ⟨rfl, ?_⟩
        rw [EK.out, if_neg HZ.out, if_neg fun h => h.1 HK5.out]
        exact hfin.unframe.shut
      · have hk5' : (o.kind != 5) = true := by simp [hk5]
        have HK5 := Lib.hid hk5
        clear hk5
        have hcon := contains_int (l := A.buf) (n := A.buf.length) n hfin.hs.p6 rfl hb
        by_cases hin : n ∈ A.buf
        · have hd : decide (n ∈ A.buf) = true := by simpa using hin
          rw [hd] at hcon
          have HCON := Lib.hid hcon
          have HIN := Lib.hid hin
          clear hcon hin hd
          go_wp2_with fail
          refine HCON.out.mono ?_
          rintro e w5 ⟨rfl, rfl⟩
          go_wp2_with fail
          go_ret
          refine ⟨rfl, ?_⟩
          rw [EK.out, if_neg HZ.out, if_neg fun h => h.2 HIN.out]
          exact hfin.unframe.shut
        · have hd : decide (n ∈ A.buf) = false := by simpa using hin
          rw [hd] at hcon
          have HCON := Lib.hid hcon
          have HIN := Lib.hid hin
          clear hcon hin hd
          go_wp2_with fail
          refine HCON.out.mono ?_
          rintro e w5 ⟨rfl, rfl⟩
          have ha := hfin.alloc (.cells #[.int .i64 n] 3)
          have c0 : (w2.alloc (.cells #[.int .i64 n] 3)).cell? ⟨w2.heap.size, 0, none⟩ = some (.int .i64 n) := Sat.cell (T := 3) (cs := #[.int .i64 n]) ha.front 0 rfl
          go_wp2_with (at_builtin; refine wpList_push rfl _ _ rfl ba A.buf.length bc A.buf rfl ha.hs.p6 w2.heap.size 1 n rfl c0 hb ?_; intro a' c' w4 h4; have f2 := h4.p2.free 3; have q24 : w4.cell? ⟨p, 3, none⟩ = some (.slice ba A.buf.length bc) := h4.p2.cell 3 rfl; have op4 := ha.buf (by simp) (h4.p2.store (i := 3) (.slice a' (A.buf.length + 1) c')))
          go_ret
          refine ⟨rfl, ?_⟩
          rw [EK.out, if_neg HZ.out, if_pos ⟨HK5.out, HIN.out⟩]
          exact op4.unframe.unframe.shut
end Go.Proofs.Ytkpcngcegipalaa.Tw
