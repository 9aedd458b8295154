/- The heap of cells: Fin, NextFin, Queue, Buffer, TakeBuffer, Fins, Touched, Watch. No condition. -/
import Derived.Test.YtkpcngcegipalaaCell8
namespace Go.Proofs.Ytkpcngcegipalaa.Tw
set_option linter.unusedVariables false
set_option linter.unusedSimpArgs false
open Go Go.RowKit Go.MapKept

section
variable {P : Program} {w0 w : World} {F : HP} {ops : Array Oper} {rest : List Oper} {o : Oper} {a : Act} {Q : Exit → Act → World → Prop} {K : Act → World → Prop}
theorem info_fin : (Try.prog.info? 135).map (fun i => (i.zero, i.size, i.bytes)) = some (some (.agg #[.int .i64 0, .int .i64 0]), 2, 16) := by kernel_rfl
/-- one that waits more -/
theorem wp_pushFin (s x : Operand) (hop : o.op = .call { callee := .builtin .append, args := #[s, x], argTypes := #[87, 87] })
    (sa : Option Addr) (n c : Nat) (l : List (Int × Int)) (hs : a.eval s = .slice sa n c) (h : Sat w0 w (slc 135 2 sa n c (finCells l) * F)) (bx c' : Nat) (v : Int × Int) (hx : a.eval x = .slice (some ⟨bx, 0, none⟩) 1 c') (hc0 : w.cell? ⟨bx, 0, none⟩ = some (.int .i64 v.1)) (hc1 : w.cell? ⟨bx, 1, none⟩ = some (.int .i64 v.2)) (hn : n ≤ 1000000000)
    (hK : ∀ a' c'' w', Sat w0 w' (slc 135 2 a' (n + 1) c'' (finCells (l ++ [v])) * F) → K (a.put o.dst (.slice a' (n + 1) c'')) w') : o.wp Try.prog a w K Q := by
  obtain ⟨i0, hi, hz0, hz1, hz2⟩ := info_parts info_fin
  refine wp_append s x 87 hop i0 (.agg #[.int .i64 0, .int .i64 0]) 16 Try.underlying87 hi hz0 hz1 hz2 rfl sa n c (finCells l) hs h ⟨bx, 0, none⟩ 1 c' [.int .i64 v.1, .int .i64 v.2] hx rfl (two_cells hc0 hc1) (by simp [Value.oneCell']) (by unfold maxLen; omega) (by omega) fun a' c'' w' h2 _ => ?_
  refine hK a' c'' w' ?_
  rw [finCells_append]; exact h2
theorem wpList_pushFin (hg : o.guard = none) (s x : Operand) (hop : o.op = .call { callee := .builtin .append, args := #[s, x], argTypes := #[87, 87] })
    (sa : Option Addr) (n c : Nat) (l : List (Int × Int)) (hs : a.eval s = .slice sa n c) (h : Sat w0 w (slc 135 2 sa n c (finCells l) * F)) (bx c' : Nat) (v : Int × Int) (hx : a.eval x = .slice (some ⟨bx, 0, none⟩) 1 c') (hc0 : w.cell? ⟨bx, 0, none⟩ = some (.int .i64 v.1)) (hc1 : w.cell? ⟨bx, 1, none⟩ = some (.int .i64 v.2)) (hn : n ≤ 1000000000)
    (hK : ∀ a' c'' w', Sat w0 w' (slc 135 2 a' (n + 1) c'' (finCells (l ++ [v])) * F) → wpList Try.prog ops Q rest (a.put o.dst (.slice a' (n + 1) c'')) w') : wpList Try.prog ops Q (o :: rest) a w := by
  obtain ⟨i0, hi, hz0, hz1, hz2⟩ := info_parts info_fin
  refine wpList_append hg s x 87 hop i0 (.agg #[.int .i64 0, .int .i64 0]) 16 Try.underlying87 hi hz0 hz1 hz2 rfl sa n c (finCells l) hs h ⟨bx, 0, none⟩ 1 c' [.int .i64 v.1, .int .i64 v.2] hx rfl (two_cells hc0 hc1) (by simp [Value.oneCell']) (by unfold maxLen; omega) (by omega) fun a' c'' w' h2 _ => ?_
  refine hK a' c'' w' ?_
  rw [finCells_append]; exact h2
end

def finB (A : AHeap) (n : Int) : Bool := match A.objs n with | some o => decide (1 ≤ o.mark) | none => false
def AHeap.fin (A : AHeap) (n : Int) (o : AObj) : AHeap := ({ A with fins := A.fins ++ [(n, o.mark)], queue := A.queue.filter fun x => !decide (n = x) }.upd n { o with count := o.count + 1, mark := -1 }).touch n
theorem heap_Fin_nil (w : World) (n : Int) :
    Calls Try.prog 63 #[.pointer none, .int .i64 n] w fun e w' => e = .returned (.int .i64 1) ∧ w = w' := by
  go_enter Try.func63, Try.ntmps63
  go_wp2_with fail
  refine (heap_find_nil _ n).mono ?_
  rintro e w' ⟨rfl, rfl⟩
  go_wp2_with fail
  go_ret
  exact ⟨rfl, rfl⟩
set_option maxHeartbeats 1000000 in
theorem heap_Fin_no {w0 w : World} {m : Hp} {p : Nat} {A : AHeap} {F : HP} (h : Sat w0 w (heapR m p A * F)) (n : Int) (hno : finB A n = false) :
    Calls Try.prog 63 #[.pointer (some ⟨p, 0, none⟩), .int .i64 n] w fun e w' => e = .returned (.int .i64 2) ∧ w = w' := by
  cases ho : A.objs n with
  | none =>
    have HF := Lib.hid (heap_find_no h n ho)
    clear ho hno
    go_enter Try.func63, Try.ntmps63
    go_wp2_with fail
    refine HF.out.mono ?_
    rintro e w' ⟨rfl, rfl⟩
    go_wp2_with fail
    go_ret
    exact ⟨rfl, rfl⟩
  | some o =>
    obtain ⟨pb, mb, O, qa, qc, ba, bc, fa, fc, fv, op⟩ := h.openHeap
    obtain ⟨b, l, r, eO, hl, e3⟩ := op.obj ho
    have HF := Lib.hid (heap_find op e3)
    obtain ⟨sa, sc, G, hG⟩ := op.objCells eO
    have c4 : w.cell? ⟨b, 4, none⟩ = some (.int .i64 o.mark) := hG.cell 4 rfl
    unfold finB at hno
    simp only [ho, decide_eq_false_iff_not] at hno
    have hlt : o.mark < 1 := by omega
    clear ho eO e3 hG hno
    go_enter Try.func63, Try.ntmps63
    go_wp2_with fail
    refine HF.out.mono ?_
    rintro e w' ⟨rfl, rfl⟩
    go_wp2_with fail
    go_ret
    exact ⟨rfl, rfl⟩
set_option maxRecDepth 100000 in
set_option maxHeartbeats 2000000 in
theorem heap_Fin {w0 w : World} {m : Hp} {p : Nat} {A : AHeap} {F : HP} (h : Sat w0 w (heapR m p A * F)) (K : Knows m F) (n : Int) {o : AObj} (ho : A.objs n = some o) (hm : 1 ≤ o.mark) (hwr : IntKind.i64.wrap (o.count + 1) = o.count + 1) (hq : A.queue.length ≤ 1000000000) (hf : A.fins.length ≤ 1000000000) :
    Calls Try.prog 63 #[.pointer (some ⟨p, 0, none⟩), .int .i64 n] w fun e w' => e = .returned (.int .i64 0) ∧ Sat w0 w' (heapR m p (A.fin n o) * F) := by
  obtain ⟨pb, mb, O, qa, qc, ba, bc, fa, fc, fv, op⟩ := h.openHeap
  obtain ⟨b, l, r, eO, hl, e3⟩ := op.obj ho
  have HF := Lib.hid (heap_find op e3)
  obtain ⟨sa, sc, G, hG⟩ := op.objCells eO
  have c4 : w.cell? ⟨b, 4, none⟩ = some (.int .i64 o.mark) := hG.cell 4 rfl
  have c1 : w.cell? ⟨b, 1, none⟩ = some (.int .i64 o.count) := hG.cell 1 rfl
  have cf : w.cell? ⟨p, 4, none⟩ = some (.slice fa A.fins.length fc) := op.hs.cell 4 rfl
  have HO := Lib.hid eO
  clear ho eO e3 hG
  go_enter Try.func63, Try.ntmps63
  go_wp2_with fail
  refine HF.out.mono ?_
  rintro e w' ⟨rfl, rfl⟩
  go_wp2_with fail
  have ha := op.alloc (.cells #[.int .i64 n, .int .i64 o.mark] 135)
  have b0 : (w.alloc (.cells #[.int .i64 n, .int .i64 o.mark] 135)).cell? ⟨w.heap.size, 0, none⟩ = some (.int .i64 n) := Sat.cell (T := 135) (cs := #[.int .i64 n, .int .i64 o.mark]) ha.front 0 rfl
  have b1 : (w.alloc (.cells #[.int .i64 n, .int .i64 o.mark] 135)).cell? ⟨w.heap.size, 1, none⟩ = some (.int .i64 o.mark) := Sat.cell (T := 135) (cs := #[.int .i64 n, .int .i64 o.mark]) ha.front 1 rfl
  have cfa : (w.alloc (.cells #[.int .i64 n, .int .i64 o.mark] 135)).cell? ⟨p, 4, none⟩ = some (.slice fa A.fins.length fc) := ha.hs.cell 4 rfl
  obtain ⟨_, _, _, hGa⟩ := ha.objCells HO.out
  have c4a : (w.alloc (.cells #[.int .i64 n, .int .i64 o.mark] 135)).cell? ⟨b, 4, none⟩ = some (.int .i64 o.mark) := hGa.cell 4 rfl
  go_region_law
    ((refine step_of rfl (wp_pushFin _ _ rfl fa A.fins.length fc A.fins (by simp [Act.eval, Act.put]) ha.drew.hs.p7 w.heap.size 1 (n, o.mark) (by simp [Act.eval, Act.put]) b0 b1 hf ?_); intro a' c' w4 h4; have f2 := h4.p2.free 4; obtain ⟨_, _, _, hG4⟩ := h4.p5.objAt HO.out; have k4 : w4.cell? ⟨b, 4, none⟩ = some (.int .i64 o.mark) := hG4.cell 4 rfl; clear hG4; have q24 : w4.cell? ⟨p, 4, none⟩ = some (.slice fa A.fins.length fc) := h4.p2.cell 4 rfl; have op4 := ha.fins (q := A.fins ++ [(n, o.mark)]) (by simp) (h4.p2.store (i := 4) (.slice a' (A.fins.length + 1) c'))))
  all_goals
    generalize hw5 : w4.setCell ⟨p, 4, none⟩ (.slice a' (A.fins.length + 1) c') = w5 at *
    obtain ⟨_, _, _, hG5⟩ := op4.objCells HO.out
    have d1 : w5.cell? ⟨b, 1, none⟩ = some (.int .i64 o.count) := hG5.cell 1 rfl
    have g1 := hG5.free 1
    have op6 := op4.storeObj HO.out hl 1 (.int .i64 (o.count + 1)) (o' := { o with count := o.count + 1 }) rfl (fun _ _ => rfl)
    obtain ⟨_, _, _, hG6⟩ := op6.objCells rfl
    have d4 : (w5.setCell ⟨b, 1, none⟩ (.int .i64 (o.count + 1))).cell? ⟨b, 4, none⟩ = some (.int .i64 o.mark) := hG6.cell 4 rfl
    have g4 := hG6.free 4
    have op7 := op6.storeObj rfl hl 4 (.int .i64 (-1)) (o' := { o with count := o.count + 1, mark := -1 }) rfl (fun _ _ => rfl)
    have e2 : ((w5.setCell ⟨b, 1, none⟩ (.int .i64 (o.count + 1))).setCell ⟨b, 4, none⟩ (.int .i64 (-1))).cell? ⟨p, 2, none⟩ = some (.slice qa A.queue.length qc) := op7.hs.cell 2 rfl
    have hW := without_int (l := A.queue) (n := A.queue.length) n op7.hs.p5 rfl hq
    have HW := Lib.hid hW
    clear hG5 hG6 hW
    go_wp2_with fail
    refine HW.out.mono ?_
    rintro e w8 ⟨rfl, h8⟩
    have k2 : w8.cell? ⟨p, 2, none⟩ = some (.slice qa A.queue.length qc) := h8.p2.cell 2 rfl
    have kf2 := h8.p2.free 2
    have op9 := op7.queue rfl (h8.p2.store (i := 2) (.slice qa (A.queue.filter fun x => !decide (n = x)).length qc))
    have HT := Lib.hid (heap_touch op9 K.left n)
    go_wp2_with fail
    refine HT.out.mono ?_
    rintro e w10 ⟨rfl, op10⟩
    go_wp2_with fail
    go_ret
    refine ⟨rfl, ?_⟩
    have : ((({ A with fins := A.fins ++ [(n, o.mark)] }.upd n { o with count := o.count + 1 }).upd n { o with count := o.count + 1, mark := -1 }).objs) = ({ A with fins := A.fins ++ [(n, o.mark)], queue := A.queue.filter fun x => !decide (n = x) }.upd n { o with count := o.count + 1, mark := -1 }).objs := by
      funext k; simp only [AHeap.upd]; split <;> rfl
    have hr := op10.unframe.shut
    exact hr.mono_l fun x hx => by
      unfold AHeap.fin
      unfold AHeap.touch at hx ⊢
      simp only [AHeap.upd] at hx ⊢ this
      rw [this] at hx
      exact hx
end Go.Proofs.Ytkpcngcegipalaa.Tw
