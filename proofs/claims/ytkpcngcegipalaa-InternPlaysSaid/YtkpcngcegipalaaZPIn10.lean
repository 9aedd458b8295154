/- The heap of cells: Mark, Suspect, Fin. No condition. -/
import Derived.Test.YtkpcngcegipalaaZPIn9
namespace Go.Proofs.Ytkpcngcegipalaa.Tw
set_option linter.unusedVariables false
set_option linter.unusedSimpArgs false
open Go Go.RowKit Go.MapKept

theorem Sat.objAt {w0 w : World} {F : HP} {O l r : List (Int × Nat × AObj)} {n : Int} {b : Nat} {o : AObj} (h : Sat w0 w (objsR O * F)) (e : O = l ++ (n, b, o) :: r) :
    ∃ a c G, Sat w0 w (row b 39 #[.int .i64 o.kind, .int .i64 o.count, .slice a o.slots.length c, .string o.text, .int .i64 o.mark] * G) := by
  rw [e, objsR_split, mul_assoc] at h
  obtain ⟨a, c, h2⟩ := h.openObj
  exact ⟨a, c, _, h2⟩
def AHeap.mark (A : AHeap) (n : Int) : AHeap := match A.objs n with
  | some o => if o.mark = 0 then ({ A with marks := A.marks + 1 }.upd n { o with mark := A.marks + 1 }).touch n else A
  | none => A
def AHeap.markN (A : AHeap) (n : Int) : Int := match A.objs n with
  | some o => if o.mark = 0 then A.marks + 1 else 0
  | none => 0
theorem heap_Mark_nil (w : World) (n : Int) :
    Calls Try.prog 62 #[.pointer none, .int .i64 n] w fun e w' => e = .returned (.int .i64 0) ∧ w = w' := by
  go_enter Try.func62, Try.ntmps62
  go_wp2_with fail
  refine (heap_find_nil _ n).mono ?_
  rintro e w' ⟨rfl, rfl⟩
  go_wp2_with fail
  go_ret
  exact ⟨rfl, rfl⟩
set_option maxHeartbeats 1000000 in
theorem heap_Mark {w0 w : World} {m : Hp} {p : Nat} {A : AHeap} {F : HP} (h : Sat w0 w (heapR m p A * F)) (K : Knows m F) (n : Int) (hm : 0 ≤ A.marks ∧ A.marks ≤ 1000000000) :
    Calls Try.prog 62 #[.pointer (some ⟨p, 0, none⟩), .int .i64 n] w fun e w' => e = .returned (.int .i64 (A.markN n)) ∧ Sat w0 w' (heapR m p (A.mark n) * F) := by
  cases ho : A.objs n with
  | none =>
    have e1 : A.markN n = 0 := by unfold AHeap.markN; rw [ho]
    have e2 : A.mark n = A := by unfold AHeap.mark; rw [ho]
    rw [e1, e2]
    have HF := Lib.hid (heap_find_no h n ho)
    clear ho e1 e2
    go_enter Try.func62, Try.ntmps62
    go_wp2_with fail
    refine HF.out.mono ?_
    rintro e w' ⟨rfl, rfl⟩
    go_wp2_with fail
    go_ret
    exact ⟨rfl, h⟩
  | some o =>
    obtain ⟨pb, mb, O, qa, qc, ba, bc, fa, fc, fv, op⟩ := h.openHeap
    obtain ⟨b, l, r, eO, hl, e3⟩ := op.obj ho
    have HF := Lib.hid (heap_find op e3)
    obtain ⟨sa, sc, G, hG⟩ := op.objCells eO
    have c4 : w.cell? ⟨b, 4, none⟩ = some (.int .i64 o.mark) := hG.cell 4 rfl
    have c5 : w.cell? ⟨p, 5, none⟩ = some (.int .i64 A.marks) := op.hs.cell 5 rfl
    have f5 := op.hs.free 5
    by_cases hz : o.mark = 0
    · have e1 : A.markN n = A.marks + 1 := by unfold AHeap.markN; simp only [ho]; rw [if_pos hz]
      have e2 : A.mark n = ({ A with marks := A.marks + 1 }.upd n { o with mark := A.marks + 1 }).touch n := by unfold AHeap.mark; simp only [ho]; rw [if_pos hz]
      rw [e1, e2]
      rw [hz] at c4
      have op1 : Opened w0 (w.setCell ⟨p, 5, none⟩ (.int .i64 (A.marks + 1))) m p { A with marks := A.marks + 1 } F pb mb O qa qc ba bc fa fc fv := ⟨op.ho, op.ht, op.hw, op.hs.store (b := p) (i := 5) _⟩
      obtain ⟨sa1, sc1, G1, hG1⟩ := op1.objCells eO
      have d4 : (w.setCell ⟨p, 5, none⟩ (.int .i64 (A.marks + 1))).cell? ⟨b, 4, none⟩ = some (.int .i64 o.mark) := hG1.cell 4 rfl
      have g4 := hG1.free 4
      have d5 : (w.setCell ⟨p, 5, none⟩ (.int .i64 (A.marks + 1))).cell? ⟨p, 5, none⟩ = some (.int .i64 (A.marks + 1)) := op1.hs.cell 5 rfl
      have op2 := op1.storeObj eO hl 4 (.int .i64 (A.marks + 1)) (o' := { o with mark := A.marks + 1 }) rfl (fun _ _ => rfl)
      have HT := Lib.hid (heap_touch op2 K n)
      have HFr : Hid (∀ w3, Opened w0 w3 m p (({ A with marks := A.marks + 1 }.upd n { o with mark := A.marks + 1 }).touch n) F pb mb (l ++ (n, b, { o with mark := A.marks + 1 }) :: r) qa qc ba bc fa fc fv → w3.cell? ⟨b, 4, none⟩ = some (.int .i64 (A.marks + 1))) := Lib.hid fun w3 hw => by
        obtain ⟨sa2, sc2, G2, hG2⟩ := hw.objCells rfl
        exact hG2.cell 4 rfl
      clear e1 e2 ho eO e3 hG hG1 op1 op2 hz
      go_enter Try.func62, Try.ntmps62
      go_wp2_with fail
      refine HF.out.mono ?_
      rintro e w' ⟨rfl, rfl⟩
      go_wp2_with fail
      refine HT.out.mono ?_
      rintro e w3 ⟨rfl, op3⟩
      have k4 := HFr.out w3 op3
      go_wp2_with fail
      go_ret
      exact ⟨rfl, op3.shut⟩
    · have e1 : A.markN n = 0 := by unfold AHeap.markN; simp only [ho]; rw [if_neg hz]
      have e2 : A.mark n = A := by unfold AHeap.mark; simp only [ho]; rw [if_neg hz]
      rw [e1, e2]
      have hz' : (o.mark != 0) = true := by simpa using hz
      clear e1 e2 ho eO e3 hG hz
      go_enter Try.func62, Try.ntmps62
      go_wp2_with fail
      refine HF.out.mono ?_
      rintro e w' ⟨rfl, rfl⟩
      go_wp2_with fail
      go_ret
      exact ⟨rfl, h⟩

def suspB (A : AHeap) (n : Int) : Bool := match A.objs n with
  | some o => !decide (o.kind = 5) && !decide (o.count = 0) && !decide (n ∈ A.buf)
  | none => false
theorem heap_Suspect_nil (w : World) (n : Int) :
    Calls Try.prog 64 #[.pointer none, .int .i64 n] w fun e w' => e = .returned (.int .i64 1) ∧ w = w' := by
  go_enter Try.func64, Try.ntmps64
  go_wp2_with fail
  refine (heap_find_nil _ n).mono ?_
  rintro e w' ⟨rfl, rfl⟩
  go_wp2_with fail
  go_ret
  exact ⟨rfl, rfl⟩
set_option maxHeartbeats 1000000 in
theorem heap_Suspect_no {w0 w : World} {m : Hp} {p : Nat} {A : AHeap} {F : HP} (h : Sat w0 w (heapR m p A * F)) (n : Int) (hb : A.buf.length ≤ 1000000000) (hno : suspB A n = false) :
    Calls Try.prog 64 #[.pointer (some ⟨p, 0, none⟩), .int .i64 n] w fun e w' => e = .returned (.int .i64 2) ∧ w = w' := by
  cases ho : A.objs n with
  | none =>
    have HF := Lib.hid (heap_find_no h n ho)
    clear ho hno
    go_enter Try.func64, Try.ntmps64
    go_wp2_with fail
    refine HF.out.mono ?_
    rintro e w' ⟨rfl, rfl⟩
    go_wp2_with fail
    go_ret
    exact ⟨rfl, rfl⟩
  | some o =>
    obtain ⟨pb, mb, O, qa, qc, ba, bc, fa, fc, fv, op⟩ := h.openHeap
    obtain ⟨b, l, r, eO, hl, e3⟩ := op.obj ho
    have HF := Lib.hid (heap_find op e3)
    obtain ⟨sa, sc, G, hG⟩ := op.objCells eO
    have c0 : w.cell? ⟨b, 0, none⟩ = some (.int .i64 o.kind) := hG.cell 0 rfl
    have c1 : w.cell? ⟨b, 1, none⟩ = some (.int .i64 o.count) := hG.cell 1 rfl
    have c3 : w.cell? ⟨p, 3, none⟩ = some (.slice ba A.buf.length bc) := op.hs.cell 3 rfl
    have hC := contains_int (l := A.buf) (n := A.buf.length) n op.hs.p6 rfl hb
    unfold suspB at hno
    simp only [ho] at hno
    clear ho eO e3 hG
    by_cases hk : o.kind = 5
    · have hk' : (o.kind == 5) = true := by simpa using hk
      clear hno hC hk
      go_enter Try.func64, Try.ntmps64
      go_wp2_with fail
      refine HF.out.mono ?_
      rintro e w' ⟨rfl, rfl⟩
      go_wp2_with fail
      go_ret
      exact ⟨rfl, rfl⟩
    · have hk' : (o.kind == 5) = false := by simpa using hk
      by_cases hc : o.count = 0
      · have hc' : (o.count == 0) = true := by simpa using hc
        clear hno hC hk hc
        go_enter Try.func64, Try.ntmps64
        go_wp2_with fail
        refine HF.out.mono ?_
        rintro e w' ⟨rfl, rfl⟩
        go_wp2_with fail
        go_ret
        exact ⟨rfl, rfl⟩
      · have hc' : (o.count == 0) = false := by simpa using hc
        have hin : decide (n ∈ A.buf) = true := by simpa [hk, hc] using hno
        rw [hin] at hC
        have HC := Lib.hid hC
        clear hno hC hk hc hin
        go_enter Try.func64, Try.ntmps64
        go_wp2_with fail
        refine HF.out.mono ?_
        rintro e w' ⟨rfl, rfl⟩
        go_wp2_with fail
        refine HC.out.mono ?_
        rintro e w' ⟨rfl, rfl⟩
        go_wp2_with fail
        go_ret
        exact ⟨rfl, rfl⟩
set_option maxHeartbeats 1000000 in
theorem heap_Suspect {w0 w : World} {m : Hp} {p : Nat} {A : AHeap} {F : HP} (h : Sat w0 w (heapR m p A * F)) (n : Int) (hb : A.buf.length ≤ 1000000000) (hyes : suspB A n = true) :
    Calls Try.prog 64 #[.pointer (some ⟨p, 0, none⟩), .int .i64 n] w fun e w' => e = .returned (.int .i64 0) ∧ Sat w0 w' (heapR m p { A with buf := A.buf ++ [n] } * F) := by
  cases ho : A.objs n with
  | none => unfold suspB at hyes; rw [ho] at hyes; cases hyes
  | some o =>
    obtain ⟨pb, mb, O, qa, qc, ba, bc, fa, fc, fv, op⟩ := h.openHeap
    obtain ⟨b, l, r, eO, hl, e3⟩ := op.obj ho
    have HF := Lib.hid (heap_find op e3)
    obtain ⟨sa, sc, G, hG⟩ := op.objCells eO
    have c0 : w.cell? ⟨b, 0, none⟩ = some (.int .i64 o.kind) := hG.cell 0 rfl
    have c1 : w.cell? ⟨b, 1, none⟩ = some (.int .i64 o.count) := hG.cell 1 rfl
    have c3 : w.cell? ⟨p, 3, none⟩ = some (.slice ba A.buf.length bc) := op.hs.cell 3 rfl
    have hC := contains_int (l := A.buf) (n := A.buf.length) n op.hs.p6 rfl hb
    unfold suspB at hyes
    simp only [ho, Bool.and_eq_true, Bool.not_eq_true', decide_eq_false_iff_not] at hyes
    obtain ⟨⟨hk, hc⟩, hin⟩ := hyes
    have hk' : (o.kind == 5) = false := by simpa using hk
    have hc' : (o.count == 0) = false := by simpa using hc
    have hd : decide (n ∈ A.buf) = false := by simpa using hin
    rw [hd] at hC
    have HC := Lib.hid hC
    clear ho eO e3 hG hk hc hin hd hC
    have ha := op.alloc (.cells #[.int .i64 n] 3)
    have b0 : (w.alloc (.cells #[.int .i64 n] 3)).cell? ⟨w.heap.size, 0, none⟩ = some (.int .i64 n) := Sat.cell (T := 3) (cs := #[.int .i64 n]) ha.front 0 rfl
    go_enter Try.func64, Try.ntmps64
    go_wp2_with fail
    refine HF.out.mono ?_
    rintro e w' ⟨rfl, rfl⟩
    go_wp2_with fail
    refine HC.out.mono ?_
    rintro e w' ⟨rfl, rfl⟩
    go_wp2_with (at_builtin; refine wpList_push rfl _ _ rfl ba A.buf.length bc A.buf rfl ha.hs.p6 w.heap.size 1 n rfl b0 hb ?_; intro a' c' w4 h4; have f2 := h4.p2.free 3; have q24 : w4.cell? ⟨p, 3, none⟩ = some (.slice ba A.buf.length bc) := h4.p2.cell 3 rfl; have op4 := ha.buf (by simp) (h4.p2.store (i := 3) (.slice a' (A.buf.length + 1) c')))
    go_ret
    exact ⟨rfl, op4.unframe.shut⟩
end Go.Proofs.Ytkpcngcegipalaa.Tw
namespace Go.Proofs.Ytkpcngcegipalaa.Tw
set_option linter.unusedVariables false
set_option linter.unusedSimpArgs false
open Go Go.RowKit Go.MapKept

section
variable {P : Program} {w0 w : World} {F : HP} {ops : Array Oper} {rest : List Oper} {o : Oper} {a : Act} {Q : Exit → Act → World → Prop} {K : Act → World → Prop}
theorem info_fin : (Try.prog.info? 135).map (fun i => (i.zero, i.size, i.bytes)) = some (some (.agg #[.int .i64 0, .int .i64 0]), 2, 16) := by kernel_rfl
/-- one that waits more -/
theorem wp_pushFin (s x : Operand) (hop : o.op = .call { callee := .builtin .append, args := #[s, x], argTypes := #[87, 87] })
    (sa : Option Addr) (n c : Nat) (l : List (Int × Int)) (hs : a.eval s = .slice sa n c) (h : Sat w0 w (slc 135 2 sa n c (finCells l) * F)) (bx c' : Nat) (v : Int × Int) (hx : a.eval x = .slice (some ⟨bx, 0, none⟩) 1 c') (hc0 : w.cell? ⟨bx, 0, none⟩ = some (.int .i64 v.1)) (hc1 : w.cell? ⟨bx, 1, none⟩ = some (.int .i64 v.2)) (hn : n ≤ 1000000000)
    (hK : ∀ a' c'' w', Sat w0 w' (slc 135 2 a' (n + 1) c'' (finCells (l ++ [v])) * F) → K (a.put o.dst (.slice a' (n + 1) c'')) w') : o.wp Try.prog a w K Q := by
  obtain ⟨i0, hi, hz0, hz1, hz2⟩ := info_parts info_fin
  refine wp_append s x 87 hop i0 (.agg #[.int .i64 0, .int .i64 0]) 16 Try.underlying87 hi hz0 hz1 hz2 rfl sa n c (finCells l) hs h ⟨bx, 0, none⟩ 1 c' [.int .i64 v.1, .int .i64 v.2] hx rfl (two_cells hc0 hc1) (by simp [Value.oneCell']) (by unfold maxLen; omega) (by omega) fun a' c'' w' h2 _ => ?_
  refine hK a' c'' w' ?_
  rw [finCells_append]; exact h2
theorem wpList_pushFin (hg : o.guard = none) (s x : Operand) (hop : o.op = .call { callee := .builtin .append, args := #[s, x], argTypes := #[87, 87] })
    (sa : Option Addr) (n c : Nat) (l : List (Int × Int)) (hs : a.eval s = .slice sa n c) (h : Sat w0 w (slc 135 2 sa n c (finCells l) * F)) (bx c' : Nat) (v : Int × Int) (hx : a.eval x = .slice (some ⟨bx, 0, none⟩) 1 c') (hc0 : w.cell? ⟨bx, 0, none⟩ = some (.int .i64 v.1)) (hc1 : w.cell? ⟨bx, 1, none⟩ = some (.int .i64 v.2)) (hn : n ≤ 1000000000)
    (hK : ∀ a' c'' w', Sat w0 w' (slc 135 2 a' (n + 1) c'' (finCells (l ++ [v])) * F) → wpList Try.prog ops Q rest (a.put o.dst (.slice a' (n + 1) c'')) w') : wpList Try.prog ops Q (o :: rest) a w := by
  obtain ⟨i0, hi, hz0, hz1, hz2⟩ := info_parts info_fin
  refine wpList_append hg s x 87 hop i0 (.agg #[.int .i64 0, .int .i64 0]) 16 Try.underlying87 hi hz0 hz1 hz2 rfl sa n c (finCells l) hs h ⟨bx, 0, none⟩ 1 c' [.int .i64 v.1, .int .i64 v.2] hx rfl (two_cells hc0 hc1) (by simp [Value.oneCell']) (by unfold maxLen; omega) (by omega) fun a' c'' w' h2 _ => ?_
  refine hK a' c'' w' ?_
  rw [finCells_append]; exact h2
end

def finB (A : AHeap) (n : Int) : Bool := match A.objs n with | some o => decide (1 ≤ o.mark) | none => false
def AHeap.fin (A : AHeap) (n : Int) (o : AObj) : AHeap := ({ A with fins := A.fins ++ [(n, o.mark)], queue := A.queue.filter fun x => !decide (n = x) }.upd n { o with count := o.count + 1, mark := -1 }).touch n
theorem heap_Fin_nil (w : World) (n : Int) :
    Calls Try.prog 63 #[.pointer none, .int .i64 n] w fun e w' => e = .returned (.int .i64 1) ∧ w = w' := by
  go_enter Try.func63, Try.ntmps63
  go_wp2_with fail
  refine (heap_find_nil _ n).mono ?_
  rintro e w' ⟨rfl, rfl⟩
  go_wp2_with fail
  go_ret
  exact ⟨rfl, rfl⟩
set_option maxHeartbeats 1000000 in
theorem heap_Fin_no {w0 w : World} {m : Hp} {p : Nat} {A : AHeap} {F : HP} (h : Sat w0 w (heapR m p A * F)) (n : Int) (hno : finB A n = false) :
    Calls Try.prog 63 #[.pointer (some ⟨p, 0, none⟩), .int .i64 n] w fun e w' => e = .returned (.int .i64 2) ∧ w = w' := by
  cases ho : A.objs n with
  | none =>
    have HF := Lib.hid (heap_find_no h n ho)
    clear ho hno
    go_enter Try.func63, Try.ntmps63
    go_wp2_with fail
    refine HF.out.mono ?_
    rintro e w' ⟨rfl, rfl⟩
    go_wp2_with fail
    go_ret
    exact ⟨rfl, rfl⟩
  | some o =>
    obtain ⟨pb, mb, O, qa, qc, ba, bc, fa, fc, fv, op⟩ := h.openHeap
    obtain ⟨b, l, r, eO, hl, e3⟩ := op.obj ho
    have HF := Lib.hid (heap_find op e3)
    obtain ⟨sa, sc, G, hG⟩ := op.objCells eO
    have c4 : w.cell? ⟨b, 4, none⟩ = some (.int .i64 o.mark) := hG.cell 4 rfl
    unfold finB at hno
    simp only [ho, decide_eq_false_iff_not] at hno
    have hlt : o.mark < 1 := by omega
    clear ho eO e3 hG hno
    go_enter Try.func63, Try.ntmps63
    go_wp2_with fail
    refine HF.out.mono ?_
    rintro e w' ⟨rfl, rfl⟩
    go_wp2_with fail
    go_ret
    exact ⟨rfl, rfl⟩
set_option maxRecDepth 100000 in
set_option maxHeartbeats 2000000 in
theorem heap_Fin {w0 w : World} {m : Hp} {p : Nat} {A : AHeap} {F : HP} (h : Sat w0 w (heapR m p A * F)) (K : Knows m F) (n : Int) {o : AObj} (ho : A.objs n = some o) (hm : 1 ≤ o.mark) (hwr : IntKind.i64.wrap (o.count + 1) = o.count + 1) (hq : A.queue.length ≤ 1000000000) (hf : A.fins.length ≤ 1000000000) :
    Calls Try.prog 63 #[.pointer (some ⟨p, 0, none⟩), .int .i64 n] w fun e w' => e = .returned (.int .i64 0) ∧ Sat w0 w' (heapR m p (A.fin n o) * F) := by
  obtain ⟨pb, mb, O, qa, qc, ba, bc, fa, fc, fv, op⟩ := h.openHeap
  obtain ⟨b, l, r, eO, hl, e3⟩ := op.obj ho
  have HF := Lib.hid (heap_find op e3)
  obtain ⟨sa, sc, G, hG⟩ := op.objCells eO
  have c4 : w.cell? ⟨b, 4, none⟩ = some (.int .i64 o.mark) := hG.cell 4 rfl
  have c1 : w.cell? ⟨b, 1, none⟩ = some (.int .i64 o.count) := hG.cell 1 rfl
  have cf : w.cell? ⟨p, 4, none⟩ = some (.slice fa A.fins.length fc) := op.hs.cell 4 rfl
  have HO := Lib.hid eO
  clear ho eO e3 hG
  go_enter Try.func63, Try.ntmps63
  go_wp2_with fail
  refine HF.out.mono ?_
  rintro e w' ⟨rfl, rfl⟩
  go_wp2_with fail
  have ha := op.alloc (.cells #[.int .i64 n, .int .i64 o.mark] 135)
  have b0 : (w.alloc (.cells #[.int .i64 n, .int .i64 o.mark] 135)).cell? ⟨w.heap.size, 0, none⟩ = some (.int .i64 n) := Sat.cell (T := 135) (cs := #[.int .i64 n, .int .i64 o.mark]) ha.front 0 rfl
  have b1 : (w.alloc (.cells #[.int .i64 n, .int .i64 o.mark] 135)).cell? ⟨w.heap.size, 1, none⟩ = some (.int .i64 o.mark) := Sat.cell (T := 135) (cs := #[.int .i64 n, .int .i64 o.mark]) ha.front 1 rfl
  have cfa : (w.alloc (.cells #[.int .i64 n, .int .i64 o.mark] 135)).cell? ⟨p, 4, none⟩ = some (.slice fa A.fins.length fc) := ha.hs.cell 4 rfl
  obtain ⟨_, _, _, hGa⟩ := ha.objCells HO.out
  have c4a : (w.alloc (.cells #[.int .i64 n, .int .i64 o.mark] 135)).cell? ⟨b, 4, none⟩ = some (.int .i64 o.mark) := hGa.cell 4 rfl
  go_region_law
    ((refine step_of rfl (wp_pushFin _ _ rfl fa A.fins.length fc A.fins (by simp [Act.eval, Act.put]) ha.drew.hs.p7 w.heap.size 1 (n, o.mark) (by simp [Act.eval, Act.put]) b0 b1 hf ?_); intro a' c' w4 h4; have f2 := h4.p2.free 4; obtain ⟨_, _, _, hG4⟩ := h4.p5.objAt HO.out; have k4 : w4.cell? ⟨b, 4, none⟩ = some (.int .i64 o.mark) := hG4.cell 4 rfl; clear hG4; have q24 : w4.cell? ⟨p, 4, none⟩ = some (.slice fa A.fins.length fc) := h4.p2.cell 4 rfl; have op4 := ha.fins (q := A.fins ++ [(n, o.mark)]) (by simp) (h4.p2.store (i := 4) (.slice a' (A.fins.length + 1) c'))))
  all_goals
    generalize hw5 : w4.setCell ⟨p, 4, none⟩ (.slice a' (A.fins.length + 1) c') = w5 at *
    obtain ⟨_, _, _, hG5⟩ := op4.objCells HO.out
    have d1 : w5.cell? ⟨b, 1, none⟩ = some (.int .i64 o.count) := hG5.cell 1 rfl
    have g1 := hG5.free 1
    have op6 := op4.storeObj HO.out hl 1 (.int .i64 (o.count + 1)) (o' := { o with count := o.count + 1 }) rfl (fun _ _ => rfl)
    obtain ⟨_, _, _, hG6⟩ := op6.objCells rfl
    have d4 : (w5.setCell ⟨b, 1, none⟩ (.int .i64 (o.count + 1))).cell? ⟨b, 4, none⟩ = some (.int .i64 o.mark) := hG6.cell 4 rfl
    have g4 := hG6.free 4
    have op7 := op6.storeObj rfl hl 4 (.int .i64 (-1)) (o' := { o with count := o.count + 1, mark := -1 }) rfl (fun _ _ => rfl)
    have e2 : ((w5.setCell ⟨b, 1, none⟩ (.int .i64 (o.count + 1))).setCell ⟨b, 4, none⟩ (.int .i64 (-1))).cell? ⟨p, 2, none⟩ = some (.slice qa A.queue.length qc) := op7.hs.cell 2 rfl
    have hW := without_int (l := A.queue) (n := A.queue.length) n op7.hs.p5 rfl hq
    have HW := Lib.hid hW
    clear hG5 hG6 hW
    go_wp2_with fail
    refine HW.out.mono ?_
    rintro e w8 ⟨rfl, h8⟩
    have k2 : w8.cell? ⟨p, 2, none⟩ = some (.slice qa A.queue.length qc) := h8.p2.cell 2 rfl
    have kf2 := h8.p2.free 2
    have op9 := op7.queue rfl (h8.p2.store (i := 2) (.slice qa (A.queue.filter fun x => !decide (n = x)).length qc))
    have HT := Lib.hid (heap_touch op9 K.left n)
    go_wp2_with fail
    refine HT.out.mono ?_
    rintro e w10 ⟨rfl, op10⟩
    go_wp2_with fail
    go_ret
    refine ⟨rfl, ?_⟩
    have : ((({ A with fins := A.fins ++ [(n, o.mark)] }.upd n { o with count := o.count + 1 }).upd n { o with count := o.count + 1, mark := -1 }).objs) = ({ A with fins := A.fins ++ [(n, o.mark)], queue := A.queue.filter fun x => !decide (n = x) }.upd n { o with count := o.count + 1, mark := -1 }).objs := by
      funext k; simp only [AHeap.upd]; split <;> rfl
    have hr := op10.unframe.shut
    exact hr.mono_l fun x hx => by
      unfold AHeap.fin
      unfold AHeap.touch at hx ⊢
      simp only [AHeap.upd] at hx ⊢ this
      rw [this] at hx
      exact hx
end Go.Proofs.Ytkpcngcegipalaa.Tw
namespace Go.Proofs.Ytkpcngcegipalaa.Tw
set_option linter.unusedVariables false
set_option linter.unusedSimpArgs false
open Go Go.RowKit Go.MapKept

theorem run_store_fn {P : Program} (w : World) (ad : Addr) (f : Fn) (b r : Array Value) : (store ad (.func f b r)).run P w = stored P w ad (.func f b r) .plain := run_store P w ad _ _ rfl
theorem heap_Queue_nil (w : World) : Calls Try.prog 35 #[.pointer none] w fun e w' => e = .returned (.slice none 0 0) ∧ w = w' := by
  go_enter Try.func35, Try.ntmps35
  go_wp2
  go_ret
  exact ⟨rfl, rfl⟩
theorem heap_Queue {w0 w : World} {m : Hp} {p : Nat} {A : AHeap} {F : HP} (h : Sat w0 w (heapR m p A * F)) (hq : A.queue.length ≤ 1000000000) :
    Calls Try.prog 35 #[.pointer (some ⟨p, 0, none⟩)] w fun e w' => ∃ a c, e = .returned (.slice a A.queue.length c) ∧ Sat w0 w' (slc 3 1 a A.queue.length c (A.queue.map ival) * (heapR m p A * F)) := by
  obtain ⟨pb, mb, O, qa, qc, ba, bc, fa, fc, fv, op⟩ := h.openHeap
  have c2 : w.cell? ⟨p, 2, none⟩ = some (.slice qa A.queue.length qc) := op.hs.cell 2 rfl
  have HC := Lib.hid (slices_clone op.hs.p5 (by omega) (oneCell_ivals _))
  go_enter Try.func35, Try.ntmps35
  go_wp2_with fail
  refine HC.out.mono ?_
  rintro e w' ⟨a, c, rfl, _, h1⟩
  go_wp2_with fail
  go_ret
  have op1 : Opened w0 w' m p A (slc 3 1 a A.queue.length c (A.queue.map ival) * F) pb mb O qa qc ba bc fa fc fv := ⟨op.ho, op.ht, op.hw, h1.cast (by ac_rfl)⟩
  exact ⟨a, c, rfl, op1.shut.p2⟩
theorem heap_Buffer_nil (w : World) : Calls Try.prog 51 #[.pointer none] w fun e w' => e = .returned (.slice none 0 0) ∧ w = w' := by
  go_enter Try.func51, Try.ntmps51
  go_wp2
  go_ret
  exact ⟨rfl, rfl⟩
theorem heap_Buffer {w0 w : World} {m : Hp} {p : Nat} {A : AHeap} {F : HP} (h : Sat w0 w (heapR m p A * F)) (hq : A.buf.length ≤ 1000000000) :
    Calls Try.prog 51 #[.pointer (some ⟨p, 0, none⟩)] w fun e w' => ∃ a c, e = .returned (.slice a A.buf.length c) ∧ Sat w0 w' (slc 3 1 a A.buf.length c (A.buf.map ival) * (heapR m p A * F)) := by
  obtain ⟨pb, mb, O, qa, qc, ba, bc, fa, fc, fv, op⟩ := h.openHeap
  have c3 : w.cell? ⟨p, 3, none⟩ = some (.slice ba A.buf.length bc) := op.hs.cell 3 rfl
  have HC := Lib.hid (slices_clone op.hs.p6 (by omega) (oneCell_ivals _))
  go_enter Try.func51, Try.ntmps51
  go_wp2_with fail
  refine HC.out.mono ?_
  rintro e w' ⟨a, c, rfl, _, h1⟩
  go_wp2_with fail
  go_ret
  have op1 : Opened w0 w' m p A (slc 3 1 a A.buf.length c (A.buf.map ival) * F) pb mb O qa qc ba bc fa fc fv := ⟨op.ho, op.ht, op.hw, h1.cast (by ac_rfl)⟩
  exact ⟨a, c, rfl, op1.shut.p2⟩
theorem heap_TakeBuffer_nil (w : World) : Calls Try.prog 65 #[.pointer none] w fun e w' => e = .returned (.slice none 0 0) ∧ w = w' := by
  go_enter Try.func65, Try.ntmps65
  go_wp2_with fail
  refine (heap_Buffer_nil _).mono ?_
  rintro e w' ⟨rfl, rfl⟩
  go_wp2_with fail
  go_ret
  exact ⟨rfl, rfl⟩
theorem heap_TakeBuffer {w0 w : World} {m : Hp} {p : Nat} {A : AHeap} {F : HP} (h : Sat w0 w (heapR m p A * F)) (hq : A.buf.length ≤ 1000000000) :
    Calls Try.prog 65 #[.pointer (some ⟨p, 0, none⟩)] w fun e w' => ∃ a c, e = .returned (.slice a A.buf.length c) ∧ Sat w0 w' (slc 3 1 a A.buf.length c (A.buf.map ival) * (heapR m p { A with buf := [] } * F)) := by
  have HC := Lib.hid (heap_Buffer h hq)
  go_enter Try.func65, Try.ntmps65
  go_wp2_with fail
  refine HC.out.mono ?_
  rintro e w' ⟨a, c, rfl, h1⟩
  obtain ⟨pb, mb, O, qa, qc, ba, bc, fa, fc, fv, op⟩ := h1.p2.openHeap
  have c3 : w'.cell? ⟨p, 3, none⟩ = some (.slice ba A.buf.length bc) := op.hs.cell 3 rfl
  have f3 := op.hs.free 3
  have op1 := op.buf (q := []) rfl ((((op.hs.p6.drop).store (i := 3) (.slice none 0 0)).nilSlc (T := 3) (sz := 1)).p2)
  go_wp2_with fail
  go_ret
  exact ⟨a, c, rfl, op1.shut.p2⟩
theorem heap_Touched_nil (w : World) : Calls Try.prog 48 #[.pointer none] w fun e w' => e = .returned (.bool false) ∧ w = w' := by
  go_enter Try.func48, Try.ntmps48
  go_wp2
  go_ret
  exact ⟨rfl, rfl⟩
theorem heap_Touched {w0 w : World} {m : Hp} {p : Nat} {A : AHeap} {F : HP} (h : Sat w0 w (heapR m p A * F)) :
    Calls Try.prog 48 #[.pointer (some ⟨p, 0, none⟩)] w fun e w' => e = .returned (.bool A.touched) ∧ w = w' := by
  obtain ⟨pb, mb, O, qa, qc, ba, bc, fa, fc, fv, op⟩ := h.openHeap
  have c7 : w.cell? ⟨p, 7, none⟩ = some (.bool A.touched) := op.hs.cell 7 rfl
  go_enter Try.func48, Try.ntmps48
  go_wp2
  go_ret
  exact ⟨rfl, rfl⟩
theorem heap_Watch_nil (w : World) (a : Option Addr) (n c : Nat) : Calls Try.prog 47 #[.pointer none, .slice a n c] w fun e w' => e = .returned (.tuple #[]) ∧ w = w' := by
  go_enter Try.func47, Try.ntmps47
  go_wp2
  refine bodyPost_ret (results_none rfl _ _ _) rfl ?_
  exact ⟨rfl, rfl⟩
set_option maxHeartbeats 1000000 in
theorem heap_Watch {w0 w : World} {m : Hp} {p : Nat} {A : AHeap} {F : HP} {a : Option Addr} {n c : Nat} {l : List Int} (h : Sat w0 w (slc 3 1 a n c (l.map ival) * (heapR m p A * F))) (hl : l.length = n) (hn : n ≤ 1000000000) :
    Calls Try.prog 47 #[.pointer (some ⟨p, 0, none⟩), .slice a n c] w fun e w' => e = .returned (.tuple #[]) ∧ ∃ m' X, Knows m' X ∧ Sat w0 w' (heapR m' p { A with watch := l, touched := false } * (X * (slc 3 1 a n c (l.map ival) * F))) := by
  subst hl
  have HC := Lib.hid (slices_clone h (by omega) (oneCell_ivals _))
  go_enter Try.func47, Try.ntmps47
  go_wp2_with fail
  refine HC.out.mono ?_
  rintro e w1 ⟨a', c', rfl, _, h1⟩
  have h2 := h1.alloc (.cells #[.slice a' l.length c'] 48)
  obtain ⟨pb, mb, O, qa, qc, ba, bc, fa, fc, fv, op⟩ := h2.p4.openHeap
  generalize hbx : w1.heap.size = bx at *
  have c6 : (w1.alloc (.cells #[.slice a' l.length c'] 48)).cell? ⟨p, 6, none⟩ = some fv := op.hs.cell 6 rfl
  have f6 := op.hs.free 6
  have hs1 := op.hs.store (i := 6) (.func (.func 108) #[] #[.pointer (some ⟨bx, 0, none⟩)])
  have d7 : ((w1.alloc (.cells #[.slice a' l.length c'] 48)).setCell ⟨p, 6, none⟩ (.func (.func 108) #[] #[.pointer (some ⟨bx, 0, none⟩)])).cell? ⟨p, 7, none⟩ = some (.bool A.touched) := hs1.cell 7 rfl
  have g7 := hs1.free 7
  have hs2 := hs1.store (i := 7) (.bool false)
  have hss := @run_store_fn Try.prog
  go_wp2_with fail
  try rw [hbx]
  go_wp2_with fail
  go_end0
  refine ⟨rfl, ?_⟩
  have h3 := (hs2.p9.p9).cast (show _ = slc 3 1 a' l.length c' (l.map ival) * (pt bx (.cells #[.slice a' l.length c'] 48) * (row p 90 (((heapCells pb mb A qa qc ba bc fa fc fv).setIfInBounds 6 (.func (.func 108) #[] #[.pointer (some ⟨bx, 0, none⟩)])).setIfInBounds 7 (.bool false)) * (poolR pb A.T * (mapR (.int .i64) (Value.int .i64) mb (omap O) * (objsR O * (slc 3 1 qa A.queue.length qc (A.queue.map ival) * (slc 3 1 ba A.buf.length bc (A.buf.map ival) * (slc 135 2 fa A.fins.length fc (finCells A.fins) * (slc 3 1 a l.length c (l.map ival) * F))))))))) by ac_rfl)
  have fin : ∀ (wF : World) (m' : Hp) (X : HP), Knows m' X → watchOK m' (.func (.func 108) #[] #[.pointer (some ⟨bx, 0, none⟩)]) l → Sat w0 wF (X * (row p 90 (((heapCells pb mb A qa qc ba bc fa fc fv).setIfInBounds 6 (.func (.func 108) #[] #[.pointer (some ⟨bx, 0, none⟩)])).setIfInBounds 7 (.bool false)) * (poolR pb A.T * (mapR (.int .i64) (Value.int .i64) mb (omap O) * (objsR O * (slc 3 1 qa A.queue.length qc (A.queue.map ival) * (slc 3 1 ba A.buf.length bc (A.buf.map ival) * (slc 135 2 fa A.fins.length fc (finCells A.fins) * (slc 3 1 a l.length c (l.map ival) * F))))))))) →
      ∃ m' X, Knows m' X ∧ Sat w0 wF (heapR m' p { A with watch := l, touched := false } * (X * (slc 3 1 a l.length c (l.map ival) * F))) := fun wF m' X hK hw hs => by
    have op1 : Opened w0 wF m' p { A with watch := l, touched := false } (X * (slc 3 1 a l.length c (l.map ival) * F)) pb mb O qa qc ba bc fa fc (.func (.func 108) #[] #[.pointer (some ⟨bx, 0, none⟩)]) := ⟨op.ho, op.ht, hw, hs.cast (by unfold heapCells; ac_rfl)⟩
    exact ⟨m', X, hK, op1.shut⟩
  rcases h3.openSlc.2 with ⟨rfl, e1, rfl, h4⟩ | ⟨g, off, cur, rfl, e2, e3', e4, e5, h4⟩
  · have el : l = [] := List.eq_nil_of_length_eq_zero e1
    subst el
    exact fin _ _ _ (Knows.pt bx _) (.inr (.inr ⟨bx, 0, 0, 0, #[], rfl, .inl ⟨rfl, by simp⟩⟩)) h4
  · refine fin _ _ _ (Knows.pt2 (b := bx) (c := g)) (.inr (.inr ⟨bx, g, off, c', cur, rfl, .inr ⟨by simp, ?_, ?_, e2, e3', hn⟩⟩)) ((h4.p2).unassoc)
    · have hne : g ≠ bx := h4.ne
      simp [hne]
    · rw [Nat.mul_one] at e5; exact e5
theorem heap_Fins_nil (w : World) : Calls Try.prog 40 #[.pointer none] w fun e w' => e = .returned (.slice none 0 0) ∧ w = w' := by
  go_enter Try.func40, Try.ntmps40
  go_wp2
  go_ret
  exact ⟨rfl, rfl⟩
set_option maxHeartbeats 1000000 in
theorem heap_Fins {w0 w : World} {m : Hp} {p : Nat} {A : AHeap} {F : HP} (h : Sat w0 w (heapR m p A * F)) (hq : A.fins.length ≤ 1000000000) :
    Calls Try.prog 40 #[.pointer (some ⟨p, 0, none⟩)] w fun e w' => ∃ a c, e = .returned (.slice a A.fins.length c) ∧ Sat w0 w' (slc 3 1 a A.fins.length c ((A.fins.map (·.1)).map ival) * (heapR m p A * F)) := by
  obtain ⟨pb, mb, O, qa, qc, ba, bc, fa, fc, fv, op⟩ := h.openHeap
  have c4 : w.cell? ⟨p, 4, none⟩ = some (.slice fa A.fins.length fc) := op.hs.cell 4 rfl
  have hcap := op.hs.p7.slcCap
  have h0 := op.hs.p7.nilSlc (T := 3) (sz := 1)
  go_enter Try.func40, Try.ntmps40
  go_wp2
  go_loopw [3, 13] (fun ov iv wr => ∃ (k : Nat) (a : Option Addr) (c : Nat), iv = .int .i64 k ∧ k ≤ A.fins.length ∧ ov = .slice a k c ∧ Sat w0 wr (slc 3 1 a k c (((A.fins.map (·.1)).take k).map ival) * (slc 135 2 fa A.fins.length fc (finCells A.fins) * (row p 90 (heapCells pb mb A qa qc ba bc fa fc fv) * (poolR pb A.T * (mapR (.int .i64) (Value.int .i64) mb (omap O) * (objsR O * (slc 3 1 qa A.queue.length qc (A.queue.map ival) * (slc 3 1 ba A.buf.length bc (A.buf.map ival) * F))))))))) (fun _ iv _ => A.fins.length - (intOf iv).toNat)
  case atStart => exact ⟨0, none, 0, rfl, by omega, rfl, h0⟩
  case round =>
    obtain ⟨k, a, c, rfl, hk, rfl, hs⟩ := hrel
    by_cases hlt : k < A.fins.length
    · obtain ⟨x, hx⟩ : ∃ x, A.fins[k]? = some x := ⟨A.fins[k]'(by omega), List.getElem?_eq_getElem _⟩
      obtain ⟨g, off, rfl, x0, x1, _, _⟩ := finAt hs.p2 hx
      obtain ⟨y, z⟩ := x
      have h1 := (hs.alloc (.cells #[.int .i64 y, .int .i64 z] 135)).alloc (.cells #[.int .i64 y] 3)
      rw [size_alloc] at h1
      have b0 : ((wr.alloc (.cells #[.int .i64 y, .int .i64 z] 135)).alloc (.cells #[.int .i64 y] 3)).cell? ⟨wr.heap.size + 1, 0, none⟩ = some (.int .i64 y) := Sat.cell (T := 3) (cs := #[.int .i64 y]) h1 0 rfl
      have htk : (A.fins.map (·.1)).take (k + 1) = (A.fins.map (·.1)).take k ++ [y] := by rw [List.take_add_one, List.getElem?_map, hx]; rfl
      have HTK := Lib.hid htk
      clear hx htk
      go_wp2_with (at_builtin; refine wpList_push rfl _ _ rfl a k c ((A.fins.map (·.1)).take k) rfl h1.p3 (wr.heap.size + 1) 1 y rfl b0 (by omega) ?_; intro a' c' w4 h4)
      go_roundw
      case rel =>
        refine ⟨k + 1, a', c', by go_num, by omega, rfl, ?_⟩
        rw [HTK.out]
        exact (h4.p3.drop.p2.drop)
      case measure => simp [intOf]; omega
    · obtain rfl : k = A.fins.length := by omega
      go_wp2
      go_ret
      refine ⟨a, c, rfl, ?_⟩
      rw [List.take_of_length_le (by simp)] at hs
      have op1 : Opened w0 wr m p A (slc 3 1 a A.fins.length c ((A.fins.map (·.1)).map ival) * F) pb mb O qa qc ba bc fa fc fv := ⟨op.ho, op.ht, op.hw, hs.cast (by ac_rfl)⟩
      exact op1.shut.p2
end Go.Proofs.Ytkpcngcegipalaa.Tw
