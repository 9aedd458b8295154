/- The heap of cells: counted, Keep. No condition. -/
import Derived.Test.YtkpcngcegipalaaCell1
namespace Go.Proofs.Ytkpcngcegipalaa.Tw
set_option linter.unusedVariables false
set_option linter.unusedSimpArgs false
open Go Go.RowKit Go.MapKept

/-- the object whose Count may change -/
def cntO (A : AHeap) (v : AVal) : Option AObj := if refV v && thereV A v then (match A.objs v.n with | some o => if o.count = 0 then none else some o | none => none) else none
def cntE (A : AHeap) (v : AVal) : Int := if refV v && (cntO A v).isNone then 5 else 0

theorem heap_counted_nil (w : World) (v : AVal) {w0 : World} {F : HP} (h : Sat w0 w F) :
    Calls Try.prog 71 #[.pointer none, .agg #[.int .i64 v.kind, .int .i64 v.n]] w fun e w' => e = .returned (.tuple #[.pointer none, .int .i64 1]) ∧ Sat w0 w' F := by
  have h1 := (h.alloc (.cells #[.int .i64 v.kind, .int .i64 v.n] 28)).drop
  go_enter Try.func71, Try.ntmps71
  go_wp2
  go_ret2
  exact ⟨rfl, h1⟩

theorem heap_counted_no {w0 w : World} {m : Hp} {p : Nat} {A : AHeap} {F : HP} {pb mb : Nat} {O : List (Int × Nat × AObj)} {qa : Option Addr} {qc : Nat} {ba : Option Addr} {bc : Nat} {fa : Option Addr} {fc : Nat} {fv : Value}
    (op0 : Opened w0 w m p A F pb mb O qa qc ba bc fa fc fv) (v : AVal) (hc : cntO A v = none) :
    Calls Try.prog 71 #[.pointer (some ⟨p, 0, none⟩), .agg #[.int .i64 v.kind, .int .i64 v.n]] w fun e w' => e = .returned (.tuple #[.pointer none, .int .i64 (cntE A v)]) ∧ Opened w0 w' m p A F pb mb O qa qc ba bc fa fc fv := by
  obtain ⟨k, n⟩ := v
  have op := op0.alloc (.cells #[.int .i64 k, .int .i64 n] 28)
  generalize hbx : w.heap.size = bx at *
  have hR := val_Ref ⟨k, n⟩ op.hs
  have hx := op.box2
  have d0 := hx.1
  have d1 := hx.2
  clear hx
  cases hr : refV ⟨k, n⟩ with
  | false =>
    have e : cntE A ⟨k, n⟩ = 0 := by simp [cntE, hr]
    rw [e]
    rw [hr] at hR
    have HR := Lib.hid hR
    clear hR e hc hr
    go_enter Try.func71, Try.ntmps71
    try rw [hbx]
    go_wp2_with fail
    refine HR.out.mono ?_
    rintro e w1 ⟨rfl, h1⟩
    go_wp2_with fail
    go_ret2
    exact ⟨rfl, op0.to ((op.to h1).unframe).hs⟩
  | true =>
    have e : cntE A ⟨k, n⟩ = 5 := by simp [cntE, hr, hc]
    rw [e]
    rw [hr] at hR
    have HR := Lib.hid hR
    have HC := Lib.hid hc
    have HHR := Lib.hid hr
    clear hR e hc hr
    go_enter Try.func71, Try.ntmps71
    try rw [hbx]
    go_wp2_with fail
    refine HR.out.mono ?_
    rintro e w1 ⟨rfl, h1⟩
    have op1 := op.to h1
    have hx := op1.box2
    have d0 := hx.1
    have d1 := hx.2
    clear hx
    go_wp2_with fail
    have x1 : w1.cell? ⟨p, 1, none⟩ = some (.map (some mb)) := op1.hs.cell 1 rfl
    have op2 := op1.drew
    have hl := op2.look n
    have hT := heap_there op2 ⟨k, n⟩
    cases ht : thereV A ⟨k, n⟩ with
    | false =>
      rw [ht] at hT
      have HT := Lib.hid hT
      clear hT ht
      generalize (oget O n).map (fun x => (⟨x.1, 0, none⟩ : Addr)) = ad at hl
      go_region
      go_wp2_with fail
      refine HT.out.mono ?_
      rintro e w2 ⟨rfl, op3⟩
      clear hl x1
      go_wp2_with fail
      go_ret2
      exact ⟨rfl, op3.unframe⟩
    | true =>
      rw [ht] at hT
      have HT := Lib.hid hT
      have h2 := HC.out
      unfold cntO at h2
      rw [HHR.out, ht] at h2
      cases ho : A.objs n with
      | none => unfold thereV at ht; rw [ho, HHR.out] at ht; simp at ht
      | some o =>
        have hz : o.count = 0 := by
          simp [ho] at h2
          exact h2
        obtain ⟨b, l, r, eO, _, e3⟩ := op.obj ho
        rw [e3] at hl
        clear hT ht h2
        have hb1 : ∀ w', Opened w0 w' m p A (pt bx (.cells #[.int .i64 k, .int .i64 n] 28) * F) pb mb O qa qc ba bc fa fc fv → w'.cell? ⟨b, 1, none⟩ = some (.int .i64 0) := fun w' hx => by
          obtain ⟨a, c, G, hG⟩ := hx.objCells eO
          have := hG.cell 1 rfl
          rw [hz] at this
          exact this
        clear eO e3 ho hz
        go_region
        go_wp2_with fail
        refine HT.out.mono ?_
        rintro e w2 ⟨rfl, op3⟩
        have hb2 := hb1 w2 op3
        clear hl x1
        go_wp2_with fail
        go_ret2
        exact ⟨rfl, op3.unframe⟩

theorem heap_counted {w0 w : World} {m : Hp} {p : Nat} {A : AHeap} {F : HP} {pb mb : Nat} {O : List (Int × Nat × AObj)} {qa : Option Addr} {qc : Nat} {ba : Option Addr} {bc : Nat} {fa : Option Addr} {fc : Nat} {fv : Value}
    (op0 : Opened w0 w m p A F pb mb O qa qc ba bc fa fc fv) (K : Knows m F) (v : AVal) {b : Nat} {o : AObj} (hc : cntO A v = some o) (hob : oget O v.n = some (b, o)) :
    Calls Try.prog 71 #[.pointer (some ⟨p, 0, none⟩), .agg #[.int .i64 v.kind, .int .i64 v.n]] w fun e w' => e = .returned (.tuple #[.pointer (some ⟨b, 0, none⟩), .int .i64 0]) ∧ Opened w0 w' m p (A.touch v.n) F pb mb O qa qc ba bc fa fc fv := by
  obtain ⟨k, n⟩ := v
  have hcc : refV ⟨k, n⟩ = true ∧ thereV A ⟨k, n⟩ = true ∧ (o.count == 0) = false := by
    unfold cntO at hc
    cases h1 : refV ⟨k, n⟩ <;> cases h2 : thereV A ⟨k, n⟩ <;> rw [h1, h2] at hc <;> simp at hc
    refine ⟨rfl, rfl, ?_⟩
    split at hc
    · split at hc
      · cases hc
      · cases hc; simpa
    · cases hc
  obtain ⟨hr, ht, hz⟩ := hcc
  have op := op0.alloc (.cells #[.int .i64 k, .int .i64 n] 28)
  generalize hbx : w.heap.size = bx at *
  have hR := val_Ref ⟨k, n⟩ op.hs
  have hx := op.box2
  have d0 := hx.1
  have d1 := hx.2
  clear hx
  rw [hr] at hR
  have HR := Lib.hid hR
  obtain ⟨l, r, eO, _⟩ := oget_split hob
  have hb1 : ∀ w', Opened w0 w' m p A (pt bx (.cells #[.int .i64 k, .int .i64 n] 28) * F) pb mb O qa qc ba bc fa fc fv → w'.cell? ⟨b, 1, none⟩ = some (.int .i64 o.count) := fun w' hx => by
    obtain ⟨a, c, G, hG⟩ := hx.objCells eO
    exact hG.cell 1 rfl
  have hob' : (oget O n).map (fun x => (⟨x.1, 0, none⟩ : Addr)) = some ⟨b, 0, none⟩ := by rw [hob]; rfl
  clear hR hr hc eO hob
  go_enter Try.func71, Try.ntmps71
  try rw [hbx]
  go_wp2_with fail
  refine HR.out.mono ?_
  rintro e w1 ⟨rfl, h1⟩
  have op1 := op.to h1
  have hx := op1.box2
  have d0 := hx.1
  have d1 := hx.2
  clear hx
  go_wp2_with fail
  have x1 : w1.cell? ⟨p, 1, none⟩ = some (.map (some mb)) := op1.hs.cell 1 rfl
  have op2 := op1.drew
  have hl := op2.look n
  rw [hob'] at hl
  have hT := heap_there op2 ⟨k, n⟩
  rw [ht] at hT
  have HT := Lib.hid hT
  clear hT ht hob'
  go_region
  go_wp2_with fail
  refine HT.out.mono ?_
  rintro e w2 ⟨rfl, op3⟩
  have hb2 := hb1 w2 op3
  have hx := op3.box2
  have e0 := hx.1
  have e1 := hx.2
  clear hx hl x1 d0 d1
  go_wp2_with fail
  refine (heap_touch op3 K.left n).mono ?_
  rintro e w3 ⟨rfl, op4⟩
  go_wp2_with fail
  go_ret2
  exact ⟨rfl, op4.unframe⟩

/-- the object at block b, turned -/
theorem Opened.storeObj {w0 w : World} {m : Hp} {p : Nat} {A : AHeap} {F : HP} {pb mb : Nat} {O : List (Int × Nat × AObj)} {qa : Option Addr} {qc : Nat} {ba : Option Addr} {bc : Nat} {fa : Option Addr} {fc : Nat} {fv : Value} (op : Opened w0 w m p A F pb mb O qa qc ba bc fa fc fv) {l r : List (Int × Nat × AObj)} {n : Int} {b : Nat} {o o' : AObj} (e : O = l ++ (n, b, o) :: r) (hl : oget l n = none) (i : Nat) (v : Value) {kd ct mk : Int} {tx : ByteArray}
    (ho' : o' = { kind := kd, count := ct, slots := o.slots, text := tx, mark := mk })
    (he : ∀ a c, (#[.int .i64 o.kind, .int .i64 o.count, .slice a o.slots.length c, .string o.text, .int .i64 o.mark] : Array Value).setIfInBounds i v = #[.int .i64 kd, .int .i64 ct, .slice a o.slots.length c, .string tx, .int .i64 mk]) :
    Opened w0 (w.setCell ⟨b, i, none⟩ v) m p (A.upd n o') F pb mb (l ++ (n, b, o') :: r) qa qc ba bc fa fc fv := by
  refine op.setObj e hl fun G hG => ?_
  obtain ⟨a, c, h2⟩ := hG.openObj
  have h3 := h2.store (i := i) v
  rw [he a c] at h3
  subst ho'
  exact Sat.shutObj (a := a) (c := c) h3

def AHeap.keep (A : AHeap) (v : AVal) : AHeap := match cntO A v with | some o => (A.touch v.n).upd v.n { o with count := o.count + 1 } | none => A
theorem cntO_some {A : AHeap} {v : AVal} {o : AObj} (h : cntO A v = some o) : A.objs v.n = some o := by
  unfold cntO at h
  split at h
  · cases e : A.objs v.n with
    | none => rw [e] at h; cases h
    | some x => rw [e] at h; simp at h; rw [h.2]
  · cases h

theorem heap_Keep {w0 w : World} {m : Hp} {p : Nat} {A : AHeap} {F : HP} (h : Sat w0 w (heapR m p A * F)) (K : Knows m F) (v : AVal) (hB : ∀ o, cntO A v = some o → IntKind.i64.wrap (o.count + 1) = o.count + 1) :
    Calls Try.prog 59 #[.pointer (some ⟨p, 0, none⟩), .agg #[.int .i64 v.kind, .int .i64 v.n]] w fun e w' => e = .returned (.int .i64 (cntE A v)) ∧ Sat w0 w' (heapR m p (A.keep v) * F) := by
  obtain ⟨pb, mb, O, qa, qc, ba, bc, fa, fc, fv, op0⟩ := h.openHeap
  obtain ⟨k, n⟩ := v
  have op := op0.alloc (.cells #[.int .i64 k, .int .i64 n] 28)
  generalize hbx : w.heap.size = bx at *
  have hx := op.box2
  have d0 := hx.1
  have d1 := hx.2
  clear hx
  cases hc : cntO A ⟨k, n⟩ with
  | none =>
    have hC := heap_counted_no op ⟨k, n⟩ hc
    have ek : A.keep ⟨k, n⟩ = A := by unfold AHeap.keep; rw [hc]
    rw [ek]
    have HC := Lib.hid hC
    clear hC hc ek hB
    go_enter Try.func59, Try.ntmps59
    try rw [hbx]
    go_wp2_with fail
    refine HC.out.mono ?_
    rintro e w1 ⟨rfl, op1⟩
    clear HC
    go_wp2_with fail
    go_ret
    exact ⟨rfl, op1.unframe.shut⟩
  | some o =>
    have ho := cntO_some hc
    obtain ⟨b, l, r, eO, hl, e3⟩ := op.obj ho
    have hC := heap_counted op K.left ⟨k, n⟩ hc e3
    have hwr := hB o hc
    have ek : A.keep ⟨k, n⟩ = (A.touch n).upd n { o with count := o.count + 1 } := by unfold AHeap.keep; rw [hc]
    have ee : cntE A ⟨k, n⟩ = 0 := by unfold cntE; rw [hc]; simp
    rw [ek, ee]
    have HC := Lib.hid hC
    have HO := Lib.hid eO
    clear hC hc ek hB ee eO e3 ho
    go_enter Try.func59, Try.ntmps59
    try rw [hbx]
    go_wp2_with fail
    refine HC.out.mono ?_
    rintro e w1 ⟨rfl, op1⟩
    obtain ⟨a, c, G, hG⟩ := op1.objCells HO.out
    have hcell : w1.cell? ⟨b, 1, none⟩ = some (.int .i64 o.count) := hG.cell 1 rfl
    have hfree := hG.free 1
    have hfin := op1.storeObj HO.out hl 1 (.int .i64 (o.count + 1)) (o' := { o with count := o.count + 1 }) rfl (fun _ _ => rfl)
    clear HC hG
    go_wp2_with fail
    go_ret
    exact ⟨rfl, hfin.unframe.shut⟩
theorem heap_Keep_nil (w : World) (v : AVal) {w0 : World} {F : HP} (h : Sat w0 w F) :
    Calls Try.prog 59 #[.pointer none, .agg #[.int .i64 v.kind, .int .i64 v.n]] w fun e w' => e = .returned (.int .i64 1) ∧ Sat w0 w' F := by
  have h1 := h.alloc (.cells #[.int .i64 v.kind, .int .i64 v.n] 28)
  have d0 : (w.alloc (.cells #[.int .i64 v.kind, .int .i64 v.n] 28)).cell? ⟨w.heap.size, 0, none⟩ = some (.int .i64 v.kind) := Sat.cell (T := 28) (cs := #[.int .i64 v.kind, .int .i64 v.n]) h1 0 rfl
  have d1 : (w.alloc (.cells #[.int .i64 v.kind, .int .i64 v.n] 28)).cell? ⟨w.heap.size, 1, none⟩ = some (.int .i64 v.n) := Sat.cell (T := 28) (cs := #[.int .i64 v.kind, .int .i64 v.n]) h1 1 rfl
  have h2 := h1.drop
  go_enter Try.func59, Try.ntmps59
  go_wp2_with fail
  refine (heap_counted_nil _ v h2).mono ?_
  rintro e w1 ⟨rfl, h3⟩
  go_wp2_with fail
  go_ret
  exact ⟨rfl, h3⟩
end Go.Proofs.Ytkpcngcegipalaa.Tw
