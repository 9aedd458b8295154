/- The heap of cells: counted, Keep. No condition. -/
import Derived.Test.YtkpcngcegipalaaZPDw11
import Derived.Test.YtkpcngcegipalaaZPDw8
namespace Go.Proofs.Ytkpcngcegipalaa.Tw
set_option linter.unusedVariables false
set_option linter.unusedSimpArgs false
open Go Go.RowKit Go.MapKept

/-- the object whose Count may change -/
def cntO (A : AHeap) (v : AVal) : Option AObj := if refV v && thereV A v then (match A.objs v.n with | some o => if o.count = 0 then none else some o | none => none) else none
def cntE (A : AHeap) (v : AVal) : Int := if refV v && (cntO A v).isNone then 5 else 0

theorem heap_counted_nil (w : World) (v : AVal) {w0 : World} {F : HP} (h : Sat w0 w F) :
    Calls Try.prog 71 #[.pointer none, .agg #[.int .i64 v.kind, .int .i64 v.n]] w fun e w' => e = .returned (.tuple #[.pointer none, .int .i64 1]) ∧ Sat w0 w' F := by
  have h1 := (h.alloc (.cells #[.int .i64 v.kind, .int .i64 v.n] 28)).drop
  go_enter Try.func71, Try.ntmps71
  go_wp2
  go_ret2
  exact ⟨rfl, h1⟩

theorem heap_counted_no {w0 w : World} {m : Hp} {p : Nat} {A : AHeap} {F : HP} {pb mb : Nat} {O : List (Int × Nat × AObj)} {qa : Option Addr} {qc : Nat} {ba : Option Addr} {bc : Nat} {fa : Option Addr} {fc : Nat} {fv : Value}
    (op0 : Opened w0 w m p A F pb mb O qa qc ba bc fa fc fv) (v : AVal) (hc : cntO A v = none) :
    Calls Try.prog 71 #[.pointer (some ⟨p, 0, none⟩), .agg #[.int .i64 v.kind, .int .i64 v.n]] w fun e w' => e = .returned (.tuple #[.pointer none, .int .i64 (cntE A v)]) ∧ Opened w0 w' m p A F pb mb O qa qc ba bc fa fc fv := by
  obtain ⟨k, n⟩ := v
  have op := op0.alloc (.cells #[.int .i64 k, .int .i64 n] 28)
  generalize hbx : w.heap.size = bx at *
  have hR := val_Ref ⟨k, n⟩ op.hs
  have hx := op.box2
  have d0 := hx.1
  have d1 := hx.2
  clear hx
  cases hr : refV ⟨k, n⟩ with
  | false =>
    have e : cntE A ⟨k, n⟩ = 0 := by simp [cntE, hr]
    rw [e]
    rw [hr] at hR
    have HR := Lib.hid hR
    clear hR e hc hr
    go_enter Try.func71, Try.ntmps71
    try rw [hbx]
    go_wp2_with fail
    refine HR.out.mono ?_
    rintro e w1 ⟨rfl, h1⟩
    go_wp2_with fail
    go_ret2
    exact ⟨rfl, op0.to ((op.to h1).unframe).hs⟩
  | true =>
    have e : cntE A ⟨k, n⟩ = 5 := by simp [cntE, hr, hc]
    rw [e]
    rw [hr] at hR
    have HR := Lib.hid hR
    have HC := Lib.hid hc
    have HHR := Lib.hid hr
    clear hR e hc hr
    go_enter Try.func71, Try.ntmps71
    try rw [hbx]
    go_wp2_with fail
    refine HR.out.mono ?_
    rintro e w1 ⟨rfl, h1⟩
    have op1 := op.to h1
    have hx := op1.box2
    have d0 := hx.1
    have d1 := hx.2
    clear hx
    go_wp2_with fail
    have x1 : w1.cell? ⟨p, 1, none⟩ = some (.map (some mb)) := op1.hs.cell 1 rfl
    have op2 := op1.drew
    have hl := op2.look n
    have hT := heap_there op2 ⟨k, n⟩
    cases ht : thereV A ⟨k, n⟩ with
    | false =>
      rw [ht] at hT
      have HT := Lib.hid hT
      clear hT ht
      generalize (oget O n).map (fun x => (⟨x.1, 0, none⟩ : Addr)) = ad at hl
      go_region
      go_wp2_with fail
      refine HT.out.mono ?_
      rintro e w2 ⟨rfl, op3⟩
      clear hl x1
      go_wp2_with fail
      go_ret2
      exact ⟨rfl, op3.unframe⟩
    | true =>
      rw [ht] at hT
      have HT := Lib.hid hT
      have h2 := HC.out
      unfold cntO at h2
      rw [HHR.out, ht] at h2
      cases ho : A.objs n with
      | none => unfold thereV at ht; rw [ho, HHR.out] at ht; simp at ht
      | some o =>
        have hz : o.count = 0 := by
          simp [ho] at h2
          exact h2
        obtain ⟨b, l, r, eO, _, e3⟩ := op.obj ho
        rw [e3] at hl
        clear hT ht h2
        have hb1 : ∀ w', Opened w0 w' m p A (pt bx (.cells #[.int .i64 k, .int .i64 n] 28) * F) pb mb O qa qc ba bc fa fc fv → w'.cell? ⟨b, 1, none⟩ = some (.int .i64 0) := fun w' hx => by
          obtain ⟨a, c, G, hG⟩ := hx.objCells eO
          have := hG.cell 1 rfl
          rw [hz] at this
          exact this
        clear eO e3 ho hz
        go_region
        go_wp2_with fail
        refine HT.out.mono ?_
        rintro e w2 ⟨rfl, op3⟩
        have hb2 := hb1 w2 op3
        clear hl x1
        go_wp2_with fail
        go_ret2
        exact ⟨rfl, op3.unframe⟩

theorem heap_counted {w0 w : World} {m : Hp} {p : Nat} {A : AHeap} {F : HP} {pb mb : Nat} {O : List (Int × Nat × AObj)} {qa : Option Addr} {qc : Nat} {ba : Option Addr} {bc : Nat} {fa : Option Addr} {fc : Nat} {fv : Value}
    (op0 : Opened w0 w m p A F pb mb O qa qc ba bc fa fc fv) (K : Knows m F) (v : AVal) {b : Nat} {o : AObj} (hc : cntO A v = some o) (hob : oget O v.n = some (b, o)) :
    Calls Try.prog 71 #[.pointer (some ⟨p, 0, none⟩), .agg #[.int .i64 v.kind, .int .i64 v.n]] w fun e w' => e = .returned (.tuple #[.pointer (some ⟨b, 0, none⟩), .int .i64 0]) ∧ Opened w0 w' m p (A.touch v.n) F pb mb O qa qc ba bc fa fc fv := by
  obtain ⟨k, n⟩ := v
  have hcc : refV ⟨k, n⟩ = true ∧ thereV A ⟨k, n⟩ = true ∧ (o.count == 0) = false := by
    unfold cntO at hc
    cases h1 : refV ⟨k, n⟩ <;> cases h2 : thereV A ⟨k, n⟩ <;> rw [h1, h2] at hc <;> simp at hc
    refine ⟨rfl, rfl, ?_⟩
    split at hc
    · split at hc
      · cases hc
      · cases hc; simpa
    · cases hc
  obtain ⟨hr, ht, hz⟩ := hcc
  have op := op0.alloc (.cells #[.int .i64 k, .int .i64 n] 28)
  generalize hbx : w.heap.size = bx at *
  have hR := val_Ref ⟨k, n⟩ op.hs
  have hx := op.box2
  have d0 := hx.1
  have d1 := hx.2
  clear hx
  rw [hr] at hR
  have HR := Lib.hid hR
  obtain ⟨l, r, eO, _⟩ := oget_split hob
  have hb1 : ∀ w', Opened w0 w' m p A (pt bx (.cells #[.int .i64 k, .int .i64 n] 28) * F) pb mb O qa qc ba bc fa fc fv → w'.cell? ⟨b, 1, none⟩ = some (.int .i64 o.count) := fun w' hx => by
    obtain ⟨a, c, G, hG⟩ := hx.objCells eO
    exact hG.cell 1 rfl
  have hob' : (oget O n).map (fun x => (⟨x.1, 0, none⟩ : Addr)) = some ⟨b, 0, none⟩ := by rw [hob]; rfl
  clear hR hr hc eO hob
  go_enter Try.func71, Try.ntmps71
  try rw [hbx]
  go_wp2_with fail
  refine HR.out.mono ?_
  rintro e w1 ⟨rfl, h1⟩
  have op1 := op.to h1
  have hx := op1.box2
  have d0 := hx.1
  have d1 := hx.2
  clear hx
  go_wp2_with fail
  have x1 : w1.cell? ⟨p, 1, none⟩ = some (.map (some mb)) := op1.hs.cell 1 rfl
  have op2 := op1.drew
  have hl := op2.look n
  rw [hob'] at hl
  have hT := heap_there op2 ⟨k, n⟩
  rw [ht] at hT
  have HT := Lib.hid hT
  clear hT ht hob'
  go_region
  go_wp2_with fail
  refine HT.out.mono ?_
  rintro e w2 ⟨rfl, op3⟩
  have hb2 := hb1 w2 op3
  have hx := op3.box2
  have e0 := hx.1
  have e1 := hx.2
  clear hx hl x1 d0 d1
  go_wp2_with fail
  refine (heap_touch op3 K.left n).mono ?_
  rintro e w3 ⟨rfl, op4⟩
  go_wp2_with fail
  go_ret2
  exact ⟨rfl, op4.unframe⟩

/-- the object at block b, turned -/
theorem Opened.storeObj {w0 w : World} {m : Hp} {p : Nat} {A : AHeap} {F : HP} {pb mb : Nat} {O : List (Int × Nat × AObj)} {qa : Option Addr} {qc : Nat} {ba : Option Addr} {bc : Nat} {fa : Option Addr} {fc : Nat} {fv : Value} (op : Opened w0 w m p A F pb mb O qa qc ba bc fa fc fv) {l r : List (Int × Nat × AObj)} {n : Int} {b : Nat} {o o' : AObj} (e : O = l ++ (n, b, o) :: r) (hl : oget l n = none) (i : Nat) (v : Value) {kd ct mk : Int} {tx : ByteArray}
    (ho' : o' = { kind := kd, count := ct, slots := o.slots, text := tx, mark := mk })
    (he : ∀ a c, (#[.int .i64 o.kind, .int .i64 o.count, .slice a o.slots.length c, .string o.text, .int .i64 o.mark] : Array Value).setIfInBounds i v = #[.int .i64 kd, .int .i64 ct, .slice a o.slots.length c, .string tx, .int .i64 mk]) :
    Opened w0 (w.setCell ⟨b, i, none⟩ v) m p (A.upd n o') F pb mb (l ++ (n, b, o') :: r) qa qc ba bc fa fc fv := by
  refine op.setObj e hl fun G hG => ?_
  obtain ⟨a, c, h2⟩ := hG.openObj
  have h3 := h2.store (i := i) v
  rw [he a c] at h3
  subst ho'
  exact Sat.shutObj (a := a) (c := c) h3

def AHeap.keep (A : AHeap) (v : AVal) : AHeap := match cntO A v with | some o => (A.touch v.n).upd v.n { o with count := o.count + 1 } | none => A
theorem cntO_some {A : AHeap} {v : AVal} {o : AObj} (h : cntO A v = some o) : A.objs v.n = some o := by
  unfold cntO at h
  split at h
  · cases e : A.objs v.n with
    | none => rw [e] at h; cases h
    | some x => rw [e] at h; simp at h; rw [h.2]
  · cases h

theorem heap_Keep {w0 w : World} {m : Hp} {p : Nat} {A : AHeap} {F : HP} (h : Sat w0 w (heapR m p A * F)) (K : Knows m F) (v : AVal) (hB : ∀ o, cntO A v = some o → IntKind.i64.wrap (o.count + 1) = o.count + 1) :
    Calls Try.prog 59 #[.pointer (some ⟨p, 0, none⟩), .agg #[.int .i64 v.kind, .int .i64 v.n]] w fun e w' => e = .returned (.int .i64 (cntE A v)) ∧ Sat w0 w' (heapR m p (A.keep v) * F) := by
  obtain ⟨pb, mb, O, qa, qc, ba, bc, fa, fc, fv, op0⟩ := h.openHeap
  obtain ⟨k, n⟩ := v
  have op := op0.alloc (.cells #[.int .i64 k, .int .i64 n] 28)
  generalize hbx : w.heap.size = bx at *
  have hx := op.box2
  have d0 := hx.1
  have d1 := hx.2
  clear hx
  cases hc : cntO A ⟨k, n⟩ with
  | none =>
    have hC := heap_counted_no op ⟨k, n⟩ hc
    have ek : A.keep ⟨k, n⟩ = A := by unfold AHeap.keep; rw [hc]
    rw [ek]
    have HC := Lib.hid hC
    clear hC hc ek hB
    go_enter Try.func59, Try.ntmps59
    try rw [hbx]
    go_wp2_with fail
    refine HC.out.mono ?_
    rintro e w1 ⟨rfl, op1⟩
    clear HC
    go_wp2_with fail
    go_ret
    exact ⟨rfl, op1.unframe.shut⟩
  | some o =>
    have ho := cntO_some hc
    obtain ⟨b, l, r, eO, hl, e3⟩ := op.obj ho
    have hC := heap_counted op K.left ⟨k, n⟩ hc e3
    have hwr := hB o hc
    have ek : A.keep ⟨k, n⟩ = (A.touch n).upd n { o with count := o.count + 1 } := by unfold AHeap.keep; rw [hc]
    have ee : cntE A ⟨k, n⟩ = 0 := by unfold cntE; rw [hc]; simp
    rw [ek, ee]
    have HC := Lib.hid hC
    have HO := Lib.hid eO
    clear hC hc ek hB ee eO e3 ho
    go_enter Try.func59, Try.ntmps59
    try rw [hbx]
    go_wp2_with fail
    refine HC.out.mono ?_
    rintro e w1 ⟨rfl, op1⟩
    obtain ⟨a, c, G, hG⟩ := op1.objCells HO.out
    have hcell : w1.cell? ⟨b, 1, none⟩ = some (.int .i64 o.count) := hG.cell 1 rfl
    have hfree := hG.free 1
    have hfin := op1.storeObj HO.out hl 1 (.int .i64 (o.count + 1)) (o' := { o with count := o.count + 1 }) rfl (fun _ _ => rfl)
    clear HC hG
    go_wp2_with fail
    go_ret
    exact ⟨rfl, hfin.unframe.shut⟩
theorem heap_Keep_nil (w : World) (v : AVal) {w0 : World} {F : HP} (h : Sat w0 w F) :
    Calls Try.prog 59 #[.pointer none, .agg #[.int .i64 v.kind, .int .i64 v.n]] w fun e w' => e = .returned (.int .i64 1) ∧ Sat w0 w' F := by
  have h1 := h.alloc (.cells #[.int .i64 v.kind, .int .i64 v.n] 28)
  have d0 : (w.alloc (.cells #[.int .i64 v.kind, .int .i64 v.n] 28)).cell? ⟨w.heap.size, 0, none⟩ = some (.int .i64 v.kind) := Sat.cell (T := 28) (cs := #[.int .i64 v.kind, .int .i64 v.n]) h1 0 rfl
  have d1 : (w.alloc (.cells #[.int .i64 v.kind, .int .i64 v.n] 28)).cell? ⟨w.heap.size, 1, none⟩ = some (.int .i64 v.n) := Sat.cell (T := 28) (cs := #[.int .i64 v.kind, .int .i64 v.n]) h1 1 rfl
  have h2 := h1.drop
  go_enter Try.func59, Try.ntmps59
  go_wp2_with fail
  refine (heap_counted_nil _ v h2).mono ?_
  rintro e w1 ⟨rfl, h3⟩
  go_wp2_with fail
  go_ret
  exact ⟨rfl, h3⟩
end Go.Proofs.Ytkpcngcegipalaa.Tw
namespace Go.Proofs.Ytkpcngcegipalaa.Tw
set_option linter.unusedVariables false
set_option linter.unusedSimpArgs false
open Go Go.RowKit Go.MapKept

theorem finCells_length (l : List (Int × Int)) : (finCells l).length = l.length * 2 := by
  induction l with
  | nil => rfl
  | cons x r ih => simp only [finCells, List.flatMap_cons, List.length_append, List.length_cons] at ih ⊢; rw [ih]; simp; omega
theorem finCells_get (l : List (Int × Int)) : ∀ (i : Nat) (x : Int × Int), l[i]? = some x → (finCells l)[i * 2]? = some (.int .i64 x.1) ∧ (finCells l)[i * 2 + 1]? = some (.int .i64 x.2) := by
  induction l with
  | nil => intro i x h; simp at h
  | cons y l ih =>
    intro i x h
    have e : finCells (y :: l) = .int .i64 y.1 :: .int .i64 y.2 :: finCells l := rfl
    rw [e]
    cases i with
    | zero => simp at h; subst h; exact ⟨rfl, rfl⟩
    | succ i =>
      have := ih i x (by simpa using h)
      rw [show (i + 1) * 2 = i * 2 + 1 + 1 by omega]
      simpa using this
theorem finCells_set (l : List (Int × Int)) : ∀ (i : Nat) (x : Int × Int), ((finCells l).set (i * 2) (.int .i64 x.1)).set (i * 2 + 1) (.int .i64 x.2) = finCells (l.set i x) := by
  induction l with
  | nil => intro i x; rfl
  | cons y l ih =>
    intro i x
    have e : finCells (y :: l) = .int .i64 y.1 :: .int .i64 y.2 :: finCells l := rfl
    rw [e]
    cases i with
    | zero => rfl
    | succ i =>
      rw [show (i + 1) * 2 = i * 2 + 1 + 1 by omega]
      simp only [List.set_cons_succ]
      rw [ih i x]
      rfl
theorem finCells_append (l r : List (Int × Int)) : finCells (l ++ r) = finCells l ++ finCells r := by simp [finCells]
theorem finCells_take (l : List (Int × Int)) (i : Nat) : (finCells l).take (i * 2) = finCells (l.take i) := by
  induction l generalizing i with
  | nil => simp [finCells]
  | cons y l ih =>
    cases i with
    | zero => rfl
    | succ i =>
      have e : finCells (y :: l) = .int .i64 y.1 :: .int .i64 y.2 :: finCells l := rfl
      rw [e, show (i + 1) * 2 = i * 2 + 1 + 1 by omega]
      simp only [List.take_succ_cons]
      rw [ih i]; rfl
theorem oneCell_finCells (l : List (Int × Int)) : ∀ v ∈ finCells l, v.oneCell' = true := by
  intro v hv
  simp only [finCells, List.mem_flatMap] at hv
  obtain ⟨x, _, hx⟩ := hv
  simp at hx
  rcases hx with rfl | rfl <;> rfl

/-- the function answers p x of one that waits, and keeps C -/
def AsksF (w0 : World) (g : Nat) (lb : Array Value) (C : HP) (p : Int × Int → Bool) : Prop :=
  ∀ (w : World) (G : HP) (x : Int × Int), Sat w0 w (C * G) → Calls Try.prog g (#[.agg #[.int .i64 x.1, .int .i64 x.2]] ++ lb) w fun e w' => e = .returned (.bool (p x)) ∧ Sat w0 w' (C * G)
theorem finAt {w0 w : World} {F : HP} {a : Option Addr} {c n : Nat} {l : List (Int × Int)} (h : Sat w0 w (slc 135 2 a n c (finCells l) * F)) {k : Nat} {x : Int × Int} (hk : l[k]? = some x) :
    ∃ g off, a = some ⟨g, off, none⟩ ∧ w.cell? ⟨g, off + k * 2, none⟩ = some (.int .i64 x.1) ∧ w.cell? ⟨g, off + k * 2 + 1, none⟩ = some (.int .i64 x.2) ∧ w.frozen? ⟨g, off + k * 2, none⟩ = false ∧ w.frozen? ⟨g, off + k * 2 + 1, none⟩ = false := by
  obtain ⟨e0, e1⟩ := finCells_get l k x hk
  obtain ⟨g, off, ha, h0, f0⟩ := h.slcAt e0
  obtain ⟨g', off', ha', h1, f1⟩ := h.slcAt e1
  rw [ha] at ha'
  cases ha'
  exact ⟨g, off, ha, h0, by rw [Nat.add_assoc]; exact h1, f0, by rw [Nat.add_assoc]; exact f1⟩

set_option maxHeartbeats 1000000 in
theorem indexFunc_fin {w0 w : World} {C F : HP} {a : Option Addr} {c n : Nat} {l : List (Int × Int)} (p : Int × Int → Bool) (g : Nat) (lb : Array Value) (eg : ∀ args w, (callFunc g args).run Try.prog w = .ok (.enter g args) w) (hp : AsksF w0 g lb C p) (h : Sat w0 w (slc 135 2 a n c (finCells l) * (C * F))) (hl : l.length = n) (hn : n ≤ 1000000000) :
    Calls Try.prog 120 #[.slice a n c, .func (.func g) #[] lb] w fun e w' => e = .returned (.int .i64 (idxF p l)) ∧ Sat w0 w' (slc 135 2 a n c (finCells l) * (C * F)) := by
  have HP' := Lib.hid hp
  clear hp
  go_enter Try.func120, Try.ntmps120
  go_wp2
  go_loopw [8] (fun iv wr => ∃ k : Nat, iv = .int .i64 k ∧ k ≤ n ∧ Hid (∀ j y, j < k → l[j]? = some y → p y = false) ∧ Sat w0 wr (slc 135 2 a n c (finCells l) * (C * F))) (fun iv _ => n - (intOf iv).toNat)
  case atStart => exact ⟨0, rfl, by omega, Lib.hid (by intro j y hj; omega), h⟩
  case round =>
    obtain ⟨k, rfl, hk, HB, hs⟩ := hrel
    by_cases hlt : k < n
    · obtain ⟨x, hx⟩ : ∃ x, l[k]? = some x := ⟨l[k]'(by omega), List.getElem?_eq_getElem _⟩
      obtain ⟨gb, off, rfl, hc, hc1, _, _⟩ := finAt hs hx
      have hcap := hs.slcCap
      have hcall := HP'.out wr (slc 135 2 (some ⟨gb, off, none⟩) n c (finCells l) * F) x hs.p2
      have HX := Lib.hid hx
      clear hx
      cases hq : p x with
      | true =>
        rw [hq] at hcall
        have HQ := Lib.hid hq
        have HC := Lib.hid hcall
        clear hq hcall
        go_wp2_with fail
        go_at_fn g
        refine HC.out.mono ?_
        rintro e w' ⟨rfl, h2⟩
        go_wp2_with fail
        go_ret
        exact ⟨by rw [idxF_some p HX.out HQ.out HB.out]; rfl, h2.p2⟩
      | false =>
        rw [hq] at hcall
        have HQ := Lib.hid hq
        have HC := Lib.hid hcall
        clear hq hcall
        go_wp2_with fail
        go_at_fn g
        refine HC.out.mono ?_
        rintro e w' ⟨rfl, h2⟩
        go_wp2_with fail
        go_roundw
        case rel =>
          refine ⟨k + 1, by go_num, by omega, Lib.hid ?_, h2.p2⟩
          intro j y hj hy
          rcases Nat.lt_or_ge j k with h3 | h3
          · exact HB.out j y h3 hy
          · obtain rfl : j = k := by omega
            rw [HX.out] at hy; cases hy; exact HQ.out
        case measure => simp [intOf]; omega
    · have hkn : k = n := by omega
      go_wp2
      go_ret
      refine ⟨?_, hs⟩
      rw [idxF_none]
      · rfl
      intro x hx
      obtain ⟨j, hj, e⟩ := List.mem_iff_getElem.1 hx
      exact HB.out j x (by omega) (by rw [← e]; exact List.getElem?_eq_getElem _)

theorem run_clear2 {P : Program} (w : World) (t e ty : TypeId) (k : IntKind) (ht : P.underlying t = some (.slice e)) (hv : ∀ w, (zeroValue e).run P w = .ok (.agg #[.int k 0, .int k 0]) w) (b o n c : Nat) (hn : 0 < n)
    (hc : ∀ j, j < n * 2 → (w.cell? ⟨b, o + j, none⟩).isSome = true) (hf : ∀ j, j < n * 2 → w.frozen? ⟨b, o + j, none⟩ = false) :
    (Builtin.clear_ #[t] ty #[.slice (some ⟨b, o, none⟩) n c]).run P w = .ok (.tuple #[]) (w.setCells b o (List.replicate (n * 2) (.int k 0))) := by
  have hzc : (Builtin.zeroCells (Value.agg #[.int k 0, .int k 0]).cells n).toList = List.replicate (n * 2) (.int k 0) := by
    simp only [Value.cells]
    simp [Builtin.zeroCells]
    apply List.ext_getElem
    · simp
    · intro i h1 h2
      simp
      rcases Nat.mod_two_eq_zero_or_one i with h | h <;> simp [h]
  have hst := run_storeCells_cells (P := P) b o (List.replicate (n * 2) (.int k 0)) 0 w (by simpa using hc) (by simpa using hf) (by intro v hv'; rw [List.eq_of_mem_replicate hv']; rfl)
  simp only [Nat.add_zero] at hst
  obtain ⟨m, rfl⟩ : ∃ m, n = m + 1 := ⟨n - 1, by omega⟩
  simp [Builtin.clear_, run_underlying ht, hv, hzc, hst]
set_option maxHeartbeats 2000000 in
theorem deleteFunc_fin {w0 w : World} {C F : HP} {a : Option Addr} {c n : Nat} {l : List (Int × Int)} (p : Int × Int → Bool) (g : Nat) (lb : Array Value) (eg : ∀ args w, (callFunc g args).run Try.prog w = .ok (.enter g args) w) (hp : AsksF w0 g lb C p) (h : Sat w0 w (slc 135 2 a n c (finCells l) * (C * F))) (hl : l.length = n) (hn : n ≤ 1000000000) :
    Calls Try.prog 77 #[.slice a n c, .func (.func g) #[] lb] w fun e w' => e = .returned (.slice a (l.filter fun x => !p x).length c) ∧ Sat w0 w' (slc 135 2 a (l.filter fun x => !p x).length c (finCells (l.filter fun x => !p x)) * (C * F)) := by
  have hIF := indexFunc_fin p g lb eg hp h hl hn
  have HP' := Lib.hid hp
  clear hp
  have hcap := h.slcCap
  rcases idxF_cases p l with ⟨e, hall⟩ | ⟨k0, x0, e, hx0, hpx0, hb0⟩
  · rw [e] at hIF
    have hf : l.filter (fun x => !p x) = l := List.filter_eq_self.2 fun x hx => by rw [hall x hx]; rfl
    rw [hf, hl]
    have HIF := Lib.hid hIF
    clear hIF hall hf e
    go_enter Try.func77, Try.ntmps77
    go_wp2_with fail
    refine HIF.out.mono ?_
    rintro e w' ⟨rfl, h2⟩
    go_wp2_with fail
    go_ret
    exact ⟨rfl, h2⟩
  · rw [e] at hIF
    have hk0 : k0 < n := by have := (List.getElem?_eq_some_iff.1 hx0).1; omega
    have K0 := Kept.start hx0 hpx0 hb0
    have HK0 := Lib.hid K0
    have HIF := Lib.hid hIF
    obtain ⟨g0, off, rfl, _, _, _, _⟩ := finAt h hx0
    clear hIF e hx0 hpx0 hb0 K0
    have hne1 : ((k0 : Int) == -1) = false := beq_eq_false_iff_ne.2 (by omega)
    go_enter Try.func77, Try.ntmps77
    go_wp2_with fail
    refine HIF.out.mono ?_
    rintro e w' ⟨rfl, h2⟩
    go_wp2_with fail
    go_loopw [5, 6] (fun iv jv wr => ∃ (i j : Nat) (d : List (Int × Int)), iv = .int .i64 i ∧ jv = .int .i64 j ∧ j ≤ n ∧ Hid (Kept p l j i d) ∧ Sat w0 wr (slc 135 2 (some ⟨g0, off, none⟩) n c (finCells d) * (C * F))) (fun _ jv _ => n - (intOf jv).toNat)
    case atStart => exact ⟨k0, k0 + 1, l, rfl, by go_num, by omega, HK0, h2⟩
    case round =>
      obtain ⟨i, j, d, rfl, rfl, hj, HK, hs⟩ := hrel
      have hij := HK.out.lt
      have hdl := HK.out.len
      rw [hl] at hdl
      by_cases hlt : j < n
      · obtain ⟨x, hx⟩ : ∃ x, l[j]? = some x := ⟨l[j]'(by omega), List.getElem?_eq_getElem _⟩
        have hdx := HK.out.get
        rw [hx] at hdx
        obtain ⟨gb, off', ea, hc, hc', _, _⟩ := finAt hs hdx
        cases ea
        have hal := hs.alloc (.cells #[.int .i64 x.1, .int .i64 x.2] 135)
        generalize hbx : wr.heap.size = bx at *
        have hcall := HP'.out _ (pt bx (.cells #[.int .i64 x.1, .int .i64 x.2] 135) * (slc 135 2 (some ⟨g0, off, none⟩) n c (finCells d) * F)) x (hal.p3)
        have HX := Lib.hid hx
        clear hx hdx
        obtain ⟨y, hy⟩ : ∃ y, d[i]? = some y := ⟨d[i]'(by omega), List.getElem?_eq_getElem _⟩
        have HY := Lib.hid hy
        clear hy
        have hdi : i < d.length := by omega
        have HD := Lib.hid hdl
        have b0 : (wr.alloc (.cells #[.int .i64 x.1, .int .i64 x.2] 135)).cell? ⟨bx, 0, none⟩ = some (.int .i64 x.1) := Sat.cell (T := 135) (cs := #[.int .i64 x.1, .int .i64 x.2]) hal 0 rfl
        have b1 : (wr.alloc (.cells #[.int .i64 x.1, .int .i64 x.2] 135)).cell? ⟨bx, 1, none⟩ = some (.int .i64 x.2) := Sat.cell (T := 135) (cs := #[.int .i64 x.1, .int .i64 x.2]) hal 1 rfl
        clear hdl
        cases hq : p x with
        | false =>
          rw [hq] at hcall
          have HQ := Lib.hid hq
          have HC := Lib.hid hcall
          clear hq hcall
          obtain ⟨x1, x2⟩ := x
          go_wp2_with fail
          go_at_fn g
          refine HC.out.mono ?_
          rintro e w3 ⟨rfl, h3⟩
          obtain ⟨gb', off', ea, _, _, hf3, hf3'⟩ := finAt h3.p3 HY.out
          cases ea
          obtain ⟨gb', off', ea, hy0, hy1, _, _⟩ := finAt h3.p3 HY.out
          cases ea
          have b0 : w3.cell? ⟨bx, 0, none⟩ = some (.int .i64 x1) := Sat.cell (T := 135) (cs := #[.int .i64 x1, .int .i64 x2]) h3.p2 0 rfl
          have b1 : w3.cell? ⟨bx, 1, none⟩ = some (.int .i64 x2) := Sat.cell (T := 135) (cs := #[.int .i64 x1, .int .i64 x2]) h3.p2 1 rfl
          have h4 := (h3.p3.slcStore (j := i * 2) (by omega) (.int .i64 x1)).slcStore (j := i * 2 + 1) (by omega) (.int .i64 x2)
          rw [← Nat.add_assoc, finCells_set d i (x1, x2)] at h4
          have h5 := h4.p3.drop
          clear hc hc' hal h3 h4
          go_wp2_with fail
          go_roundw
          case rel => exact ⟨i + 1, j + 1, d.set i (x1, x2), by go_num, by go_num, by omega, Lib.hid (HK.out.keep HX.out HQ.out), h5⟩
          case measure => simp [intOf]; omega
        | true =>
          rw [hq] at hcall
          have HQ := Lib.hid hq
          have HC := Lib.hid hcall
          clear hq hcall
          obtain ⟨x1, x2⟩ := x
          go_wp2_with fail
          go_at_fn g
          refine HC.out.mono ?_
          rintro e w3 ⟨rfl, h3⟩
          clear hc hc' hal b0 b1
          go_wp2_with fail
          go_roundw
          case rel => exact ⟨i, j + 1, d, rfl, by go_num, by omega, Lib.hid (HK.out.skip HX.out HQ.out), (h3.p2.drop).p2⟩
          case measure => simp [intOf]; omega
      · obtain rfl : j = n := by omega
        have hd1 := HK.out.done hl.symm
        have hd2 := HK.out.doneLen hl.symm
        have hcell : ∀ k, k < j * 2 → ∃ v, (finCells d)[k]? = some v := fun k hk => ⟨_, List.getElem?_eq_getElem (by rw [finCells_length]; omega)⟩
        have hz : (zeroValue 135).run Try.prog wr = .ok (.agg #[.int .i64 0, .int .i64 0]) wr := by kernel_rfl
        have hcl : ∀ ty, (Builtin.clear_ #[87] ty #[.slice (some ⟨g0, off + i * 2, none⟩) (j - i) (c - i)]).run Try.prog wr = .ok (.tuple #[]) (wr.setCells g0 (off + i * 2) (List.replicate ((j - i) * 2) (.int .i64 0))) := fun ty => by
          refine run_clear2 wr _ _ ty _ Try.underlying87 (fun w => by kernel_rfl) g0 (off + i * 2) _ _ (by omega) (fun t ht => ?_) fun t ht => ?_
          · obtain ⟨v, hv⟩ := hcell (i * 2 + t) (by omega)
            obtain ⟨g', o', ea, hc, _⟩ := hs.slcAt hv
            cases ea
            rw [Nat.add_assoc, hc]; rfl
          · obtain ⟨v, hv⟩ := hcell (i * 2 + t) (by omega)
            obtain ⟨g', o', ea, _, hf⟩ := hs.slcAt hv
            cases ea
            rw [Nat.add_assoc, hf]
        obtain ⟨xs', e1, e2, h5⟩ := Sat.slcStores (List.replicate ((j - i) * 2) (.int .i64 0)) (i * 2) _ _ hs (by simp; omega)
        have h6 := h5.slcTake (m := i) (by omega)
        rw [e2, finCells_take, hd1] at h6
        have HD2 := Lib.hid hd2
        clear hcell hd1 hd2 hdl
        have hij' : (i : Int) < (j : Int) := by omega
        go_wp2_with fail
        go_ret
        exact ⟨by rw [HD2.out]; rfl, by rw [HD2.out]; exact h6⟩

theorem without_fn {w0 : World} (nb : Nat) (v : Int) : Asks w0 118 #[.pointer (some ⟨nb, 0, none⟩)] (pt nb (.cells #[.int .i64 v] 3 (0, 0))) (fun x => decide (v = x)) := by
  intro w G x h
  have c0 : w.cell? ⟨nb, 0, none⟩ = some (.int .i64 v) := Sat.cell (T := 3) (cs := #[.int .i64 v]) h 0 rfl
  have hd : decide (v = x) = (v == x) := by rw [Bool.eq_iff_iff]; simp
  have HD := Lib.hid hd
  have HH := Lib.hid h
  clear hd h
  show Calls Try.prog 118 #[.int .i64 x, .pointer (some ⟨nb, 0, none⟩)] w _
  go_enter Try.func118, Try.ntmps118
  go_wp2
  go_ret
  exact ⟨by rw [HD.out]; rfl, HH.out⟩
theorem without_int {w0 w : World} {F : HP} {a : Option Addr} {c n : Nat} {l : List Int} (v : Int) (h : Sat w0 w (slc 3 1 a n c (l.map ival) * F)) (hl : l.length = n) (hn : n ≤ 1000000000) :
    Calls Try.prog 72 #[.slice a n c, .int .i64 v] w fun e w' => e = .returned (.slice a (l.filter fun x => !decide (v = x)).length c) ∧ Sat w0 w' (slc 3 1 a (l.filter fun x => !decide (v = x)).length c ((l.filter fun x => !decide (v = x)).map ival) * F) := by
  have h1 := (h.alloc (.cells #[.int .i64 v] 3)).p2
  have hD := deleteFunc_int (fun x => decide (v = x)) 118 #[.pointer (some ⟨w.heap.size, 0, none⟩)] (enters_of Try.func118 (by kernel_rfl) rfl) (without_fn _ v) h1 hl hn
  have HD := Lib.hid hD
  clear hD
  go_enter Try.func72, Try.ntmps72
  go_wp2_with fail
  refine HD.out.mono ?_
  rintro e w1 ⟨rfl, h2⟩
  go_wp2_with fail
  go_ret
  exact ⟨rfl, h2.p2.drop⟩
end Go.Proofs.Ytkpcngcegipalaa.Tw
