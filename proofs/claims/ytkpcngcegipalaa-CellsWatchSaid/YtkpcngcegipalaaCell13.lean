/- The heap of cells: Lay. No condition. -/
import Derived.Test.YtkpcngcegipalaaCell12
namespace Go.Proofs.Ytkpcngcegipalaa.Tw
set_option linter.unusedVariables false
set_option linter.unusedSimpArgs false
open Go Go.RowKit Go.MapKept

/-- the heap A, its blocks known -/
def openR (p : Nat) (A : AHeap) (pb mb : Nat) (O : List (Int × Nat × AObj)) (qa : Option Addr) (qc : Nat) (ba : Option Addr) (bc : Nat) (fa : Option Addr) (fc : Nat) (fv : Value) : HP :=
  row p 90 (heapCells pb mb A qa qc ba bc fa fc fv) * (poolR pb A.T * (mapR (.int .i64) (Value.int .i64) mb (omap O) * (objsR O * (slc 3 1 qa A.queue.length qc (A.queue.map ival) * (slc 3 1 ba A.buf.length bc (A.buf.map ival) * slc 135 2 fa A.fins.length fc (finCells A.fins))))))
section
variable {w0 w w' : World} {m : Hp} {p : Nat} {A : AHeap} {F G : HP} {pb mb : Nat} {O : List (Int × Nat × AObj)} {qa : Option Addr} {qc : Nat} {ba : Option Addr} {bc : Nat} {fa : Option Addr} {fc : Nat} {fv : Value}
theorem Opened.closed (h : Opened w0 w m p A F pb mb O qa qc ba bc fa fc fv) : Sat w0 w (openR p A pb mb O qa qc ba bc fa fc fv * F) := h.hs.cast (star7 _ _ _ _ _ _ _ _).symm
theorem Opened.opens (h : Opened w0 w m p A F pb mb O qa qc ba bc fa fc fv) (hs : Sat w0 w' (openR p A pb mb O qa qc ba bc fa fc fv * G)) : Opened w0 w' m p A G pb mb O qa qc ba bc fa fc fv := h.to (hs.cast (star7 _ _ _ _ _ _ _ _))
theorem lay_fn (op : Opened w0 w m p A F pb mb O qa qc ba bc fa fc fv) (hb : Nat) :
    AsksV w0 116 #[.pointer (some ⟨hb, 0, none⟩)] (pt hb (.cells #[.pointer (some ⟨p, 0, none⟩)] 22 (0, 0)) * openR p A pb mb O qa qc ba bc fa fc fv) (fun v => !thereV A v) := by
  intro w1 G v h
  obtain ⟨k, x⟩ := v
  have op1 := op.opens (h.assoc.p2)
  have c0 : w1.cell? ⟨hb, 0, none⟩ = some (.pointer (some ⟨p, 0, none⟩)) := Sat.cell (T := 22) (cs := #[.pointer (some ⟨p, 0, none⟩)]) op1.front 0 rfl
  have op2 := op1.alloc (.cells #[.int .i64 k, .int .i64 x] 28)
  have c1 : (w1.alloc (.cells #[.int .i64 k, .int .i64 x] 28)).cell? ⟨hb, 0, none⟩ = some (.pointer (some ⟨p, 0, none⟩)) := Sat.cell (T := 22) (cs := #[.pointer (some ⟨p, 0, none⟩)]) op2.unframe.front 0 rfl
  have HT := Lib.hid (heap_there op2 ⟨k, x⟩)
  clear h
  show Calls Try.prog 116 #[.agg #[.int .i64 k, .int .i64 x], .pointer (some ⟨hb, 0, none⟩)] w1 _
  go_enter Try.func116, Try.ntmps116
  go_wp2_with fail
  refine HT.out.mono ?_
  rintro e w3 ⟨rfl, op3⟩
  go_wp2_with fail
  go_ret
  exact ⟨rfl, op3.unframe.closed.p2.unassoc⟩
end
def layB (A : AHeap) (o : AObj) (s : List AVal) : Bool := !decide (o.kind = 5) && s.all (thereV A)
def AHeap.lay (A : AHeap) (n : Int) (o : AObj) (s : List AVal) : AHeap := (A.upd n { o with slots := s }).touch n
theorem heap_Lay_nil (w : World) (n : Int) (a : Option Addr) (sn c : Nat) {w0 : World} {F : HP} (h : Sat w0 w F) :
    Calls Try.prog 66 #[.pointer none, .int .i64 n, .slice a sn c] w fun e w' => e = .returned (.int .i64 1) ∧ Sat w0 w' F := by
  have h1 := (h.alloc (.cells #[.pointer none] 22)).drop
  go_enter Try.func66, Try.ntmps66
  go_wp2_with fail
  refine (heap_find_nil _ n).mono ?_
  rintro e w' ⟨rfl, rfl⟩
  go_wp2_with fail
  go_ret
  exact ⟨rfl, h1⟩
theorem heap_Lay_none {w0 w : World} {m : Hp} {p : Nat} {A : AHeap} {F : HP} (h : Sat w0 w (heapR m p A * F)) (n : Int) (a : Option Addr) (sn c : Nat) (ho : A.objs n = none) :
    Calls Try.prog 66 #[.pointer (some ⟨p, 0, none⟩), .int .i64 n, .slice a sn c] w fun e w' => e = .returned (.int .i64 5) ∧ Sat w0 w' (heapR m p A * F) := by
  have h1 := (h.alloc (.cells #[.pointer (some ⟨p, 0, none⟩)] 22)).drop
  have HF := Lib.hid (heap_find_no h1 n ho)
  clear ho
  go_enter Try.func66, Try.ntmps66
  go_wp2_with fail
  refine HF.out.mono ?_
  rintro e w' ⟨rfl, rfl⟩
  go_wp2_with fail
  go_ret
  exact ⟨rfl, h1⟩
set_option maxHeartbeats 1000000 in
theorem heap_Lay_no {w0 w : World} {m : Hp} {p : Nat} {A : AHeap} {F : HP} (n : Int) {a : Option Addr} {sn c : Nat} {s : List AVal} (h : Sat w0 w (heapR m p A * (slc 28 2 a sn c (avcells s) * F))) (hs : s.length = sn) (hn : sn ≤ 1000000000) {o : AObj} (ho : A.objs n = some o) (hno : layB A o s = false) :
    Calls Try.prog 66 #[.pointer (some ⟨p, 0, none⟩), .int .i64 n, .slice a sn c] w fun e w' => e = .returned (.int .i64 2) ∧ Sat w0 w' (heapR m p A * (slc 28 2 a sn c (avcells s) * F)) := by
  obtain ⟨pb, mb, O, qa, qc, ba, bc, fa, fc, fv, op0⟩ := h.openHeap
  have op := op0.alloc (.cells #[.pointer (some ⟨p, 0, none⟩)] 22)
  generalize hbx : w.heap.size = bx at *
  obtain ⟨b, l, r, eO, hl, e3⟩ := op.obj ho
  have HF := Lib.hid (heap_find op e3)
  obtain ⟨sa, sc, G, hG⟩ := op.objCells eO
  have c0 : (w.alloc (.cells #[.pointer (some ⟨p, 0, none⟩)] 22)).cell? ⟨b, 0, none⟩ = some (.int .i64 o.kind) := hG.cell 0 rfl
  have hC := containsFunc_val (fun v => !thereV A v) 116 #[.pointer (some ⟨bx, 0, none⟩)] (enters_of Try.func116 (by kernel_rfl) rfl) (lay_fn op bx) ((op.closed.p3).cast (show _ = slc 28 2 a sn c (avcells s) * ((pt bx (.cells #[.pointer (some ⟨p, 0, none⟩)] 22 (0, 0)) * openR p A pb mb O qa qc ba bc fa fc fv) * F) by ac_rfl)) hs hn
  clear ho eO e3 hG
  by_cases hk : o.kind = 5
  · have hk' : (o.kind == 5) = true := by simpa using hk
    clear hno hk hC
    go_enter Try.func66, Try.ntmps66
    try rw [hbx]
    go_wp2_with fail
    refine HF.out.mono ?_
    rintro e w' ⟨rfl, rfl⟩
    go_wp2_with fail
    go_ret
    exact ⟨rfl, op.unframe.shut⟩
  · have hk' : (o.kind == 5) = false := by simpa using hk
    have hany : s.any (fun v => !thereV A v) = true := by
      unfold layB at hno
      simp only [hk, decide_false, Bool.not_false, Bool.true_and] at hno
      rw [List.any_eq_not_all_not]
      simp [hno]
    rw [hany] at hC
    have HC := Lib.hid hC
    clear hno hk hC hany
    go_enter Try.func66, Try.ntmps66
    try rw [hbx]
    go_wp2_with fail
    refine HF.out.mono ?_
    rintro e w' ⟨rfl, rfl⟩
    go_wp2_with fail
    refine HC.out.mono ?_
    rintro e w2 ⟨rfl, h2⟩
    have op2 := op.opens (G := slc 28 2 a sn c (avcells s) * F) ((h2.p2.assoc.drop).cast (by ac_rfl))
    go_wp2_with fail
    go_ret
    exact ⟨rfl, op2.shut⟩
set_option maxRecDepth 100000 in
set_option maxHeartbeats 2000000 in
theorem heap_Lay {w0 w : World} {m : Hp} {p : Nat} {A : AHeap} {F : HP} (n : Int) {a : Option Addr} {sn c : Nat} {s : List AVal} (h : Sat w0 w (heapR m p A * (slc 28 2 a sn c (avcells s) * F))) (K : Knows m F) (hs : s.length = sn) (hn : sn ≤ 1000000000) {o : AObj} (ho : A.objs n = some o) (hyes : layB A o s = true) :
    Calls Try.prog 66 #[.pointer (some ⟨p, 0, none⟩), .int .i64 n, .slice a sn c] w fun e w' => e = .returned (.int .i64 0) ∧ Sat w0 w' (heapR m p (A.lay n o s) * (slc 28 2 a sn c (avcells s) * F)) := by
  obtain ⟨pb, mb, O, qa, qc, ba, bc, fa, fc, fv, op0⟩ := h.openHeap
  have op := op0.alloc (.cells #[.pointer (some ⟨p, 0, none⟩)] 22)
  generalize hbx : w.heap.size = bx at *
  obtain ⟨b, l, r, eO, hl, e3⟩ := op.obj ho
  have HF := Lib.hid (heap_find op e3)
  obtain ⟨sa, sc, G, hG⟩ := op.objCells eO
  have c0 : (w.alloc (.cells #[.pointer (some ⟨p, 0, none⟩)] 22)).cell? ⟨b, 0, none⟩ = some (.int .i64 o.kind) := hG.cell 0 rfl
  have hC := containsFunc_val (fun v => !thereV A v) 116 #[.pointer (some ⟨bx, 0, none⟩)] (enters_of Try.func116 (by kernel_rfl) rfl) (lay_fn op bx) ((op.closed.p3).cast (show _ = slc 28 2 a sn c (avcells s) * ((pt bx (.cells #[.pointer (some ⟨p, 0, none⟩)] 22 (0, 0)) * openR p A pb mb O qa qc ba bc fa fc fv) * F) by ac_rfl)) hs hn
  unfold layB at hyes
  simp only [Bool.and_eq_true, Bool.not_eq_true', decide_eq_false_iff_not] at hyes
  obtain ⟨hk, hall⟩ := hyes
  have hk' : (o.kind == 5) = false := by simpa using hk
  have hany : s.any (fun v => !thereV A v) = false := by
    rw [List.any_eq_false]
    intro v hv
    have := List.all_eq_true.1 hall v hv
    simp [this]
  rw [hany] at hC
  have HC := Lib.hid hC
  have HO := Lib.hid eO
  clear ho eO e3 hG hk hC hany hall
  subst hs
  go_enter Try.func66, Try.ntmps66
  try rw [hbx]
  go_wp2_with fail
  refine HF.out.mono ?_
  rintro e w' ⟨rfl, rfl⟩
  go_wp2_with fail
  refine HC.out.mono ?_
  rintro e w2 ⟨rfl, h2⟩
  have HCl := Lib.hid (clone_vals h2 (by omega) (oneCell_avcells _))
  go_wp2_with fail
  refine HCl.out.mono ?_
  rintro e w3 ⟨a', c', rfl, hnil, h3⟩
  have op3 := op.opens (G := pt bx (.cells #[.pointer (some ⟨p, 0, none⟩)] 22 (0, 0)) * (slc 28 2 a' s.length c' (avcells s) * (slc 28 2 a s.length c (avcells s) * F))) (h3.cast (by ac_rfl))
  obtain ⟨sa1, sc1, hT1⟩ := op3.takeObj HO.out
  have c2 : w3.cell? ⟨b, 2, none⟩ = some (.slice sa1 o.slots.length sc1) := hT1.cell 2 rfl
  have f2 := hT1.free 2
  have hs4 := (hT1.store (i := 2) (.slice a' s.length c')).p2.drop
  rw [restR_frame, restR_frame] at hs4
  have op4 := op3.putTurned { o with slots := s } HO.out hl (a := a') (c := c') (G := pt bx (.cells #[.pointer (some ⟨p, 0, none⟩)] 22 (0, 0)) * (slc 28 2 a s.length c (avcells s) * F)) (by rw [restR_frame]; exact hs4.cast (by ac_rfl))
  have HT := Lib.hid (heap_touch op4 K.left.left n)
  have x0 : (w3.setCell ⟨b, 2, none⟩ (.slice a' s.length c')).cell? ⟨bx, 0, none⟩ = some (.pointer (some ⟨p, 0, none⟩)) := Sat.cell (T := 22) (cs := #[.pointer (some ⟨p, 0, none⟩)]) op4.front 0 rfl
  clear hT1 hs4 h3
  go_wp2_with fail
  refine HT.out.mono ?_
  rintro e w5 ⟨rfl, op5⟩
  go_wp2_with fail
  go_ret
  exact ⟨rfl, op5.unframe.shut⟩
end Go.Proofs.Ytkpcngcegipalaa.Tw
