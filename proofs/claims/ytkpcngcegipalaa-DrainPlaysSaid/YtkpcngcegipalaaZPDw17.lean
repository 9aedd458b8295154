/- The heap of cells: At, Pop, Swap. No condition. -/
import Derived.Test.YtkpcngcegipalaaZPDw16
namespace Go.Proofs.Ytkpcngcegipalaa.Tw
set_option linter.unusedVariables false
set_option linter.unusedSimpArgs false
open Go Go.RowKit Go.MapKept

def atV (A : AHeap) (n i : Int) : Option AVal := match A.objs n with | some o => if 0 ≤ i then o.slots[i.toNat]? else none | none => none
theorem heap_At_nil (w : World) (n i : Int) {w0 : World} {F : HP} (h : Sat w0 w F) :
    Calls Try.prog 68 #[.pointer none, .int .i64 n, .int .i64 i] w fun e w' => e = .returned (.tuple #[.agg #[.int .i64 0, .int .i64 0], .int .i64 1]) ∧ Sat w0 w' F := by
  have h1 := h.alloc (.cells #[.int .i64 0, .int .i64 0] 28)
  go_enter Try.func68, Try.ntmps68
  go_wp2_with fail
  refine (heap_find_nil _ n).mono ?_
  rintro e w' ⟨rfl, rfl⟩
  go_wp2_with fail
  exact bodyPost_cell_tmp rfl rfl rfl (load_val h1) rfl ⟨rfl, h1.drop⟩
set_option maxHeartbeats 1000000 in
theorem heap_At_none {w0 w : World} {m : Hp} {p : Nat} {A : AHeap} {F : HP} (h : Sat w0 w (heapR m p A * F)) (n i : Int) (hno : atV A n i = none) (hn : ∀ o, A.objs n = some o → o.slots.length ≤ 1000000000) :
    Calls Try.prog 68 #[.pointer (some ⟨p, 0, none⟩), .int .i64 n, .int .i64 i] w fun e w' => e = .returned (.tuple #[.agg #[.int .i64 0, .int .i64 0], .int .i64 5]) ∧ Sat w0 w' (heapR m p A * F) := by
  have h1 := h.alloc (.cells #[.int .i64 0, .int .i64 0] 28)
  have ⟨v0, v1, vf0, vf1⟩ := val2' h1
  have h2 := h1.setVal 0 0
  cases ho : A.objs n with
  | none =>
    have HF := Lib.hid (heap_find_no h1.p2 n ho)
    clear ho hno hn
    go_enter Try.func68, Try.ntmps68
    go_wp2_with fail
    refine HF.out.mono ?_
    rintro e w' ⟨rfl, rfl⟩
    go_wp2_with fail
    exact bodyPost_cell_tmp rfl rfl rfl (load_val h1) rfl ⟨rfl, h1.drop⟩
  | some o =>
    have hlen := hn o ho
    obtain ⟨pb, mb, O, qa, qc, ba, bc, fa, fc, fv, op⟩ := h1.p2.openHeap
    obtain ⟨b, l, r, eO, hl, e3⟩ := op.obj ho
    have HF := Lib.hid (heap_find op e3)
    obtain ⟨sa, sc, G, hG⟩ := op.objCells eO
    have c2 : (w.alloc (.cells #[.int .i64 0, .int .i64 0] 28)).cell? ⟨b, 2, none⟩ = some (.slice sa o.slots.length sc) := hG.cell 2 rfl
    unfold atV at hno
    simp only [ho] at hno
    clear ho eO e3 hG hn
    by_cases h0 : i < 0
    · clear hno
      go_enter Try.func68, Try.ntmps68
      go_wp2_with fail
      refine HF.out.mono ?_
      rintro e w' ⟨rfl, rfl⟩
      go_wp2_with fail
      exact bodyPost_cell_tmp rfl rfl rfl (load_val h1) rfl ⟨rfl, h1.drop⟩
    · rw [if_pos (by omega)] at hno
      have hge : (o.slots.length : Int) ≤ i := by
        have := List.getElem?_eq_none_iff.1 hno
        omega
      have hge0 : 0 ≤ i := by omega
      clear hno h0
      go_enter Try.func68, Try.ntmps68
      go_wp2_with fail
      refine HF.out.mono ?_
      rintro e w' ⟨rfl, rfl⟩
      go_wp2_with fail
      exact bodyPost_cell_tmp rfl rfl rfl (load_val h1) rfl ⟨rfl, h1.drop⟩
set_option maxHeartbeats 1000000 in
theorem heap_At_op {w0 w : World} {m : Hp} {p : Nat} {A : AHeap} {F : HP} {pb mb : Nat} {O : List (Int × Nat × AObj)} {qa : Option Addr} {qc : Nat} {ba : Option Addr} {bc : Nat} {fa : Option Addr} {fc : Nat} {fv : Value} (op0 : Opened w0 w m p A F pb mb O qa qc ba bc fa fc fv) (n i : Int) {v : AVal} (hv : atV A n i = some v) (hn : ∀ o, A.objs n = some o → o.slots.length ≤ 1000000000) :
    Calls Try.prog 68 #[.pointer (some ⟨p, 0, none⟩), .int .i64 n, .int .i64 i] w fun e w' => e = .returned (.tuple #[.agg #[.int .i64 v.kind, .int .i64 v.n], .int .i64 0]) ∧ Opened w0 w' m p A F pb mb O qa qc ba bc fa fc fv := by
  have op := op0.alloc (.cells #[.int .i64 0, .int .i64 0] 28)
  have ⟨v0, v1, vf0, vf1⟩ := val2' op.front
  cases ho : A.objs n with
  | none => unfold atV at hv; rw [ho] at hv; cases hv
  | some o =>
    have hlen := hn o ho
    obtain ⟨b, l, r, eO, hl, e3⟩ := op.obj ho
    have HF := Lib.hid (heap_find op e3)
    obtain ⟨sa, sc, hG⟩ := op.takeObj eO
    unfold atV at hv
    simp only [ho] at hv
    by_cases h0 : 0 ≤ i
    · rw [if_pos h0] at hv
      obtain ⟨j, rfl⟩ : ∃ j : Nat, i = (j : Int) := ⟨i.toNat, by omega⟩
      simp only [Int.toNat_natCast] at hv
      have hj : j < o.slots.length := (List.getElem?_eq_some_iff.1 hv).1
      obtain ⟨g, off, rfl, x0, x1, _, _⟩ := valAt hG.p2 hv
      have hcap := hG.p2.slcCap
      have c2 : (w.alloc (.cells #[.int .i64 0, .int .i64 0] 28)).cell? ⟨b, 2, none⟩ = some (.slice (some ⟨g, off, none⟩) o.slots.length sc) := hG.cell 2 rfl
      have hj1 : (j : Int) < o.slots.length := by omega
      obtain ⟨vk, vn⟩ := v
      clear ho eO e3 hG hn hv
      go_enter Try.func68, Try.ntmps68
      go_wp2_with fail
      refine HF.out.mono ?_
      rintro e w' ⟨rfl, rfl⟩
      go_wp2_with fail
      have h3 := op0.alloc (.cells #[.int .i64 vk, .int .i64 vn] 28)
      exact bodyPost_cell_tmp rfl rfl rfl (load_val h3.front) rfl ⟨rfl, h3.unframe⟩
    · rw [if_neg h0] at hv; cases hv
theorem heap_At {w0 w : World} {m : Hp} {p : Nat} {A : AHeap} {F : HP} (h : Sat w0 w (heapR m p A * F)) (n i : Int) {v : AVal} (hv : atV A n i = some v) (hn : ∀ o, A.objs n = some o → o.slots.length ≤ 1000000000) :
    Calls Try.prog 68 #[.pointer (some ⟨p, 0, none⟩), .int .i64 n, .int .i64 i] w fun e w' => e = .returned (.tuple #[.agg #[.int .i64 v.kind, .int .i64 v.n], .int .i64 0]) ∧ Sat w0 w' (heapR m p A * F) := by
  obtain ⟨pb, mb, O, qa, qc, ba, bc, fa, fc, fv, op⟩ := h.openHeap
  exact (heap_At_op op n i hv hn).mono fun e w' ⟨h1, h2⟩ => ⟨h1, h2.shut⟩

theorem heap_Pop_nil (w : World) (n : Int) {w0 : World} {F : HP} (h : Sat w0 w F) :
    Calls Try.prog 61 #[.pointer none, .int .i64 n] w fun e w' => e = .returned (.tuple #[.agg #[.int .i64 0, .int .i64 0], .int .i64 1]) ∧ Sat w0 w' F := by
  have h1 := h.alloc (.cells #[.int .i64 0, .int .i64 0] 28)
  go_enter Try.func61, Try.ntmps61
  go_wp2_with fail
  refine (heap_find_nil _ n).mono ?_
  rintro e w' ⟨rfl, rfl⟩
  go_wp2_with fail
  exact bodyPost_cell_tmp rfl rfl rfl (load_val h1) rfl ⟨rfl, h1.drop⟩
set_option maxHeartbeats 1000000 in
theorem heap_Pop_none {w0 w : World} {m : Hp} {p : Nat} {A : AHeap} {F : HP} (h : Sat w0 w (heapR m p A * F)) (n : Int) (hno : ∀ o, A.objs n = some o → o.slots = []) :
    Calls Try.prog 61 #[.pointer (some ⟨p, 0, none⟩), .int .i64 n] w fun e w' => e = .returned (.tuple #[.agg #[.int .i64 0, .int .i64 0], .int .i64 5]) ∧ Sat w0 w' (heapR m p A * F) := by
  have h1 := h.alloc (.cells #[.int .i64 0, .int .i64 0] 28)
  have ⟨v0, v1, vf0, vf1⟩ := val2' h1
  cases ho : A.objs n with
  | none =>
    have HF := Lib.hid (heap_find_no h1.p2 n ho)
    clear ho hno
    go_enter Try.func61, Try.ntmps61
    go_wp2_with fail
    refine HF.out.mono ?_
    rintro e w' ⟨rfl, rfl⟩
    go_wp2_with fail
    exact bodyPost_cell_tmp rfl rfl rfl (load_val h1) rfl ⟨rfl, h1.drop⟩
  | some o =>
    have hsl := hno o ho
    have hat : atV A n (-1) = none := by unfold atV; rw [ho]; rfl
    have HAT := Lib.hid (heap_At_none h1.p2 n (-1) hat (fun o' ho' => by rw [hno o' ho']; simp))
    obtain ⟨pb, mb, O, qa, qc, ba, bc, fa, fc, fv, op⟩ := h1.p2.openHeap
    obtain ⟨b, l, r, eO, hl, e3⟩ := op.obj ho
    have HF := Lib.hid (heap_find op e3)
    obtain ⟨sa, sc, G, hG⟩ := op.objCells eO
    rw [hsl] at hG
    have c2 : (w.alloc (.cells #[.int .i64 0, .int .i64 0] 28)).cell? ⟨b, 2, none⟩ = some (.slice sa 0 sc) := hG.cell 2 rfl
    clear ho eO e3 hG hno hsl hat
    go_enter Try.func61, Try.ntmps61
    go_wp2_with fail
    refine HF.out.mono ?_
    rintro e w' ⟨rfl, rfl⟩
    go_wp2_with fail
    refine HAT.out.mono ?_
    rintro e w1 ⟨rfl, h3⟩
    have h4 := h3.alloc (.cells #[.int .i64 0, .int .i64 0] 28)
    have ⟨y0, y1, yf0, yf1⟩ := val2' h4.p3
    have h5 := h4.p3.setVal 0 0
    go_wp2_with fail
    exact bodyPost_cell_tmp rfl rfl rfl (load_val h5) rfl ⟨rfl, h5.drop.drop⟩
set_option maxRecDepth 100000 in
set_option maxHeartbeats 2000000 in
theorem heap_Pop {w0 w : World} {m : Hp} {p : Nat} {A : AHeap} {F : HP} (h : Sat w0 w (heapR m p A * F)) (K : Knows m F) (n : Int) {o : AObj} {sl : List AVal} {v : AVal} (ho : A.objs n = some o) (hsl : o.slots = sl ++ [v]) (hn : o.slots.length ≤ 1000000000) :
    Calls Try.prog 61 #[.pointer (some ⟨p, 0, none⟩), .int .i64 n] w fun e w' => e = .returned (.tuple #[.agg #[.int .i64 v.kind, .int .i64 v.n], .int .i64 0]) ∧ Sat w0 w' (heapR m p ((A.upd n { o with slots := sl }).touch n) * F) := by
  have h1 := h.alloc (.cells #[.int .i64 0, .int .i64 0] 28)
  have ⟨v0, v1, vf0, vf1⟩ := val2' h1
  have hlen : o.slots.length = sl.length + 1 := by rw [hsl]; simp
  have hat : atV A n (sl.length : Int) = some v := by unfold atV; rw [ho]; simp [hsl]
  obtain ⟨pb, mb, O, qa, qc, ba, bc, fa, fc, fv, op⟩ := h1.p2.openHeap
  have HAT := Lib.hid (heap_At_op op n sl.length hat (fun o' ho' => by rw [ho] at ho'; cases ho'; exact hn))
  obtain ⟨b, l, r, eO, hl, e3⟩ := op.obj ho
  have HF := Lib.hid (heap_find op e3)
  obtain ⟨sa, sc, G, hG⟩ := op.objCells eO
  have c2 : (w.alloc (.cells #[.int .i64 0, .int .i64 0] 28)).cell? ⟨b, 2, none⟩ = some (.slice sa o.slots.length sc) := hG.cell 2 rfl
  rw [hlen] at c2 hn
  have HO := Lib.hid eO
  have HSL := Lib.hid hsl
  have HLEN := Lib.hid hlen
  obtain ⟨vk, vn⟩ := v
  generalize hrb : w.heap.size = rb at *
  clear ho eO e3 hG hsl hat hlen
  go_enter Try.func61, Try.ntmps61
  try rw [hrb]
  go_wp2_with fail
  refine HF.out.mono ?_
  rintro e w' ⟨rfl, rfl⟩
  go_wp2_with fail
  refine HAT.out.mono ?_
  rintro e w1 ⟨rfl, op1⟩
  have op2 := op1.alloc (.cells #[.int .i64 vk, .int .i64 vn] 28)
  obtain ⟨sa1, sc1, hT1⟩ := op2.takeObj HO.out
  have hcap := hT1.p2.slcCap
  have hT2 := hT1
  rw [HLEN.out] at hT2 hcap
  have d2 : (w1.alloc (.cells #[.int .i64 vk, .int .i64 vn] 28)).cell? ⟨b, 2, none⟩ = some (.slice sa1 (sl.length + 1) sc1) := hT2.cell 2 rfl
  have fd2 := hT2.free 2
  have hs3 := hT2.p2
  rw [HSL.out, show avcells (sl ++ [⟨vk, vn⟩]) = avcells sl ++ [.int .i64 vk, .int .i64 vn] by simp [avcells, AVal.cells]] at hs3
  have hs4 := hs3.slcPop (by rw [avcells_length])
  have hs5 := hs4.p2.store (i := 2) (.slice sa1 sl.length sc1)
  have op5 := op2.putTurned { o with slots := sl } HO.out hl (a := sa1) (c := sc1) hs5
  obtain ⟨g1, off1, rfl⟩ := hs3.slcSome (by omega)
  have HT := Lib.hid (heap_touch op5 K.left.left n)
  clear hT1 hT2 hs3 hs4 hs5
  go_wp2_with fail
  refine HT.out.mono ?_
  rintro e w6 ⟨rfl, op6⟩
  have ⟨y0, y1, _, _⟩ := val2' op6.front
  have ⟨r0, r1, rf0, rf1⟩ := val2' op6.unframe.front
  have h7 := op6.unframe.front.setVal vk vn
  go_wp2_with fail
  exact bodyPost_cell_tmp rfl rfl rfl (load_val h7) rfl ⟨rfl, (op6.unframe.unframe.to h7.drop).shut⟩

def AHeap.swap (A : AHeap) (n : Int) (o : AObj) (j : Nat) (v : AVal) : AHeap := (A.upd n { o with slots := o.slots.set j v }).touch n
theorem heap_Swap_nil (w : World) (n i : Int) (v : AVal) {w0 : World} {F : HP} (h : Sat w0 w F) :
    Calls Try.prog 67 #[.pointer none, .int .i64 n, .int .i64 i, .agg #[.int .i64 v.kind, .int .i64 v.n]] w fun e w' => e = .returned (.tuple #[.agg #[.int .i64 0, .int .i64 0], .int .i64 1]) ∧ Sat w0 w' F := by
  have h1 := (h.alloc (.cells #[.int .i64 v.kind, .int .i64 v.n] 28)).drop.alloc (.cells #[.int .i64 0, .int .i64 0] 28)
  rw [size_alloc] at h1
  have HA := Lib.hid (heap_At_nil _ n i h1)
  go_enter Try.func67, Try.ntmps67
  go_wp2_with fail
  refine HA.out.mono ?_
  rintro e w1 ⟨rfl, h2⟩
  have h3 := h2.alloc (.cells #[.int .i64 0, .int .i64 0] 28)
  have ⟨r0, r1, rf0, rf1⟩ := val2' h3.p2
  have h4 := h3.p2.setVal 0 0
  go_wp2_with fail
  exact bodyPost_cell_tmp rfl rfl rfl (load_val h4) rfl ⟨rfl, h4.drop.drop⟩
theorem heap_Swap_none {w0 w : World} {m : Hp} {p : Nat} {A : AHeap} {F : HP} (h : Sat w0 w (heapR m p A * F)) (n i : Int) (v : AVal) (hno : atV A n i = none) (hn : ∀ o, A.objs n = some o → o.slots.length ≤ 1000000000) :
    Calls Try.prog 67 #[.pointer (some ⟨p, 0, none⟩), .int .i64 n, .int .i64 i, .agg #[.int .i64 v.kind, .int .i64 v.n]] w fun e w' => e = .returned (.tuple #[.agg #[.int .i64 0, .int .i64 0], .int .i64 5]) ∧ Sat w0 w' (heapR m p A * F) := by
  have h1 := (h.alloc (.cells #[.int .i64 v.kind, .int .i64 v.n] 28)).drop.alloc (.cells #[.int .i64 0, .int .i64 0] 28)
  rw [size_alloc] at h1
  have HA := Lib.hid (heap_At_none h1.p2 n i hno hn)
  clear hno hn
  go_enter Try.func67, Try.ntmps67
  go_wp2_with fail
  refine HA.out.mono ?_
  rintro e w1 ⟨rfl, h2⟩
  have h3 := h2.alloc (.cells #[.int .i64 0, .int .i64 0] 28)
  have ⟨r0, r1, rf0, rf1⟩ := val2' h3.p3
  have h4 := h3.p3.setVal 0 0
  go_wp2_with fail
  exact bodyPost_cell_tmp rfl rfl rfl (load_val h4) rfl ⟨rfl, h4.drop.drop⟩
set_option maxHeartbeats 1000000 in
theorem heap_Swap_no {w0 w : World} {m : Hp} {p : Nat} {A : AHeap} {F : HP} (h : Sat w0 w (heapR m p A * F)) (n i : Int) (v : AVal) {u : AVal} (hat : atV A n i = some u) (hn : ∀ o, A.objs n = some o → o.slots.length ≤ 1000000000) (ht : thereV A v = false) :
    Calls Try.prog 67 #[.pointer (some ⟨p, 0, none⟩), .int .i64 n, .int .i64 i, .agg #[.int .i64 v.kind, .int .i64 v.n]] w fun e w' => e = .returned (.tuple #[.agg #[.int .i64 0, .int .i64 0], .int .i64 2]) ∧ Sat w0 w' (heapR m p A * F) := by
  obtain ⟨k, x⟩ := v
  have h1 := (h.alloc (.cells #[.int .i64 k, .int .i64 x] 28)).alloc (.cells #[.int .i64 0, .int .i64 0] 28)
  rw [size_alloc] at h1
  have HA := Lib.hid (heap_At h1.p3 n i hat hn)
  obtain ⟨uk, un⟩ := u
  clear hat hn
  have HTT := Lib.hid ht
  clear ht
  go_enter Try.func67, Try.ntmps67
  go_wp2_with fail
  refine HA.out.mono ?_
  rintro e w1 ⟨rfl, h2⟩
  have h3 := h2.alloc (.cells #[.int .i64 uk, .int .i64 un] 28)
  obtain ⟨pb, mb, O, qa, qc, ba, bc, fa, fc, fv, op⟩ := h3.p2.openHeap
  have hT := heap_there op ⟨k, x⟩
  rw [HTT.out] at hT
  have HT := Lib.hid hT
  have ⟨x0, x1, _, _⟩ := val2' h3.p4
  clear hT
  go_wp2_with fail
  refine HT.out.mono ?_
  rintro e w2 ⟨rfl, op2⟩
  have h4 := op2.shut
  have ⟨r0, r1, rf0, rf1⟩ := val2' h4.p3
  have h5 := h4.p3.setVal 0 0
  go_wp2_with fail
  exact bodyPost_cell_tmp rfl rfl rfl (load_val h5) rfl ⟨rfl, (h5.drop.p2.drop.p2.drop)⟩
set_option maxRecDepth 100000 in
set_option maxHeartbeats 2000000 in
theorem heap_Swap {w0 w : World} {m : Hp} {p : Nat} {A : AHeap} {F : HP} (h : Sat w0 w (heapR m p A * F)) (K : Knows m F) (n : Int) (j : Nat) (v : AVal) {o : AObj} {u : AVal} (ho : A.objs n = some o) (hu : o.slots[j]? = some u) (hn : o.slots.length ≤ 1000000000) (ht : thereV A v = true) :
    Calls Try.prog 67 #[.pointer (some ⟨p, 0, none⟩), .int .i64 n, .int .i64 j, .agg #[.int .i64 v.kind, .int .i64 v.n]] w fun e w' => e = .returned (.tuple #[.agg #[.int .i64 u.kind, .int .i64 u.n], .int .i64 0]) ∧ Sat w0 w' (heapR m p (A.swap n o j v) * F) := by
  obtain ⟨k, x⟩ := v
  have h1 := (h.alloc (.cells #[.int .i64 k, .int .i64 x] 28)).alloc (.cells #[.int .i64 0, .int .i64 0] 28)
  rw [size_alloc] at h1
  have hat : atV A n j = some u := by unfold atV; rw [ho]; simp [hu]
  have HA := Lib.hid (heap_At h1.p3 n j hat (fun o' ho' => by rw [ho] at ho'; cases ho'; exact hn))
  obtain ⟨uk, un⟩ := u
  have hj : j < o.slots.length := (List.getElem?_eq_some_iff.1 hu).1
  have HTT := Lib.hid ht
  have HU := Lib.hid hu
  have HOO := Lib.hid ho
  generalize hxb : w.heap.size = xb at *
  clear hat ht ho hu
  go_enter Try.func67, Try.ntmps67
  try rw [hxb]
  go_wp2_with fail
  refine HA.out.mono ?_
  rintro e w1 ⟨rfl, h2⟩
  have h3 := h2.alloc (.cells #[.int .i64 uk, .int .i64 un] 28)
  obtain ⟨pb, mb, O, qa, qc, ba, bc, fa, fc, fv, op⟩ := h3.p2.openHeap
  have hT := heap_there op ⟨k, x⟩
  rw [HTT.out] at hT
  have HT := Lib.hid hT
  have ⟨x0, x1, _, _⟩ := val2' h3.p4
  clear hT
  go_wp2_with fail
  refine HT.out.mono ?_
  rintro e w2 ⟨rfl, op2⟩
  obtain ⟨b, l, r, eO, hl, e3⟩ := op2.obj HOO.out
  obtain ⟨sa, sc, hT1⟩ := op2.takeObj eO
  obtain ⟨g, off, rfl, s0, s1, sf0, sf1⟩ := valAt hT1.p2 HU.out
  have hcap := hT1.p2.slcCap
  have hlk := op2.drew.look n
  rw [e3] at hlk
  have c1 : w2.cell? ⟨p, 1, none⟩ = some (.map (some mb)) := op2.hs.cell 1 rfl
  have c2 : w2.cell? ⟨b, 2, none⟩ = some (.slice (some ⟨g, off, none⟩) o.slots.length sc) := hT1.cell 2 rfl
  have ⟨x0, x1, _, _⟩ := val2' (op2.unframe.unframe.front)
  have hj1 : (j : Int) < o.slots.length := by omega
  have hs4 := (hT1.p2.drew.slcStore (j := j * 2) (by omega) (.int .i64 k)).slcStore (j := j * 2 + 1) (by omega) (.int .i64 x)
  rw [← Nat.add_assoc, avcells_set o.slots j ⟨k, x⟩] at hs4
  have hlen2 : (o.slots.set j ⟨k, x⟩).length = o.slots.length := by simp
  have op4 := op2.putTurned { o with slots := o.slots.set j ⟨k, x⟩ } eO hl (a := some ⟨g, off, none⟩) (c := sc) (by rw [hlen2]; exact hs4.p2)
  have HTo := Lib.hid (heap_touch op4 K.left.left.left n)
  clear eO e3 hT1 hlen2 hs4
  go_wp2_with fail
  refine wp_region_tail 12 (by kernel_rfl) (by kernel_rfl) ?_
  simp only [List.take_succ_cons, List.take_zero, List.drop_succ_cons, List.drop_zero]
  iterate 12 still_step
  refine wpStill_nil ?_
  go_wp2_with fail
  refine HTo.out.mono ?_
  rintro e w5 ⟨rfl, op5⟩
  have ⟨u0, u1, _, _⟩ := val2' op5.front
  have ⟨r0, r1, rf0, rf1⟩ := val2' op5.unframe.front
  have h6 := op5.unframe.front.setVal uk un
  go_wp2_with fail
  refine bodyPost_cell_tmp rfl rfl rfl (load_val h6) rfl ?_
  refine ⟨rfl, ?_⟩
  exact (op5.unframe.unframe.to h6.drop).unframe.shut
end Go.Proofs.Ytkpcngcegipalaa.Tw
namespace Go.Proofs.Ytkpcngcegipalaa.Tw
set_option linter.unusedVariables false
set_option linter.unusedSimpArgs false
open Go Go.RowKit Go.MapKept

/-- the heap A, its blocks known -/
def openR (p : Nat) (A : AHeap) (pb mb : Nat) (O : List (Int × Nat × AObj)) (qa : Option Addr) (qc : Nat) (ba : Option Addr) (bc : Nat) (fa : Option Addr) (fc : Nat) (fv : Value) : HP :=
  row p 90 (heapCells pb mb A qa qc ba bc fa fc fv) * (poolR pb A.T * (mapR (.int .i64) (Value.int .i64) mb (omap O) * (objsR O * (slc 3 1 qa A.queue.length qc (A.queue.map ival) * (slc 3 1 ba A.buf.length bc (A.buf.map ival) * slc 135 2 fa A.fins.length fc (finCells A.fins))))))
section
variable {w0 w w' : World} {m : Hp} {p : Nat} {A : AHeap} {F G : HP} {pb mb : Nat} {O : List (Int × Nat × AObj)} {qa : Option Addr} {qc : Nat} {ba : Option Addr} {bc : Nat} {fa : Option Addr} {fc : Nat} {fv : Value}
theorem Opened.closed (h : Opened w0 w m p A F pb mb O qa qc ba bc fa fc fv) : Sat w0 w (openR p A pb mb O qa qc ba bc fa fc fv * F) := h.hs.cast (star7 _ _ _ _ _ _ _ _).symm
theorem Opened.opens (h : Opened w0 w m p A F pb mb O qa qc ba bc fa fc fv) (hs : Sat w0 w' (openR p A pb mb O qa qc ba bc fa fc fv * G)) : Opened w0 w' m p A G pb mb O qa qc ba bc fa fc fv := h.to (hs.cast (star7 _ _ _ _ _ _ _ _))
theorem lay_fn (op : Opened w0 w m p A F pb mb O qa qc ba bc fa fc fv) (hb : Nat) :
    AsksV w0 116 #[.pointer (some ⟨hb, 0, none⟩)] (pt hb (.cells #[.pointer (some ⟨p, 0, none⟩)] 22 (0, 0)) * openR p A pb mb O qa qc ba bc fa fc fv) (fun v => !thereV A v) := by
  intro w1 G v h
  obtain ⟨k, x⟩ := v
  have op1 := op.opens (h.assoc.p2)
  have c0 : w1.cell? ⟨hb, 0, none⟩ = some (.pointer (some ⟨p, 0, none⟩)) := Sat.cell (T := 22) (cs := #[.pointer (some ⟨p, 0, none⟩)]) op1.front 0 rfl
  have op2 := op1.alloc (.cells #[.int .i64 k, .int .i64 x] 28)
  have c1 : (w1.alloc (.cells #[.int .i64 k, .int .i64 x] 28)).cell? ⟨hb, 0, none⟩ = some (.pointer (some ⟨p, 0, none⟩)) := Sat.cell (T := 22) (cs := #[.pointer (some ⟨p, 0, none⟩)]) op2.unframe.front 0 rfl
  have HT := Lib.hid (heap_there op2 ⟨k, x⟩)
  clear h
  show Calls Try.prog 116 #[.agg #[.int .i64 k, .int .i64 x], .pointer (some ⟨hb, 0, none⟩)] w1 _
  go_enter Try.func116, Try.ntmps116
  go_wp2_with fail
  refine HT.out.mono ?_
  rintro e w3 ⟨rfl, op3⟩
  go_wp2_with fail
  go_ret
  exact ⟨rfl, op3.unframe.closed.p2.unassoc⟩
end
def layB (A : AHeap) (o : AObj) (s : List AVal) : Bool := !decide (o.kind = 5) && s.all (thereV A)
def AHeap.lay (A : AHeap) (n : Int) (o : AObj) (s : List AVal) : AHeap := (A.upd n { o with slots := s }).touch n
theorem heap_Lay_nil (w : World) (n : Int) (a : Option Addr) (sn c : Nat) {w0 : World} {F : HP} (h : Sat w0 w F) :
    Calls Try.prog 66 #[.pointer none, .int .i64 n, .slice a sn c] w fun e w' => e = .returned (.int .i64 1) ∧ Sat w0 w' F := by
  have h1 := (h.alloc (.cells #[.pointer none] 22)).drop
  go_enter Try.func66, Try.ntmps66
  go_wp2_with fail
  refine (heap_find_nil _ n).mono ?_
  rintro e w' ⟨rfl, rfl⟩
  go_wp2_with fail
  go_ret
  exact ⟨rfl, h1⟩
theorem heap_Lay_none {w0 w : World} {m : Hp} {p : Nat} {A : AHeap} {F : HP} (h : Sat w0 w (heapR m p A * F)) (n : Int) (a : Option Addr) (sn c : Nat) (ho : A.objs n = none) :
    Calls Try.prog 66 #[.pointer (some ⟨p, 0, none⟩), .int .i64 n, .slice a sn c] w fun e w' => e = .returned (.int .i64 5) ∧ Sat w0 w' (heapR m p A * F) := by
  have h1 := (h.alloc (.cells #[.pointer (some ⟨p, 0, none⟩)] 22)).drop
  have HF := Lib.hid (heap_find_no h1 n ho)
  clear ho
  go_enter Try.func66, Try.ntmps66
  go_wp2_with fail
  refine HF.out.mono ?_
  rintro e w' ⟨rfl, rfl⟩
  go_wp2_with fail
  go_ret
  exact ⟨rfl, h1⟩
set_option maxHeartbeats 1000000 in
theorem heap_Lay_no {w0 w : World} {m : Hp} {p : Nat} {A : AHeap} {F : HP} (n : Int) {a : Option Addr} {sn c : Nat} {s : List AVal} (h : Sat w0 w (heapR m p A * (slc 28 2 a sn c (avcells s) * F))) (hs : s.length = sn) (hn : sn ≤ 1000000000) {o : AObj} (ho : A.objs n = some o) (hno : layB A o s = false) :
    Calls Try.prog 66 #[.pointer (some ⟨p, 0, none⟩), .int .i64 n, .slice a sn c] w fun e w' => e = .returned (.int .i64 2) ∧ Sat w0 w' (heapR m p A * (slc 28 2 a sn c (avcells s) * F)) := by
  obtain ⟨pb, mb, O, qa, qc, ba, bc, fa, fc, fv, op0⟩ := h.openHeap
  have op := op0.alloc (.cells #[.pointer (some ⟨p, 0, none⟩)] 22)
  generalize hbx : w.heap.size = bx at *
  obtain ⟨b, l, r, eO, hl, e3⟩ := op.obj ho
  have HF := Lib.hid (heap_find op e3)
  obtain ⟨sa, sc, G, hG⟩ := op.objCells eO
  have c0 : (w.alloc (.cells #[.pointer (some ⟨p, 0, none⟩)] 22)).cell? ⟨b, 0, none⟩ = some (.int .i64 o.kind) := hG.cell 0 rfl
  have hC := containsFunc_val (fun v => !thereV A v) 116 #[.pointer (some ⟨bx, 0, none⟩)] (enters_of Try.func116 (by kernel_rfl) rfl) (lay_fn op bx) ((op.closed.p3).cast (show _ = slc 28 2 a sn c (avcells s) * ((pt bx (.cells #[.pointer (some ⟨p, 0, none⟩)] 22 (0, 0)) * openR p A pb mb O qa qc ba bc fa fc fv) * F) by ac_rfl)) hs hn
  clear ho eO e3 hG
  by_cases hk : o.kind = 5
  · have hk' : (o.kind == 5) = true := by simpa using hk
    clear hno hk hC
    go_enter Try.func66, Try.ntmps66
    try rw [hbx]
    go_wp2_with fail
    refine HF.out.mono ?_
    rintro e w' ⟨rfl, rfl⟩
    go_wp2_with fail
    go_ret
    exact ⟨rfl, op.unframe.shut⟩
  · have hk' : (o.kind == 5) = false := by simpa using hk
    have hany : s.any (fun v => !thereV A v) = true := by
      unfold layB at hno
      simp only [hk, decide_false, Bool.not_false, Bool.true_and] at hno
      rw [List.any_eq_not_all_not]
      simp [hno]
    rw [hany] at hC
    have HC := Lib.hid hC
    clear hno hk hC hany
    go_enter Try.func66, Try.ntmps66
    try rw [hbx]
    go_wp2_with fail
    refine HF.out.mono ?_
    rintro e w' ⟨rfl, rfl⟩
    go_wp2_with fail
    refine HC.out.mono ?_
    rintro e w2 ⟨rfl, h2⟩
    have op2 := op.opens (G := slc 28 2 a sn c (avcells s) * F) ((h2.p2.assoc.drop).cast (by ac_rfl))
    go_wp2_with fail
    go_ret
    exact ⟨rfl, op2.shut⟩
set_option maxRecDepth 100000 in
set_option maxHeartbeats 2000000 in
theorem heap_Lay {w0 w : World} {m : Hp} {p : Nat} {A : AHeap} {F : HP} (n : Int) {a : Option Addr} {sn c : Nat} {s : List AVal} (h : Sat w0 w (heapR m p A * (slc 28 2 a sn c (avcells s) * F))) (K : Knows m F) (hs : s.length = sn) (hn : sn ≤ 1000000000) {o : AObj} (ho : A.objs n = some o) (hyes : layB A o s = true) :
    Calls Try.prog 66 #[.pointer (some ⟨p, 0, none⟩), .int .i64 n, .slice a sn c] w fun e w' => e = .returned (.int .i64 0) ∧ Sat w0 w' (heapR m p (A.lay n o s) * (slc 28 2 a sn c (avcells s) * F)) := by
  obtain ⟨pb, mb, O, qa, qc, ba, bc, fa, fc, fv, op0⟩ := h.openHeap
  have op := op0.alloc (.cells #[.pointer (some ⟨p, 0, none⟩)] 22)
  generalize hbx : w.heap.size = bx at *
  obtain ⟨b, l, r, eO, hl, e3⟩ := op.obj ho
  have HF := Lib.hid (heap_find op e3)
  obtain ⟨sa, sc, G, hG⟩ := op.objCells eO
  have c0 : (w.alloc (.cells #[.pointer (some ⟨p, 0, none⟩)] 22)).cell? ⟨b, 0, none⟩ = some (.int .i64 o.kind) := hG.cell 0 rfl
  have hC := containsFunc_val (fun v => !thereV A v) 116 #[.pointer (some ⟨bx, 0, none⟩)] (enters_of Try.func116 (by kernel_rfl) rfl) (lay_fn op bx) ((op.closed.p3).cast (show _ = slc 28 2 a sn c (avcells s) * ((pt bx (.cells #[.pointer (some ⟨p, 0, none⟩)] 22 (0, 0)) * openR p A pb mb O qa qc ba bc fa fc fv) * F) by ac_rfl)) hs hn
  unfold layB at hyes
  simp only [Bool.and_eq_true, Bool.not_eq_true', decide_eq_false_iff_not] at hyes
  obtain ⟨hk, hall⟩ := hyes
  have hk' : (o.kind == 5) = false := by simpa using hk
  have hany : s.any (fun v => !thereV A v) = false := by
    rw [List.any_eq_false]
    intro v hv
    have := List.all_eq_true.1 hall v hv
    simp [this]
  rw [hany] at hC
  have HC := Lib.hid hC
  have HO := Lib.hid eO
  clear ho eO e3 hG hk hC hany hall
  subst hs
  go_enter Try.func66, Try.ntmps66
  try rw [hbx]
  go_wp2_with fail
  refine HF.out.mono ?_
  rintro e w' ⟨rfl, rfl⟩
  go_wp2_with fail
  refine HC.out.mono ?_
  rintro e w2 ⟨rfl, h2⟩
  have HCl := Lib.hid (clone_vals h2 (by omega) (oneCell_avcells _))
  go_wp2_with fail
  refine HCl.out.mono ?_
  rintro e w3 ⟨a', c', rfl, hnil, h3⟩
  have op3 := op.opens (G := pt bx (.cells #[.pointer (some ⟨p, 0, none⟩)] 22 (0, 0)) * (slc 28 2 a' s.length c' (avcells s) * (slc 28 2 a s.length c (avcells s) * F))) (h3.cast (by ac_rfl))
  obtain ⟨sa1, sc1, hT1⟩ := op3.takeObj HO.out
  have c2 : w3.cell? ⟨b, 2, none⟩ = some (.slice sa1 o.slots.length sc1) := hT1.cell 2 rfl
  have f2 := hT1.free 2
  have hs4 := (hT1.store (i := 2) (.slice a' s.length c')).p2.drop
  rw [restR_frame, restR_frame] at hs4
  have op4 := op3.putTurned { o with slots := s } HO.out hl (a := a') (c := c') (G := pt bx (.cells #[.pointer (some ⟨p, 0, none⟩)] 22 (0, 0)) * (slc 28 2 a s.length c (avcells s) * F)) (by rw [restR_frame]; exact hs4.cast (by ac_rfl))
  have HT := Lib.hid (heap_touch op4 K.left.left n)
  have x0 : (w3.setCell ⟨b, 2, none⟩ (.slice a' s.length c')).cell? ⟨bx, 0, none⟩ = some (.pointer (some ⟨p, 0, none⟩)) := Sat.cell (T := 22) (cs := #[.pointer (some ⟨p, 0, none⟩)]) op4.front 0 rfl
  clear hT1 hs4 h3
  go_wp2_with fail
  refine HT.out.mono ?_
  rintro e w5 ⟨rfl, op5⟩
  go_wp2_with fail
  go_ret
  exact ⟨rfl, op5.unframe.shut⟩
end Go.Proofs.Ytkpcngcegipalaa.Tw
