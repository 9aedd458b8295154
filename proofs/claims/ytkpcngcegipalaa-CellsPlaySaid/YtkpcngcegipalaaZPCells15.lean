/- The heap of cells: New, Obj, Make. No condition. -/
import Derived.Test.YtkpcngcegipalaaZPCells12
import Derived.Test.YtkpcngcegipalaaZPCells14
namespace Go.Proofs.Ytkpcngcegipalaa.Tw
set_option linter.unusedVariables false
set_option linter.unusedSimpArgs false
open Go Go.RowKit Go.MapKept

/-- an object as it is handed out -/
def objV (o : AObj) (a : Option Addr) (c : Nat) : Value := .agg #[.int .i64 o.kind, .int .i64 o.count, .slice a o.slots.length c, .string o.text, .int .i64 o.mark]
def AObj.none : AObj := ⟨0, 0, [], ByteArray.mk #[], 0⟩
def AHeap.obj (A : AHeap) (n : Int) : AObj := (A.objs n).getD AObj.none

theorem sX (N S R B G : HP) : N * (R * (S * (B * G))) = S * (N * (R * (B * G))) := by ac_rfl
theorem sX2 (C S N R B G : HP) : C * (S * (N * (R * (B * G)))) = N * (C * (S * (R * (B * G)))) := by ac_rfl
theorem sX3 (N C S R B G : HP) : N * (C * (S * (R * (B * G)))) = B * (N * (C * (S * (R * G)))) := by ac_rfl
theorem sX4 (C S R G : HP) : C * (S * (R * G)) = R * (S * (C * G)) := by ac_rfl
theorem sN (A B C D E G F : HP) : A * (B * (C * (D * (E * (G * F))))) = D * (G * (E * (C * (B * (A * F))))) := by ac_rfl

def AHeap.empty : AHeap := ⟨[], fun _ => none, [], [], [], 0, [], false⟩
theorem load_obj {w0 w : World} {F : HP} {b : Nat} {x0 x1 x2 x3 x4 : Value} (h : Sat w0 w (row b 39 #[x0, x1, x2, x3, x4] * F)) :
    (loadVar 39 ⟨b, 0, none⟩).run Try.prog w = .ok (.agg #[x0, x1, x2, x3, x4]) w := by
  have c0 : w.cell? ⟨b, 0, none⟩ = some x0 := h.cell 0 rfl
  have c1 : w.cell? ⟨b, 1, none⟩ = some x1 := h.cell 1 rfl
  have c2 : w.cell? ⟨b, 2, none⟩ = some x2 := h.cell 2 rfl
  have c3 : w.cell? ⟨b, 3, none⟩ = some x3 := h.cell 3 rfl
  have c4 : w.cell? ⟨b, 4, none⟩ = some x4 := h.cell 4 rfl
  go_simp
theorem load_val {w0 w : World} {F : HP} {b : Nat} {x0 x1 : Value} (h : Sat w0 w (row b 28 #[x0, x1] * F)) :
    (loadVar 28 ⟨b, 0, none⟩).run Try.prog w = .ok (.agg #[x0, x1]) w := by
  have c0 : w.cell? ⟨b, 0, none⟩ = some x0 := h.cell 0 rfl
  have c1 : w.cell? ⟨b, 1, none⟩ = some x1 := h.cell 1 rfl
  go_simp

def obj0 : Obj := .cells #[.int .i64 0, .int .i64 0, .slice none 0 0, .string (ByteArray.mk #[]), .int .i64 0] 39
theorem heap_Obj_nil (w : World) (n : Int) {w0 : World} {F : HP} (h : Sat w0 w F) :
    Calls Try.prog 23 #[.pointer none, .int .i64 n] w fun e w' => e = .returned (objV AObj.none none 0) ∧ Sat w0 w' F := by
  have h1 := h.alloc (.cells #[.int .i64 0, .int .i64 0, .slice none 0 0, .string (ByteArray.mk #[]), .int .i64 0] 39)
  have f0 := h1.free 0
  have f1 := h1.free 1
  have f2 := h1.free 2
  have f3 := h1.free 3
  have f4 := h1.free 4
  generalize hbx : w.heap.size = bx at *
  go_enter Try.func23, Try.ntmps23
  try rw [hbx]
  go_wp2_with fail
  refine (heap_find_nil _ n).mono ?_
  rintro e w1 ⟨rfl, rfl⟩
  go_wp2_with fail
  try simp only [Exit.inBlock, Exit.then]
  refine bodyPost_cell rfl rfl (v := objV AObj.none none 0) ?_ rfl ⟨rfl, ?_⟩
  · exact load_obj h1
  exact h1.drop

theorem heap_Obj {w0 w : World} {m : Hp} {p : Nat} {A : AHeap} {F : HP} (h : Sat w0 w (heapR m p A * F)) (n : Int) (hB : (A.obj n).slots.length ≤ 2000000000) :
    Calls Try.prog 23 #[.pointer (some ⟨p, 0, none⟩), .int .i64 n] w fun e w' => ∃ a c, e = .returned (objV (A.obj n) a c) ∧ Sat w0 w' (heapR m p A * (slc 28 2 a (A.obj n).slots.length c (avcells (A.obj n).slots) * F)) := by
  obtain ⟨pb, mb, O, qa, qc, ba, bc, fa, fc, fv, op0⟩ := h.openHeap
  have h1 := op0.alloc (.cells #[.int .i64 0, .int .i64 0, .slice none 0 0, .string (ByteArray.mk #[]), .int .i64 0] 39)
  have hf := h1.front
  have f0 := hf.free 0
  have f1 := hf.free 1
  have f2 := hf.free 2
  have f3 := hf.free 3
  have f4 := hf.free 4
  generalize hbx : w.heap.size = bx at *
  cases ho : A.objs n with
  | none =>
    have e : A.obj n = AObj.none := by unfold AHeap.obj; rw [ho]; rfl
    rw [e]
    go_enter Try.func23, Try.ntmps23
    try rw [hbx]
    go_wp2_with fail
    refine (heap_find_no h1.shut n ho).mono ?_
    rintro e w1 ⟨rfl, rfl⟩
    go_wp2_with fail
    try simp only [Exit.inBlock, Exit.then]
    refine bodyPost_cell rfl rfl (v := objV AObj.none none 0) ?_ rfl ⟨none, 0, rfl, ?_⟩
    · exact load_obj hf
    exact ((h1.unframe.shut.cast (mul_comm _ _)).cast (mul_comm _ _)).nilSlc.cast (mul_left_comm _ _ _)
  | some o =>
    have e : A.obj n = o := by unfold AHeap.obj; rw [ho]; rfl
    rw [e] at hB ⊢
    obtain ⟨b, l, r, eO, hl, e3⟩ := h1.obj ho
    obtain ⟨a, c, hG⟩ := h1.takeObj eO
    have hG2 := hG.alloc (.cells #[.int .i64 o.kind, .int .i64 o.count, .slice a o.slots.length c, .string o.text, .int .i64 o.mark] 39)
    rw [show (w.alloc (.cells #[.int .i64 0, .int .i64 0, .slice none 0 0, .string (ByteArray.mk #[]), .int .i64 0] 39)).heap.size = bx + 1 by simp [hbx]] at hG2
    have d2 := (hG2.cast (mul_left_comm _ _ _)).cell 2 rfl
    have c0 : (w.alloc (.cells #[.int .i64 0, .int .i64 0, .slice none 0 0, .string (ByteArray.mk #[]), .int .i64 0] 39)).cell? ⟨b, 0, none⟩ = some (.int .i64 o.kind) := hG.cell 0 rfl
    have c1 : (w.alloc (.cells #[.int .i64 0, .int .i64 0, .slice none 0 0, .string (ByteArray.mk #[]), .int .i64 0] 39)).cell? ⟨b, 1, none⟩ = some (.int .i64 o.count) := hG.cell 1 rfl
    have c2 : (w.alloc (.cells #[.int .i64 0, .int .i64 0, .slice none 0 0, .string (ByteArray.mk #[]), .int .i64 0] 39)).cell? ⟨b, 2, none⟩ = some (.slice a o.slots.length c) := hG.cell 2 rfl
    have c3 : (w.alloc (.cells #[.int .i64 0, .int .i64 0, .slice none 0 0, .string (ByteArray.mk #[]), .int .i64 0] 39)).cell? ⟨b, 3, none⟩ = some (.string o.text) := hG.cell 3 rfl
    have c4 : (w.alloc (.cells #[.int .i64 0, .int .i64 0, .slice none 0 0, .string (ByteArray.mk #[]), .int .i64 0] 39)).cell? ⟨b, 4, none⟩ = some (.int .i64 o.mark) := hG.cell 4 rfl
    go_enter Try.func23, Try.ntmps23
    try rw [hbx]
    go_wp2_with fail
    refine (heap_find h1 e3).mono ?_
    rintro e w1 ⟨rfl, rfl⟩
    clear e3 hl ho e
    have EO := Lib.hid eO
    clear eO
    go_wp2_with fail
    refine (clone_vals (hG2.cast (by rw [restR_frame]; exact sX _ _ _ _ _)) hB (oneCell_avcells _)).mono ?_
    rintro e w2 ⟨a', c', rfl, _, h3⟩
    have h4 := h3.cast (sX2 _ _ _ _ _ _)
    have g2 := h4.free 2
    have gc2 : w2.cell? ⟨bx + 1, 2, none⟩ = some (.slice a o.slots.length c) := Sat.cell (T := 39) (cs := #[.int .i64 o.kind, .int .i64 o.count, .slice a o.slots.length c, .string o.text, .int .i64 o.mark]) h4 2 rfl
    have h5 := h4.store (i := 2) (.slice a' o.slots.length c')
    simp only [List.setIfInBounds_toArray, List.set_cons_zero, List.set_cons_succ] at h5
    have e0 : (w2.setCell ⟨bx + 1, 2, none⟩ (.slice a' o.slots.length c')).cell? ⟨bx + 1, 0, none⟩ = some (.int .i64 o.kind) := h5.cell 0 rfl
    have e1 : (w2.setCell ⟨bx + 1, 2, none⟩ (.slice a' o.slots.length c')).cell? ⟨bx + 1, 1, none⟩ = some (.int .i64 o.count) := h5.cell 1 rfl
    have e2 : (w2.setCell ⟨bx + 1, 2, none⟩ (.slice a' o.slots.length c')).cell? ⟨bx + 1, 2, none⟩ = some (.slice a' o.slots.length c') := h5.cell 2 rfl
    have e3 : (w2.setCell ⟨bx + 1, 2, none⟩ (.slice a' o.slots.length c')).cell? ⟨bx + 1, 3, none⟩ = some (.string o.text) := h5.cell 3 rfl
    have e4 : (w2.setCell ⟨bx + 1, 2, none⟩ (.slice a' o.slots.length c')).cell? ⟨bx + 1, 4, none⟩ = some (.int .i64 o.mark) := h5.cell 4 rfl
    have h6 := h5.cast (sX3 _ _ _ _ _ _)
    have j0 : (w2.setCell ⟨bx + 1, 2, none⟩ (.slice a' o.slots.length c')).cell? ⟨bx, 0, none⟩ = some (.int .i64 0) := Sat.cell (T := 39) (cs := #[.int .i64 0, .int .i64 0, .slice none 0 0, .string (ByteArray.mk #[]), .int .i64 0]) h6 0 rfl
    have j1 : (w2.setCell ⟨bx + 1, 2, none⟩ (.slice a' o.slots.length c')).cell? ⟨bx, 1, none⟩ = some (.int .i64 0) := Sat.cell (T := 39) (cs := #[.int .i64 0, .int .i64 0, .slice none 0 0, .string (ByteArray.mk #[]), .int .i64 0]) h6 1 rfl
    have j2 : (w2.setCell ⟨bx + 1, 2, none⟩ (.slice a' o.slots.length c')).cell? ⟨bx, 2, none⟩ = some (.slice none 0 0) := Sat.cell (T := 39) (cs := #[.int .i64 0, .int .i64 0, .slice none 0 0, .string (ByteArray.mk #[]), .int .i64 0]) h6 2 rfl
    have j3 : (w2.setCell ⟨bx + 1, 2, none⟩ (.slice a' o.slots.length c')).cell? ⟨bx, 3, none⟩ = some (.string (ByteArray.mk #[])) := Sat.cell (T := 39) (cs := #[.int .i64 0, .int .i64 0, .slice none 0 0, .string (ByteArray.mk #[]), .int .i64 0]) h6 3 rfl
    have j4 : (w2.setCell ⟨bx + 1, 2, none⟩ (.slice a' o.slots.length c')).cell? ⟨bx, 4, none⟩ = some (.int .i64 0) := Sat.cell (T := 39) (cs := #[.int .i64 0, .int .i64 0, .slice none 0 0, .string (ByteArray.mk #[]), .int .i64 0]) h6 4 rfl
    have i0 := h6.free 0
    have i1 := h6.free 1
    have i2 := h6.free 2
    have i3 := h6.free 3
    have i4 := h6.free 4
    clear c0 c1 c2 c3 c4 d2 f0 f1 f2 f3 f4
    go_wp2_with fail
    try simp only [Exit.inBlock, Exit.then]
    have h7 := h6.store (i := 0) (.int .i64 o.kind) |>.store (i := 1) (.int .i64 o.count) |>.store (i := 2) (.slice a' o.slots.length c') |>.store (i := 3) (.string o.text) |>.store (i := 4) (.int .i64 o.mark)
    simp only [List.setIfInBounds_toArray, List.set_cons_zero, List.set_cons_succ] at h7
    refine bodyPost_cell rfl rfl (v := objV o a' c') ?_ rfl ⟨a', c', rfl, ?_⟩
    · exact load_obj h7
    have h8 := h7.drop.drop.cast (sX4 _ _ _ _)
    rw [← restR_frame] at h8
    exact (op0.putObj EO.out h8).shut

theorem heap_New {w0 w : World} {F : HP} (h : Sat w0 w F) :
    Calls Try.prog 15 #[] w fun e w' => ∃ p, e = .returned (.pointer (some ⟨p, 0, none⟩)) ∧ ∀ m, Sat w0 w' (heapR m p AHeap.empty * F) := by
  have hmm := @run_makeMap Try.prog
  go_enter Try.func15, Try.ntmps15
  go_wp2_with fail
  refine (pool_New h).mono ?_
  rintro e w1 ⟨pb, rfl, h1⟩
  go_wp2_with fail
  go_ret
  refine ⟨_, rfl, fun m => ?_⟩
  have h2 := (h1.newMap (d := .int .i64) (kv := Value.int .i64)).alloc (.cells (heapCells pb w1.heap.size AHeap.empty none 0 none 0 none 0 (.func (.func 70) #[] #[])) 90)
  have h3 := ((h2.nilSlc (T := 3) (sz := 1)).nilSlc (T := 3) (sz := 1)).nilSlc (T := 135) (sz := 2)
  refine Opened.shut (pb := pb) (mb := w1.heap.size) (O := []) (qa := none) (qc := 0) (ba := none) (bc := 0) (fa := none) (fc := 0) (fv := .func (.func 70) #[] #[]) ⟨fun n => rfl, fun n => by simp [AHeap.empty, tk], .inl ⟨rfl, rfl⟩, ?_⟩
  have e1 : objsR [] = 1 := rfl
  show Sat w0 _ (_ * (poolR pb [] * (mapR _ _ _ [] * (objsR [] * (slc _ 1 none 0 0 [] * (slc _ 1 none 0 0 [] * (slc _ 2 none 0 0 [] * F)))))))
  rw [e1, one_mul]
  rw [size_alloc] at h3
  exact h3.cast (sN _ _ _ _ _ _ _)
end Go.Proofs.Ytkpcngcegipalaa.Tw
namespace Go.Proofs.Ytkpcngcegipalaa.Tw
set_option linter.unusedVariables false
set_option linter.unusedSimpArgs false
open Go Go.RowKit Go.MapKept

theorem Sat.objAt {w0 w : World} {F : HP} {O l r : List (Int × Nat × AObj)} {n : Int} {b : Nat} {o : AObj} (h : Sat w0 w (objsR O * F)) (e : O = l ++ (n, b, o) :: r) :
    ∃ a c G, Sat w0 w (row b 39 #[.int .i64 o.kind, .int .i64 o.count, .slice a o.slots.length c, .string o.text, .int .i64 o.mark] * G) := by
  rw [e, objsR_split, mul_assoc] at h
  obtain ⟨a, c, h2⟩ := h.openObj
  exact ⟨a, c, _, h2⟩
def AHeap.mark (A : AHeap) (n : Int) : AHeap := match A.objs n with
  | some o => if o.mark = 0 then ({ A with marks := A.marks + 1 }.upd n { o with mark := A.marks + 1 }).touch n else A
  | none => A
def AHeap.markN (A : AHeap) (n : Int) : Int := match A.objs n with
  | some o => if o.mark = 0 then A.marks + 1 else 0
  | none => 0
theorem heap_Mark_nil (w : World) (n : Int) :
    Calls Try.prog 62 #[.pointer none, .int .i64 n] w fun e w' => e = .returned (.int .i64 0) ∧ w = w' := by
  go_enter Try.func62, Try.ntmps62
  go_wp2_with fail
  refine (heap_find_nil _ n).mono ?_
  rintro e w' ⟨rfl, rfl⟩
  go_wp2_with fail
  go_ret
  exact ⟨rfl, rfl⟩
set_option maxHeartbeats 1000000 in
theorem heap_Mark {w0 w : World} {m : Hp} {p : Nat} {A : AHeap} {F : HP} (h : Sat w0 w (heapR m p A * F)) (K : Knows m F) (n : Int) (hm : 0 ≤ A.marks ∧ A.marks ≤ 1000000000) :
    Calls Try.prog 62 #[.pointer (some ⟨p, 0, none⟩), .int .i64 n] w fun e w' => e = .returned (.int .i64 (A.markN n)) ∧ Sat w0 w' (heapR m p (A.mark n) * F) := by
  cases ho : A.objs n with
  | none =>
    have e1 : A.markN n = 0 := by unfold AHeap.markN; rw [ho]
    have e2 : A.mark n = A := by unfold AHeap.mark; rw [ho]
    rw [e1, e2]
    have HF := Lib.hid (heap_find_no h n ho)
    clear ho e1 e2
    go_enter Try.func62, Try.ntmps62
    go_wp2_with fail
    refine HF.out.mono ?_
    rintro e w' ⟨rfl, rfl⟩
    go_wp2_with fail
    go_ret
    exact ⟨rfl, h⟩
  | some o =>
    obtain ⟨pb, mb, O, qa, qc, ba, bc, fa, fc, fv, op⟩ := h.openHeap
    obtain ⟨b, l, r, eO, hl, e3⟩ := op.obj ho
    have HF := Lib.hid (heap_find op e3)
    obtain ⟨sa, sc, G, hG⟩ := op.objCells eO
    have c4 : w.cell? ⟨b, 4, none⟩ = some (.int .i64 o.mark) := hG.cell 4 rfl
    have c5 : w.cell? ⟨p, 5, none⟩ = some (.int .i64 A.marks) := op.hs.cell 5 rfl
    have f5 := op.hs.free 5
    by_cases hz : o.mark = 0
    · have e1 : A.markN n = A.marks + 1 := by unfold AHeap.markN; simp only [ho]; rw [if_pos hz]
      have e2 : A.mark n = ({ A with marks := A.marks + 1 }.upd n { o with mark := A.marks + 1 }).touch n := by unfold AHeap.mark; simp only [ho]; rw [if_pos hz]
      rw [e1, e2]
      rw [hz] at c4
      have op1 : Opened w0 (w.setCell ⟨p, 5, none⟩ (.int .i64 (A.marks + 1))) m p { A with marks := A.marks + 1 } F pb mb O qa qc ba bc fa fc fv := ⟨op.ho, op.ht, op.hw, op.hs.store (b := p) (i := 5) _⟩
      obtain ⟨sa1, sc1, G1, hG1⟩ := op1.objCells eO
      have d4 : (w.setCell ⟨p, 5, none⟩ (.int .i64 (A.marks + 1))).cell? ⟨b, 4, none⟩ = some (.int .i64 o.mark) := hG1.cell 4 rfl
      have g4 := hG1.free 4
      have d5 : (w.setCell ⟨p, 5, none⟩ (.int .i64 (A.marks + 1))).cell? ⟨p, 5, none⟩ = some (.int .i64 (A.marks + 1)) := op1.hs.cell 5 rfl
      have op2 := op1.storeObj eO hl 4 (.int .i64 (A.marks + 1)) (o' := { o with mark := A.marks + 1 }) rfl (fun _ _ => rfl)
      have HT := Lib.hid (heap_touch op2 K n)
      have HFr : Hid (∀ w3, Opened w0 w3 m p (({ A with marks := A.marks + 1 }.upd n { o with mark := A.marks + 1 }).touch n) F pb mb (l ++ (n, b, { o with mark := A.marks + 1 }) :: r) qa qc ba bc fa fc fv → w3.cell? ⟨b, 4, none⟩ = some (.int .i64 (A.marks + 1))) := Lib.hid fun w3 hw => by
        obtain ⟨sa2, sc2, G2, hG2⟩ := hw.objCells rfl
        exact hG2.cell 4 rfl
      clear e1 e2 ho eO e3 hG hG1 op1 op2 hz
      go_enter Try.func62, Try.ntmps62
      go_wp2_with fail
      refine HF.out.mono ?_
      rintro e w' ⟨rfl, rfl⟩
      go_wp2_with fail
      refine HT.out.mono ?_
      rintro e w3 ⟨rfl, op3⟩
      have k4 := HFr.out w3 op3
      go_wp2_with fail
      go_ret
      exact ⟨rfl, op3.shut⟩
    · have e1 : A.markN n = 0 := by unfold AHeap.markN; simp only [ho]; rw [if_neg hz]
      have e2 : A.mark n = A := by unfold AHeap.mark; simp only [ho]; rw [if_neg hz]
      rw [e1, e2]
      have hz' : (o.mark != 0) = true := by simpa using hz
      clear e1 e2 ho eO e3 hG hz
      go_enter Try.func62, Try.ntmps62
      go_wp2_with fail
      refine HF.out.mono ?_
      rintro e w' ⟨rfl, rfl⟩
      go_wp2_with fail
      go_ret
      exact ⟨rfl, h⟩

def suspB (A : AHeap) (n : Int) : Bool := match A.objs n with
  | some o => !decide (o.kind = 5) && !decide (o.count = 0) && !decide (n ∈ A.buf)
  | none => false
theorem heap_Suspect_nil (w : World) (n : Int) :
    Calls Try.prog 64 #[.pointer none, .int .i64 n] w fun e w' => e = .returned (.int .i64 1) ∧ w = w' := by
  go_enter Try.func64, Try.ntmps64
  go_wp2_with fail
  refine (heap_find_nil _ n).mono ?_
  rintro e w' ⟨rfl, rfl⟩
  go_wp2_with fail
  go_ret
  exact ⟨rfl, rfl⟩
set_option maxHeartbeats 1000000 in
theorem heap_Suspect_no {w0 w : World} {m : Hp} {p : Nat} {A : AHeap} {F : HP} (h : Sat w0 w (heapR m p A * F)) (n : Int) (hb : A.buf.length ≤ 1000000000) (hno : suspB A n = false) :
    Calls Try.prog 64 #[.pointer (some ⟨p, 0, none⟩), .int .i64 n] w fun e w' => e = .returned (.int .i64 2) ∧ w = w' := by
  cases ho : A.objs n with
  | none =>
    have HF := Lib.hid (heap_find_no h n ho)
    clear ho hno
    go_enter Try.func64, Try.ntmps64
    go_wp2_with fail
    refine HF.out.mono ?_
    rintro e w' ⟨rfl, rfl⟩
    go_wp2_with fail
    go_ret
    exact ⟨rfl, rfl⟩
  | some o =>
    obtain ⟨pb, mb, O, qa, qc, ba, bc, fa, fc, fv, op⟩ := h.openHeap
    obtain ⟨b, l, r, eO, hl, e3⟩ := op.obj ho
    have HF := Lib.hid (heap_find op e3)
    obtain ⟨sa, sc, G, hG⟩ := op.objCells eO
    have c0 : w.cell? ⟨b, 0, none⟩ = some (.int .i64 o.kind) := hG.cell 0 rfl
    have c1 : w.cell? ⟨b, 1, none⟩ = some (.int .i64 o.count) := hG.cell 1 rfl
    have c3 : w.cell? ⟨p, 3, none⟩ = some (.slice ba A.buf.length bc) := op.hs.cell 3 rfl
    have hC := contains_int (l := A.buf) (n := A.buf.length) n op.hs.p6 rfl hb
    unfold suspB at hno
    simp only [ho] at hno
    clear ho eO e3 hG
    by_cases hk : o.kind = 5
    · have hk' : (o.kind == 5) = true := by simpa using hk
      clear hno hC hk
      go_enter Try.func64, Try.ntmps64
      go_wp2_with fail
      refine HF.out.mono ?_
      rintro e w' ⟨rfl, rfl⟩
      go_wp2_with fail
      go_ret
      exact ⟨rfl, rfl⟩
    · have hk' : (o.kind == 5) = false := by simpa using hk
      by_cases hc : o.count = 0
      · have hc' : (o.count == 0) = true := by simpa using hc
        clear hno hC hk hc
        go_enter Try.func64, Try.ntmps64
        go_wp2_with fail
        refine HF.out.mono ?_
        rintro e w' ⟨rfl, rfl⟩
        go_wp2_with fail
        go_ret
        exact ⟨rfl, rfl⟩
      · have hc' : (o.count == 0) = false := by simpa using hc
        have hin : decide (n ∈ A.buf) = true := by simpa [hk, hc] using hno
        rw [hin] at hC
        have HC := Lib.hid hC
        clear hno hC hk hc hin
        go_enter Try.func64, Try.ntmps64
        go_wp2_with fail
        refine HF.out.mono ?_
        rintro e w' ⟨rfl, rfl⟩
        go_wp2_with fail
        refine HC.out.mono ?_
        rintro e w' ⟨rfl, rfl⟩
        go_wp2_with fail
        go_ret
        exact ⟨rfl, rfl⟩
set_option maxHeartbeats 1000000 in
theorem heap_Suspect {w0 w : World} {m : Hp} {p : Nat} {A : AHeap} {F : HP} (h : Sat w0 w (heapR m p A * F)) (n : Int) (hb : A.buf.length ≤ 1000000000) (hyes : suspB A n = true) :
    Calls Try.prog 64 #[.pointer (some ⟨p, 0, none⟩), .int .i64 n] w fun e w' => e = .returned (.int .i64 0) ∧ Sat w0 w' (heapR m p { A with buf := A.buf ++ [n] } * F) := by
  cases ho : A.objs n with
  | none => unfold suspB at hyes; rw [ho] at hyes; cases hyes
  | some o =>
    obtain ⟨pb, mb, O, qa, qc, ba, bc, fa, fc, fv, op⟩ := h.openHeap
    obtain ⟨b, l, r, eO, hl, e3⟩ := op.obj ho
    have HF := Lib.hid (heap_find op e3)
    obtain ⟨sa, sc, G, hG⟩ := op.objCells eO
    have c0 : w.cell? ⟨b, 0, none⟩ = some (.int .i64 o.kind) := hG.cell 0 rfl
    have c1 : w.cell? ⟨b, 1, none⟩ = some (.int .i64 o.count) := hG.cell 1 rfl
    have c3 : w.cell? ⟨p, 3, none⟩ = some (.slice ba A.buf.length bc) := op.hs.cell 3 rfl
    have hC := contains_int (l := A.buf) (n := A.buf.length) n op.hs.p6 rfl hb
    unfold suspB at hyes
    simp only [ho, Bool.and_eq_true, Bool.not_eq_true', decide_eq_false_iff_not] at hyes
    obtain ⟨⟨hk, hc⟩, hin⟩ := hyes
    have hk' : (o.kind == 5) = false := by simpa using hk
    have hc' : (o.count == 0) = false := by simpa using hc
    have hd : decide (n ∈ A.buf) = false := by simpa using hin
    rw [hd] at hC
    have HC := Lib.hid hC
    clear ho eO e3 hG hk hc hin hd hC
    have ha := op.alloc (.cells #[.int .i64 n] 3)
    have b0 : (w.alloc (.cells #[.int .i64 n] 3)).cell? ⟨w.heap.size, 0, none⟩ = some (.int .i64 n) := Sat.cell (T := 3) (cs := #[.int .i64 n]) ha.front 0 rfl
    go_enter Try.func64, Try.ntmps64
    go_wp2_with fail
    refine HF.out.mono ?_
    rintro e w' ⟨rfl, rfl⟩
    go_wp2_with fail
    refine HC.out.mono ?_
    rintro e w' ⟨rfl, rfl⟩
    go_wp2_with (at_builtin; refine wpList_push rfl _ _ rfl ba A.buf.length bc A.buf rfl ha.hs.p6 w.heap.size 1 n rfl b0 hb ?_; intro a' c' w4 h4; have f2 := h4.p2.free 3; have q24 : w4.cell? ⟨p, 3, none⟩ = some (.slice ba A.buf.length bc) := h4.p2.cell 3 rfl; have op4 := ha.buf (by simp) (h4.p2.store (i := 3) (.slice a' (A.buf.length + 1) c')))
    go_ret
    exact ⟨rfl, op4.unframe.shut⟩
end Go.Proofs.Ytkpcngcegipalaa.Tw
