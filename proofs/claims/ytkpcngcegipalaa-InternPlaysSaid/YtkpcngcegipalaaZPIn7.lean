/- The heap of cells: find, touch, there, counted, Keep. No condition. -/
import Derived.Test.YtkpcngcegipalaaZPIn6
import Derived.Test.YtkpcngcegipalaaZPIn3
namespace Go.Proofs.Ytkpcngcegipalaa.Tw
set_option linter.unusedVariables false
set_option linter.unusedSimpArgs false
open Go Go.RowKit Go.MapKept

def AHeap.touch (A : AHeap) (n : Int) : AHeap := { A with touched := A.touched || decide (n ∈ A.watch) }
def AHeap.upd (A : AHeap) (n : Int) (o : AObj) : AHeap := { A with objs := fun k => if k = n then some o else A.objs k }
def thereV (A : AHeap) (v : AVal) : Bool := mayV v && !decide (v.kind = 0) && (!refV v || match A.objs v.n with | some o => decide (o.kind = v.kind) | none => false)

theorem sA (A B C D E G I F : HP) : A * (B * (C * (D * (E * (G * (I * F)))))) = C * (A * (B * (D * (E * (G * (I * F)))))) := by ac_rfl
theorem sD (A B C D E G I F : HP) : A * (B * (C * (D * (E * (G * (I * F)))))) = D * (A * (B * (C * (E * (G * (I * F)))))) := by ac_rfl
theorem sY (A B C D E G I J F : HP) : A * (B * (C * (D * (E * (G * (I * (J * F))))))) = J * (A * (B * (C * (D * (E * (G * (I * F))))))) := by ac_rfl
theorem sZ (A B C D E G I J F : HP) : A * (B * (C * (D * (E * (G * (I * (J * F))))))) = J * (A * (B * (C * (D * (E * (G * (I * F))))))) := by ac_rfl
theorem zero_objptr (w : World) : (zeroValue 124).run Try.prog w = .ok (.pointer none) w := by kernel_rfl

section
variable {w0 w : World} {m : Hp} {p : Nat} {A : AHeap} {F : HP} {pb mb : Nat} {O : List (Int × Nat × AObj)} {qa : Option Addr} {qc : Nat} {ba : Option Addr} {bc : Nat} {fa : Option Addr} {fc : Nat} {fv : Value} {B : HP} {bx : Nat} {x0 x1 : Value}
theorem Opened.look (h : Opened w0 w m p A F pb mb O qa qc ba bc fa fc fv) (n : Int) :
    (Instr.lookup 86 (.map (some mb)) (.int .i64 n) false).run Try.prog w = .ok (.pointer ((oget O n).map fun x => ⟨x.1, 0, none⟩)) w := by
  have := run_lookup (keys_int .i64) (h.hs.cast (sA _ _ _ _ _ _ _ _)) Try.underlying86 Try.underlying3 (zero_objptr w) n
  rw [this, mget_omap]
  cases oget O n <;> rfl
theorem Opened.drew (h : Opened w0 w m p A F pb mb O qa qc ba bc fa fc fv) : Opened w0 w.drew m p A F pb mb O qa qc ba bc fa fc fv := ⟨h.ho, h.ht, h.hw, h.hs.drew⟩
theorem Opened.to (h : Opened w0 w m p A F pb mb O qa qc ba bc fa fc fv) {w' : World} {G : HP}
    (hs : Sat w0 w' (row p 90 (heapCells pb mb A qa qc ba bc fa fc fv) * (poolR pb A.T * (mapR (.int .i64) (Value.int .i64) mb (omap O) * (objsR O * (slc 3 1 qa A.queue.length qc (A.queue.map ival) * (slc 3 1 ba A.buf.length bc (A.buf.map ival) * (slc 135 2 fa A.fins.length fc (finCells A.fins) * G)))))))) :
    Opened w0 w' m p A G pb mb O qa qc ba bc fa fc fv := ⟨h.ho, h.ht, h.hw, hs⟩
theorem Opened.front (h : Opened w0 w m p A (B * F) pb mb O qa qc ba bc fa fc fv) : Sat w0 w (B * (row p 90 (heapCells pb mb A qa qc ba bc fa fc fv) * (poolR pb A.T * (mapR (.int .i64) (Value.int .i64) mb (omap O) * (objsR O * (slc 3 1 qa A.queue.length qc (A.queue.map ival) * (slc 3 1 ba A.buf.length bc (A.buf.map ival) * (slc 135 2 fa A.fins.length fc (finCells A.fins) * F)))))))) := h.hs.cast (sZ _ _ _ _ _ _ _ _ _)
theorem Opened.back (h : Opened w0 w m p A F pb mb O qa qc ba bc fa fc fv) {w' : World}
    (hs : Sat w0 w' (B * (row p 90 (heapCells pb mb A qa qc ba bc fa fc fv) * (poolR pb A.T * (mapR (.int .i64) (Value.int .i64) mb (omap O) * (objsR O * (slc 3 1 qa A.queue.length qc (A.queue.map ival) * (slc 3 1 ba A.buf.length bc (A.buf.map ival) * (slc 135 2 fa A.fins.length fc (finCells A.fins) * F))))))))) :
    Opened w0 w' m p A (B * F) pb mb O qa qc ba bc fa fc fv := h.to (hs.cast (sZ _ _ _ _ _ _ _ _ _).symm)
theorem Opened.alloc (h : Opened w0 w m p A F pb mb O qa qc ba bc fa fc fv) (o : Obj) : Opened w0 (w.alloc o) m p A (pt w.heap.size o * F) pb mb O qa qc ba bc fa fc fv := h.back (h.hs.alloc o)
theorem Opened.unframe (h : Opened w0 w m p A (B * F) pb mb O qa qc ba bc fa fc fv) : Opened w0 w m p A F pb mb O qa qc ba bc fa fc fv := h.to h.front.drop
theorem Opened.box2 (h : Opened w0 w m p A (pt bx (.cells #[x0, x1] 28) * F) pb mb O qa qc ba bc fa fc fv) : w.cell? ⟨bx, 0, none⟩ = some x0 ∧ w.cell? ⟨bx, 1, none⟩ = some x1 :=
  ⟨Sat.cell (T := 28) (cs := #[x0, x1]) h.front 0 rfl, Sat.cell (T := 28) (cs := #[x0, x1]) h.front 1 rfl⟩
/-- object n, at its block -/
theorem Opened.obj (h : Opened w0 w m p A F pb mb O qa qc ba bc fa fc fv) {n : Int} {o : AObj} (ho : A.objs n = some o) : ∃ b l r, O = l ++ (n, b, o) :: r ∧ oget l n = none ∧ oget O n = some (b, o) := by
  have := h.ho n
  rw [ho] at this
  cases e : oget O n with
  | none => rw [e] at this; cases this
  | some x =>
    rw [e] at this
    simp at this
    obtain ⟨b, o'⟩ := x
    simp at this; subst this
    obtain ⟨l, r, e1, e2⟩ := oget_split e
    exact ⟨b, l, r, e1, e2, rfl⟩
theorem Opened.no (h : Opened w0 w m p A F pb mb O qa qc ba bc fa fc fv) {n : Int} (ho : A.objs n = none) : oget O n = none := by
  have := h.ho n
  rw [ho] at this
  simpa using this
theorem Opened.objCells (h : Opened w0 w m p A F pb mb O qa qc ba bc fa fc fv) {l r : List (Int × Nat × AObj)} {n : Int} {b : Nat} {o : AObj} (e : O = l ++ (n, b, o) :: r) :
    ∃ a c G, Sat w0 w (row b 39 #[.int .i64 o.kind, .int .i64 o.count, .slice a o.slots.length c, .string o.text, .int .i64 o.mark] * (slc 28 2 a o.slots.length c (avcells o.slots) * G)) := by
  have hs := h.hs.cast (sD _ _ _ _ _ _ _ _)
  rw [e, objsR_split, mul_assoc] at hs
  obtain ⟨a, c, h2⟩ := hs.openObj
  exact ⟨a, c, _, h2⟩
def restR (p : Nat) (A : AHeap) (F : HP) (pb mb : Nat) (O : List (Int × Nat × AObj)) (qa : Option Addr) (qc : Nat) (ba : Option Addr) (bc : Nat) (fa : Option Addr) (fc : Nat) (fv : Value) (l r : List (Int × Nat × AObj)) : HP :=
  objsR (l ++ r) * (row p 90 (heapCells pb mb A qa qc ba bc fa fc fv) * (poolR pb A.T * (mapR (.int .i64) (Value.int .i64) mb (omap O) * (slc 3 1 qa A.queue.length qc (A.queue.map ival) * (slc 3 1 ba A.buf.length bc (A.buf.map ival) * (slc 135 2 fa A.fins.length fc (finCells A.fins) * F))))))
theorem restR_frame (p : Nat) (A : AHeap) (B F : HP) (pb mb : Nat) (O : List (Int × Nat × AObj)) (qa : Option Addr) (qc : Nat) (ba : Option Addr) (bc : Nat) (fa : Option Addr) (fc : Nat) (fv : Value) (l r : List (Int × Nat × AObj)) :
    restR p A (B * F) pb mb O qa qc ba bc fa fc fv l r = B * restR p A F pb mb O qa qc ba bc fa fc fv l r := sY _ _ _ _ _ _ _ _ _
/-- object n, taken out of the heap -/
theorem Opened.takeObj (h : Opened w0 w m p A F pb mb O qa qc ba bc fa fc fv) {l r : List (Int × Nat × AObj)} {n : Int} {b : Nat} {o : AObj} (e : O = l ++ (n, b, o) :: r) :
    ∃ a c, Sat w0 w (row b 39 #[.int .i64 o.kind, .int .i64 o.count, .slice a o.slots.length c, .string o.text, .int .i64 o.mark] * (slc 28 2 a o.slots.length c (avcells o.slots) * restR p A F pb mb O qa qc ba bc fa fc fv l r)) := by
  have hs := h.hs.cast (sD _ _ _ _ _ _ _ _)
  have eo : objsR O = objR b o * objsR (l ++ r) := by rw [e]; exact objsR_split l r (n, b, o)
  rw [eo, mul_assoc] at hs
  exact hs.openObj
/-- .. and put back -/
theorem Opened.putObj (h : Opened w0 w m p A F pb mb O qa qc ba bc fa fc fv) {l r : List (Int × Nat × AObj)} {n : Int} {b : Nat} {o : AObj} (e : O = l ++ (n, b, o) :: r) {w' : World} {G : HP} {a : Option Addr} {c : Nat}
    (hs : Sat w0 w' (row b 39 #[.int .i64 o.kind, .int .i64 o.count, .slice a o.slots.length c, .string o.text, .int .i64 o.mark] * (slc 28 2 a o.slots.length c (avcells o.slots) * restR p A G pb mb O qa qc ba bc fa fc fv l r))) :
    Opened w0 w' m p A G pb mb O qa qc ba bc fa fc fv := by
  have h2 := hs.shutObj
  have eo : objsR O = objR b o * objsR (l ++ r) := by rw [e]; exact objsR_split l r (n, b, o)
  unfold restR at h2
  rw [← mul_assoc, ← eo] at h2
  exact h.to (h2.cast (sD _ _ _ _ _ _ _ _).symm)
/-- the heap, with object n turned -/
theorem Opened.setObj (h : Opened w0 w m p A F pb mb O qa qc ba bc fa fc fv) {l r : List (Int × Nat × AObj)} {n : Int} {b : Nat} {o o' : AObj} (e : O = l ++ (n, b, o) :: r) (hl : oget l n = none) {w' : World}
    (hw : ∀ G, Sat w0 w (objR b o * G) → Sat w0 w' (objR b o' * G)) : Opened w0 w' m p (A.upd n o') F pb mb (l ++ (n, b, o') :: r) qa qc ba bc fa fc fv := by
  refine ⟨?_, ?_, h.hw, ?_⟩
  · intro k
    rw [oget_set (o := o) hl, ← e]
    show _ = if k = n then some o' else A.objs k
    split
    · rfl
    · exact h.ho k
  · intro k
    show (if k = n then some o' else A.objs k).isSome = tk A.T k
    have := h.ht k
    split
    · rename_i ek
      subst ek
      rw [← this]
      have h2 := h.ho k
      rw [e, oget_set (o := o) hl] at h2
      simp at h2
      rw [← h2]; rfl
    · exact this
  · have hs := h.hs.cast (sD _ _ _ _ _ _ _ _)
    rw [e, objsR_split, mul_assoc] at hs
    have h2 := hw _ hs
    rw [← mul_assoc, ← objsR_split l r (n, b, o')] at h2
    rw [omap_set l r n b o o']
    exact h2.cast (sD _ _ _ _ _ _ _ _).symm
end

theorem heap_find_no {w0 w : World} {m : Hp} {p : Nat} {A : AHeap} {F : HP} (h : Sat w0 w (heapR m p A * F)) (n : Int) (ho : A.objs n = none) :
    Calls Try.prog 80 #[.pointer (some ⟨p, 0, none⟩), .int .i64 n] w fun e w' => e = .returned (.tuple #[.pointer none, .int .i64 5]) ∧ w = w' := by
  obtain ⟨pb, mb, O, qa, qc, ba, bc, fa, fc, fv, op⟩ := h.openHeap
  have c1 : w.cell? ⟨p, 1, none⟩ = some (.map (some mb)) := op.hs.cell 1 rfl
  have hl := op.look n
  rw [op.no ho] at hl
  go_enter Try.func80, Try.ntmps80
  go_wp2
  go_ret2
  exact ⟨rfl, rfl⟩
theorem heap_find {w0 w : World} {m : Hp} {p : Nat} {A : AHeap} {F : HP} {pb mb : Nat} {O : List (Int × Nat × AObj)} {qa : Option Addr} {qc : Nat} {ba : Option Addr} {bc : Nat} {fa : Option Addr} {fc : Nat} {fv : Value}
    (op : Opened w0 w m p A F pb mb O qa qc ba bc fa fc fv) {n : Int} {b : Nat} {o : AObj} (ho : oget O n = some (b, o)) :
    Calls Try.prog 80 #[.pointer (some ⟨p, 0, none⟩), .int .i64 n] w fun e w' => e = .returned (.tuple #[.pointer (some ⟨b, 0, none⟩), .int .i64 0]) ∧ w = w' := by
  have c1 : w.cell? ⟨p, 1, none⟩ = some (.map (some mb)) := op.hs.cell 1 rfl
  have hl := op.look n
  rw [ho] at hl
  go_enter Try.func80, Try.ntmps80
  go_wp2
  go_ret2
  exact ⟨rfl, rfl⟩
theorem heap_find_nil (w : World) (n : Int) :
    Calls Try.prog 80 #[.pointer none, .int .i64 n] w fun e w' => e = .returned (.tuple #[.pointer none, .int .i64 1]) ∧ w = w' := by
  go_enter Try.func80, Try.ntmps80
  go_wp2
  go_ret2
  exact ⟨rfl, rfl⟩

theorem watch_fn {w0 w : World} {m : Hp} {F : HP} (h : Sat w0 w F) (K : Knows m F) (n : Int) {wb g off c : Nat} {cur : Array Value} {W : List Int}
    (hm : (W = [] ∧ m wb = some (.cells #[.slice none 0 0] 48 (0, 0))) ∨ (m wb = some (.cells #[.slice (some ⟨g, off, none⟩) W.length c] 48 (0, 0)) ∧ m g = some (.cells cur 3 (0, 0)) ∧ (cur.toList.drop off).take W.length = W.map ival ∧ W.length ≤ c ∧ c ≤ maxLen ∧ W.length ≤ 1000000000)) :
    Calls Try.prog 108 #[.int .i64 n, .pointer (some ⟨wb, 0, none⟩)] w fun e w' => e = .returned (.bool (decide (n ∈ W))) ∧ w = w' := by
  have hA : ∃ a c, w.cell? ⟨wb, 0, none⟩ = some (.slice a W.length c) ∧ Calls Try.prog 73 #[.slice a W.length c, .int .i64 n] w fun e w' => e = .returned (.bool (decide (n ∈ W))) ∧ w = w' := by
    rcases hm with ⟨rfl, h1⟩ | ⟨h1, h2, h3, h4, h5, h6⟩
    · refine ⟨none, 0, ?_, contains_cells n (fun k hk => by simp at hk) ⟨Nat.le_refl _, Nat.zero_le _⟩ rfl (by simp)⟩
      have := h.knows K h1
      simp [World.cell?, this]
    · refine ⟨some ⟨g, off, none⟩, c, ?_, contains_cells n (fun k hk => ?_) ⟨h4, h5⟩ rfl h6⟩
      · have := h.knows K h1
        simp [World.cell?, this]
      · refine ⟨_, List.getElem?_eq_getElem hk, g, off, rfl, ?_⟩
        have := h.knows K h2
        have e := congrArg (fun l : List Value => l[k]?) h3
        simp only [List.getElem?_map, List.getElem?_take_of_lt hk, List.getElem?_eq_getElem hk, List.getElem?_drop, Array.getElem?_toList] at e
        simp [World.cell?, this, e, ival]
  obtain ⟨a, c', hc, hC⟩ := hA
  have HC := Lib.hid hC
  clear hC hm
  generalize decide (n ∈ W) = r at *
  go_enter Try.func108, Try.ntmps108
  go_wp2_with fail
  refine HC.out.mono ?_
  rintro e w' ⟨rfl, rfl⟩
  go_wp2_with fail
  go_ret
  exact ⟨rfl, rfl⟩
theorem heap_touch {w0 w : World} {m : Hp} {p : Nat} {A : AHeap} {F : HP} {pb mb : Nat} {O : List (Int × Nat × AObj)} {qa : Option Addr} {qc : Nat} {ba : Option Addr} {bc : Nat} {fa : Option Addr} {fc : Nat} {fv : Value}
    (op : Opened w0 w m p A F pb mb O qa qc ba bc fa fc fv) (K : Knows m F) (n : Int) :
    Calls Try.prog 76 #[.pointer (some ⟨p, 0, none⟩), .int .i64 n] w fun e w' => e = .returned (.tuple #[]) ∧ Opened w0 w' m p (A.touch n) F pb mb O qa qc ba bc fa fc fv := by
  have c6 : w.cell? ⟨p, 6, none⟩ = some fv := op.hs.cell 6 rfl
  have c7 : w.cell? ⟨p, 7, none⟩ = some (.bool A.touched) := op.hs.cell 7 rfl
  have f7 := op.hs.free 7
  have hfin : ∀ (b : Bool), b = (A.touched || decide (n ∈ A.watch)) → Opened w0 (w.setCell ⟨p, 7, none⟩ (.bool b)) m p (A.touch n) F pb mb O qa qc ba bc fa fc fv := by
    rintro b rfl
    exact ⟨op.ho, op.ht, op.hw, op.hs.store (b := p) (i := 7) _⟩
  cases ht : A.touched with
  | true =>
    rw [ht] at c7 hfin
    have hf := hfin true (by simp)
    go_enter Try.func76, Try.ntmps76
    go_wp2
    go_end0
    exact ⟨rfl, hf⟩
  | false =>
    rw [ht] at c7 hfin
    rcases op.hw with ⟨rfl, hW⟩ | hm
    · have hf := hfin false (by rw [hW]; simp)
      go_enter Try.func76, Try.ntmps76
      go_wp2
      go_end0
      exact ⟨rfl, hf⟩
    · rcases hm with hm | ⟨wb, g, off, c, cur, rfl, hm⟩
      · exact hm.elim
      have hwat := watch_fn (op.hs.drop.drop.drop.drop.drop.drop.drop) K n hm
      have hf := hfin (decide (n ∈ A.watch)) (by simp)
      have HW := Lib.hid hwat
      clear hm hwat hfin
      generalize decide (n ∈ A.watch) = r at *
      go_enter Try.func76, Try.ntmps76
      go_wp2_with fail
      refine HW.out.mono ?_
      rintro e w' ⟨rfl, rfl⟩
      go_wp2_with fail
      go_end0
      exact ⟨rfl, hf⟩

set_option maxHeartbeats 2000000 in
theorem heap_there {w0 w : World} {m : Hp} {p : Nat} {A : AHeap} {F : HP} {pb mb : Nat} {O : List (Int × Nat × AObj)} {qa : Option Addr} {qc : Nat} {ba : Option Addr} {bc : Nat} {fa : Option Addr} {fc : Nat} {fv : Value}
    (op0 : Opened w0 w m p A F pb mb O qa qc ba bc fa fc fv) (v : AVal) :
    Calls Try.prog 96 #[.pointer (some ⟨p, 0, none⟩), .agg #[.int .i64 v.kind, .int .i64 v.n]] w fun e w' => e = .returned (.bool (thereV A v)) ∧ Opened w0 w' m p A F pb mb O qa qc ba bc fa fc fv := by
  obtain ⟨k, n⟩ := v
  have hb := (op0.alloc (.cells #[.int .i64 k, .int .i64 n] 28)).front
  have c0 : ∀ {w' G}, Sat w0 w' (pt w.heap.size (.cells #[.int .i64 k, .int .i64 n] 28) * G) → w'.cell? ⟨w.heap.size, 0, none⟩ = some (.int .i64 k) := fun hh => Sat.cell (T := 28) (cs := #[.int .i64 k, .int .i64 n]) hh 0 rfl
  have c1 : ∀ {w' G}, Sat w0 w' (pt w.heap.size (.cells #[.int .i64 k, .int .i64 n] 28) * G) → w'.cell? ⟨w.heap.size, 1, none⟩ = some (.int .i64 n) := fun hh => Sat.cell (T := 28) (cs := #[.int .i64 k, .int .i64 n]) hh 1 rfl
  cases hm : mayV ⟨k, n⟩ with
  | false =>
    have e : thereV A ⟨k, n⟩ = false := by simp [thereV, hm]
    rw [e]
    have hM := val_May ⟨k, n⟩ hb
    rw [hm] at hM
    have HM := Lib.hid hM
    clear e hm hM
    go_enter Try.func96, Try.ntmps96
    go_wp2_with (go_at_call 133; refine HM.out.mono ?_; rintro e w' ⟨rfl, h1⟩)
    go_ret
    exact ⟨rfl, op0.to h1.drop⟩
  | true =>
    have hM := val_May ⟨k, n⟩ hb
    rw [hm] at hM
    have HM := Lib.hid hM
    by_cases k0 : k = 0
    · have e : thereV A ⟨k, n⟩ = false := by simp [thereV, k0]
      rw [e]
      subst k0
      clear e hm hM
      go_enter Try.func96, Try.ntmps96
      go_wp2_with (go_at_call 133; refine HM.out.mono ?_; rintro e w' ⟨rfl, h1⟩; have d0 := c0 h1)
      go_ret
      exact ⟨rfl, op0.to h1.drop⟩
    · have hk0 : (k == 0) = false := by simpa using k0
      go_enter Try.func96, Try.ntmps96
      go_wp2_with (go_at_call 133; refine HM.out.mono ?_; rintro e w' ⟨rfl, h1⟩; have d0 := c0 h1)
      have d1 := c1 h1
      have op := op0.back h1
      have x1 : w'.cell? ⟨p, 1, none⟩ = some (.map (some mb)) := op.hs.cell 1 rfl
      have op' := op.drew
      have hl := op'.look n
      have hres : thereV A ⟨k, n⟩ = (!refV ⟨k, n⟩ || match A.objs n with | some o => decide (o.kind = k) | none => false) := by
        unfold thereV; rw [hm]; simp [k0]
      have HRES := Lib.hid hres
      have hR : ∀ wx, Opened w0 wx m p A (pt w.heap.size (.cells #[.int .i64 k, .int .i64 n] 28) * F) pb mb O qa qc ba bc fa fc fv → Calls Try.prog 107 #[.agg #[.int .i64 k, .int .i64 n]] wx fun e w' => e = .returned (.bool (refV ⟨k, n⟩)) ∧ Opened w0 w' m p A (pt w.heap.size (.cells #[.int .i64 k, .int .i64 n] 28) * F) pb mb O qa qc ba bc fa fc fv :=
        fun wx hx => (val_Ref ⟨k, n⟩ hx.hs).mono fun _ _ ⟨e, h⟩ => ⟨e, hx.ho, hx.ht, hx.hw, h⟩
      clear hres hm hM HM
      generalize hbx : w.heap.size = bx at *
      clear hbx
      have hc0 : ∀ w', Opened w0 w' m p A (pt bx (.cells #[.int .i64 k, .int .i64 n] 28) * F) pb mb O qa qc ba bc fa fc fv → w'.cell? ⟨bx, 0, none⟩ = some (.int .i64 k) := fun w' hx => c0 hx.front
      have hc1 : ∀ w', Opened w0 w' m p A (pt bx (.cells #[.int .i64 k, .int .i64 n] 28) * F) pb mb O qa qc ba bc fa fc fv → w'.cell? ⟨bx, 1, none⟩ = some (.int .i64 n) := fun w' hx => c1 hx.front
      cases hr : refV ⟨k, n⟩ with
      | false =>
        rw [hr] at hR HRES
        have HR := Lib.hid hR
        clear hR hr
        cases hx : (oget O n).map fun x => (⟨x.1, 0, none⟩ : Addr) with
        | none =>
          rw [hx] at hl
          go_region
          go_wp2_with fail
          refine wp_region_qq (fun w' => Opened w0 w' m p A (pt bx (.cells #[.int .i64 k, .int .i64 n] 28) * F) pb mb O qa qc ba bc fa fc fv) (by kernel_rfl) (by kernel_rfl) op'.drew ?_
          iterate 17 (first
            | (refine QQ.skip (by rfl) ?_; simp only [Act.put, List.setIfInBounds_toArray, List.set_cons_zero, List.set_cons_succ])
            | (refine QQ.want (by rfl) ?_
               apply Exists.intro
               refine ⟨?_, ?_⟩
               · intro w hw
                 have hd0 := hc0 w hw
                 have hd1 := hc1 w hw
                 first
                   | (go_simp; done)
                   | (go_simp; rfl)
                   | (go_simp; exact HR.out _ hw)
               simp only [Act.put, List.setIfInBounds_toArray, List.set_cons_zero, List.set_cons_succ]))
          refine QQ.nil ?_
          intro w3 h3
          go_wp2_with fail
          go_ret
          exact ⟨by rw [HRES.out]; rfl, h3.unframe⟩
        | some ad =>
          rw [hx] at hl
          go_region
          go_wp2_with fail
          refine wp_region_qq (fun w' => Opened w0 w' m p A (pt bx (.cells #[.int .i64 k, .int .i64 n] 28) * F) pb mb O qa qc ba bc fa fc fv) (by kernel_rfl) (by kernel_rfl) op'.drew ?_
          iterate 17 (first
            | (refine QQ.skip (by rfl) ?_; simp only [Act.put, List.setIfInBounds_toArray, List.set_cons_zero, List.set_cons_succ])
            | (refine QQ.want (by rfl) ?_
               apply Exists.intro
               refine ⟨?_, ?_⟩
               · intro w hw
                 have hd0 := hc0 w hw
                 have hd1 := hc1 w hw
                 first
                   | (go_simp; done)
                   | (go_simp; rfl)
                   | (go_simp; exact HR.out _ hw)
               simp only [Act.put, List.setIfInBounds_toArray, List.set_cons_zero, List.set_cons_succ]))
          refine QQ.nil ?_
          intro w3 h3
          go_wp2_with fail
          go_ret
          exact ⟨by rw [HRES.out]; rfl, h3.unframe⟩
      | true =>
        rw [hr] at hR HRES
        have HR := Lib.hid hR
        clear hR hr
        cases ho : A.objs n with
        | none =>
          rw [op.no ho] at hl
          rw [ho] at HRES
          go_region
          go_wp2_with fail
          refine wp_region_qq (fun w' => Opened w0 w' m p A (pt bx (.cells #[.int .i64 k, .int .i64 n] 28) * F) pb mb O qa qc ba bc fa fc fv) (by kernel_rfl) (by kernel_rfl) op'.drew ?_
          iterate 17 (first
            | (refine QQ.skip (by rfl) ?_; simp only [Act.put, List.setIfInBounds_toArray, List.set_cons_zero, List.set_cons_succ])
            | (refine QQ.want (by rfl) ?_
               apply Exists.intro
               refine ⟨?_, ?_⟩
               · intro w hw
                 have hd0 := hc0 w hw
                 have hd1 := hc1 w hw
                 first
                   | (go_simp; done)
                   | (go_simp; rfl)
                   | (go_simp; exact HR.out _ hw)
               simp only [Act.put, List.setIfInBounds_toArray, List.set_cons_zero, List.set_cons_succ]))
          refine QQ.nil ?_
          intro w3 h3
          go_wp2_with fail
          go_ret
          exact ⟨by rw [HRES.out]; rfl, h3.unframe⟩
        | some o =>
          obtain ⟨b, l, r, eO, _, e3⟩ := op.obj ho
          rw [e3] at hl
          rw [ho] at HRES
          have hb0 : ∀ w', Opened w0 w' m p A (pt bx (.cells #[.int .i64 k, .int .i64 n] 28) * F) pb mb O qa qc ba bc fa fc fv → w'.cell? ⟨b, 0, none⟩ = some (.int .i64 o.kind) := fun w' hx => by
            obtain ⟨a, c, G, hG⟩ := hx.objCells eO
            exact hG.cell 0 rfl
          clear eO e3 ho
          by_cases hk : o.kind = k
          · have hk' : (o.kind == k) = true := by simpa using hk
            rw [show (match some o with | some o => decide (o.kind = k) | none => false) = true by simpa using hk] at HRES
            clear hk
            go_region
            go_wp2_with fail
            refine wp_region_qq (fun w' => Opened w0 w' m p A (pt bx (.cells #[.int .i64 k, .int .i64 n] 28) * F) pb mb O qa qc ba bc fa fc fv) (by kernel_rfl) (by kernel_rfl) op'.drew ?_
            iterate 17 (first
              | (refine QQ.skip (by rfl) ?_; simp only [Act.put, List.setIfInBounds_toArray, List.set_cons_zero, List.set_cons_succ])
              | (refine QQ.want (by rfl) ?_
                 apply Exists.intro
                 refine ⟨?_, ?_⟩
                 · intro w hw
                   have hd0 := hc0 w hw
                   have hd1 := hc1 w hw
                   have hd2 := hb0 w hw
                   first
                     | (go_simp; done)
                     | (go_simp; rfl)
                     | (go_simp; exact HR.out _ hw)
                 simp only [Act.put, List.setIfInBounds_toArray, List.set_cons_zero, List.set_cons_succ]))
            refine QQ.nil ?_
            intro w3 h3
            go_wp2_with fail
            go_ret
            exact ⟨by rw [HRES.out]; rfl, h3.unframe⟩
          · have hk' : (o.kind == k) = false := by simpa using hk
            rw [show (match some o with | some o => decide (o.kind = k) | none => false) = false by simpa using hk] at HRES
            clear hk
            go_region
            go_wp2_with fail
            refine wp_region_qq (fun w' => Opened w0 w' m p A (pt bx (.cells #[.int .i64 k, .int .i64 n] 28) * F) pb mb O qa qc ba bc fa fc fv) (by kernel_rfl) (by kernel_rfl) op'.drew ?_
            iterate 17 (first
              | (refine QQ.skip (by rfl) ?_; simp only [Act.put, List.setIfInBounds_toArray, List.set_cons_zero, List.set_cons_succ])
              | (refine QQ.want (by rfl) ?_
                 apply Exists.intro
                 refine ⟨?_, ?_⟩
                 · intro w hw
                   have hd0 := hc0 w hw
                   have hd1 := hc1 w hw
                   have hd2 := hb0 w hw
                   first
                     | (go_simp; done)
                     | (go_simp; rfl)
                     | (go_simp; exact HR.out _ hw)
                 simp only [Act.put, List.setIfInBounds_toArray, List.set_cons_zero, List.set_cons_succ]))
            refine QQ.nil ?_
            intro w3 h3
            go_wp2_with fail
            go_ret
            exact ⟨by rw [HRES.out]; rfl, h3.unframe⟩
end Go.Proofs.Ytkpcngcegipalaa.Tw
namespace Go.Proofs.Ytkpcngcegipalaa.Tw
set_option linter.unusedVariables false
set_option linter.unusedSimpArgs false
open Go Go.RowKit Go.MapKept

/-- the object whose Count may change -/
def cntO (A : AHeap) (v : AVal) : Option AObj := if refV v && thereV A v then (match A.objs v.n with | some o => if o.count = 0 then none else some o | none => none) else none
def cntE (A : AHeap) (v : AVal) : Int := if refV v && (cntO A v).isNone then 5 else 0

theorem heap_counted_nil (w : World) (v : AVal) {w0 : World} {F : HP} (h : Sat w0 w F) :
    Calls Try.prog 71 #[.pointer none, .agg #[.int .i64 v.kind, .int .i64 v.n]] w fun e w' => e = .returned (.tuple #[.pointer none, .int .i64 1]) ∧ Sat w0 w' F := by
  have h1 := (h.alloc (.cells #[.int .i64 v.kind, .int .i64 v.n] 28)).drop
  go_enter Try.func71, Try.ntmps71
  go_wp2
  go_ret2
  exact ⟨rfl, h1⟩

theorem heap_counted_no {w0 w : World} {m : Hp} {p : Nat} {A : AHeap} {F : HP} {pb mb : Nat} {O : List (Int × Nat × AObj)} {qa : Option Addr} {qc : Nat} {ba : Option Addr} {bc : Nat} {fa : Option Addr} {fc : Nat} {fv : Value}
    (op0 : Opened w0 w m p A F pb mb O qa qc ba bc fa fc fv) (v : AVal) (hc : cntO A v = none) :
    Calls Try.prog 71 #[.pointer (some ⟨p, 0, none⟩), .agg #[.int .i64 v.kind, .int .i64 v.n]] w fun e w' => e = .returned (.tuple #[.pointer none, .int .i64 (cntE A v)]) ∧ Opened w0 w' m p A F pb mb O qa qc ba bc fa fc fv := by
  obtain ⟨k, n⟩ := v
  have op := op0.alloc (.cells #[.int .i64 k, .int .i64 n] 28)
  generalize hbx : w.heap.size = bx at *
  have hR := val_Ref ⟨k, n⟩ op.hs
  have hx := op.box2
  have d0 := hx.1
  have d1 := hx.2
  clear hx
  cases hr : refV ⟨k, n⟩ with
  | false =>
    have e : cntE A ⟨k, n⟩ = 0 := by simp [cntE, hr]
    rw [e]
    rw [hr] at hR
    have HR := Lib.hid hR
    clear hR e hc hr
    go_enter Try.func71, Try.ntmps71
    try rw [hbx]
    go_wp2_with fail
    refine HR.out.mono ?_
    rintro e w1 ⟨rfl, h1⟩
    go_wp2_with fail
    go_ret2
    exact ⟨rfl, op0.to ((op.to h1).unframe).hs⟩
  | true =>
    have e : cntE A ⟨k, n⟩ = 5 := by simp [cntE, hr, hc]
    rw [e]
    rw [hr] at hR
    have HR := Lib.hid hR
    have HC := Lib.hid hc
    have HHR := Lib.hid hr
    clear hR e hc hr
    go_enter Try.func71, Try.ntmps71
    try rw [hbx]
    go_wp2_with fail
    refine HR.out.mono ?_
    rintro e w1 ⟨rfl, h1⟩
    have op1 := op.to h1
    have hx := op1.box2
    have d0 := hx.1
    have d1 := hx.2
    clear hx
    go_wp2_with fail
    have x1 : w1.cell? ⟨p, 1, none⟩ = some (.map (some mb)) := op1.hs.cell 1 rfl
    have op2 := op1.drew
    have hl := op2.look n
    have hT := heap_there op2 ⟨k, n⟩
    cases ht : thereV A ⟨k, n⟩ with
    | false =>
      rw [ht] at hT
      have HT := Lib.hid hT
      clear hT ht
      generalize (oget O n).map (fun x => (⟨x.1, 0, none⟩ : Addr)) = ad at hl
      go_region
      go_wp2_with fail
      refine HT.out.mono ?_
      rintro e w2 ⟨rfl, op3⟩
      clear hl x1
      go_wp2_with fail
      go_ret2
      exact ⟨rfl, op3.unframe⟩
    | true =>
      rw [ht] at hT
      have HT := Lib.hid hT
      have h2 := HC.out
      unfold cntO at h2
      rw [HHR.out, ht] at h2
      cases ho : A.objs n with
      | none => unfold thereV at ht; rw [ho, HHR.out] at ht; simp at ht
      | some o =>
        have hz : o.count = 0 := by
          simp [ho] at h2
          exact h2
        obtain ⟨b, l, r, eO, _, e3⟩ := op.obj ho
        rw [e3] at hl
        clear hT ht h2
        have hb1 : ∀ w', Opened w0 w' m p A (pt bx (.cells #[.int .i64 k, .int .i64 n] 28) * F) pb mb O qa qc ba bc fa fc fv → w'.cell? ⟨b, 1, none⟩ = some (.int .i64 0) := fun w' hx => by
          obtain ⟨a, c, G, hG⟩ := hx.objCells eO
          have := hG.cell 1 rfl
          rw [hz] at this
          exact this
        clear eO e3 ho hz
        go_region
        go_wp2_with fail
        refine HT.out.mono ?_
        rintro e w2 ⟨rfl, op3⟩
        have hb2 := hb1 w2 op3
        clear hl x1
        go_wp2_with fail
        go_ret2
        exact ⟨rfl, op3.unframe⟩

theorem heap_counted {w0 w : World} {m : Hp} {p : Nat} {A : AHeap} {F : HP} {pb mb : Nat} {O : List (Int × Nat × AObj)} {qa : Option Addr} {qc : Nat} {ba : Option Addr} {bc : Nat} {fa : Option Addr} {fc : Nat} {fv : Value}
    (op0 : Opened w0 w m p A F pb mb O qa qc ba bc fa fc fv) (K : Knows m F) (v : AVal) {b : Nat} {o : AObj} (hc : cntO A v = some o) (hob : oget O v.n = some (b, o)) :
    Calls Try.prog 71 #[.pointer (some ⟨p, 0, none⟩), .agg #[.int .i64 v.kind, .int .i64 v.n]] w fun e w' => e = .returned (.tuple #[.pointer (some ⟨b, 0, none⟩), .int .i64 0]) ∧ Opened w0 w' m p (A.touch v.n) F pb mb O qa qc ba bc fa fc fv := by
  obtain ⟨k, n⟩ := v
  have hcc : refV ⟨k, n⟩ = true ∧ thereV A ⟨k, n⟩ = true ∧ (o.count == 0) = false := by
    unfold cntO at hc
    cases h1 : refV ⟨k, n⟩ <;> cases h2 : thereV A ⟨k, n⟩ <;> rw [h1, h2] at hc <;> simp at hc
    refine ⟨rfl, rfl, ?_⟩
    split at hc
    · split at hc
      · cases hc
      · cases hc; simpa
    · cases hc
  obtain ⟨hr, ht, hz⟩ := hcc
  have op := op0.alloc (.cells #[.int .i64 k, .int .i64 n] 28)
  generalize hbx : w.heap.size = bx at *
  have hR := val_Ref ⟨k, n⟩ op.hs
  have hx := op.box2
  have d0 := hx.1
  have d1 := hx.2
  clear hx
  rw [hr] at hR
  have HR := Lib.hid hR
  obtain ⟨l, r, eO, _⟩ := oget_split hob
  have hb1 : ∀ w', Opened w0 w' m p A (pt bx (.cells #[.int .i64 k, .int .i64 n] 28) * F) pb mb O qa qc ba bc fa fc fv → w'.cell? ⟨b, 1, none⟩ = some (.int .i64 o.count) := fun w' hx => by
    obtain ⟨a, c, G, hG⟩ := hx.objCells eO
    exact hG.cell 1 rfl
  have hob' : (oget O n).map (fun x => (⟨x.1, 0, none⟩ : Addr)) = some ⟨b, 0, none⟩ := by rw [hob]; rfl
  clear hR hr hc eO hob
  go_enter Try.func71, Try.ntmps71
  try rw [hbx]
  go_wp2_with fail
  refine HR.out.mono ?_
  rintro e w1 ⟨rfl, h1⟩
  have op1 := op.to h1
  have hx := op1.box2
  have d0 := hx.1
  have d1 := hx.2
  clear hx
  go_wp2_with fail
  have x1 : w1.cell? ⟨p, 1, none⟩ = some (.map (some mb)) := op1.hs.cell 1 rfl
  have op2 := op1.drew
  have hl := op2.look n
  rw [hob'] at hl
  have hT := heap_there op2 ⟨k, n⟩
  rw [ht] at hT
  have HT := Lib.hid hT
  clear hT ht hob'
  go_region
  go_wp2_with fail
  refine HT.out.mono ?_
  rintro e w2 ⟨rfl, op3⟩
  have hb2 := hb1 w2 op3
  have hx := op3.box2
  have e0 := hx.1
  have e1 := hx.2
  clear hx hl x1 d0 d1
  go_wp2_with fail
  refine (heap_touch op3 K.left n).mono ?_
  rintro e w3 ⟨rfl, op4⟩
  go_wp2_with fail
  go_ret2
  exact ⟨rfl, op4.unframe⟩

/-- the object at block b, turned -/
theorem Opened.storeObj {w0 w : World} {m : Hp} {p : Nat} {A : AHeap} {F : HP} {pb mb : Nat} {O : List (Int × Nat × AObj)} {qa : Option Addr} {qc : Nat} {ba : Option Addr} {bc : Nat} {fa : Option Addr} {fc : Nat} {fv : Value} (op : Opened w0 w m p A F pb mb O qa qc ba bc fa fc fv) {l r : List (Int × Nat × AObj)} {n : Int} {b : Nat} {o o' : AObj} (e : O = l ++ (n, b, o) :: r) (hl : oget l n = none) (i : Nat) (v : Value) {kd ct mk : Int} {tx : ByteArray}
    (ho' : o' = { kind := kd, count := ct, slots := o.slots, text := tx, mark := mk })
    (he : ∀ a c, (#[.int .i64 o.kind, .int .i64 o.count, .slice a o.slots.length c, .string o.text, .int .i64 o.mark] : Array Value).setIfInBounds i v = #[.int .i64 kd, .int .i64 ct, .slice a o.slots.length c, .string tx, .int .i64 mk]) :
    Opened w0 (w.setCell ⟨b, i, none⟩ v) m p (A.upd n o') F pb mb (l ++ (n, b, o') :: r) qa qc ba bc fa fc fv := by
  refine op.setObj e hl fun G hG => ?_
  obtain ⟨a, c, h2⟩ := hG.openObj
  have h3 := h2.store (i := i) v
  rw [he a c] at h3
  subst ho'
  exact Sat.shutObj (a := a) (c := c) h3

def AHeap.keep (A : AHeap) (v : AVal) : AHeap := match cntO A v with | some o => (A.touch v.n).upd v.n { o with count := o.count + 1 } | none => A
theorem cntO_some {A : AHeap} {v : AVal} {o : AObj} (h : cntO A v = some o) : A.objs v.n = some o := by
  unfold cntO at h
  split at h
  · cases e : A.objs v.n with
    | none => rw [e] at h; cases h
    | some x => rw [e] at h; simp at h; rw [h.2]
  · cases h

theorem heap_Keep {w0 w : World} {m : Hp} {p : Nat} {A : AHeap} {F : HP} (h : Sat w0 w (heapR m p A * F)) (K : Knows m F) (v : AVal) (hB : ∀ o, cntO A v = some o → IntKind.i64.wrap (o.count + 1) = o.count + 1) :
    Calls Try.prog 59 #[.pointer (some ⟨p, 0, none⟩), .agg #[.int .i64 v.kind, .int .i64 v.n]] w fun e w' => e = .returned (.int .i64 (cntE A v)) ∧ Sat w0 w' (heapR m p (A.keep v) * F) := by
  obtain ⟨pb, mb, O, qa, qc, ba, bc, fa, fc, fv, op0⟩ := h.openHeap
  obtain ⟨k, n⟩ := v
  have op := op0.alloc (.cells #[.int .i64 k, .int .i64 n] 28)
  generalize hbx : w.heap.size = bx at *
  have hx := op.box2
  have d0 := hx.1
  have d1 := hx.2
  clear hx
  cases hc : cntO A ⟨k, n⟩ with
  | none =>
    have hC := heap_counted_no op ⟨k, n⟩ hc
    have ek : A.keep ⟨k, n⟩ = A := by unfold AHeap.keep; rw [hc]
    rw [ek]
    have HC := Lib.hid hC
    clear hC hc ek hB
    go_enter Try.func59, Try.ntmps59
    try rw [hbx]
    go_wp2_with fail
    refine HC.out.mono ?_
    rintro e w1 ⟨rfl, op1⟩
    clear HC
    go_wp2_with fail
    go_ret
    exact ⟨rfl, op1.unframe.shut⟩
  | some o =>
    have ho := cntO_some hc
    obtain ⟨b, l, r, eO, hl, e3⟩ := op.obj ho
    have hC := heap_counted op K.left ⟨k, n⟩ hc e3
    have hwr := hB o hc
    have ek : A.keep ⟨k, n⟩ = (A.touch n).upd n { o with count := o.count + 1 } := by unfold AHeap.keep; rw [hc]
    have ee : cntE A ⟨k, n⟩ = 0 := by unfold cntE; rw [hc]; simp
    rw [ek, ee]
    have HC := Lib.hid hC
    have HO := Lib.hid eO
    clear hC hc ek hB ee eO e3 ho
    go_enter Try.func59, Try.ntmps59
    try rw [hbx]
    go_wp2_with fail
    refine HC.out.mono ?_
    rintro e w1 ⟨rfl, op1⟩
    obtain ⟨a, c, G, hG⟩ := op1.objCells HO.out
    have hcell : w1.cell? ⟨b, 1, none⟩ = some (.int .i64 o.count) := hG.cell 1 rfl
    have hfree := hG.free 1
    have hfin := op1.storeObj HO.out hl 1 (.int .i64 (o.count + 1)) (o' := { o with count := o.count + 1 }) rfl (fun _ _ => rfl)
    clear HC hG
    go_wp2_with fail
    go_ret
    exact ⟨rfl, hfin.unframe.shut⟩
theorem heap_Keep_nil (w : World) (v : AVal) {w0 : World} {F : HP} (h : Sat w0 w F) :
    Calls Try.prog 59 #[.pointer none, .agg #[.int .i64 v.kind, .int .i64 v.n]] w fun e w' => e = .returned (.int .i64 1) ∧ Sat w0 w' F := by
  have h1 := h.alloc (.cells #[.int .i64 v.kind, .int .i64 v.n] 28)
  have d0 : (w.alloc (.cells #[.int .i64 v.kind, .int .i64 v.n] 28)).cell? ⟨w.heap.size, 0, none⟩ = some (.int .i64 v.kind) := Sat.cell (T := 28) (cs := #[.int .i64 v.kind, .int .i64 v.n]) h1 0 rfl
  have d1 : (w.alloc (.cells #[.int .i64 v.kind, .int .i64 v.n] 28)).cell? ⟨w.heap.size, 1, none⟩ = some (.int .i64 v.n) := Sat.cell (T := 28) (cs := #[.int .i64 v.kind, .int .i64 v.n]) h1 1 rfl
  have h2 := h1.drop
  go_enter Try.func59, Try.ntmps59
  go_wp2_with fail
  refine (heap_counted_nil _ v h2).mono ?_
  rintro e w1 ⟨rfl, h3⟩
  go_wp2_with fail
  go_ret
  exact ⟨rfl, h3⟩
end Go.Proofs.Ytkpcngcegipalaa.Tw
