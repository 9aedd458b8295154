/- The heap of cells: its plain model, and what holds of it in memory. No condition. -/
import Derived.Test.YtkpcngcegipalaaZPDw5
import Derived.Test.YtkpcngcegipalaaZPDw9
import Derived.Test.YtkpcngcegipalaaZPDw4
namespace Go.Proofs.Ytkpcngcegipalaa.Tw
set_option linter.unusedVariables false
set_option linter.unusedSimpArgs false
open Go Go.RowKit Go.MapKept

structure AHeap where
  T : List Bool
  objs : Int → Option AObj
  queue : List Int
  buf : List Int
  fins : List (Int × Int)
  marks : Int
  watch : List Int
  touched : Bool

def OL : Type := List (Int × Nat × AObj)
def oget (O : List (Int × Nat × AObj)) (n : Int) : Option (Nat × AObj) := (O.find? fun x => decide (x.1 = n)).map (·.2)
def omap (O : List (Int × Nat × AObj)) : List (Int × Value) := O.map fun x => (x.1, .pointer (some ⟨x.2.1, 0, none⟩))
/-- the object o at block b -/
def objR (b : Nat) (o : AObj) : HP := fun h => ∃ a c, (row b 39 #[.int .i64 o.kind, .int .i64 o.count, .slice a o.slots.length c, .string o.text, .int .i64 o.mark] * slc 28 2 a o.slots.length c (avcells o.slots)) h
def objsR : List (Int × Nat × AObj) → HP
  | [] => 1
  | x :: r => objR x.2.1 x.2.2 * objsR r
theorem objsR_append (l r : List (Int × Nat × AObj)) : objsR (l ++ r) = objsR l * objsR r := by
  induction l with
  | nil => rw [List.nil_append, objsR, one_mul]
  | cons x l ih => rw [List.cons_append, objsR, ih, objsR, mul_assoc]
theorem objsR_split (l r : List (Int × Nat × AObj)) (x : Int × Nat × AObj) : objsR (l ++ x :: r) = objR x.2.1 x.2.2 * objsR (l ++ r) := by
  rw [objsR_append, objsR, objsR_append, mul_left_comm]
theorem oget_split {O : List (Int × Nat × AObj)} {n : Int} {b : Nat} {o : AObj} (h : oget O n = some (b, o)) : ∃ l r, O = l ++ (n, b, o) :: r ∧ oget l n = none := by
  induction O with
  | nil => simp [oget] at h
  | cons x O ih =>
    by_cases e : x.1 = n
    · simp [oget, e] at h
      refine ⟨[], O, ?_, rfl⟩
      obtain ⟨x1, x2⟩ := x
      simp at e h
      simp [e, h]
    · have h' : oget O n = some (b, o) := by simpa [oget, e] using h
      obtain ⟨l, r, e1, e2⟩ := ih h'
      refine ⟨x :: l, r, by rw [e1]; rfl, ?_⟩
      simpa [oget, e] using e2
theorem mget_omap (O : List (Int × Nat × AObj)) (n : Int) : mget (omap O) n = (oget O n).map fun x => .pointer (some ⟨x.1, 0, none⟩) := by
  induction O with
  | nil => rfl
  | cons x O ih =>
    by_cases e : x.1 = n
    · simp [mget, omap, oget, e]
    · simpa [mget, omap, oget, e] using ih
theorem oget_set {l r : List (Int × Nat × AObj)} {n : Int} {b : Nat} {o o' : AObj} (hl : oget l n = none) (m : Int) :
    oget (l ++ (n, b, o') :: r) m = if m = n then some (b, o') else oget (l ++ (n, b, o) :: r) m := by
  unfold oget at hl ⊢
  rw [List.find?_append, List.find?_append]
  by_cases e : m = n
  · subst e
    rw [Option.map_eq_none_iff] at hl
    rw [hl]; simp
  · have : ¬ n = m := fun q => e q.symm
    simp [this, e]
theorem omap_set (l r : List (Int × Nat × AObj)) (n : Int) (b : Nat) (o o' : AObj) : omap (l ++ (n, b, o') :: r) = omap (l ++ (n, b, o) :: r) := by simp [omap]

/-- what is known of blocks that nobody writes any more -/
def Knows (m : Hp) (F : HP) : Prop := ∀ h, F h → ∀ k o, m k = some o → h k = some o
theorem Knows.none (F : HP) : Knows (fun _ => Option.none) F := fun _ _ _ _ e => by cases e
theorem Knows.left {m : Hp} {G F : HP} (h : Knows m F) : Knows m (G * F) := by
  rintro x ⟨a, b, d, rfl, p, q⟩ k o e
  have := h b q k o e
  unfold join
  rcases d k with e' | e'
  · rw [e']; exact this
  · rw [e'] at this; cases this
theorem Knows.right {m : Hp} {G F : HP} (h : Knows m G) : Knows m (G * F) := by rw [mul_comm]; exact h.left
theorem Knows.pt (b : Nat) (o : Obj) : Knows (fun k => if k = b then some o else Option.none) (pt b o) := by
  rintro h rfl k o' e
  exact e
theorem Knows.pt2 {b c : Nat} {o o' : Obj} : Knows (fun k => if k = b then some o else if k = c then some o' else Option.none) (Tw.pt b o * Tw.pt c o') := by
  rintro x ⟨a, d, dj, rfl, rfl, rfl⟩ k v e
  simp only [join] at *
  by_cases h1 : k = b
  · simp [h1] at e ⊢; exact e
  · simp [h1] at e ⊢; exact e
theorem Sat.knows {w0 w : World} {F : HP} {m : Hp} (h : Sat w0 w F) (K : Knows m F) {k : Nat} {o : Obj} (e : m k = some o) : w.heap[k]? = some o := by
  obtain ⟨_, x, p, r⟩ := h
  exact r k o (K x p k o e)

def finCells (l : List (Int × Int)) : List Value := l.flatMap fun x => [.int .i64 x.1, .int .i64 x.2]
/-- the function value that asks whether a number is watched -/
def watchOK (m : Hp) (fv : Value) (W : List Int) : Prop :=
  (fv = .func (.func 70) #[] #[] ∧ W = []) ∨ False
  ∨ ∃ wb g off c cur, fv = .func (.func 108) #[] #[.pointer (some ⟨wb, 0, none⟩)] ∧ ((W = [] ∧ m wb = some (.cells #[.slice none 0 0] 48 (0, 0))) ∨ (m wb = some (.cells #[.slice (some ⟨g, off, none⟩) W.length c] 48 (0, 0)) ∧ m g = some (.cells cur 3 (0, 0)) ∧ (cur.toList.drop off).take W.length = W.map ival ∧ W.length ≤ c ∧ c ≤ maxLen ∧ W.length ≤ 1000000000))

def heapCells (pb mb : Nat) (A : AHeap) (qa : Option Addr) (qc : Nat) (ba : Option Addr) (bc : Nat) (fa : Option Addr) (fc : Nat) (fv : Value) : Array Value :=
  #[.pointer (some ⟨pb, 0, none⟩), .map (some mb), .slice qa A.queue.length qc, .slice ba A.buf.length bc, .slice fa A.fins.length fc, .int .i64 A.marks, fv, .bool A.touched]
/-- the heap A at block p -/
def heapR (m : Hp) (p : Nat) (A : AHeap) : HP := fun h => ∃ pb mb O qa qc ba bc fa fc fv,
  ((∀ n, (oget O n).map (·.2) = A.objs n) ∧ (∀ n, (A.objs n).isSome = tk A.T n) ∧ watchOK m fv A.watch) ∧
  (row p 90 (heapCells pb mb A qa qc ba bc fa fc fv) * (poolR pb A.T * (mapR (.int .i64) (Value.int .i64) mb (omap O) * (objsR O * (slc 3 1 qa A.queue.length qc (A.queue.map ival) * (slc 3 1 ba A.buf.length bc (A.buf.map ival) * slc 135 2 fa A.fins.length fc (finCells A.fins))))))) h

structure Opened (w0 w : World) (m : Hp) (p : Nat) (A : AHeap) (F : HP) (pb mb : Nat) (O : List (Int × Nat × AObj)) (qa : Option Addr) (qc : Nat) (ba : Option Addr) (bc : Nat) (fa : Option Addr) (fc : Nat) (fv : Value) : Prop where
  ho : ∀ n, (oget O n).map (·.2) = A.objs n
  ht : ∀ n, (A.objs n).isSome = tk A.T n
  hw : watchOK m fv A.watch
  hs : Sat w0 w (row p 90 (heapCells pb mb A qa qc ba bc fa fc fv) * (poolR pb A.T * (mapR (.int .i64) (Value.int .i64) mb (omap O) * (objsR O * (slc 3 1 qa A.queue.length qc (A.queue.map ival) * (slc 3 1 ba A.buf.length bc (A.buf.map ival) * (slc 135 2 fa A.fins.length fc (finCells A.fins) * F)))))))

theorem star7 (A B C D E G I F : HP) : A * (B * (C * (D * (E * (G * I))))) * F = A * (B * (C * (D * (E * (G * (I * F)))))) := by simp only [mul_assoc]
theorem Sat.openHeap {w0 w : World} {m : Hp} {p : Nat} {A : AHeap} {F : HP} (h : Sat w0 w (heapR m p A * F)) : ∃ pb mb O qa qc ba bc fa fc fv, Opened w0 w m p A F pb mb O qa qc ba bc fa fc fv := by
  obtain ⟨h1, x, ⟨y, z, dj, rfl, ⟨pb, mb, O, qa, qc, ba, bc, fa, fc, fv, ⟨e1, e2, e3⟩, hp⟩, hq⟩, r⟩ := h
  exact ⟨pb, mb, O, qa, qc, ba, bc, fa, fc, fv, e1, e2, e3, Sat.cast ⟨h1, _, ⟨y, z, dj, rfl, hp, hq⟩, r⟩ (star7 _ _ _ _ _ _ _ _)⟩
theorem Opened.shut {w0 w : World} {m : Hp} {p : Nat} {A : AHeap} {F : HP} {pb mb : Nat} {O : List (Int × Nat × AObj)} {qa : Option Addr} {qc : Nat} {ba : Option Addr} {bc : Nat} {fa : Option Addr} {fc : Nat} {fv : Value}
    (h : Opened w0 w m p A F pb mb O qa qc ba bc fa fc fv) : Sat w0 w (heapR m p A * F) := by
  have := h.hs
  rw [← star7] at this
  exact this.mono_l fun _ q => ⟨pb, mb, O, qa, qc, ba, bc, fa, fc, fv, ⟨h.ho, h.ht, h.hw⟩, q⟩
/-- an object, taken out of the heap -/
theorem Sat.openObj {w0 w : World} {b : Nat} {o : AObj} {F : HP} (h : Sat w0 w (objR b o * F)) : ∃ a c, Sat w0 w (row b 39 #[.int .i64 o.kind, .int .i64 o.count, .slice a o.slots.length c, .string o.text, .int .i64 o.mark] * (slc 28 2 a o.slots.length c (avcells o.slots) * F)) := by
  obtain ⟨h1, x, ⟨y, z, dj, rfl, ⟨a, c, hp⟩, hq⟩, r⟩ := h
  exact ⟨a, c, Sat.cast ⟨h1, _, ⟨y, z, dj, rfl, hp, hq⟩, r⟩ (mul_assoc _ _ _)⟩
theorem Sat.shutObj {w0 w : World} {b : Nat} {o : AObj} {F : HP} {a : Option Addr} {c : Nat} (h : Sat w0 w (row b 39 #[.int .i64 o.kind, .int .i64 o.count, .slice a o.slots.length c, .string o.text, .int .i64 o.mark] * (slc 28 2 a o.slots.length c (avcells o.slots) * F))) : Sat w0 w (objR b o * F) := by
  rw [← mul_assoc] at h
  exact h.mono_l fun _ hq => ⟨a, c, hq⟩

/-- all sizes and numbers are at most B -/
structure Small (A : AHeap) (B : Int) : Prop where
  t : (A.T.length : Int) ≤ B
  q : (A.queue.length : Int) ≤ B
  b : (A.buf.length : Int) ≤ B
  f : (A.fins.length : Int) ≤ B
  m : 0 ≤ A.marks ∧ A.marks ≤ B
  c : ∀ n o, A.objs n = some o → 0 ≤ o.count ∧ o.count ≤ B ∧ (o.slots.length : Int) ≤ B
end Go.Proofs.Ytkpcngcegipalaa.Tw
