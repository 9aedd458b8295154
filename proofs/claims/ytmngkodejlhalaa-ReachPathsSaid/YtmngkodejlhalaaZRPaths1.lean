/- A small separation logic over worlds: what a world holds, block by block, with a frame; allocation, store, draw. No condition. -/
import Derived.Test.YtmngkodejlhalaaRows
import Derived.WalkKit
import Derived.WalkSpells
import Derived.WalkLawsBesides
import Derived.Laws.AppendOwn
import Derived.Lib.Hide
namespace Go.Proofs.Ytmngkodejlhalaa.Tw
set_option linter.unusedVariables false
set_option linter.unusedSimpArgs false
open Go Go.RowKit

abbrev Hp := Nat → Option Obj
def HP : Type := Hp → Prop

def Disj (a b : Hp) : Prop := ∀ k, a k = none ∨ b k = none
def join (a b : Hp) : Hp := fun k => (a k).or (b k)

def star (P Q : HP) : HP := fun h => ∃ a b, Disj a b ∧ h = join a b ∧ P a ∧ Q b
def emp : HP := fun h => ∀ k, h k = none
instance : Mul HP := ⟨star⟩
instance : One HP := ⟨emp⟩
def ex {α : Type} (P : α → HP) : HP := fun h => ∃ x, P x h
def wh (p : Prop) (P : HP) : HP := fun h => p ∧ P h
def pt (b : Nat) (o : Obj) : HP := fun h => h = fun k => if k = b then some o else none
/-- a row of cells, none of them frozen -/
def row (b : Nat) (T : TypeId) (cs : Array Value) : HP := pt b (.cells cs T (0, 0))

theorem mul_def (P Q : HP) (h : Hp) : (P * Q) h = ∃ a b, Disj a b ∧ h = join a b ∧ P a ∧ Q b := rfl

theorem disj_comm {a b : Hp} (h : Disj a b) : Disj b a := fun k => (h k).symm
theorem join_comm {a b : Hp} (h : Disj a b) : join a b = join b a := by
  funext k; unfold join; rcases h k with e | e <;> simp [e]
theorem join_assoc (a b c : Hp) : join (join a b) c = join a (join b c) := by
  funext k; unfold join; cases a k <;> simp
theorem disj_join_left {a b c : Hp} : Disj (join a b) c ↔ Disj a c ∧ Disj b c := by
  unfold Disj join
  constructor
  · intro h
    exact ⟨fun k => by have := h k; cases ha : a k <;> simp_all, fun k => by have := h k; cases ha : a k <;> cases hb : b k <;> simp_all⟩
  · rintro ⟨h1, h2⟩ k
    have := h1 k; have := h2 k; cases ha : a k <;> cases hb : b k <;> simp_all
theorem disj_join_right {a b c : Hp} : Disj a (join b c) ↔ Disj a b ∧ Disj a c :=
  ⟨fun h => let ⟨x, y⟩ := disj_join_left.1 (disj_comm h); ⟨disj_comm x, disj_comm y⟩, fun ⟨x, y⟩ => disj_comm (disj_join_left.2 ⟨disj_comm x, disj_comm y⟩)⟩

theorem mul_comm (P Q : HP) : P * Q = Q * P := by
  funext h; apply propext
  constructor <;> (rintro ⟨a, b, d, rfl, p, q⟩; exact ⟨b, a, disj_comm d, join_comm d, q, p⟩)
theorem mul_assoc (P Q R : HP) : P * Q * R = P * (Q * R) := by
  funext h; apply propext
  constructor
  · rintro ⟨ab, c, d, rfl, ⟨a, b, d', rfl, p, q⟩, r⟩
    obtain ⟨h1, h2⟩ := disj_join_left.1 d
    exact ⟨a, join b c, disj_join_right.2 ⟨d', h1⟩, join_assoc _ _ _, p, b, c, h2, rfl, q, r⟩
  · rintro ⟨a, bc, d, rfl, p, b, c, d', rfl, q, r⟩
    obtain ⟨h1, h2⟩ := disj_join_right.1 d
    exact ⟨join a b, c, disj_join_left.2 ⟨h2, d'⟩, (join_assoc _ _ _).symm, ⟨a, b, h1, rfl, p, q⟩, r⟩
theorem mul_left_comm (P Q R : HP) : P * (Q * R) = Q * (P * R) := by rw [← mul_assoc, mul_comm P Q, mul_assoc]
instance : Std.Associative (α := HP) (· * ·) := ⟨mul_assoc⟩
instance : Std.Commutative (α := HP) (· * ·) := ⟨mul_comm⟩
theorem one_mul (P : HP) : 1 * P = P := by
  funext h; apply propext
  constructor
  · rintro ⟨a, b, _, rfl, p, q⟩
    have : join a b = b := by funext k; unfold join; rw [show a k = none from p k]; rfl
    rw [this]; exact q
  · intro p
    exact ⟨fun _ => none, h, fun _ => .inl rfl, by funext k; rfl, fun _ => rfl, p⟩
theorem mul_one (P : HP) : P * 1 = P := by rw [mul_comm, one_mul]
theorem ex_mul {α : Type} (P : α → HP) (Q : HP) : ex P * Q = ex fun x => P x * Q := by
  funext h; apply propext
  constructor
  · rintro ⟨a, b, d, e, ⟨x, p⟩, q⟩; exact ⟨x, a, b, d, e, p, q⟩
  · rintro ⟨x, a, b, d, e, p, q⟩; exact ⟨a, b, d, e, ⟨x, p⟩, q⟩
theorem wh_mul (p : Prop) (P Q : HP) : wh p P * Q = wh p (P * Q) := by
  funext h; apply propext
  constructor
  · rintro ⟨a, b, d, e, ⟨x, p⟩, q⟩; exact ⟨x, a, b, d, e, p, q⟩
  · rintro ⟨x, a, b, d, e, p, q⟩; exact ⟨a, b, d, e, ⟨x, p⟩, q⟩

/-- the world w, come from w0, holds P (and maybe more) -/
def Sat (w0 w : World) (P : HP) : Prop :=
  (w.os = w0.os ∧ w.output = w0.output ∧ w.tape = w0.tape ∧ w0.heap.size ≤ w.heap.size) ∧ ∃ h, P h ∧ ∀ k o, h k = some o → w.heap[k]? = some o
/-- all blocks that w0 had, as they were -/
def Old (w0 : World) : HP := fun h => ∀ k, k < w0.heap.size → h k = w0.heap[k]?

variable {w0 w : World} {P Q F : HP}

theorem Sat.cast (h : Sat w0 w P) (e : P = Q) : Sat w0 w Q := e ▸ h
theorem Sat.mono (h : Sat w0 w P) (e : ∀ x, P x → Q x) : Sat w0 w Q := ⟨h.1, let ⟨x, p, q⟩ := h.2; ⟨x, e x p, q⟩⟩
theorem Sat.mono_l {P' : HP} (h : Sat w0 w (P * F)) (e : ∀ x, P x → P' x) : Sat w0 w (P' * F) :=
  h.mono fun _ ⟨a, b, d, j, p, q⟩ => ⟨a, b, d, j, e a p, q⟩
theorem Sat.drop (h : Sat w0 w (P * F)) : Sat w0 w F := by
  obtain ⟨h1, x, ⟨a, b, d, rfl, p, q⟩, r⟩ := h
  refine ⟨h1, b, q, fun k o e => r k o ?_⟩
  unfold join; rcases d k with e' | e'
  · rw [e']; exact e
  · rw [e'] at e; cases e
theorem Sat.drop_r (h : Sat w0 w (P * F)) : Sat w0 w P := Sat.drop (P := F) (by rw [mul_comm]; exact h)
theorem Sat.drop2 {G : HP} (h : Sat w0 w (P * (G * F))) : Sat w0 w (P * F) := Sat.drop (P := G) (by rw [mul_left_comm]; exact h)
theorem Sat.elim_ex {α : Type} {P : α → HP} (h : Sat w0 w (ex P * F)) : ∃ x, Sat w0 w (P x * F) := by
  rw [ex_mul] at h
  obtain ⟨h1, y, ⟨x, p⟩, r⟩ := h
  exact ⟨x, h1, y, p, r⟩
theorem Sat.elim_wh {p : Prop} (h : Sat w0 w (wh p P * F)) : p ∧ Sat w0 w (P * F) := by
  rw [wh_mul] at h
  obtain ⟨h1, y, ⟨x, p⟩, r⟩ := h
  exact ⟨x, h1, y, p, r⟩
theorem Sat.intro_ex {α : Type} {P : α → HP} (x : α) (h : Sat w0 w (P x * F)) : Sat w0 w (ex P * F) := h.mono_l fun _ p => ⟨x, p⟩
theorem Sat.intro_wh {p : Prop} (hp : p) (h : Sat w0 w (P * F)) : Sat w0 w (wh p P * F) := h.mono_l fun _ q => ⟨hp, q⟩

theorem Sat.refl (w0 : World) : Sat w0 w0 (Old w0) := ⟨⟨rfl, rfl, rfl, Nat.le_refl _⟩, fun k => w0.heap[k]?, fun _ _ => rfl, fun _ _ e => e⟩
theorem Sat.drew (h : Sat w0 w P) : Sat w0 w.drew P := h
theorem Sat.drewN (h : Sat w0 w P) (n : Nat) : Sat w0 (w.drewN n) P := h
theorem Sat.drawn {n : Nat} (h : Sat w0 w P) : Sat w0 { w with drawn := n } P := h

theorem Sat.blk {b : Nat} {o : Obj} (h : Sat w0 w (pt b o * F)) : w.heap[b]? = some o := by
  obtain ⟨_, x, ⟨a, c, d, rfl, rfl, q⟩, r⟩ := h
  exact r b o (by simp [join])
theorem Sat.cells {b : Nat} {T : TypeId} {cs : Array Value} (h : Sat w0 w (row b T cs * F)) : w.heap[b]? = some (.cells cs T (0, 0)) := h.blk
theorem Sat.lt {b : Nat} {o : Obj} (h : Sat w0 w (pt b o * F)) : b < w.heap.size := (Array.getElem?_eq_some_iff.1 h.blk).1
theorem Sat.cell {b : Nat} {T : TypeId} {cs : Array Value} (h : Sat w0 w (row b T cs * F)) (i : Nat) {v : Value} (e : cs[i]? = some v) : w.cell? ⟨b, i, none⟩ = some v := by
  simp [World.cell?, h.cells, e]
theorem Sat.free {b : Nat} {T : TypeId} {cs : Array Value} (h : Sat w0 w (row b T cs * F)) (i : Nat) : w.frozen? ⟨b, i, none⟩ = false := by
  simp [World.frozen?, h.cells]

theorem Sat.old (h : Sat w0 w (Old w0 * F)) {k : Nat} (hk : k < w0.heap.size) : w.heap[k]? = w0.heap[k]? := by
  obtain ⟨_, x, ⟨a, c, d, rfl, p, q⟩, r⟩ := h
  have e := p k hk
  rw [Array.getElem?_eq_getElem hk] at e ⊢
  exact r k _ (by simp [join, e])
theorem Sat.below (h : Sat w0 w (Old w0 * F)) : Below w0.heap.size w0 w := ⟨h.1.1, h.1.2.2.1, h.1.2.1, h.1.2.2.2, fun _ hk => h.old hk⟩
theorem Sat.oldCell (h : Sat w0 w (Old w0 * F)) {a : Addr} {v : Value} (hv : w0.cell? a = some v) : w.cell? a = some v :=
  (World.cell?_of_block (h.old (World.block_lt_of_cell? w0 a hv))).trans hv
/-- two blocks of one holding are two -/
theorem Sat.ne {b c : Nat} {o o' : Obj} (h : Sat w0 w (pt b o * (pt c o' * F))) : b ≠ c := by
  obtain ⟨_, x, ⟨a, y, d, rfl, rfl, ⟨a', y', d', rfl, rfl, _⟩⟩, r⟩ := h
  rintro rfl
  have := d b
  simp [join] at this

theorem Sat.alloc (h : Sat w0 w P) (o : Obj) : Sat w0 (w.alloc o) (pt w.heap.size o * P) := by
  obtain ⟨⟨h1, h2, h3, h4⟩, x, p, r⟩ := h
  have hx : x w.heap.size = none := by
    cases e : x w.heap.size with
    | none => rfl
    | some o' => have := r _ _ e; simp at this
  refine ⟨⟨h1, h2, h3, by show _ ≤ (w.heap.push o).size; rw [Array.size_push]; omega⟩, _, ⟨_, x, ?_, rfl, rfl, p⟩, ?_⟩
  · intro k
    by_cases e : k = w.heap.size
    · subst e; exact .inr hx
    · left; simp [e]
  · intro k o' e
    simp only [join] at e
    by_cases ek : k = w.heap.size
    · subst ek; simp at e; subst e; show (w.heap.push o)[w.heap.size]? = _; simp
    · simp only [ek, if_false, Option.none_or] at e
      have := r _ _ e
      show (w.heap.push o)[k]? = _
      rw [Array.getElem?_push, if_neg ek]; exact this

theorem Sat.setObj {b : Nat} {o : Obj} (h : Sat w0 w (pt b o * F)) (o' : Obj) : Sat w0 { w with heap := w.heap.setIfInBounds b o' } (pt b o' * F) := by
  have hb := h.lt
  obtain ⟨⟨h1, h2, h3, h4⟩, x, ⟨a, c, d, rfl, rfl, q⟩, r⟩ := h
  refine ⟨⟨h1, h2, h3, by simp; omega⟩, _, ⟨_, c, ?_, rfl, rfl, q⟩, ?_⟩
  · intro k; have := d k; by_cases e : k = b <;> simp_all
  · intro k o'' e
    simp only [join] at e
    by_cases ek : k = b
    · subst ek; simp at e; subst e; simp [hb]
    · simp only [ek, if_false, Option.none_or] at e
      have := r k o'' (by simp [join, ek, e])
      simp only
      rw [Array.getElem?_setIfInBounds_ne (by omega)]; exact this

theorem setCell_eq {w : World} {b i : Nat} {cs : Array Value} {T : TypeId} {fz : Nat × Nat} (h : w.heap[b]? = some (.cells cs T fz)) (v : Value) :
    w.setCell ⟨b, i, none⟩ v = { w with heap := w.heap.setIfInBounds b (.cells (cs.setIfInBounds i v) T fz) } := by
  unfold World.setCell
  congr 1
  apply Array.ext_getElem?
  intro k
  rw [Array.getElem?_modify]
  by_cases e : b = k
  · subst e
    obtain ⟨hb, h'⟩ := Array.getElem?_eq_some_iff.1 h
    simp [hb, h']
  · rw [if_neg e, Array.getElem?_setIfInBounds_ne e]
theorem Sat.store {b i : Nat} {T : TypeId} {cs : Array Value} (h : Sat w0 w (row b T cs * F)) (v : Value) : Sat w0 (w.setCell ⟨b, i, none⟩ v) (row b T (cs.setIfInBounds i v) * F) := by
  rw [setCell_eq h.cells]; exact Sat.setObj h _

end Go.Proofs.Ytmngkodejlhalaa.Tw
