/- Plain facts for PoolLeast. No condition. -/
import Derived.Test.YtkpcngcegipalaaPoolM
namespace Go.Proofs.Ytkpcngcegipalaa.Tw
set_option linter.unusedVariables false
set_option linter.unusedSimpArgs false

theorem firstFree_eq {T : List Bool} {k : Nat} (h1 : ∀ j, j < k → T[j]? = some true) (h2 : T[k]? = some false) : firstFree T = k := by
  induction T generalizing k with
  | nil => simp at h2
  | cons b r ih =>
    cases k with
    | zero => simp at h2; subst h2; rfl
    | succ k =>
      have h0 := h1 0 (by omega)
      simp at h0; subst h0
      simp only [firstFree, if_true]
      rw [ih (k := k) (fun j hj => by simpa using h1 (j + 1) (by omega)) (by simpa using h2)]
theorem firstFree_all {T : List Bool} (h : ∀ b ∈ T, b = true) : firstFree T = T.length := by
  induction T with
  | nil => rfl
  | cons b r ih =>
    have := h b (by simp); subst this
    simp only [firstFree, if_true, List.length_cons]
    rw [ih fun b hb => h b (by simp [hb])]
theorem takeT_replicate (k : Nat) : takeT (List.replicate k true) = List.replicate (k + 1) true := by
  unfold takeT
  rw [firstFree_all (by intro b hb; exact (List.mem_replicate.1 hb).2), if_neg (by omega), List.replicate_succ']
def T2 (b : Nat → Bool) (j : Int) : List Bool := (List.range 16).map fun q => !(b q && decide (j < (q : Int)))
theorem T2_get (b : Nat → Bool) (j : Int) (q : Nat) : (T2 b j)[q]? = if q < 16 then some (!(b q && decide (j < (q : Int)))) else none := by
  unfold T2
  rw [List.getElem?_map]
  by_cases h : q < 16
  · rw [if_pos h, List.getElem?_eq_getElem (by simpa using h)]; simp
  · rw [if_neg h, List.getElem?_eq_none (by simp; omega)]; rfl
theorem T2_length (b : Nat → Bool) (j : Int) : (T2 b j).length = 16 := by simp [T2]
theorem T2_start (b : Nat → Bool) : T2 b 15 = List.replicate 16 true := by
  apply List.ext_getElem?
  intro q
  rw [T2_get, List.getElem?_replicate]
  split
  · have : ¬ ((15 : Int) < (q : Int)) := by omega
    simp [this]
  · rfl
theorem T2_no {b : Nat → Bool} {q : Nat} (h : b q = false) : T2 b q = T2 b ((q : Int) - 1) := by
  apply List.ext_getElem?
  intro i
  rw [T2_get, T2_get]
  split
  · by_cases e : i = q
    · subst e; simp [h]
    · have : ((q : Int) < i) ↔ ((q : Int) - 1 < i) := by omega
      simp [this]
  · rfl
theorem T2_tk {b : Nat → Bool} {q : Nat} (hq : q < 16) : tk (T2 b q) ((q : Int) + 1) = true := by
  unfold tk
  have : ((q : Int) + 1 - 1).toNat = q := by omega
  rw [this, T2_get, if_pos hq]
  simp
  omega
theorem T2_yes {b : Nat → Bool} {q : Nat} (hq : q < 16) (h : b q = true) : giveT (T2 b q) ((q : Int) + 1) = T2 b ((q : Int) - 1) := by
  unfold giveT
  rw [if_pos (T2_tk hq)]
  have : ((q : Int) + 1 - 1).toNat = q := by omega
  rw [this]
  apply List.ext_getElem?
  intro i
  rw [List.getElem?_set, T2_get, T2_get, T2_length]
  by_cases e : q = i
  · subst e
    have : ((q : Int) - 1 < (q : Int)) := by omega
    simp [hq, h, this]
  · rw [if_neg e]
    split
    · have : ((q : Int) < i) ↔ ((q : Int) - 1 < i) := by omega
      simp [this]
    · rfl
def T3 (b : Nat → Bool) (i : Nat) : List Bool := T2 b ((i : Int) - 1)
theorem T3_no {b : Nat → Bool} {i : Nat} (h : b i = false) : T3 b i = T3 b (i + 1) := by
  unfold T3
  rw [← T2_no h]
  congr 1
  omega
theorem T3_first {b : Nat → Bool} {i : Nat} (hi : i < 16) (h : b i = true) : firstFree (T3 b i) = i := by
  unfold T3
  apply firstFree_eq
  · intro j hj
    rw [T2_get, if_pos (by omega)]
    have : ¬ ((i : Int) - 1 < (j : Int)) := by omega
    simp [this]
  · rw [T2_get, if_pos hi]
    have : (i : Int) - 1 < (i : Int) := by omega
    simp [h, this]
theorem T3_take {b : Nat → Bool} {i : Nat} (hi : i < 16) (h : b i = true) : takeT (T3 b i) = T3 b (i + 1) := by
  have hf := T3_first hi h
  unfold takeT
  rw [hf]
  unfold T3
  rw [T2_length, if_pos hi]
  apply List.ext_getElem?
  intro j
  rw [List.getElem?_set, T2_get, T2_get, T2_length]
  by_cases e : i = j
  · subst e
    have : ¬ (((i + 1 : Nat) : Int) - 1 < (i : Int)) := by omega
    rw [if_pos rfl, if_pos hi, if_pos hi]; simp [this]
  · rw [if_neg e]
    split
    · have : ((i : Int) - 1 < j) ↔ (((i + 1 : Nat) : Int) - 1 < j) := by omega
      simp [this]
    · rfl
theorem T3_end (b : Nat → Bool) : T3 b 16 = List.replicate 16 true := T2_start b
end Go.Proofs.Ytkpcngcegipalaa.Tw
