/- tallowref02: Ints, Values. No condition. -/
import Derived.Test.YtkpcngcegipalaaZPIn3
import Derived.Test.YtkpcngcegipalaaZPIn2
namespace Go.Proofs.Ytkpcngcegipalaa.Tw
set_option linter.unusedVariables false
set_option linter.unusedSimpArgs false
open Go Go.RowKit Go.MapKept

section
variable {w0 w : World} {F : HP}
/-- two lists of numbers, as far as k -/
theorem ref_Ints {a b : Option Addr} {c c' n m : Nat} {l r : List Int} (h : Sat w0 w (slc 3 1 a n c (l.map ival) * (slc 3 1 b m c' (r.map ival) * F))) (hl : l.length = n) (hr : r.length = m) (hn : n ≤ 1000000000) (hm : m ≤ 1000000000) :
    Calls Try.prog 105 #[.slice a n c, .slice b m c'] w fun e w' => e = .returned (.bool (decide (l = r))) ∧ Sat w0 w' (slc 3 1 a n c (l.map ival) * (slc 3 1 b m c' (r.map ival) * F)) := by
  by_cases hnm : n = m
  · subst hnm
    have HL := Lib.hid (And.intro hl hr)
    clear hl hr
    go_enter Try.func105, Try.ntmps105
    go_wp2
    go_loopw [5] (fun iv wr => ∃ k : Nat, iv = .int .i64 k ∧ k ≤ n ∧ Hid (l.take k = r.take k) ∧ Sat w0 wr (slc 3 1 a n c (l.map ival) * (slc 3 1 b n c' (r.map ival) * F))) (fun iv _ => n - (intOf iv).toNat)
    case atStart => exact ⟨0, rfl, by omega, Lib.hid rfl, h⟩
    case round =>
      obtain ⟨k, rfl, hk, hb, hs⟩ := hrel
      by_cases hlt : k < n
      · have hl1 := HL.out
        have ex : l[k]? = some (l[k]'(by omega)) := List.getElem?_eq_getElem _
        have ey : r[k]? = some (r[k]'(by omega)) := List.getElem?_eq_getElem _
        obtain ⟨g, off, rfl, c1, _⟩ := intCells hs ex
        obtain ⟨g2, off2, rfl, c2, _⟩ := intCells hs.p2 ey
        generalize l[k]'(by omega) = x at *
        generalize r[k]'(by omega) = y at *
        have HX := Lib.hid (And.intro ex ey)
        clear ex ey hl1
        by_cases hxy : x = y
        · subst hxy
          go_wp2
          go_region
          go_wp2
          go_round
          case rel =>
            refine ⟨k + 1, by go_num, by omega, Lib.hid ?_, hs⟩
            rw [List.take_add_one, List.take_add_one, hb.out, HX.out.1, HX.out.2]
          case measure => simp [intOf]; omega
        · have hq : (x != y) = true := by simpa using hxy
          go_wp2
          go_region
          go_wp2
          go_ret
          have hne : l ≠ r := fun e => hxy (by have h1 := HX.out.1; rw [e, HX.out.2] at h1; exact (Option.some.inj h1).symm)
          exact ⟨by rw [decide_eq_false hne]; rfl, hs⟩
      · have hkn : k = n := by omega
        subst hkn
        go_wp2
        go_ret
        refine ⟨?_, hs⟩
        have e : l = r := by
          have := hb.out
          have hl1 := HL.out
          rwa [List.take_of_length_le (by omega), List.take_of_length_le (by omega)] at this
        rw [decide_eq_true e]; rfl
  · have hq : ((n : Int) != (m : Int)) = true := by simp; omega
    have hne : l ≠ r := fun e => hnm (by rw [← hl, ← hr, e])
    go_enter Try.func105, Try.ntmps105
    go_wp2
    go_ret
    exact ⟨by rw [decide_eq_false hne]; rfl, h⟩
end
section
variable {w0 w : World} {F : HP}
/-- two lists of values that are the same -/
theorem ref_Values {a b : Option Addr} {c c' n : Nat} {l : List AVal} (h : Sat w0 w (slc 28 2 a n c (avcells l) * (slc 28 2 b n c' (avcells l) * F))) (hl : l.length = n) (hn : n ≤ 1000000000) :
    Calls Try.prog 94 #[.slice a n c, .slice b n c'] w fun e w' => e = .returned (.bool true) ∧ Sat w0 w' (slc 28 2 a n c (avcells l) * (slc 28 2 b n c' (avcells l) * F)) := by
  have HL := Lib.hid hl
  clear hl
  go_enter Try.func94, Try.ntmps94
  go_wp2
  go_loopw [5] (fun iv wr => ∃ k : Nat, iv = .int .i64 k ∧ k ≤ n ∧ Sat w0 wr (slc 28 2 a n c (avcells l) * (slc 28 2 b n c' (avcells l) * F))) (fun iv _ => n - (intOf iv).toNat)
  case atStart => exact ⟨0, rfl, by omega, h⟩
  case round =>
    obtain ⟨k, rfl, hk, hs⟩ := hrel
    by_cases hlt : k < n
    · have hl1 := HL.out
      have ex : l[k]? = some (l[k]'(by omega)) := List.getElem?_eq_getElem _
      obtain ⟨g, off, rfl, c1, c2, _⟩ := valAt hs ex
      obtain ⟨g2, off2, rfl, d1, d2, _⟩ := valAt hs.p2 ex
      generalize l[k]'(by omega) = x at *
      obtain ⟨xk, xn⟩ := x
      dsimp only at c1 c2 d1 d2
      clear ex hl1
      go_wp2
      go_region
      go_wp2
      go_round
      case rel => exact ⟨k + 1, by go_num, by omega, hs⟩
      case measure => simp [intOf]; omega
    · have hkn : k = n := by omega
      subst hkn
      go_wp2
      go_ret
      exact ⟨rfl, hs⟩
end
end Go.Proofs.Ytkpcngcegipalaa.Tw
namespace Go.Proofs.Ytkpcngcegipalaa.Tw
set_option linter.unusedVariables false
set_option linter.unusedSimpArgs false

def tk (T : List Bool) (n : Int) : Bool := decide (1 ≤ n) && (T[(n - 1).toNat]?).getD false
/-- the free numbers below the next one, the greatest first -/
def freeFrom : Nat → List Bool → List Int
  | _, [] => []
  | k, b :: r => freeFrom (k + 1) r ++ (if b then [] else [(k : Int)])
def freeOf (T : List Bool) : List Int := freeFrom 1 T
def firstFree : List Bool → Nat
  | [] => 0
  | b :: r => if b then firstFree r + 1 else 0
def takeT (T : List Bool) : List Bool := if firstFree T < T.length then T.set (firstFree T) true else T ++ [true]
def giveT (T : List Bool) (n : Int) : List Bool := if tk T n then T.set (n - 1).toNat false else T
def lastT : List Bool → Nat
  | [] => 0
  | b :: r => if lastT r = 0 then (if b then 1 else 0) else lastT r + 1

theorem firstFree_le (T : List Bool) : firstFree T ≤ T.length := by
  induction T with
  | nil => simp [firstFree]
  | cons b r ih => cases b <;> simp [firstFree] <;> omega
theorem freeFrom_full (k : Nat) (T : List Bool) (h : firstFree T = T.length) : freeFrom k T = [] := by
  induction T generalizing k with
  | nil => rfl
  | cons b r ih =>
    cases b
    · simp [firstFree] at h
    · simp [firstFree] at h; simp [freeFrom, ih _ h]
theorem freeFrom_take (k : Nat) (T : List Bool) (h : firstFree T < T.length) : freeFrom k T = freeFrom k (T.set (firstFree T) true) ++ [(k : Int) + firstFree T] := by
  induction T generalizing k with
  | nil => simp [firstFree] at h
  | cons b r ih =>
    cases b
    · simp [firstFree, freeFrom]
    · simp only [firstFree, if_true] at h ⊢
      have := ih (k + 1) (by simpa using h)
      simp only [freeFrom, List.set_cons_succ, if_true, List.append_nil]
      rw [this]
      congr 2
      omega
theorem freeOf_take {T : List Bool} (h : firstFree T < T.length) : freeOf T = freeOf (takeT T) ++ [(firstFree T : Int) + 1] := by
  unfold freeOf takeT
  rw [if_pos h, freeFrom_take 1 T h]
  congr 2
  omega
theorem freeFrom_snoc (k : Nat) (T : List Bool) : freeFrom k (T ++ [true]) = freeFrom k T := by
  induction T generalizing k with
  | nil => rfl
  | cons b r ih => simp [freeFrom, ih]
theorem freeOf_full {T : List Bool} (h : firstFree T = T.length) : freeOf T = [] := freeFrom_full 1 T h
theorem freeOf_take_full {T : List Bool} (h : firstFree T = T.length) : freeOf (takeT T) = [] := by
  unfold freeOf takeT
  rw [if_neg (by omega), freeFrom_snoc, freeFrom_full 1 T h]
theorem takeT_length (T : List Bool) : (takeT T).length = max T.length (firstFree T + 1) := by
  have := firstFree_le T
  unfold takeT
  split <;> simp <;> omega
theorem tk_takeT (T : List Bool) (n : Int) : tk (takeT T) n = (tk T n || decide (n = firstFree T + 1)) := by
  have hle := firstFree_le T
  unfold tk takeT
  by_cases h1 : 1 ≤ n
  · simp only [h1, decide_true, Bool.true_and]
    by_cases h : firstFree T < T.length
    · rw [if_pos h, List.getElem?_set]
      by_cases e : n = firstFree T + 1
      · subst e; simp [h]
      · rw [if_neg (by omega)]; simp [e]
    · rw [if_neg h, List.getElem?_append]
      by_cases e : n = firstFree T + 1
      · subst e
        rw [if_neg (by omega)]
        have : ((firstFree T : Int) + 1 - 1).toNat - T.length = 0 := by omega
        rw [this]; simp
      · split
        · simp [e]
        · rename_i hge
          have e1 : T[(n - 1).toNat]? = none := by simp; omega
          have e2 : ([true] : List Bool)[(n - 1).toNat - T.length]? = none := by simp; omega
          rw [e1, e2]; simp [e]
  · have : ¬ (n = firstFree T + 1) := by omega
    simp [h1, this]
theorem firstFree_free (T : List Bool) : tk T (firstFree T + 1) = false := by
  unfold tk
  have : ((firstFree T : Int) + 1 - 1).toNat = firstFree T := by omega
  rw [this]
  have key : ∀ T : List Bool, (T[firstFree T]?).getD false = false := by
    intro T
    induction T with
    | nil => rfl
    | cons b r ih => cases b <;> simp [firstFree]; simpa using ih
  simp [key]
theorem giveT_length (T : List Bool) (n : Int) : (giveT T n).length = T.length := by unfold giveT; split <;> simp
theorem tk_lt {T : List Bool} {n : Int} (h : tk T n = true) : 1 ≤ n ∧ (n - 1).toNat < T.length := by
  unfold tk at h
  simp only [Bool.and_eq_true, decide_eq_true_eq] at h
  refine ⟨h.1, ?_⟩
  rcases Nat.lt_or_ge (n - 1).toNat T.length with h' | h'
  · exact h'
  · rw [List.getElem?_eq_none h'] at h; simp at h
theorem tk_giveT (T : List Bool) (n m : Int) : tk (giveT T n) m = (tk T m && !decide (m = n)) := by
  unfold giveT
  by_cases h : tk T n = true
  · obtain ⟨h1, h2⟩ := tk_lt h
    rw [if_pos h]
    unfold tk
    by_cases hm : 1 ≤ m
    · simp only [hm, decide_true, Bool.true_and]
      rw [List.getElem?_set]
      by_cases e : m = n
      · subst e; rw [if_pos rfl, if_pos h2]; simp
      · rw [if_neg (by omega)]; simp [e]
    · simp [hm]
  · rw [if_neg h]
    by_cases e : m = n
    · subst e; simp at h; simp [h]
    · simp [e]
theorem mem_freeFrom (k : Nat) (T : List Bool) (n : Int) : n ∈ freeFrom k T ↔ ∃ i : Nat, T[i]? = some false ∧ n = k + i := by
  induction T generalizing k with
  | nil => simp [freeFrom]
  | cons b r ih =>
    simp only [freeFrom, List.mem_append, ih]
    constructor
    · rintro (⟨i, h1, h2⟩ | h)
      · exact ⟨i + 1, by simpa using h1, by omega⟩
      · cases b <;> simp at h
        exact ⟨0, by simp, by omega⟩
    · rintro ⟨i, h1, h2⟩
      cases i with
      | zero => simp at h1; subst h1; right; simp; omega
      | succ i => exact .inl ⟨i, by simpa using h1, by omega⟩
/-- falling, and between its ends -/
theorem freeFrom_falls (k : Nat) (T : List Bool) : (freeFrom k T).Pairwise (· > ·) := by
  induction T generalizing k with
  | nil => simp [freeFrom]
  | cons b r ih =>
    simp only [freeFrom]
    refine List.pairwise_append.2 ⟨ih _, by cases b <;> simp, ?_⟩
    intro x hx y hy
    obtain ⟨i, _, e⟩ := (mem_freeFrom _ _ _).1 hx
    cases b <;> simp at hy
    omega
theorem mem_freeOf (T : List Bool) (n : Int) : n ∈ freeOf T ↔ 1 ≤ n ∧ T[(n - 1).toNat]? = some false := by
  unfold freeOf
  rw [mem_freeFrom]
  constructor
  · rintro ⟨i, h1, h2⟩
    refine ⟨by omega, ?_⟩
    rw [show (n - 1).toNat = i from by omega]; exact h1
  · rintro ⟨h1, h2⟩
    exact ⟨(n - 1).toNat, h2, by omega⟩
theorem freeOf_bound {T : List Bool} {n : Int} (h : n ∈ freeOf T) : 1 ≤ n ∧ n ≤ T.length := by
  obtain ⟨h1, h2⟩ := (mem_freeOf T n).1 h
  have := (List.getElem?_eq_some_iff.1 h2).1
  omega
theorem freeFrom_length (k : Nat) (T : List Bool) : (freeFrom k T).length ≤ T.length := by
  induction T generalizing k with
  | nil => simp [freeFrom]
  | cons b r ih => have := ih (k + 1); cases b <;> simp [freeFrom] <;> omega
theorem freeOf_length (T : List Bool) : (freeOf T).length ≤ T.length := freeFrom_length 1 T

/-- where a number goes: behind those that are greater -/
def placeOf : List Int → Int → Nat
  | [], _ => 0
  | x :: r, n => if n < x then placeOf r n + 1 else 0
theorem placeOf_le (l : List Int) (n : Int) : placeOf l n ≤ l.length := by
  induction l with
  | nil => simp [placeOf]
  | cons x r ih => simp only [placeOf]; split <;> simp; omega
theorem placeOf_gt {l : List Int} {n : Int} {i : Nat} (h : i < placeOf l n) : ∃ x, l[i]? = some x ∧ n < x := by
  induction l generalizing i with
  | nil => simp [placeOf] at h
  | cons y r ih =>
    simp only [placeOf] at h
    split at h
    · cases i with
      | zero => exact ⟨y, by simp, ‹_›⟩
      | succ i => simpa using ih (by omega)
    · omega
theorem placeOf_at {l : List Int} {n x : Int} (h : l[placeOf l n]? = some x) : x ≤ n := by
  induction l with
  | nil => simp at h
  | cons y r ih =>
    simp only [placeOf] at h
    split at h
    · exact ih (by simpa using h)
    · simp at h; omega
theorem placeOf_all {l : List Int} {n : Int} (h : ∀ x ∈ l, n < x) : placeOf l n = l.length := by
  induction l with
  | nil => rfl
  | cons y r ih => simp only [placeOf, h y (by simp), if_true, List.length_cons]; rw [ih fun x hx => h x (by simp [hx])]
theorem placeOf_append_le (l r : List Int) (n : Int) (h : ∀ x ∈ r, x ≤ n) : placeOf (l ++ r) n = placeOf l n := by
  induction l with
  | nil =>
    cases r with
    | nil => rfl
    | cons y r => have := h y (by simp); simp only [List.nil_append, placeOf]; rw [if_neg (by omega)]
  | cons y l ih => simp only [List.cons_append, placeOf, ih]
theorem freeFrom_give (k : Nat) (T : List Bool) (i : Nat) (h : T[i]? = some true) :
    freeFrom k (T.set i false) = (freeFrom k T).take (placeOf (freeFrom k T) (k + i)) ++ [(k : Int) + i] ++ (freeFrom k T).drop (placeOf (freeFrom k T) (k + i)) := by
  induction T generalizing k i with
  | nil => simp at h
  | cons b r ih =>
    cases i with
    | zero =>
      simp at h; subst h
      have e : placeOf (freeFrom (k + 1) r) (k + (0 : Nat)) = (freeFrom (k + 1) r).length := by
        refine placeOf_all fun x hx => ?_
        obtain ⟨i, _, e⟩ := (mem_freeFrom _ _ _).1 hx
        omega
      simp only [List.set_cons_zero, freeFrom, Bool.false_eq_true, if_false, if_true, List.append_nil, e]
      simp
    | succ i =>
      have h' : r[i]? = some true := by simpa using h
      simp only [List.set_cons_succ, freeFrom]
      rw [ih (k + 1) i h']
      have e : ((k + 1 : Nat) : Int) + i = k + (i + 1 : Nat) := by omega
      rw [e]
      have ew : placeOf (freeFrom (k + 1) r ++ (if b = true then [] else [(k : Int)])) (k + (i + 1 : Nat)) = placeOf (freeFrom (k + 1) r) (k + (i + 1 : Nat)) := by
        refine placeOf_append_le _ _ _ fun x hx => ?_
        cases b <;> simp at hx
        omega
      rw [ew]
      have hle : placeOf (freeFrom (k + 1) r) (k + (i + 1 : Nat)) ≤ (freeFrom (k + 1) r).length := placeOf_le _ _
      rw [List.take_append_of_le_length hle, List.drop_append_of_le_length hle]
      simp
theorem freeOf_give {T : List Bool} {n : Int} (h : tk T n = true) : freeOf (giveT T n) = (freeOf T).take (placeOf (freeOf T) n) ++ [n] ++ (freeOf T).drop (placeOf (freeOf T) n) := by
  obtain ⟨h1, h2⟩ := tk_lt h
  have hb : T[(n - 1).toNat]? = some true := by
    have h3 := h
    unfold tk at h3
    rw [List.getElem?_eq_getElem h2] at h3 ⊢
    simp only [Bool.and_eq_true, Option.getD_some] at h3
    rw [h3.2]
  have := freeFrom_give 1 T (n - 1).toNat hb
  have e : ((1 : Nat) : Int) + (n - 1).toNat = n := by omega
  rw [e] at this
  unfold giveT freeOf
  rw [if_pos h]
  exact this
theorem placeOf_lt_of {l : List Int} {n x : Int} {m : Nat} (hs : l.Pairwise (· > ·)) (hm : l[m]? = some x) (h : n < x) : m < placeOf l n := by
  induction l generalizing m with
  | nil => simp at hm
  | cons y r ih =>
    simp only [placeOf]
    rw [List.pairwise_cons] at hs
    cases m with
    | zero => simp at hm; subst hm; rw [if_pos h]; omega
    | succ m =>
      have hm' : r[m]? = some x := by simpa using hm
      have := hs.1 x (List.mem_of_getElem? hm')
      rw [if_pos (by omega)]
      have := ih hs.2 hm'
      omega
theorem placeOf_le_of {l : List Int} {n x : Int} {m : Nat} (hm : l[m]? = some x) (h : x ≤ n) : placeOf l n ≤ m := by
  rcases Nat.lt_or_ge m (placeOf l n) with h' | h'
  · obtain ⟨y, e, hy⟩ := placeOf_gt h'
    rw [hm] at e; cases e; omega
  · exact h'
theorem placeOf_unique {l : List Int} {n : Int} {k : Nat} (hs : l.Pairwise (· > ·)) (h1 : ∀ i x, i < k → l[i]? = some x → n < x) (h2 : ∀ i x, k ≤ i → l[i]? = some x → x ≤ n) (hk : k ≤ l.length) : k = placeOf l n := by
  have hle := placeOf_le l n
  rcases Nat.lt_trichotomy k (placeOf l n) with h | h | h
  · obtain ⟨x, e, hx⟩ := placeOf_gt h
    have := h2 k x (Nat.le_refl _) e
    omega
  · exact h
  · have hlt : placeOf l n < l.length := by omega
    have := placeOf_at (l := l) (n := n) (x := l[placeOf l n]) (by simp)
    have := h1 _ _ h (List.getElem?_eq_getElem hlt)
    omega

def takenFrom : Nat → List Bool → List Int
  | _, [] => []
  | k, b :: r => (if b then [(k : Int)] else []) ++ takenFrom (k + 1) r
def takenOf (T : List Bool) : List Int := takenFrom 1 T
theorem mem_takenFrom (k : Nat) (T : List Bool) (n : Int) : n ∈ takenFrom k T ↔ ∃ i : Nat, T[i]? = some true ∧ n = k + i := by
  induction T generalizing k with
  | nil => simp [takenFrom]
  | cons b r ih =>
    simp only [takenFrom, List.mem_append, ih]
    constructor
    · rintro (h | ⟨i, h1, h2⟩)
      · cases b <;> simp at h
        exact ⟨0, by simp, by omega⟩
      · exact ⟨i + 1, by simpa using h1, by omega⟩
    · rintro ⟨i, h1, h2⟩
      cases i with
      | zero => simp at h1; subst h1; left; simp; omega
      | succ i => exact .inr ⟨i, by simpa using h1, by omega⟩
theorem mem_takenOf (T : List Bool) (n : Int) : n ∈ takenOf T ↔ tk T n = true := by
  unfold takenOf tk
  rw [mem_takenFrom]
  constructor
  · rintro ⟨i, h1, h2⟩
    have e : (n - 1).toNat = i := by omega
    rw [e, h1]; simp; omega
  · intro h
    simp only [Bool.and_eq_true, decide_eq_true_eq] at h
    refine ⟨(n - 1).toNat, ?_, by omega⟩
    have h2 := h.2
    cases e : T[(n - 1).toNat]? with
    | none => rw [e] at h2; simp at h2
    | some b => rw [e] at h2; simp at h2; rw [h2]
theorem takenFrom_rises (k : Nat) (T : List Bool) : (takenFrom k T).Pairwise (· < ·) := by
  induction T generalizing k with
  | nil => simp [takenFrom]
  | cons b r ih =>
    simp only [takenFrom]
    refine List.pairwise_append.2 ⟨by cases b <;> simp, ih _, ?_⟩
    intro x hx y hy
    obtain ⟨i, _, e⟩ := (mem_takenFrom _ _ _).1 hy
    cases b <;> simp at hx
    omega
theorem takenOf_nodup (T : List Bool) : (takenOf T).Nodup := (takenFrom_rises 1 T).imp fun h => by omega
def countT (T : List Bool) : Nat := (takenOf T).length

theorem lastT_le (T : List Bool) : lastT T ≤ T.length := by
  induction T with
  | nil => simp [lastT]
  | cons b r ih => simp only [lastT]; split <;> (try split) <;> simp <;> omega
theorem lastT_ge (T : List Bool) (i : Nat) (h : T[i]? = some true) : i + 1 ≤ lastT T := by
  induction T generalizing i with
  | nil => simp at h
  | cons b r ih =>
    cases i with
    | zero => simp at h; subst h; simp only [lastT]; split <;> simp
    | succ i =>
      have := ih i (by simpa using h)
      simp only [lastT]
      split <;> omega
theorem lastT_at (T : List Bool) (h : lastT T ≠ 0) : T[lastT T - 1]? = some true := by
  induction T with
  | nil => simp [lastT] at h
  | cons b r ih =>
    simp only [lastT] at h ⊢
    by_cases e : lastT r = 0
    · rw [if_pos e] at h ⊢
      cases b <;> simp at h ⊢
    · rw [if_neg e] at h ⊢
      have := ih e
      obtain ⟨k, hk⟩ : ∃ k, lastT r = k + 1 := ⟨lastT r - 1, by omega⟩
      rw [hk] at this ⊢
      simpa using this
end Go.Proofs.Ytkpcngcegipalaa.Tw
namespace Go.Proofs.Ytkpcngcegipalaa.Tw
set_option linter.unusedVariables false
set_option linter.unusedSimpArgs false
open Go Go.RowKit Go.MapKept

def unit_ : Value := .agg #[]
/-- the pool at block p holds the numbers T -/
def poolR (p : Nat) (T : List Bool) : HP := fun h => ∃ m L a c, (∀ n, mget L n = if tk T n then some unit_ else none) ∧
  (row p 160 #[.map (some m), .slice a (freeOf T).length c, .int .i64 (T.length + 1)] * (mapR (.int .i64) (Value.int .i64) m L * slc 3 1 a (freeOf T).length c ((freeOf T).map ival))) h

theorem Sat.openPool {w0 w : World} {F : HP} {p : Nat} {T : List Bool} (h : Sat w0 w (poolR p T * F)) : ∃ m L a c, (∀ n, mget L n = if tk T n then some unit_ else none) ∧
    Sat w0 w (row p 160 #[.map (some m), .slice a (freeOf T).length c, .int .i64 (T.length + 1)] * (mapR (.int .i64) (Value.int .i64) m L * (slc 3 1 a (freeOf T).length c ((freeOf T).map ival) * F))) := by
  obtain ⟨h1, x, ⟨y, z, dj, rfl, ⟨m, L, a, c, hL, hp⟩, q⟩, r⟩ := h
  refine ⟨m, L, a, c, hL, ?_⟩
  rw [← mul_assoc, ← mul_assoc, mul_assoc (row _ _ _)]
  exact ⟨h1, _, ⟨y, z, dj, rfl, hp, q⟩, r⟩
theorem Sat.shutPool {w0 w : World} {F : HP} {p : Nat} {T : List Bool} {m : Nat} {L : List (Int × Value)} {a : Option Addr} {c : Nat} (hL : ∀ n, mget L n = if tk T n then some unit_ else none)
    (h : Sat w0 w (row p 160 #[.map (some m), .slice a (freeOf T).length c, .int .i64 (T.length + 1)] * (mapR (.int .i64) (Value.int .i64) m L * (slc 3 1 a (freeOf T).length c ((freeOf T).map ival) * F)))) : Sat w0 w (poolR p T * F) := by
  rw [← mul_assoc, ← mul_assoc, mul_assoc (row _ _ _)] at h
  exact h.mono_l fun _ q => ⟨m, L, a, c, hL, q⟩

theorem eqm_nil : ∀ (w : World) (r : Option Nat), (binOp .eql 158 (.map r) (.map none)).run Try.prog w = .ok (.bool r.isNone) w := fun w r => run_eql_map_nil w _ _ _ r Try.underlying158

theorem pool_none_nil (w : World) : Calls Try.prog 125 #[.pointer none] w fun e w' => e = .returned (.bool true) ∧ w = w' := by
  go_enter Try.func125, Try.ntmps125
  go_wp2
  go_ret
  exact ⟨rfl, rfl⟩
theorem pool_none_at (w : World) (p : Nat) (m : Option Nat) (c0 : w.cell? ⟨p, 0, none⟩ = some (.map m)) : Calls Try.prog 125 #[.pointer (some ⟨p, 0, none⟩)] w fun e w' => e = .returned (.bool m.isNone) ∧ w = w' := by
  have hm := eqm_nil
  go_enter Try.func125, Try.ntmps125
  go_wp2
  go_ret
  exact ⟨rfl, rfl⟩
theorem pool_none {w0 w : World} {F : HP} {p : Nat} {T : List Bool} (h : Sat w0 w (poolR p T * F)) : Calls Try.prog 125 #[.pointer (some ⟨p, 0, none⟩)] w fun e w' => e = .returned (.bool false) ∧ w = w' := by
  obtain ⟨m, L, a, c, hL, hs⟩ := h.openPool
  exact pool_none_at w p (some m) (hs.cell 0 rfl)

theorem zero_unit (w : World) : (zeroValue 167).run Try.prog w = .ok unit_ w := by kernel_rfl

theorem pool_In_nil (w : World) (n : Int) : Calls Try.prog 121 #[.pointer none, .int .i64 n] w fun e w' => e = .returned (.bool false) ∧ w = w' := by
  go_enter Try.func121, Try.ntmps121
  go_wp2_with (go_at_call 125; refine (pool_none_nil _).mono ?_; rintro e w' ⟨rfl, rfl⟩)
  go_ret
  exact ⟨rfl, rfl⟩
theorem pool_In_empty (w : World) (p : Nat) (n : Int) (c0 : w.cell? ⟨p, 0, none⟩ = some (.map none)) : Calls Try.prog 121 #[.pointer (some ⟨p, 0, none⟩), .int .i64 n] w fun e w' => e = .returned (.bool false) ∧ w = w' := by
  go_enter Try.func121, Try.ntmps121
  go_wp2_with (go_at_call 125; refine (pool_none_at _ p none c0).mono ?_; rintro e w' ⟨rfl, rfl⟩)
  go_ret
  exact ⟨rfl, rfl⟩
theorem pool_In {w0 w : World} {F : HP} {p : Nat} {T : List Bool} (h : Sat w0 w (poolR p T * F)) (n : Int) : Calls Try.prog 121 #[.pointer (some ⟨p, 0, none⟩), .int .i64 n] w fun e w' => e = .returned (.bool (tk T n)) ∧ Sat w0 w' (poolR p T * F) := by
  obtain ⟨m, L, a, c, hL, hs⟩ := h.openPool
  have c0 : w.cell? ⟨p, 0, none⟩ = some (.map (some m)) := hs.cell 0 rfl
  have hl : (Instr.lookup 158 (.map (some m)) (.int .i64 n) true).run Try.prog w = .ok (.tuple #[.agg #[], .bool (tk T n)]) w := by
    have := run_lookup_ok (keys_int .i64) (hs.cast (mul_left_comm _ _ _)) Try.underlying158 Try.underlying3 (zero_unit w) n
    rw [hL] at this
    rw [this]
    cases tk T n <;> rfl
  clear hL
  go_enter Try.func121, Try.ntmps121
  go_wp2_with (go_at_call 125; refine (pool_none h).mono ?_; rintro e w' ⟨rfl, rfl⟩)
  go_ret
  exact ⟨rfl, h.alloc _ |>.drop⟩

end Go.Proofs.Ytkpcngcegipalaa.Tw
namespace Go.Proofs.Ytkpcngcegipalaa.Tw
set_option linter.unusedVariables false
set_option linter.unusedSimpArgs false
open Go Go.RowKit Go.MapKept

theorem mget_mset {κ : Type} [DecidableEq κ] (L : List (κ × Value)) (k : κ) (v : Value) (j : κ) : mget (mset L k v) j = if j = k then some v else mget L j := by
  unfold mset
  cases hs : (mget L k).isSome with
  | true =>
    simp only [if_true]
    induction L with
    | nil => simp [mget] at hs
    | cons e r ih =>
      by_cases e1 : e.1 = k
      · by_cases e2 : j = k
        · subst e2; simp [mget, e1]
        · have e3 : ¬ e.1 = j := fun q => e2 (by rw [← q, e1])
          have e4 : ¬ k = j := fun q => e2 q.symm
          simp only [List.map_cons, e1, if_true, mget, List.find?_cons, e4, decide_false, Bool.false_eq_true, if_neg e2]
          cases hr : (mget r k).isSome with
          | true => have := ih hr; rw [if_neg e2] at this; simpa [mget] using this
          | false =>
            have hnone : ∀ x ∈ r, ¬ x.1 = k := by simpa [mget] using hr
            have : r.map (fun e => if e.1 = k then (e.1, v) else e) = r := by
              conv => rhs; rw [← List.map_id r]
              exact List.map_congr_left fun x hx => by simp [hnone x hx]
            rw [this]
      · have hr : (mget r k).isSome = true := by simpa [mget, e1] using hs
        have := ih hr
        by_cases e3 : e.1 = j
        · have : ¬ j = k := fun q => e1 (by rw [e3, q])
          simp [mget, e1, e3, this]
        · simp only [List.map_cons, e1, if_false, mget, List.find?_cons, e3, decide_false] at this ⊢
          exact this
  | false =>
    simp only [Bool.false_eq_true, if_false]
    have hn : mget L k = none := by simpa using hs
    unfold mget at hn ⊢
    by_cases e : j = k
    · subst e
      rw [List.find?_append]
      rw [Option.map_eq_none_iff] at hn
      rw [hn]; simp
    · rw [if_neg e, List.find?_append]
      have : ¬ k = j := fun q => e q.symm
      simp [this]
theorem mget_mdel {κ : Type} [DecidableEq κ] (L : List (κ × Value)) (k : κ) (j : κ) : mget (mdel L k) j = if j = k then none else mget L j := by
  unfold mdel
  induction L with
  | nil => simp [mget]
  | cons e r ih =>
    by_cases e1 : e.1 = k
    · simp only [e1, decide_true, Bool.not_true, Bool.false_eq_true, not_false_eq_true, List.filter_cons_of_neg, ih]
      by_cases e2 : j = k
      · simp [e2]
      · have : ¬ k = j := fun q => e2 q.symm
        simp [mget, e1, this, e2]
    · simp only [e1, decide_false, Bool.not_false, List.filter_cons_of_pos]
      by_cases e3 : e.1 = j
      · have : ¬ j = k := fun q => e1 (by rw [e3, q])
        simp [mget, e3, this]
      · simp only [mget, List.find?_cons, e3, decide_false] at ih ⊢
        exact ih

theorem pool_Take {w0 w : World} {F : HP} {p : Nat} {T : List Bool} (h : Sat w0 w (poolR p T * F)) (hT : T.length < 1000000000) :
    Calls Try.prog 82 #[.pointer (some ⟨p, 0, none⟩)] w fun e w' => e = .returned (.int .i64 (firstFree T + 1)) ∧ Sat w0 w' (poolR p (takeT T) * F) := by
  obtain ⟨m, L, a, c, hL, hs⟩ := h.openPool
  have hle := firstFree_le T
  by_cases hf : firstFree T < T.length
  · have hfr := freeOf_take hf
    have hlen : (freeOf T).length = (freeOf (takeT T)).length + 1 := by rw [hfr]; simp
    have htl : (takeT T).length = T.length := by rw [takeT_length]; omega
    have hb := freeOf_length T
    generalize hk : (freeOf (takeT T)).length = k at *
    rw [hlen] at hs hb
    have c0 : w.cell? ⟨p, 0, none⟩ = some (.map (some m)) := hs.cell 0 rfl
    have c1 : w.cell? ⟨p, 1, none⟩ = some (.slice a (k + 1) c) := hs.cell 1 rfl
    have c2 : w.cell? ⟨p, 2, none⟩ = some (.int .i64 (T.length + 1)) := hs.cell 2 rfl
    have f1 := hs.free 1
    have hs2 := hs.cast (Q := slc 3 1 a (k + 1) c ((freeOf T).map ival) * (row p 160 #[.map (some m), .slice a (k + 1) c, .int .i64 (T.length + 1)] * (mapR (.int .i64) (Value.int .i64) m L * F))) (by ac_rfl)
    have hcap := hs2.slcCap
    obtain ⟨g, off, rfl, cx, _⟩ := hs2.slcAt (j := k) (u := ival (firstFree T + 1)) (by rw [hfr]; simp [hk])
    unfold ival at cx
    have hsP : ∀ (w' : World) (L' : List (Int × Value)), (∀ n, mget L' n = if tk (takeT T) n then some unit_ else none) →
        Sat w0 w' (row p 160 #[.map (some m), .slice (some ⟨g, off, none⟩) k c, .int .i64 (T.length + 1)] * (mapR (.int .i64) (Value.int .i64) m L' * (slc 3 1 (some ⟨g, off, none⟩) (k + 1) c ((freeOf T).map ival) * F))) → Sat w0 w' (poolR p (takeT T) * F) := by
      intro w' L' hL' hh
      refine Sat.shutPool hL' (m := m) (a := some ⟨g, off, none⟩) (c := c) ?_
      rw [htl, hk]
      rw [hfr, List.map_append] at hh
      have h2 := hh.cast (Q := slc 3 1 (some ⟨g, off, none⟩) (k + 1) c ((freeOf (takeT T)).map ival ++ [(firstFree T : Int) + 1].map ival) * (row p 160 #[.map (some m), .slice (some ⟨g, off, none⟩) k c, .int .i64 (T.length + 1)] * (mapR (.int .i64) (Value.int .i64) m L' * F))) (by ac_rfl)
      exact (h2.slcPop (by simp [hk])).cast (by ac_rfl)
    clear hfr hlen htl hk
    go_enter Try.func82, Try.ntmps82
    go_wp2_with (first
      | (go_at_call 125; refine (pool_none h).mono ?_; rintro e w' ⟨rfl, rfl⟩)
      | (at_mapUpdate; refine wpList_mapUpdate rfl _ _ _ _ rfl (keys_int .i64) Try.underlying158 Try.underlying3 m L rfl ((hs.store _).cast (mul_left_comm _ _ _)) _ rfl (.agg #[]) rfl ?_; intro w1 hs1))
    go_ret
    refine ⟨rfl, hsP w1 _ ?_ (hs1.cast (mul_left_comm _ _ _))⟩
    intro n
    rw [mget_mset, hL, tk_takeT]
    by_cases e : n = firstFree T + 1 <;> simp [e, unit_]
  · have hf' : firstFree T = T.length := by omega
    have hfr := freeOf_full hf'
    have htl : (takeT T).length = T.length + 1 := by rw [takeT_length]; omega
    have hft := freeOf_take_full hf'
    rw [hfr] at hs
    simp only [List.length_nil] at hs
    have c0 : w.cell? ⟨p, 0, none⟩ = some (.map (some m)) := hs.cell 0 rfl
    have c1 : w.cell? ⟨p, 1, none⟩ = some (.slice a 0 c) := hs.cell 1 rfl
    have c2 : w.cell? ⟨p, 2, none⟩ = some (.int .i64 (T.length + 1)) := hs.cell 2 rfl
    have f2 := hs.free 2
    have hsP : ∀ (w' : World) (L' : List (Int × Value)), (∀ n, mget L' n = if tk (takeT T) n then some unit_ else none) →
        Sat w0 w' (row p 160 #[.map (some m), .slice a 0 c, .int .i64 (T.length + 1 + 1)] * (mapR (.int .i64) (Value.int .i64) m L' * (slc 3 1 a 0 c (([] : List Int).map ival) * F))) → Sat w0 w' (poolR p (takeT T) * F) := by
      intro w' L' hL' hh
      refine Sat.shutPool hL' (m := m) (a := a) (c := c) ?_
      rw [htl, hft]
      exact hh
    have hfe : (firstFree T : Int) = T.length := by omega
    rw [hfe]
    clear hf' hfr htl hft hfe
    go_enter Try.func82, Try.ntmps82
    go_wp2_with (first
      | (go_at_call 125; refine (pool_none h).mono ?_; rintro e w' ⟨rfl, rfl⟩)
      | (at_mapUpdate; refine wpList_mapUpdate rfl _ _ _ _ rfl (keys_int .i64) Try.underlying158 Try.underlying3 m L rfl ((hs.store _).cast (mul_left_comm _ _ _)) _ rfl (.agg #[]) rfl ?_; intro w1 hs1))
    go_ret
    refine ⟨rfl, hsP w1 _ ?_ (hs1.cast (mul_left_comm _ _ _))⟩
    intro n
    rw [mget_mset, hL, tk_takeT]
    have : (firstFree T : Int) = T.length := by omega
    by_cases e : n = T.length + 1 <;> simp [e, unit_, this]

theorem keys_perm {T : List Bool} {L : List (Int × Value)} (hn : (L.map (·.1)).Nodup) (hL : ∀ n, mget L n = if tk T n then some unit_ else none) : (L.map (·.1)).Perm (takenOf T) := by
  rw [List.perm_ext_iff_of_nodup hn (takenOf_nodup T)]
  intro n
  rw [mem_takenOf]
  have := hL n
  constructor
  · intro h
    cases e : tk T n with
    | true => rfl
    | false => rw [e] at this; exact absurd h (mget_none.1 (by simpa using this))
  · intro h
    rw [h] at this
    rcases Classical.em (n ∈ L.map (·.1)) with h' | h'
    · exact h'
    · rw [mget_none.2 h'] at this; simp at this

theorem pool_New {w0 w : World} {F : HP} (h : Sat w0 w F) :
    Calls Try.prog 69 #[] w fun e w' => ∃ p, e = .returned (.pointer (some ⟨p, 0, none⟩)) ∧ Sat w0 w' (poolR p [] * F) := by
  have hmm := @run_makeMap Try.prog
  go_enter Try.func69, Try.ntmps69
  go_wp2
  go_ret
  refine ⟨_, rfl, ?_⟩
  have h1 := (h.newMap (d := .int .i64) (kv := Value.int .i64)).alloc (.cells #[.map (some w.heap.size), .slice none 0 0, .int .i64 1] 160)
  exact Sat.shutPool (T := []) (m := w.heap.size) (L := []) (a := none) (c := 0) (by intro n; simp [mget, tk]) ((h1.nilSlc (T := 3) (sz := 1)).cast (by rw [show (w.alloc (.map #[] 0)).heap.size = w.heap.size + 1 from by simp, show freeOf [] = [] from rfl]; unfold row; exact (by intros; ac_rfl : ∀ A B C D : HP, A * (B * (C * D)) = B * (C * (A * D))) _ _ _ _))
end Go.Proofs.Ytkpcngcegipalaa.Tw
namespace Go.Proofs.Ytkpcngcegipalaa.Tw
set_option linter.unusedVariables false
set_option linter.unusedSimpArgs false
open Go Go.RowKit Go.MapKept

theorem give_cmp (x n : Int) (hx : 0 ≤ x) (hx2 : x ≤ 2000000000) (hn : 0 ≤ n) (hn2 : n ≤ 2000000000) (w : World) :
    Calls Try.prog 123 #[.int .i64 x, .int .i64 n] w fun e w' => e = .returned (.int .i64 (n - x)) ∧ w = w' := by
  go_enter Try.func123, Try.ntmps123
  go_wp2
  go_ret
  exact ⟨rfl, rfl⟩

theorem bsearch {w0 w : World} {F : HP} {a : Option Addr} {c : Nat} {l : List Int} (h : Sat w0 w (slc 3 1 a l.length c (l.map ival) * F)) (hl : l.length ≤ 1000000000) (hf : l.Pairwise (· > ·)) (hb : ∀ x ∈ l, 0 ≤ x ∧ x ≤ 2000000000) (n : Int) (hn : 0 ≤ n) (hn2 : n ≤ 2000000000) :
    Calls Try.prog 122 #[.slice a l.length c, .int .i64 n, (.func (.func 123) #[] #[])] w fun e w' => (∃ b, e = .returned (.tuple #[.int .i64 (placeOf l n), .bool b])) ∧ w = w' := by
  go_enter Try.func122, Try.ntmps122
  go_wp2
  have hcell : ∀ k : Nat, k < l.length → ∃ g off, a = some ⟨g, off, none⟩ ∧ w.cell? ⟨g, off + k, none⟩ = some (.int .i64 (l.getD k 0)) := by
    intro k hk
    obtain ⟨g, off, e, hc, _⟩ := h.slcAt (j := k) (u := ival (l.getD k 0)) (by simp [hk])
    exact ⟨g, off, e, hc⟩
  go_loop [9, 10] (fun i j => ∃ p q : Nat, i = .int .i64 p ∧ j = .int .i64 q ∧ p ≤ q ∧ q ≤ l.length ∧ p ≤ placeOf l n ∧ placeOf l n ≤ q) (fun i j => ((intOf j) - (intOf i)).toNat)
  case atStart => exact ⟨0, l.length, rfl, rfl, Nat.zero_le _, Nat.le_refl _, Nat.zero_le _, placeOf_le l n⟩
  case round =>
    obtain ⟨p, q, rfl, rfl, h1, h2, h3, h4⟩ := hrel
    by_cases hlt : p < q
    · obtain ⟨m, hm⟩ : ∃ m : Nat, (p + q) / 2 = m := ⟨_, rfl⟩
      have he : ((p : Int) + q) / 2 = (m : Int) := by omega
      have hml : m < l.length := by omega
      have hmp : p ≤ m ∧ m < q := by omega
      obtain ⟨g, off, rfl, hc⟩ := hcell m hml
      obtain ⟨x, hx⟩ : ∃ x, l.getD m 0 = x := ⟨_, rfl⟩
      rw [hx] at hc
      have hx' : l[m]? = some x := by rw [← hx]; simp [hml]
      obtain ⟨hx1, hx2⟩ := hb x (List.mem_of_getElem? hx')
      have hcap := h.slcCap
      clear hm hx hcell
      have hp1 : n < x → m < placeOf l n := placeOf_lt_of hf hx'
      have hp2 : x ≤ n → placeOf l n ≤ m := placeOf_le_of hx'
      clear hx'
      by_cases hnx : n < x
      · have hp3 := hp1 hnx
        go_wp2_with (go_at_call 123; refine (give_cmp _ _ hx1 hx2 hn hn2 _).mono ?_; rintro e w' ⟨rfl, rfl⟩)
        go_round
        case rel => exact ⟨m + 1, q, by go_num, rfl, by omega, by omega, by omega, by omega⟩
        case measure => simp [intOf]; omega
      · have hp3 := hp2 (by omega)
        go_wp2_with (go_at_call 123; refine (give_cmp _ _ hx1 hx2 hn hn2 _).mono ?_; rintro e w' ⟨rfl, rfl⟩)
        go_round
        case rel => exact ⟨p, m, rfl, rfl, by omega, by omega, by omega, by omega⟩
        case measure => simp [intOf]; omega
    · have hpq : placeOf l n = p := by omega
      have Hpq := Lib.hid hpq
      clear hpq
      by_cases hpl : p < l.length
      · obtain ⟨g, off, rfl, hc⟩ := hcell p hpl
        obtain ⟨x, hx⟩ : ∃ x, l.getD p 0 = x := ⟨_, rfl⟩
        rw [hx] at hc
        have hx' : l[p]? = some x := by rw [← hx]; simp [hpl]
        obtain ⟨hx1, hx2⟩ := hb x (List.mem_of_getElem? hx')
        have hcap := h.slcCap
        clear hx hcell hx'
        go_wp2_with (go_at_call 123; refine (give_cmp _ _ hx1 hx2 hn hn2 _).mono ?_; rintro e w' ⟨rfl, rfl⟩)
        go_ret2
        rw [Hpq.out]
        simp
      · clear hcell
        go_wp2
        go_ret2
        rw [Hpq.out]
        simp
end Go.Proofs.Ytkpcngcegipalaa.Tw
