/- the document's From. No condition. -/
import Derived.Test.YtpeifcdfhhpdkaaFlow18
namespace Go.Proofs.Ytpeifcdfhhpdkaa.Tw
set_option linter.unusedVariables false
set_option linter.unusedSimpArgs false
open Go Go.RowKit Go.MapKept

def rowB (sb : Nat) (bs : List Bool) : HP := pt sb (.cells (bs.map Value.bool).toArray 4 (0, 0))
def isF : Value → Bool
  | .bool false => true
  | _ => false
def falses (w : World) (sb : Nat) : Nat := match w.heap[sb]? with
  | some (.cells cs _ _) => (cs.toList.filter isF).length
  | _ => 0
def fls (bs : List Bool) : Nat := (bs.filter (!·)).length
def lenOf : Value → Nat
  | .slice _ n _ => n
  | _ => 0
theorem fls_map (bs : List Bool) : ((bs.map Value.bool).filter isF).length = fls bs := by
  induction bs with
  | nil => rfl
  | cons b bs ih =>
    cases b
    · exact congrArg (· + 1) ih
    · exact ih
theorem fls_set : ∀ (bs : List Bool) (j : Nat), bs[j]? = some false → fls (bs.set j true) + 1 = fls bs
  | [], j, h => by simp at h
  | b :: bs, 0, h => by simp at h; subst h; simp [fls]
  | b :: bs, j + 1, h => by
    have ih := fls_set bs j (by simpa using h)
    unfold fls at *
    cases b <;> simp_all
def tkB (bs : List Bool) (x : Int) : Prop := 0 ≤ x ∧ bs[x.toNat]? = some true
theorem tkB_set {bs : List Bool} {x : Int} (j : Nat) (h : tkB bs x) : tkB (bs.set j true) x := by
  refine ⟨h.1, ?_⟩
  rw [List.getElem?_set]
  split
  · rename_i e; rw [if_pos (by rw [e]; exact (List.getElem?_eq_some_iff.1 h.2).1)]
  · exact h.2
theorem tkB_new {bs : List Bool} {j : Nat} (h : j < bs.length) : tkB (bs.set j true) (j : Int) := ⟨by omega, by rw [Int.toNat_natCast, List.getElem?_set_self h]⟩
theorem tkB_of_set {bs : List Bool} {j : Nat} {x : Int} (h : tkB (bs.set j true) x) : tkB bs x ∨ x = (j : Int) := by
  obtain ⟨h1, h2⟩ := h
  by_cases e : x = (j : Int)
  · exact .inr e
  · left
    refine ⟨h1, ?_⟩
    rw [List.getElem?_set_ne (by omega)] at h2
    exact h2
def truesL (bs : List Bool) (k : Nat) : List Int := ((List.range k).filter fun i => decide (bs[i]? = some true)).map fun (i : Nat) => (i : Int)
theorem truesL_yes {bs : List Bool} {k : Nat} (h : bs[k]? = some true) : truesL bs (k + 1) = truesL bs k ++ [(k : Int)] := by
  unfold truesL
  rw [List.range_succ, List.filter_append, List.map_append, List.filter_cons, h]; rfl
theorem truesL_no {bs : List Bool} {k : Nat} (h : bs[k]? = some false) : truesL bs (k + 1) = truesL bs k := by
  unfold truesL
  rw [List.range_succ, List.filter_append, List.map_append, List.filter_cons, h]; simp
theorem truesL_le (bs : List Bool) (k : Nat) : (truesL bs k).length ≤ k := by
  unfold truesL
  rw [List.length_map]
  have := List.length_filter_le (fun i => decide (bs[i]? = some true)) (List.range k)
  simpa using this
theorem mem_truesL {bs : List Bool} {k : Nat} {x : Int} : x ∈ truesL bs k ↔ x < k ∧ tkB bs x := by
  unfold truesL tkB
  simp only [List.mem_map, List.mem_filter, List.mem_range, decide_eq_true_eq]
  constructor
  · rintro ⟨a, ⟨h1, h2⟩, rfl⟩
    exact ⟨by omega, by omega, by rw [Int.toNat_natCast]; exact h2⟩
  · rintro ⟨h1, h2, h3⟩
    exact ⟨x.toNat, ⟨by omega, h3⟩, Int.toNat_of_nonneg h2⟩
theorem truesL_sorted (bs : List Bool) (k : Nat) : (truesL bs k).Pairwise (· < ·) := by
  unfold truesL
  refine List.pairwise_map.2 ?_
  refine List.Pairwise.imp ?_ ((List.pairwise_lt_range (n := k)).filter _)
  intro a b h; exact Int.ofNat_lt.2 h
section
variable {w0 w : World} {F : HP}
theorem falses_row {sb : Nat} {bs : List Bool} (h : Sat w0 w (rowB sb bs * F)) : falses w sb = fls bs := by
  have := Sat.blk h
  unfold falses
  rw [this]
  exact fls_map bs
theorem rowCell {sb : Nat} {bs : List Bool} {j : Nat} {b : Bool} (h : Sat w0 w (rowB sb bs * F)) (hj : bs[j]? = some b) : w.cell? ⟨sb, j, none⟩ = some (.bool b) ∧ w.frozen? ⟨sb, j, none⟩ = false :=
  ⟨Sat.cell h j (by simp [hj]), Sat.free h j⟩
theorem Sat.rowSet {sb : Nat} {bs : List Bool} (j : Nat) (b : Bool) (h : Sat w0 w (rowB sb bs * F)) : Sat w0 (w.setCell ⟨sb, j, none⟩ (.bool b)) (rowB sb (bs.set j b) * F) := by
  have h1 := Sat.store (i := j) h (.bool b)
  unfold rowB
  rw [List.map_set]
  have e : (bs.map Value.bool).toArray.setIfInBounds j (.bool b) = ((bs.map Value.bool).set j (.bool b)).toArray := by simp
  rw [e] at h1
  exact h1
theorem Sat.madeRow {sb n : Nat} (h : Sat w0 w (pt sb (.cells (madeCells #[.bool false] n) 4 (0, 0)) * F)) : Sat w0 w (rowB sb (List.replicate n false) * F) := by
  rw [made_one] at h
  unfold rowB
  rw [List.map_replicate]
  exact h
theorem Sat.madeRowSet {sb n j : Nat} (h : Sat w0 w (pt sb (.cells ((madeCells #[.bool false] n).setIfInBounds j (.bool true)) 4 (0, 0)) * F)) : Sat w0 w (rowB sb ((List.replicate n false).set j true) * F) := by
  rw [made_one] at h
  unfold rowB
  rw [List.map_set, List.map_replicate]
  have e : (List.replicate n (Value.bool false)).toArray.setIfInBounds j (.bool true) = ((List.replicate n (Value.bool false)).set j (.bool true)).toArray := List.setIfInBounds_toArray _ _ _
  rw [e] at h
  exact h
end
/-- what the search has: the marks, and what waits -/
structure FR (l : List AIn) (pc : Int) (bs : List Bool) (W : List Int) : Prop where
  start : tkB bs pc
  reach : ∀ x, tkB bs x → Reach l pc x
  wait : ∀ x ∈ W, tkB bs x
  closed : ∀ x, tkB bs x → x ∈ W ∨ ∀ y ∈ nextL l x, tkB bs y
/-- the same in the midst of a place's next ones -/
structure FRi (l : List AIn) (pc : Int) (at_ : Int) (bs : List Bool) (W : List Int) (q : Nat) : Prop where
  start : tkB bs pc
  me : tkB bs at_
  reach : ∀ x, tkB bs x → Reach l pc x
  wait : ∀ x ∈ W, tkB bs x
  closed : ∀ x, tkB bs x → x ∈ W ∨ x = at_ ∨ ∀ y ∈ nextL l x, tkB bs y
  got : ∀ j y, j < q → (sortI (nextL l at_))[j]? = some y → tkB bs y
theorem FR.first {l : List AIn} {p n : Nat} (hp : p < n) : FR l p ((List.replicate n false).set p true) [(p : Int)] := by
  have h0 : ∀ x, ¬ tkB (List.replicate n false) x := fun x hx => by
    have := hx.2
    rw [List.getElem?_replicate] at this
    split at this <;> cases this
  have h1 : ∀ x, tkB ((List.replicate n false).set p true) x → x = (p : Int) := fun x hx => by
    rcases tkB_of_set hx with h | h
    · exact absurd h (h0 x)
    · exact h
  refine ⟨tkB_new (by simpa using hp), fun x hx => by rw [h1 x hx]; exact .refl, fun x hx => ?_, fun x hx => .inl (by rw [h1 x hx]; simp)⟩
  simp at hx; subst hx; exact tkB_new (by simpa using hp)
theorem FR.pop {l : List AIn} {pc x : Int} {bs : List Bool} {W : List Int} (h : FR l pc bs (W ++ [x])) : FRi l pc x bs W 0 := by
  refine ⟨h.start, h.wait x (by simp), h.reach, fun y hy => h.wait y (by simp [hy]), fun y hy => ?_, fun j y hj => by omega⟩
  rcases h.closed y hy with h1 | h1
  · rcases List.mem_append.1 h1 with h2 | h2
    · exact .inl h2
    · simp at h2; exact .inr (.inl h2)
  · exact .inr (.inr h1)
theorem FRi.done {l : List AIn} {pc x : Int} {bs : List Bool} {W : List Int} {q : Nat} (h : FRi l pc x bs W q) (hq : (sortI (nextL l x)).length ≤ q) : FR l pc bs W := by
  refine ⟨h.start, h.reach, h.wait, fun y hy => ?_⟩
  rcases h.closed y hy with h1 | h1 | h1
  · exact .inl h1
  · subst h1
    refine .inr fun z hz => ?_
    obtain ⟨j, hj⟩ := List.mem_iff_getElem?.1 (mem_sortI.2 hz)
    exact h.got j z (by have := (List.getElem?_eq_some_iff.1 hj).1; omega) hj
  · exact .inr h1
theorem FRi.skip {l : List AIn} {pc x y : Int} {bs : List Bool} {W : List Int} {q : Nat} (h : FRi l pc x bs W q) (hy : (sortI (nextL l x))[q]? = some y) (ht : tkB bs y) : FRi l pc x bs W (q + 1) := by
  refine ⟨h.start, h.me, h.reach, h.wait, h.closed, fun j z hj hz => ?_⟩
  rcases Nat.lt_or_ge j q with h1 | h1
  · exact h.got j z h1 hz
  · obtain rfl : j = q := by omega
    rw [hy] at hz; cases hz; exact ht
theorem FRi.add {l : List AIn} {pc x : Int} {y : Nat} {bs : List Bool} {W : List Int} {q : Nat} (h : FRi l pc x bs W q) (hy : (sortI (nextL l x))[q]? = some (y : Int)) (hl : y < bs.length) : FRi l pc x (bs.set y true) (W ++ [(y : Int)]) (q + 1) := by
  have hm : (y : Int) ∈ nextL l x := mem_sortI.1 (List.mem_of_getElem? hy)
  refine ⟨tkB_set y h.start, tkB_set y h.me, fun z hz => ?_, fun z hz => ?_, fun z hz => ?_, fun j z hj hz => ?_⟩
  · rcases tkB_of_set hz with h1 | rfl
    · exact h.reach z h1
    · exact .step (h.reach x h.me) hm
  · rcases List.mem_append.1 hz with h1 | h1
    · exact tkB_set y (h.wait z h1)
    · simp at h1; subst h1; exact tkB_new hl
  · rcases tkB_of_set hz with h1 | rfl
    · rcases h.closed z h1 with h2 | h2 | h2
      · exact .inl (by simp [h2])
      · exact .inr (.inl h2)
      · exact .inr (.inr fun u hu => tkB_set y (h2 u hu))
    · exact .inl (by simp)
  · rcases Nat.lt_or_ge j q with h1 | h1
    · exact tkB_set y (h.got j z h1 hz)
    · obtain rfl : j = q := by omega
      rw [hy] at hz; cases hz; exact tkB_new hl
theorem FR.end_ {l : List AIn} {pc : Int} {bs : List Bool} (h : FR l pc bs []) (hin : inr l.length pc = true) (hl : bs.length = l.length) : truesL bs l.length = fromL l pc := by
  obtain ⟨h1, h2, h3⟩ := fromL_in hin
  refine rising_ext (truesL_sorted _ _) h1 fun x => ?_
  rw [mem_truesL, h2]
  constructor
  · rintro ⟨_, h4⟩; exact h.reach x h4
  · intro hr
    have ht : tkB bs x := hr.closed h.start fun z hz y hy => by
      rcases h.closed z hz with h5 | h5
      · cases h5
      · exact h5 y hy
    exact ⟨by have := (List.getElem?_eq_some_iff.1 ht.2).1; have := ht.1; omega, ht⟩
end Go.Proofs.Ytpeifcdfhhpdkaa.Tw
