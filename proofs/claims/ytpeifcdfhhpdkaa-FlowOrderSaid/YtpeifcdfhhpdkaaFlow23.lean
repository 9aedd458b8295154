/- FlowOrder's plain law; rows of numbers. No condition. -/
import Derived.Test.YtpeifcdfhhpdkaaFlow19
namespace Go.Proofs.Ytpeifcdfhhpdkaa.Tw
set_option linter.unusedVariables false
set_option linter.unusedSimpArgs false
open Go Go.RowKit Go.MapKept

structure OSpec (l : List AIn) (O Fm : List Int) : Prop where
  nodup : O.Nodup
  mem : ∀ x ∈ O, x ∈ Fm
  len : O.length = Fm.length
  zero : 0 < l.length → O[0]? = some 0
  up : ∀ (i : Nat) (w : Int), 0 < i → O[i]? = some w → ∃ (j : Nat) (u : Int), j < i ∧ O[j]? = some u ∧ w ∈ nextL l u
  ahead : (∀ (j : Nat) (y : Int), j < l.length → y ∈ nextL l j → (j : Int) < y) → ∀ (i j : Nat) (x y : Int), O[i]? = some x → O[j]? = some y → y ∈ nextL l x → i < j
  rng : ∀ x ∈ O, inr l.length x = true
  closed : ∀ x ∈ O, ∀ y ∈ nextL l x, y ∈ O
theorem reach_le {l : List AIn} (h : ∀ (j : Nat) (y : Int), j < l.length → y ∈ nextL l j → (j : Int) < y) {a b : Int} (r : Reach l a b) : a ≤ b := by
  induction r with
  | refl => exact Int.le_refl _
  | @step x y _ h2 ih =>
    have hx : 0 ≤ x ∧ x.toNat < l.length := by
      unfold nextL at h2
      split at h2
      · rename_i h0
        refine ⟨h0, ?_⟩
        cases e : l[x.toNat]? with
        | none => rw [e] at h2; simp at h2
        | some z => exact (List.getElem?_eq_some_iff.1 e).1
      · simp at h2
    have := h x.toNat y hx.2 (by rw [Int.toNat_of_nonneg hx.1]; exact h2)
    omega
theorem ord_spec (l : List AIn) : OSpec l (orderL l) (fromL l 0) := by
  by_cases h : 0 < l.length
  · have hin : inr l.length 0 = true := by unfold inr; simp; omega
    obtain ⟨f1, f2, f3⟩ := fromL_in hin
    obtain ⟨D, e, d1, d2, d3, d4, d5, d6⟩ := orderL_spec h
    rw [e]
    have hpos : 0 < D.length := by
      cases D with
      | nil => simp at d4
      | cons => simp
    have hget : ∀ (i : Nat) (x : Int), D.reverse[i]? = some x ↔ i < D.length ∧ D[D.length - 1 - i]? = some x := fun i x => by
      constructor
      · intro hx
        have hi : i < D.length := by have := (List.getElem?_eq_some_iff.1 hx).1; simpa using this
        rw [List.getElem?_reverse hi] at hx
        exact ⟨hi, hx⟩
      · rintro ⟨hi, hx⟩
        rw [List.getElem?_reverse hi]
        exact hx
    have hmem : ∀ x, x ∈ D.reverse ↔ Reach l 0 x := fun x => by rw [List.mem_reverse, d2]
    refine ⟨(List.reverse_perm D).nodup_iff.2 d1, fun x hx => (f2 x).2 ((hmem x).1 hx), ?_, fun _ => ?_, ?_, ?_, fun x hx => d3 x (by simpa using hx), fun x hx y hy => (hmem y).2 (.step ((hmem x).1 hx) hy)⟩
    · have hp : D.reverse.Perm (fromL l 0) := (List.perm_ext_iff_of_nodup ((List.reverse_perm D).nodup_iff.2 d1) (f1.imp fun h => by omega)).2 fun x => by rw [hmem, f2]
      exact hp.length_eq
    · rw [hget]
      refine ⟨hpos, ?_⟩
      rw [List.getLast?_eq_getElem?] at d4
      rw [Nat.sub_zero]; exact d4
    · intro i w hi hw
      obtain ⟨h1, h2⟩ := (hget i w).1 hw
      rcases d5 _ w h2 with rfl | ⟨u, hu, j, hj, e2⟩
      · exfalso
        rw [List.getLast?_eq_getElem?] at d4
        have := (List.getElem?_inj (by omega) d1).1 (h2.trans d4.symm)
        omega
      · have hjl := (List.getElem?_eq_some_iff.1 e2).1
        refine ⟨D.length - 1 - j, u, by omega, (hget _ u).2 ⟨by omega, ?_⟩, hu⟩
        rw [show D.length - 1 - (D.length - 1 - j) = j by omega]; exact e2
    · intro hup i j x y hx hy hxy
      obtain ⟨h1, h2⟩ := (hget i x).1 hx
      obtain ⟨h3, h4⟩ := (hget j y).1 hy
      rcases d6 _ x h2 y hxy with ⟨k, hk, e2⟩ | r
      · have := (List.getElem?_inj (by omega) d1).1 (h4.trans e2.symm)
        omega
      · have hle := reach_le hup r
        have hx0 : inr l.length x = true := d3 x (List.mem_of_getElem? h2)
        unfold inr at hx0
        simp at hx0
        have := hup x.toNat y (by omega) (by rw [Int.toNat_of_nonneg hx0.1]; exact hxy)
        omega
  · have e1 : orderL l = [] := by unfold orderL; rw [if_pos (by omega)]
    have e2 : fromL l 0 = [] := fromL_out (by have h0 : l.length = 0 := by omega
                                              unfold inr; rw [h0]; rfl)
    rw [e1, e2]
    exact ⟨List.nodup_nil, fun x hx => by simp at hx, rfl, fun h2 => absurd h2 h, fun i w _ hw => by simp at hw, fun _ i j x y hx => by simp at hx, fun x hx => by simp at hx, fun x hx => by simp at hx⟩
def rowI (sb : Nat) (bs : List Int) : HP := pt sb (.cells (bs.map ival).toArray 3 (0, 0))
section
variable {w0 w : World} {F : HP}
theorem rowICell {sb : Nat} {bs : List Int} {j : Nat} {b : Int} (h : Sat w0 w (rowI sb bs * F)) (hj : bs[j]? = some b) : w.cell? ⟨sb, j, none⟩ = some (.int .i64 b) ∧ w.frozen? ⟨sb, j, none⟩ = false :=
  ⟨Sat.cell h j (by simp [hj, ival]), Sat.free h j⟩
theorem Sat.rowISet {sb : Nat} {bs : List Int} (j : Nat) (b : Int) (h : Sat w0 w (rowI sb bs * F)) : Sat w0 (w.setCell ⟨sb, j, none⟩ (.int .i64 b)) (rowI sb (bs.set j b) * F) := by
  have h1 := Sat.store (i := j) h (.int .i64 b)
  unfold rowI
  rw [List.map_set]
  have e : (bs.map ival).toArray.setIfInBounds j (.int .i64 b) = ((bs.map ival).set j (ival b)).toArray := List.setIfInBounds_toArray _ _ _
  rw [e] at h1
  exact h1
theorem Sat.madeRowI {sb n : Nat} (h : Sat w0 w (pt sb (.cells (madeCells #[.int .i64 0] n) 3 (0, 0)) * F)) : Sat w0 w (rowI sb (List.replicate n 0) * F) := by
  rw [made_one] at h
  unfold rowI
  rw [List.map_replicate]
  exact h
end
end Go.Proofs.Ytpeifcdfhhpdkaa.Tw
