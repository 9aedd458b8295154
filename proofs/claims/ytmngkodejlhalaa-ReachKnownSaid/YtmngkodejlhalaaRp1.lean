/- reach, plainly: From and Lost. No condition. -/
import Derived.Test.YtmngkodejlhalaaGr2
namespace Go.Proofs.Ytmngkodejlhalaa.Tw
set_option linter.unusedVariables false
set_option linter.unusedSimpArgs false
open Go Go.RowKit

theorem mem_thoseG {L : List AObj} {rs : List Int} {b : Bool} {n : Int} : n ∈ thoseG L rs b ↔ okG L = true ∧ thereG L n = true ∧ decide (n ∈ markL L rs) = b := by
  unfold thoseG
  by_cases hok : okG L = true
  · rw [if_pos hok]
    simp only [List.mem_filter, List.mem_map, List.mem_range, Bool.and_eq_true, beq_iff_eq]
    constructor
    · rintro ⟨_, h1, h2⟩; exact ⟨hok, h1, h2⟩
    · rintro ⟨_, h1, h2⟩
      have := thereG_range h1
      exact ⟨⟨(n - 1).toNat, by omega, by omega⟩, h1, h2⟩
  · rw [if_neg hok]
    simp [hok]
theorem mem_fromG {L : List AObj} {rs : List Int} {n : Int} : n ∈ thoseG L rs true ↔ okG L = true ∧ RS L rs n := by
  rw [mem_thoseG]
  constructor
  · rintro ⟨h1, h2, h3⟩
    exact ⟨h1, (mem_markL h1 rs n).1 (by simpa using h3)⟩
  · rintro ⟨h1, h2⟩
    exact ⟨h1, h2.there h1, by simpa using (mem_markL h1 rs n).2 h2⟩
theorem mem_lostG {L : List AObj} {rs : List Int} {n : Int} : n ∈ thoseG L rs false ↔ okG L = true ∧ thereG L n = true ∧ ¬ RS L rs n := by
  rw [mem_thoseG]
  constructor
  · rintro ⟨h1, h2, h3⟩
    refine ⟨h1, h2, fun h => ?_⟩
    have := (mem_markL h1 rs n).2 h
    simp [this] at h3
  · rintro ⟨h1, h2, h3⟩
    refine ⟨h1, h2, ?_⟩
    have : ¬ n ∈ markL L rs := fun h => h3 ((mem_markL h1 rs n).1 h)
    simp [this]
theorem thoseG_rising (L : List AObj) (rs : List Int) (b : Bool) : (thoseG L rs b).Pairwise (· < ·) := by
  unfold thoseG
  split
  · refine List.Pairwise.filter _ ?_
    rw [List.pairwise_map]
    refine List.Pairwise.imp ?_ List.pairwise_lt_range
    intro a b h; omega
  · exact .nil
/-- two rising lists with the same members are one -/
theorem rising_ext {l r : List Int} (hl : l.Pairwise (· < ·)) (hr : r.Pairwise (· < ·)) (h : ∀ x, x ∈ l ↔ x ∈ r) : l = r := by
  have hp : l.Perm r := (List.perm_ext_iff_of_nodup (hl.imp fun h => by omega) (hr.imp fun h => by omega)).2 h
  exact hp.eq_of_pairwise (fun a b _ _ h1 h2 => by omega) hl hr
theorem RS.more {L : List AObj} {r1 r2 : List Int} {n : Int} (h : RS L r1 n) : RS L (r1 ++ r2) n := by
  obtain ⟨r, h1, h2⟩ := h
  exact ⟨r, List.mem_append.2 (.inl h1), h2⟩
theorem from_more {L : List AObj} {r1 r2 : List Int} {n : Int} (h : n ∈ thoseG L r1 true) : n ∈ thoseG L (r1 ++ r2) true := by
  rw [mem_fromG] at *
  exact ⟨h.1, h.2.more⟩
theorem from_again (L : List AObj) (rs : List Int) : thoseG L (thoseG L rs true) true = thoseG L rs true := by
  refine rising_ext (thoseG_rising _ _ _) (thoseG_rising _ _ _) fun n => ?_
  rw [mem_fromG, mem_fromG]
  constructor
  · rintro ⟨h1, r, hr, ht, hg⟩
    obtain ⟨_, a, ha, ht', hg'⟩ := mem_fromG.1 hr
    exact ⟨h1, a, ha, ht', hg'.trans hg⟩
  · rintro ⟨h1, h2⟩
    exact ⟨h1, n, mem_fromG.2 ⟨h1, h2⟩, h2.there h1, .refl⟩
theorem refsV_append (l r : List AVal) : refsV (l ++ r) = refsV l ++ refsV r := by unfold refsV; rw [List.filter_append, List.map_append]
/-- numbers as the values of cells -/
theorem refsV_cells {l : List Int} (h : ∀ x ∈ l, 1 ≤ x ∧ x ≤ 2147483647) : refsV (l.map fun x => (⟨9, x⟩ : AVal)) = l := by
  unfold refsV
  rw [List.filter_eq_self.2, List.map_map]
  · exact (List.map_congr_left fun _ _ => rfl).trans (List.map_id _)
  · intro v hv
    obtain ⟨x, hx, rfl⟩ := List.mem_map.1 hv
    have := h x hx
    simp [refV, mayV, within, this]
theorem thoseG_in {L : List AObj} {rs : List Int} {b : Bool} {n : Int} (h : n ∈ thoseG L rs b) : 1 ≤ n ∧ n ≤ L.length := thereG_range (mem_thoseG.1 h).2.1
theorem thoseG_len (L : List AObj) (rs : List Int) (b : Bool) : (thoseG L rs b).length ≤ L.length := nodup_len L.length _ ((thoseG_rising L rs b).imp fun h => by omega) fun x hx => thoseG_in hx
end Go.Proofs.Ytmngkodejlhalaa.Tw
