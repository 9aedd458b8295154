/- the document's Next; Ints of layer 2. No condition. -/
import Derived.Test.YtpeifcdfhhpdkaaFlow11
namespace Go.Proofs.Ytpeifcdfhhpdkaa.Tw
set_option linter.unusedVariables false
set_option linter.unusedSimpArgs false
open Go Go.RowKit Go.MapKept

def hitB (bh jp : Bool) (pc b : Int) (m : Nat) : Bool := (bh && decide ((m : Int) = pc + 1)) || (jp && decide ((m : Int) = b))
def hitsL (bh jp : Bool) (pc b : Int) (k : Nat) : List Int := ((List.range k).filter (hitB bh jp pc b)).map fun (m : Nat) => (m : Int)
theorem hitsL_yes {bh jp : Bool} {pc b : Int} {k : Nat} (h : hitB bh jp pc b k = true) : hitsL bh jp pc b (k + 1) = hitsL bh jp pc b k ++ [(k : Int)] := by
  unfold hitsL
  rw [List.range_succ, List.filter_append, List.map_append, List.filter_cons, h]; rfl
theorem hitsL_no {bh jp : Bool} {pc b : Int} {k : Nat} (h : hitB bh jp pc b k = false) : hitsL bh jp pc b (k + 1) = hitsL bh jp pc b k := by
  unfold hitsL
  rw [List.range_succ, List.filter_append, List.map_append, List.filter_cons, h]; simp
theorem hitsL_le (bh jp : Bool) (pc b : Int) (k : Nat) : (hitsL bh jp pc b k).length ≤ k := by
  unfold hitsL
  rw [List.length_map]
  have := List.length_filter_le (hitB bh jp pc b) (List.range k)
  simpa using this
theorem mem_hitsL {bh jp : Bool} {pc b : Int} {k : Nat} {x : Int} : x ∈ hitsL bh jp pc b k ↔ inr k x = true ∧ ((bh = true ∧ x = pc + 1) ∨ (jp = true ∧ x = b)) := by
  unfold hitsL inr hitB
  simp only [List.mem_map, List.mem_filter, List.mem_range, Bool.or_eq_true, Bool.and_eq_true, decide_eq_true_eq]
  constructor
  · rintro ⟨a, ⟨h1, h2⟩, rfl⟩
    exact ⟨by omega, h2⟩
  · rintro ⟨⟨h1, h2⟩, h3⟩
    exact ⟨x.toNat, ⟨by omega, by rw [Int.toNat_of_nonneg h1]; exact h3⟩, Int.toNat_of_nonneg h1⟩
theorem hitsL_sorted (bh jp : Bool) (pc b : Int) (k : Nat) : (hitsL bh jp pc b k).Pairwise (· < ·) := by
  unfold hitsL
  refine List.pairwise_map.2 ?_
  refine List.Pairwise.imp ?_ ((List.pairwise_lt_range (n := k)).filter _)
  intro a b h; exact Int.ofNat_lt.2 h
def bhB (op : Int) : Bool := !decide (op = 19) && !decide (op = 20)
def jpB (op : Int) : Bool := decide (op = 20) || isIf op
/-- two rising lists with the same members -/
theorem rising_ext {l r : List Int} (hl : l.Pairwise (· < ·)) (hr : r.Pairwise (· < ·)) (h : ∀ x, x ∈ l ↔ x ∈ r) : l = r := by
  have hp : l.Perm r := (List.perm_ext_iff_of_nodup (hl.imp fun h => by omega) (hr.imp fun h => by omega)).2 h
  exact List.Perm.eq_of_pairwise (fun a b _ _ h1 h2 => by omega) (hl.imp fun h => Int.le_of_lt h) (hr.imp fun h => Int.le_of_lt h) hp
theorem sortI_sorted (l : List Int) : (sortI l).Pairwise (· ≤ ·) := by
  have := List.pairwise_mergeSort (le := fun x y : Int => decide (x ≤ y)) (by intro a b c h1 h2; simp at *; omega) (by intro a b; simp; omega) l
  exact this.imp fun h => by simpa using h
theorem sortI_rising {l : List Int} (h : l.Nodup) : (sortI l).Pairwise (· < ·) := by
  have h1 : (sortI l).Nodup := ((List.mergeSort_perm l _).nodup_iff).2 h
  exact (List.Pairwise.and (sortI_sorted l) h1).imp fun ⟨a, b⟩ => by omega
theorem mem_wi {n : Nat} {x y : Int} : y ∈ wi n x ↔ inr n x = true ∧ y = x := by
  unfold wi
  split <;> simp_all
theorem wi_nodup (n : Nat) (x : Int) : (wi n x).Nodup := by unfold wi; split <;> simp
theorem nextL_at {l : List AIn} {k : Nat} {x : AIn} (hx : l[k]? = some x) : nextL l k = if x.op = 19 then [] else if x.op = 20 then wi l.length x.b else if isIf x.op then wi l.length ((k : Int) + 1) ++ (if x.b = (k : Int) + 1 then [] else wi l.length x.b) else wi l.length ((k : Int) + 1) := by
  unfold nextL
  rw [if_pos (by omega), Int.toNat_natCast, hx]
theorem nextL_nodup (l : List AIn) (pc : Int) : (nextL l pc).Nodup := by
  unfold nextL
  split
  · split
    · exact List.nodup_nil
    · split
      · exact List.nodup_nil
      · split
        · exact wi_nodup _ _
        · split
          · refine List.nodup_append.2 ⟨wi_nodup _ _, ?_, ?_⟩
            · split
              · exact List.nodup_nil
              · exact wi_nodup _ _
            · intro a ha b hb
              split at hb
              · simp at hb
              · rename_i x _ _ _ _ hne
                rw [mem_wi] at ha hb
                rw [ha.2, hb.2]
                exact fun e => hne e.symm
          · exact wi_nodup _ _
  · exact List.nodup_nil
theorem hits_next {l : List AIn} {k : Nat} {x : AIn} (hx : l[k]? = some x) : hitsL (bhB x.op) (jpB x.op) k x.b l.length = sortI (nextL l k) := by
  refine rising_ext (hitsL_sorted _ _ _ _ _) (sortI_rising (nextL_nodup _ _)) fun y => ?_
  rw [mem_sortI, mem_hitsL, nextL_at hx]
  unfold bhB jpB
  by_cases o19 : x.op = 19
  · have : isIf x.op = false := by rw [o19]; decide
    simp [o19, this]
    rw [o19] at this
    simp [this]
  by_cases o20 : x.op = 20
  · have : isIf 20 = false := by decide
    rw [if_neg o19, if_pos o20, mem_wi]
    simp [o20]
    intro h; rw [h]
  rw [if_neg o19, if_neg o20]
  cases hif : isIf x.op with
  | false =>
    simp only [o19, o20, decide_false, Bool.not_false, Bool.and_self, true_and, Bool.or_self, Bool.false_eq_true, false_and, or_false, if_false, mem_wi]
    constructor
    · rintro ⟨h1, rfl⟩; exact ⟨h1, rfl⟩
    · rintro ⟨h1, rfl⟩; exact ⟨h1, rfl⟩
  | true =>
    simp only [o19, o20, decide_false, Bool.not_false, Bool.and_self, true_and, Bool.or_true, if_true, List.mem_append, mem_wi]
    constructor
    · rintro ⟨h1, h2 | h2⟩
      · left; subst h2; exact ⟨h1, rfl⟩
      · by_cases e : x.b = (k : Int) + 1
        · left; subst h2; rw [← e]; exact ⟨h1, rfl⟩
        · right; rw [if_neg e, mem_wi]; subst h2; exact ⟨h1, rfl⟩
    · rintro (⟨h1, h2⟩ | h1)
      · subst h2; exact ⟨h1, .inl rfl⟩
      · split at h1
        · simp at h1
        · rw [mem_wi] at h1; obtain ⟨h1, rfl⟩ := h1; exact ⟨h1, .inr rfl⟩
end Go.Proofs.Ytpeifcdfhhpdkaa.Tw
