/- Reach, plainly: ways, and how many are there. No condition. -/
import Derived.Test.YtmngkodejlhalaaRp1
import Derived.Test.YtmngkodejlhalaaGr11
namespace Go.Proofs.Ytmngkodejlhalaa.Tw
set_option linter.unusedVariables false
set_option linter.unusedSimpArgs false
open Go Go.RowKit

theorem refV6 {s : Int} (h : 1 ≤ s ∧ s ≤ 2147483647) : refV ⟨6, s⟩ = true := by simp [refV, mayV, within, h]
theorem path_ne {L : List AObj} {v : AVal} {x : Int} : 0 < (pathG L v x).length ↔ okG L = true ∧ refV v = true ∧ thereG L v.n = true ∧ thereG L x = true ∧ RG L v.n x := by
  unfold pathG
  split
  · rename_i h
    simp only [Bool.and_eq_true, Bool.not_eq_true', decide_eq_false_iff_not] at h
    obtain ⟨h1, h2, h3, h4, h5⟩ := h
    rw [pathF_len]
    exact ⟨fun _ => ⟨h1, h2, h3, h4, (distG_reach h4 _).1 h5⟩, fun _ => by omega⟩
  · rename_i h
    constructor
    · intro h; simp at h
    · rintro ⟨h1, h2, h3, h4, h5⟩
      exact absurd (by simp only [Bool.and_eq_true, Bool.not_eq_true', decide_eq_false_iff_not]; exact ⟨h1, h2, h3, h4, (distG_reach h4 _).2 h5⟩) h
/-- a way leads from a root to whatever is reached -/
theorem from_led {L : List AObj} {rs : List Int} {x : Int} (hp : ∀ r ∈ rs, 1 ≤ r ∧ r ≤ 2147483647) (h : x ∈ thoseG L rs true) : ∃ s ∈ rs, 0 < (pathG L ⟨6, s⟩ x).length := by
  obtain ⟨h1, h2⟩ := mem_fromG.1 h
  obtain ⟨r, hr, ht, hg⟩ := id h2
  exact ⟨r, hr, path_ne.2 ⟨h1, refV6 (hp r hr), ht, h2.there h1, hg⟩⟩
theorem from_root {L : List AObj} {rs : List Int} {s : Int} (hok : okG L = true) (hs : s ∈ rs) (ht : thereG L s = true) : s ∈ thoseG L rs true := mem_fromG.2 ⟨hok, s, hs, ht, .refl⟩
theorem from_kid {L : List AObj} {rs : List Int} {x y : Int} (h : x ∈ thoseG L rs true) (hy : y ∈ kids L x) : y ∈ thoseG L rs true := by
  obtain ⟨h1, h2⟩ := mem_fromG.1 h
  exact mem_fromG.2 ⟨h1, h2.next hy⟩
theorem from_or {L : List AObj} {rs : List Int} {x : Int} (hok : okG L = true) (ht : thereG L x = true) : (x ∈ thoseG L rs true ∧ x ∉ thoseG L rs false) ∨ (x ∉ thoseG L rs true ∧ x ∈ thoseG L rs false) := by
  by_cases h : RS L rs x
  · exact .inl ⟨mem_fromG.2 ⟨hok, h⟩, fun h' => (mem_lostG.1 h').2.2 h⟩
  · exact .inr ⟨fun h' => h (mem_fromG.1 h').2, mem_lostG.2 ⟨hok, ht, h⟩⟩
theorem none_in {L : List AObj} {rs : List Int} {x : Int} (ht : thereG L x = false) (b : Bool) : x ∉ thoseG L rs b := fun h => by
  rw [(mem_thoseG.1 h).2.1] at ht; cases ht
theorem there_at {L : List AObj} {i : Nat} {o : AObj} (h : L[i]? = some o) : thereG L ((i : Int) + 1) = !decide (o.kind = 0) := by unfold thereG; rw [objG_nat, h]
theorem kids_at {L : List AObj} {i : Nat} {o : AObj} (h : L[i]? = some o) : kids L ((i : Int) + 1) = refsV o.slots := by unfold kids; rw [objG_nat, h]
/-- how many of the first k are there -/
def thereN (L : List AObj) (k : Nat) : Nat := ((List.range k).filter fun (i : Nat) => thereG L ((i : Int) + 1)).length
theorem thereN_succ (L : List AObj) (k : Nat) : thereN L (k + 1) = thereN L k + if thereG L ((k : Int) + 1) then 1 else 0 := by
  unfold thereN
  rw [List.range_succ, List.filter_append, List.length_append]
  congr 1
  cases h : thereG L ((k : Int) + 1) <;> simp [h]
theorem thereN_le (L : List AObj) (k : Nat) : thereN L k ≤ k := by
  unfold thereN
  have := List.length_filter_le (fun (i : Nat) => thereG L ((i : Int) + 1)) (List.range k)
  simpa using this
theorem filter_two {α : Type} (p q : α → Bool) : ∀ l : List α, (l.filter fun x => p x && (q x == true)).length + (l.filter fun x => p x && (q x == false)).length = (l.filter p).length
  | [] => rfl
  | x :: l => by
    have := filter_two p q l
    cases hp : p x <;> cases hq : q x <;> simp [hp, hq] at this ⊢ <;> omega
theorem thoseG_two {L : List AObj} (hok : okG L = true) (rs : List Int) : (thoseG L rs true).length + (thoseG L rs false).length = thereN L L.length := by
  unfold thoseG thereN
  rw [if_pos hok, if_pos hok, filter_two (thereG L) (fun n => decide (n ∈ markL L rs)), List.filter_map, List.length_map]
  rfl
theorem thoseG_no {L : List AObj} (h : okG L = false) (rs : List Int) (b : Bool) : thoseG L rs b = [] := by unfold thoseG; rw [h]; rfl
end Go.Proofs.Ytmngkodejlhalaa.Tw
