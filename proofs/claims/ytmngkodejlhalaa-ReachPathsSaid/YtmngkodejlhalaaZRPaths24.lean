/- Reach, plainly: what a way is. No condition. -/
import Derived.Test.YtmngkodejlhalaaZRPaths22
import Derived.Test.YtmngkodejlhalaaZRPaths8
namespace Go.Proofs.Ytmngkodejlhalaa.Tw
set_option linter.unusedVariables false
set_option linter.unusedSimpArgs false
open Go Go.RowKit

/-- the i-th of a way of f more steps -/
theorem pathF_at {L : List AObj} {to : Int} (ht : thereG L to = true) : ∀ (f : Nat) (x : Int), distG L to x = f + 1 → ∀ i y, (pathF L to f x)[i]? = some y → distG L to y + i = f + 1
  | 0, x, hd, i, y, h => by
    unfold pathF at h
    match i, h with
    | 0, h => cases h; exact hd
    | i + 1, h => simp at h
  | f + 1, x, hd, i, y, h => by
    unfold pathF at h
    match i, h with
    | 0, h => cases h; exact hd
    | i + 1, h =>
      obtain ⟨_, _, _, _, h4⟩ := nextG_spec ht (show 2 ≤ distG L to x by omega)
      have := pathF_at ht f (nextG L to x) (by omega) i y (by simpa using h)
      omega
theorem pathF_step {L : List AObj} {to : Int} (ht : thereG L to = true) : ∀ (f : Nat) (x : Int), distG L to x = f + 1 → ∀ i y z, (pathF L to f x)[i]? = some y → (pathF L to f x)[i + 1]? = some z → z ∈ kids L y
  | 0, x, hd, i, y, z, h, h' => by
    unfold pathF at h'
    simp at h'
  | f + 1, x, hd, i, y, z, h, h' => by
    obtain ⟨_, _, _, h3, h4⟩ := nextG_spec ht (show 2 ≤ distG L to x by omega)
    unfold pathF at h h'
    match i, h, h' with
    | 0, h, h' =>
      cases h
      have : (pathF L to f (nextG L to x))[0]? = some z := by simpa using h'
      cases f <;> (unfold pathF at this; cases this; exact h3)
    | i + 1, h, h' => exact pathF_step ht f (nextG L to x) (by omega) i y z (by simpa using h) (by simpa using h')
structure WayG (L : List AObj) (v : AVal) (to : Int) (P : List Int) : Prop where
  ok : okG L = true
  first : P[0]? = some v.n
  last : P[P.length - 1]? = some to
  there : thereG L to = true
  dist : ∀ i y, P[i]? = some y → distG L to y + i = P.length
  step : ∀ i y z, P[i]? = some y → P[i + 1]? = some z → z ∈ kids L y
theorem way_of {L : List AObj} {v : AVal} {to : Int} (h : 0 < (pathG L v to).length) : WayG L v to (pathG L v to) := by
  obtain ⟨h1, h2, h3, h4, h5⟩ := path_ne.1 h
  have h6 := (distG_reach h4 _).2 h5
  have e : pathG L v to = pathF L to (distG L to v.n - 1) v.n := by
    unfold pathG
    rw [if_pos (by simp [h1, h2, h3, h4, h6])]
  have hd : distG L to v.n = (distG L to v.n - 1) + 1 := by omega
  have hl : (pathG L v to).length = distG L to v.n := by rw [e, pathF_len]; omega
  have hat : ∀ i y, (pathG L v to)[i]? = some y → distG L to y + i = (pathG L v to).length := fun i y hy => by
    rw [hl, hd]; rw [e] at hy
    exact pathF_at h4 _ _ hd i y hy
  refine ⟨h1, ?_, ?_, h4, hat, fun i y z hy hz => ?_⟩
  · rw [e]; cases distG L to v.n - 1 <;> rfl
  · obtain ⟨y, hy⟩ : ∃ y, (pathG L v to)[(pathG L v to).length - 1]? = some y := ⟨_, List.getElem?_eq_getElem (by omega)⟩
    have := hat _ _ hy
    rw [hy, (distG_one h4).1 (show distG L to y = 1 by omega)]
  · rw [e] at hy hz
    exact pathF_step h4 _ _ hd i y z hy hz
/-- whoever is later on a way is held just by the one ahead of it -/
theorem WayG.holds {L : List AObj} {v : AVal} {to : Int} {P : List Int} (h : WayG L v to P) {i k : Nat} {y z : Int} (hik : i < k) (hy : P[i]? = some y) (hz : P[k]? = some z) : (z ∈ kids L y ↔ k = i + 1) ∧ y ≠ z := by
  have h1 := h.dist i y hy
  have h2 := h.dist k z hz
  refine ⟨⟨fun hm => ?_, fun e => by subst e; exact h.step i y z hy hz⟩, fun e => by subst e; omega⟩
  have hkl : k < P.length := (List.getElem?_eq_some_iff.1 hz).1
  have := (distG_kid h.there hm (by omega)).2
  omega
theorem WayG.thereAll {L : List AObj} {v : AVal} {to : Int} {P : List Int} (h : WayG L v to P) {i : Nat} {y : Int} (hy : P[i]? = some y) : 1 ≤ y ∧ y ≤ L.length := by
  have h1 := h.dist i y hy
  have hil : i < P.length := (List.getElem?_eq_some_iff.1 hy).1
  by_cases e : i + 1 < P.length
  · exact kids_some (h.step i y _ hy (List.getElem?_eq_getElem e))
  · rw [(distG_one h.there).1 (show distG L to y = 1 by omega)]
    exact thereG_range h.there
theorem from_way {L : List AObj} {v : AVal} {to : Int} : to ∈ thoseG L (refsV [v]) true ↔ 0 < (pathG L v to).length := by
  rw [mem_fromG, path_ne]
  constructor
  · rintro ⟨h1, r, hr, ht, hg⟩
    obtain ⟨u, hu, h2, rfl⟩ := mem_refsV.1 hr
    obtain rfl : u = v := by simpa using hu
    exact ⟨h1, h2, ht, RS.there h1 ⟨_, hr, ht, hg⟩, hg⟩
  · rintro ⟨h1, h2, h3, _, h5⟩
    exact ⟨h1, v.n, mem_refsV.2 ⟨v, by simp, h2, rfl⟩, h3, h5⟩
theorem near_more {L : List AObj} {q to : Int} (hm : to ∈ kids L q) : ∀ {k : Nat} {n : Int}, near L q k n = true → near L to (k + 1) n = true
  | 0, n, h => by
    have : n = q := by unfold near at h; simpa using h
    subst this
    exact near_kid hm (by unfold near; simp)
  | k + 1, n, h => by
    unfold near at h
    rw [Bool.or_eq_true] at h
    rcases h with h | h
    · exact near_succ (near_more hm h)
    · obtain ⟨m, h1, h2⟩ := List.any_eq_true.1 h
      exact near_kid h1 (near_more hm h2)
theorem mem_holdersG {L : List AObj} {n x : Int} (h : x ∈ holdersG L n) : n ∈ kids L x := by
  unfold holdersG holdL at h
  split at h
  · obtain ⟨i, hi, rfl⟩ := List.mem_map.1 h
    simpa using (List.mem_filter.1 hi).2
  · cases h
/-- no way to a holder is shorter by more than one -/
theorem way_holder {L : List AObj} {v : AVal} {to q : Int} (hq : q ∈ holdersG L to) (hp : 0 < (pathG L v to).length) (hl : 0 < (pathG L v q).length) : (pathG L v to).length ≤ (pathG L v q).length + 1 := by
  have hm := mem_holdersG hq
  have w1 := way_of hp
  have w2 := way_of hl
  have h1 := w1.dist 0 _ w1.first
  have h2 := w2.dist 0 _ w2.first
  have h3 := (near_iff w2.there (k := distG L q v.n - 1) (n := v.n)).2 ⟨by omega, by omega⟩
  have h4 := (near_iff w1.there).1 (near_more hm h3)
  omega
end Go.Proofs.Ytmngkodejlhalaa.Tw
