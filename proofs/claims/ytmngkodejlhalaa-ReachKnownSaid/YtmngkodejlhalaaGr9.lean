/- reach.far. No condition. -/
import Derived.Test.YtmngkodejlhalaaGr8
import Derived.Test.YtmngkodejlhalaaGr2
import Derived.Test.YtmngkodejlhalaaDelIt
namespace Go.Proofs.Ytmngkodejlhalaa.Tw
set_option linter.unusedVariables false
set_option linter.unusedSimpArgs false
open Go Go.RowKit Go.MapKept

/-- what is known behind round k, and the holders P that came since -/
def OutP (L : List AObj) (to : Int) (k : Nat) (P : List Int) (O : List (Int × Value)) : Prop := ∀ x, mget O x = if near L to k x then some (ival (distG L to x)) else if x ∈ P then some (ival ((k : Int) + 2)) else none
def NxtP (L : List AObj) (to : Int) (k : Nat) (P : List Int) (N : List (Int × Value)) : Prop := ∀ x, (mget N x).isSome = (decide (x ∈ P) && !near L to k x)
def NxtAt (L : List AObj) (to : Int) (k : Nat) (N : List (Int × Value)) : Prop := ∀ x, (mget N x).isSome = exact L to k x
/-- P are the holders of those at distance k that are not in R any more -/
def HeldBy (L : List AObj) (to : Int) (k : Nat) (R : List (Int × Value)) (P : List Int) : Prop := ∀ x, x ∈ P ↔ ∃ n, exact L to k n = true ∧ n ∉ R.map (·.1) ∧ x ∈ holdersG L n
def farDone (L : List AObj) (to : Int) (O : List (Int × Value)) : Prop := ∀ x, mget O x = if distG L to x = 0 then none else some (ival (distG L to x))

theorem mem_holders {L : List AObj} (h : okG L = true) {x n : Int} : x ∈ holdersG L n ↔ n ∈ kids L x := by
  unfold holdersG holdL
  rw [if_pos h]
  simp only [List.mem_map, List.mem_filter, List.mem_range, decide_eq_true_eq]
  constructor
  · rintro ⟨i, ⟨_, hi⟩, rfl⟩; exact hi
  · intro hk
    have hr := kids_some hk
    exact ⟨(x - 1).toNat, ⟨by omega, by rw [show (((x - 1).toNat : Nat) : Int) + 1 = x by omega]; exact hk⟩, by omega⟩
theorem out_start {L : List AObj} {to : Int} (ht : thereG L to = true) : OutP L to 0 [] (mset [] to (ival 1)) := by
  intro x
  rw [mget_mset]
  by_cases h : x = to
  · subst h
    simp [near, distG_to ht, ival]
  · have : near L to 0 x = false := by unfold near; simp [h]
    rw [if_neg h, this]; simp [mget]
theorem nxt_start {L : List AObj} {to : Int} : NxtAt L to 0 (mset [] to (ival 1)) := by
  intro x
  rw [mget_mset]
  by_cases h : x = to
  · subst h; simp [exact, near]
  · have : exact L to 0 x = false := by unfold exact near; simp [h]
    rw [if_neg h, this]; simp [mget]
theorem OutP.in {L : List AObj} {to : Int} {k : Nat} {P : List Int} {O : List (Int × Value)} (h : OutP L to k P O) {x : Int} {v : Value} (hx : mget O x = some v) : OutP L to k (P ++ [x]) O := by
  intro y
  rw [h y]
  by_cases hn : near L to k y = true
  · rw [if_pos hn, if_pos hn]
  · rw [if_neg hn, if_neg hn]
    by_cases e : y = x
    · subst e
      have := h y
      rw [hx, if_neg hn] at this
      by_cases hp : y ∈ P
      · rw [if_pos hp, if_pos (by simp [hp])]
      · rw [if_neg hp] at this; cases this
    · have : y ∈ P ++ [x] ↔ y ∈ P := by simp [e]
      simp only [this]
theorem NxtP.in {L : List AObj} {to : Int} {k : Nat} {P : List Int} {O N : List (Int × Value)} (h : NxtP L to k P N) (ho : OutP L to k P O) {x : Int} {v : Value} (hx : mget O x = some v) : NxtP L to k (P ++ [x]) N := by
  intro y
  rw [h y]
  by_cases e : y = x
  · subst e
    have := ho y
    rw [hx] at this
    by_cases hn : near L to k y = true
    · simp [hn]
    · rw [if_neg hn] at this
      by_cases hp : y ∈ P
      · simp [hp]
      · rw [if_neg hp] at this; cases this
  · have : decide (y ∈ P ++ [x]) = decide (y ∈ P) := by simp [e]
    rw [this]
theorem OutP.put {L : List AObj} {to : Int} {k : Nat} {P : List Int} {O : List (Int × Value)} (h : OutP L to k P O) {x : Int} (hx : mget O x = none) : OutP L to k (P ++ [x]) (mset O x (ival ((k : Int) + 2))) := by
  intro y
  rw [mget_mset]
  by_cases e : y = x
  · subst e
    have := h y
    rw [hx] at this
    by_cases hn : near L to k y = true
    · rw [if_pos hn] at this; cases this
    · rw [if_pos rfl, if_neg hn, if_pos (by simp)]
  · rw [if_neg e, h y]
    have : y ∈ P ++ [x] ↔ y ∈ P := by simp [e]
    simp only [this]
theorem NxtP.put {L : List AObj} {to : Int} {k : Nat} {P : List Int} {O N : List (Int × Value)} (h : NxtP L to k P N) (ho : OutP L to k P O) {x : Int} (hx : mget O x = none) : NxtP L to k (P ++ [x]) (mset N x (ival 1)) := by
  intro y
  rw [mget_mset]
  by_cases e : y = x
  · subst e
    have := ho y
    rw [hx] at this
    by_cases hn : near L to k y = true
    · rw [if_pos hn] at this; cases this
    · simp [hn]
  · rw [if_neg e, h y]
    have : decide (y ∈ P ++ [x]) = decide (y ∈ P) := by simp [e]
    rw [this]
/-- behind a whole round -/
theorem held_step {L : List AObj} (hok : okG L = true) {to : Int} (ht : thereG L to = true) {k : Nat} {P : List Int} (h : HeldBy L to k [] P) (x : Int) : near L to (k + 1) x = (near L to k x || decide (x ∈ P)) ∧ exact L to (k + 1) x = (decide (x ∈ P) && !near L to k x) := by
  have hp : x ∈ P ↔ ∃ n ∈ kids L x, exact L to k n = true := by
    rw [h x]
    constructor
    · rintro ⟨n, h1, _, h2⟩; exact ⟨n, (mem_holders hok).1 h2, h1⟩
    · rintro ⟨n, h1, h2⟩; exact ⟨n, h2, by simp, (mem_holders hok).2 h1⟩
  have he : exact L to (k + 1) x = (decide (x ∈ P) && !near L to k x) := by
    rw [Bool.eq_iff_iff, exact_step, ← hp]; simp
  refine ⟨?_, he⟩
  cases hn : near L to k x with
  | true => rw [near_succ hn]; rfl
  | false =>
    rw [hn] at he
    have : exact L to (k + 1) x = near L to (k + 1) x := by show (near L to (k + 1) x && !near L to k x) = _; rw [hn]; simp
    rw [← this, he]; simp
theorem OutP.done {L : List AObj} (hok : okG L = true) {to : Int} (ht : thereG L to = true) {k : Nat} {P : List Int} {O : List (Int × Value)} (h : OutP L to k P O) (hh : HeldBy L to k [] P) : OutP L to (k + 1) [] O := by
  intro x
  obtain ⟨h1, h2⟩ := held_step hok ht hh x
  rw [h x, h1]
  by_cases hn : near L to k x = true
  · simp [hn]
  · have hn' : near L to k x = false := by simpa using hn
    rw [hn'] at h2 ⊢
    by_cases hp : x ∈ P
    · rw [decide_eq_true hp] at h2
      rw [(distG_exact ht).2 (show exact L to (k + 1) x = true by rw [h2]; rfl)]
      have e2 : ((k : Int) + 2) = ((k + 1 + 1 : Nat) : Int) := by omega
      rw [e2]; simp [hp]
    · simp [hp]
theorem NxtP.done {L : List AObj} (hok : okG L = true) {to : Int} (ht : thereG L to = true) {k : Nat} {P : List Int} {N : List (Int × Value)} (h : NxtP L to k P N) (hh : HeldBy L to k [] P) : NxtAt L to (k + 1) N := by
  intro x
  rw [h x, (held_step hok ht hh x).2]
/-- nobody is so far: all are known -/
theorem OutP.all {L : List AObj} {to : Int} (ht : thereG L to = true) {k : Nat} {O : List (Int × Value)} (h : OutP L to k [] O) (hn : NxtAt L to k []) : farDone L to O := by
  have hz : ∀ j x, near L to (k + j) x = near L to k x := by
    intro j
    induction j with
    | zero => intro x; rfl
    | succ j ih =>
      intro x
      cases e : near L to (k + j) x with
      | true => rw [show k + (j + 1) = k + j + 1 by omega, near_succ e, ← ih x, e]
      | false =>
        rw [← ih x, e]
        cases e2 : near L to (k + (j + 1)) x with
        | false => rfl
        | true =>
          have hx : exact L to (k + j + 1) x = true := by show (near L to (k + j + 1) x && !near L to (k + j) x) = true; rw [e, show near L to (k + j + 1) x = true from e2]; rfl
          obtain ⟨⟨m, hm, h1⟩, _⟩ := exact_step.1 hx
          exfalso
          rcases Nat.eq_zero_or_pos j with h0 | h0
          · subst h0
            have := hn m
            rw [show exact L to k m = true from h1] at this
            simp [mget] at this
          · have h2 := exact_not h1 (show k + (j - 1) < k + j by omega)
            have h3 := ih m
            rw [exact_near h1] at h3
            have h4 := near_mono h3.symm (show k ≤ k + (j - 1) by omega)
            rw [h4] at h2; cases h2
  intro x
  rw [h x]
  by_cases hd : distG L to x = 0
  · rw [(distG_zero ht).1 hd k, if_pos hd]; simp
  · rw [if_neg hd]
    have : near L to k x = true := by
      have := (near_iff ht (k := k + distG L to x)).2 ⟨hd, by omega⟩
      rw [hz] at this; exact this
    rw [if_pos this]

theorem held_start {L : List AObj} {to : Int} {k : Nat} {N : List (Int × Value)} (h : NxtAt L to k N) : HeldBy L to k N [] := by
  intro x
  constructor
  · intro hx; cases hx
  · rintro ⟨n, h1, h2, _⟩
    have := h n
    rw [h1] at this
    exact absurd (mget_key.1 this) h2
/-- one of those at distance k is looked at -/
theorem held_next {L : List AObj} {to : Int} {k : Nat} {R : List (Int × Value)} {P : List Int} {j : Nat} {n : Int} {v : Value} (h : HeldBy L to k R P) (hj : R[j]? = some (n, v)) (hR : (R.map (·.1)).Nodup) (hn : exact L to k n = true) : HeldBy L to k (R.eraseIdx j) (P ++ holdersG L n) := by
  intro x
  rw [List.mem_append, h x]
  have hmem : ∀ y, y ∈ (R.eraseIdx j).map (·.1) ↔ y ∈ R.map (·.1) ∧ y ≠ n := by
    intro y
    rw [map_eraseIdx']
    have hjm : (R.map (·.1))[j]? = some n := by rw [List.getElem?_map, hj]; rfl
    generalize R.map (·.1) = l at *
    rw [List.mem_eraseIdx_iff_getElem?]
    constructor
    · rintro ⟨i, hi, e⟩
      refine ⟨List.mem_of_getElem? e, ?_⟩
      rintro rfl
      exact hi ((List.getElem?_inj (List.getElem?_eq_some_iff.1 e).1 hR).1 (e.trans hjm.symm))
    · rintro ⟨hy, hne⟩
      obtain ⟨i, hi⟩ := List.mem_iff_getElem?.1 hy
      refine ⟨i, ?_, hi⟩
      rintro rfl
      rw [hjm] at hi; cases hi; exact hne rfl
  constructor
  · rintro (⟨m, h1, h2, h3⟩ | hx)
    · exact ⟨m, h1, fun hm => h2 ((hmem m).1 hm).1, h3⟩
    · exact ⟨n, hn, fun hm => ((hmem n).1 hm).2 rfl, hx⟩
  · rintro ⟨m, h1, h2, h3⟩
    by_cases e : m = n
    · subst e; exact .inr h3
    · refine .inl ⟨m, h1, fun hm => h2 ((hmem m).2 ⟨hm, e⟩), h3⟩
end Go.Proofs.Ytmngkodejlhalaa.Tw
