/- an argument that is a slice of records. No condition. -/
import Derived.Test.YtmngkodejlhalaaSl
import Derived.Deep.Strs
namespace Go.Proofs.Ytmngkodejlhalaa.Tw
set_option linter.unusedVariables false
set_option linter.unusedSimpArgs false
open Go Go.RowKit Go.MapKept Go.ChangeShapes Go.WideShapes Go.Deep

/-- the cells of an argument, wherever CR is held -/
def ArgAt (w0 : World) (CR : HP) (a : Option Addr) (cs : List Value) : Prop :=
  ∀ w' F j v, Sat w0 w' (CR * F) → cs[j]? = some v → ∃ g off, a = some ⟨g, off, none⟩ ∧ w'.cell? ⟨g, off + j, none⟩ = some v
theorem addr_of_cellR {w : World} {x : Addr} {v : Value} (h : w.cell? (x.add 0) = some v) : ∃ b off, x = ⟨b, off, none⟩ := by
  obtain ⟨b, off, sp⟩ := x
  cases sp with
  | none => exact ⟨b, off, rfl⟩
  | some s =>
    simp [Addr.add, World.cell?] at h
    split at h <;> simp at h
theorem flatten_get {sz : Nat} (hsz : 0 < sz) : ∀ (css : List (List Value)) (j : Nat) (v : Value), (∀ cs ∈ css, cs.length = sz) → css.flatten[j]? = some v → ∃ cs, css[j / sz]? = some cs ∧ cs[j % sz]? = some v
  | [], j, v, _, h => by simp at h
  | cs :: css, j, v, hl, h => by
    have h0 := hl cs (by simp)
    rw [List.flatten_cons] at h
    by_cases hj : j < sz
    · rw [List.getElem?_append_left (by omega)] at h
      refine ⟨cs, ?_, ?_⟩
      · rw [Nat.div_eq_of_lt hj]; rfl
      · rw [Nat.mod_eq_of_lt hj]; exact h
    · rw [List.getElem?_append_right (by omega), h0] at h
      obtain ⟨cs', h1, h2⟩ := flatten_get hsz css (j - sz) v (fun c hc => hl c (List.mem_cons_of_mem _ hc)) h
      refine ⟨cs', ?_, ?_⟩
      · have : j / sz = (j - sz) / sz + 1 := by
          rw [Nat.div_eq_sub_div hsz (by omega)]
        rw [this, List.getElem?_cons_succ]; exact h1
      · rw [Nat.mod_eq_sub_mod (by omega)]; exact h2
theorem of_forall_ex {α β : Type} {f : β → α} {R : β → Prop} : ∀ (l : List α), (∀ x ∈ l, ∃ y, R y ∧ x = f y) → ∃ r : List β, l = r.map f ∧ ∀ y ∈ r, R y
  | [], _ => ⟨[], rfl, by simp⟩
  | x :: l, h => by
    obtain ⟨y, hy, rfl⟩ := h x (by simp)
    obtain ⟨r, rfl, hr⟩ := of_forall_ex l fun z hz => h z (List.mem_cons_of_mem _ hz)
    exact ⟨y :: r, rfl, fun z hz => by
      rcases List.mem_cons.1 hz with rfl | hz
      · exact hy
      · exact hr z hz⟩
section
variable {H : Type} {enc : TypeId × Value → H} {P : Program} {w : World} {base : Nat} {held : Bool} {fuel : Nat} {x : DataW H × List MemPlace}
theorem open_recs {T e : TypeId} (hT : P.underlying T = some (.slice e)) {sz : Nat} (hs : P.cellsOf e = sz) (hsz : 0 < sz) {E : List Value → Prop}
    (hE : ∀ fuel cs x, DataW.trod enc P w base (fun _ => true) held fuel e cs = some x → E cs) {a : Option Addr} {len cap : Nat}
    (h : DataW.trod enc P w base (fun _ => true) held fuel T [.slice a len cap] = some x) :
    len ≤ cap ∧ cap ≤ maxLen ∧ ∃ css : List (List Value), css.length = len ∧ (∀ cs ∈ css, E cs) ∧ ArgAt w (Old w) a css.flatten := by
  rcases open_slice hT h with ⟨hcs, _⟩ | ⟨ad, l, c, m, n, D, Pl, hcs, _, hl, hm, hmm, _, hx⟩
  · simp at hcs
    obtain ⟨rfl, rfl, rfl⟩ := hcs
    exact ⟨Nat.le_refl _, Nat.zero_le _, [], rfl, by simp, fun w' F j v _ hj => by simp at hj⟩
  · simp at hcs
    obtain ⟨rfl, rfl, rfl⟩ := hcs
    rw [hs] at hx
    have hmc : m = cap := by rw [hmm]; rfl
    subst hmc
    have each : ∀ i, i < m → ∃ cs : List Value, cs.length = sz ∧ E cs ∧ ∀ j, j < sz → ∃ v, cs[j]? = some v ∧ w.cell? (ad.add (i * sz + j)) = some v := fun i hi => by
      obtain ⟨cs', hc, ht⟩ := hx i hi
      obtain ⟨_, hcl, hat⟩ := World.cells?_some hc
      refine ⟨cs', by omega, hE _ _ _ ht, fun j hj => ?_⟩
      have h1 := hat j (by omega)
      rw [Go.Deep.add_add] at h1
      refine ⟨_, List.getElem?_eq_getElem (by omega), ?_⟩
      simpa [hcl, hj] using h1
    let css : List (List Value) := (List.range len).map fun i => if hi : i < m then (each i hi).choose else []
    have hcss : ∀ k cs, css[k]? = some cs → ∃ hk : k < m, cs = (each k hk).choose := fun k cs hk => by
      have hkl : k < len := by
        have := (List.getElem?_eq_some_iff.1 hk).1
        simpa [css] using this
      have hkm : k < m := by omega
      refine ⟨hkm, ?_⟩
      simp [css, hkl, hkm] at hk
      exact hk.symm
    have hlen : ∀ cs ∈ css, cs.length = sz := fun cs hc => by
      obtain ⟨k, hk⟩ := List.mem_iff_getElem?.1 hc
      obtain ⟨h1, rfl⟩ := hcss k cs hk
      exact (each k h1).choose_spec.1
    refine ⟨hl, hm, css, by simp [css], fun cs hc => ?_, fun w' F j v hsat hj => ?_⟩
    · obtain ⟨k, hk⟩ := List.mem_iff_getElem?.1 hc
      obtain ⟨h1, rfl⟩ := hcss k cs hk
      exact (each k h1).choose_spec.2.1
    · obtain ⟨cs, h1, h2⟩ := flatten_get hsz css j v hlen hj
      obtain ⟨h3, rfl⟩ := hcss _ _ h1
      have h4 := (each _ h3).choose_spec.2.2 (j % sz) (Nat.mod_lt _ hsz)
      obtain ⟨v', h5, h6⟩ := h4
      rw [h2] at h5; cases h5
      have hm0 : 0 < m := Nat.lt_of_le_of_lt (Nat.zero_le _) h3
      obtain ⟨v0, _, h7⟩ := (each 0 hm0).choose_spec.2.2 0 hsz
      rw [Nat.zero_mul, Nat.zero_add] at h7
      obtain ⟨b, off, rfl⟩ := addr_of_cellR h7
      rw [addr_add, Nat.mul_comm, Nat.div_add_mod] at h6
      exact ⟨b, off, rfl, hsat.oldCell h6⟩
end
end Go.Proofs.Ytmngkodejlhalaa.Tw
