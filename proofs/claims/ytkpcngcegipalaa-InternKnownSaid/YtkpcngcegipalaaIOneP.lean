/- InternOne: the plain law: what the heap and the strings hold when a list of texts was asked. No condition. -/
import Derived.Test.YtkpcngcegipalaaInt3
import Derived.Test.YtkpcngcegipalaaPoolP
namespace Go.Proofs.Ytkpcngcegipalaa.Tw
set_option linter.unusedVariables false
set_option linter.unusedSimpArgs false
open Go Go.RowKit Go.MapKept

def cntL (l : List ByteArray) (t : ByteArray) : Nat := (l.filter fun u => decide (u = t)).length
theorem cntL_snoc (l : List ByteArray) (u t : ByteArray) : cntL (l ++ [u]) t = cntL l t + if u = t then 1 else 0 := by
  unfold cntL
  rw [List.filter_append, List.length_append]
  by_cases e : u = t <;> simp [e]
theorem cntL_pos {l : List ByteArray} {t : ByteArray} (h : t ∈ l) : 0 < cntL l t := by
  unfold cntL
  exact List.length_pos_of_mem (List.mem_filter.2 ⟨h, by simp⟩)
theorem cntL_le (l : List ByteArray) (t : ByteArray) : cntL l t ≤ l.length := List.length_filter_le _ _
theorem cntL_no {l : List ByteArray} {t : ByteArray} (h : t ∉ l) : cntL l t = 0 := by
  unfold cntL
  rw [List.length_eq_zero_iff, List.filter_eq_nil_iff]
  intro u hu
  simp
  rintro rfl
  exact h hu

/-- the heap and the map when the texts l were asked, one behind the other, and held -/
structure Asked (l : List ByteArray) (d : Nat) (A : AHeap) (M : ByteArray → Option Int) : Prop where
  hT : A.T = List.replicate d true
  hd : d ≤ l.length
  hM : ∀ t n, M t = some n → 1 ≤ n ∧ n ≤ d ∧ A.objs n = some ⟨5, (cntL l t : Nat), [], t, 0⟩ ∧ t ∈ l
  hI : ∀ t, t ∈ l → ∃ n, M t = some n
  hN : ∀ n, (A.objs n).isSome = tk A.T n

theorem tk_replicate (d : Nat) (n : Int) : tk (List.replicate d true) n = (decide (1 ≤ n) && decide (n ≤ d)) := by
  unfold tk
  by_cases h1 : 1 ≤ n
  · by_cases h2 : n ≤ d
    · have : (n - 1).toNat < d := by omega
      rw [List.getElem?_replicate, if_pos this]; simp [h1, h2]
    · have : ¬ (n - 1).toNat < d := by omega
      rw [List.getElem?_replicate, if_neg this]; simp [h1, h2]
  · simp [h1]
theorem firstFree_replicate (d : Nat) : firstFree (List.replicate d true) = d := by
  have := firstFree_all (T := List.replicate d true) (by intro b hb; exact (List.mem_replicate.1 hb).2)
  simpa using this
theorem may5 {n : Int} (h1 : 1 ≤ n) (h2 : n ≤ 2147483647) : mayV ⟨5, n⟩ = true := by
  unfold mayV within
  simp [h1, h2]
theorem ref5 {n : Int} (h1 : 1 ≤ n) (h2 : n ≤ 2147483647) : refV ⟨5, n⟩ = true := by
  unfold refV; rw [may5 h1 h2]; simp

theorem Asked.empty : Asked [] 0 AHeap.empty (fun _ => none) :=
  ⟨rfl, Nat.le_refl _, (fun t n e => by cases e), (fun t h => by cases h), (fun n => by simp [AHeap.empty, tk])⟩
section
variable {l : List ByteArray} {d : Nat} {A : AHeap} {M : ByteArray → Option Int}
theorem Asked.objOf (h : Asked l d A M) (hl : l.length ≤ 1000) {t : ByteArray} {n : Int} (e : M t = some n) : strO A ⟨5, n⟩ = ⟨5, (cntL l t : Nat), [], t, 0⟩ ∧ A.obj n = ⟨5, (cntL l t : Nat), [], t, 0⟩ := by
  obtain ⟨h1, h2, h3, h4⟩ := h.hM t n e
  have hd := h.hd
  have eo : A.obj n = ⟨5, (cntL l t : Nat), [], t, 0⟩ := by unfold AHeap.obj; rw [h3]; rfl
  refine ⟨?_, eo⟩
  unfold strO
  rw [if_pos ⟨rfl, wrap32_of (by show _ ≤ n; omega) (by show n < _; omega)⟩]
  exact eo
theorem Asked.notAsked (h : Asked l d A M) {t : ByteArray} (ht : t ∉ l) : M t = none := by
  cases e : M t with
  | none => rfl
  | some n => exact absurd (h.hM t n e).2.2.2 ht
theorem Asked.found (h : Asked l d A M) (hl : l.length ≤ 1000) {t : ByteArray} {n : Int} (e : M t = some n) : findN M t = n ∧ findOk A M t = true := by
  have hn : findN M t = n := by unfold findN; rw [e]; rfl
  refine ⟨hn, ?_⟩
  obtain ⟨h1, h2, h3, h4⟩ := h.hM t n e
  have hp := cntL_pos h4
  unfold findOk findB strIs
  rw [hn, (h.objOf hl e).1, e]
  simp
  omega
theorem Asked.notFound (h : Asked l d A M) {t : ByteArray} (ht : t ∉ l) : findOk A M t = false := by
  unfold findOk findB; rw [h.notAsked ht]; rfl
theorem Asked.slots (h : Asked l d A M) (hl : l.length ≤ 1000) (t : ByteArray) : (strO A ⟨5, findN M t⟩).slots.length ≤ 2000000000 := by
  cases e : M t with
  | some n =>
    rw [(h.found hl e).1, (h.objOf hl e).1]; simp
  | none =>
    have hn : findN M t = 0 := by unfold findN; rw [e]; rfl
    rw [hn]
    have h0 : A.objs 0 = none := by
      have := h.hN 0
      rw [h.hT, tk_replicate] at this
      simpa using this
    unfold strO AHeap.obj
    rw [h0]
    split <;> simp [AObj.none]
theorem Asked.cnt (h : Asked l d A M) (hl : l.length ≤ 1000) {t : ByteArray} {n : Int} (e : M t = some n) : cntO A ⟨5, n⟩ = some ⟨5, (cntL l t : Nat), [], t, 0⟩ := by
  obtain ⟨h1, h2, h3, h4⟩ := h.hM t n e
  have hd := h.hd
  have hp := cntL_pos h4
  unfold cntO thereV
  rw [ref5 h1 (by omega), may5 h1 (by omega), h3]
  simp
  omega
theorem Asked.wraps (h : Asked l d A M) (hl : l.length ≤ 1000) (t : ByteArray) : ∀ o, cntO A ⟨5, findN M t⟩ = some o → IntKind.i64.wrap (o.count + 1) = o.count + 1 := by
  intro o ho
  have h9 := cntO_some ho
  have hw : ∀ c : Int, 0 ≤ c → c ≤ 1000 → IntKind.i64.wrap (c + 1) = c + 1 := by
    intro c _ _
    unfold IntKind.wrap
    simp [IntKind.bits, IntKind.signed]
    split <;> omega
  cases e : M t with
  | some n =>
    rw [(h.found hl e).1, h.cnt hl e] at ho
    cases ho
    have := cntL_le l t
    exact hw _ (by simp) (by simp; omega)
  | none =>
    have hn : findN M t = 0 := by unfold findN; rw [e]; rfl
    rw [hn] at h9
    have := h.hN 0
    rw [h.hT, tk_replicate, h9] at this
    simp at this
/-- one more text is asked -/
theorem Asked.step (h : Asked l d A M) (hl : l.length < 1000) {t : ByteArray} (ht : t.size ≤ 4096) :
    ∃ d' n, Asked (l ++ [t]) d' (A.of M t) (ofM A M t) ∧ ofV A M t = ⟨5, n⟩ ∧ ofM A M t t = some n ∧ ∀ u ∈ l, ofM A M t u = M u := by
  by_cases hm : t ∈ l
  · obtain ⟨n, e⟩ := h.hI t hm
    obtain ⟨h1, h2, h3, h4⟩ := h.hM t n e
    have hf := h.found (by omega) e
    have hc := h.cnt (by omega) e
    refine ⟨d, n, ?_, by unfold ofV; rw [hf.2, hf.1]; rfl, by unfold ofM; rw [hf.2]; exact e, fun u _ => by unfold ofM; rw [hf.2]; rfl⟩
    have eA : A.of M t = (A.touch n).upd n ⟨5, (cntL l t : Nat) + 1, [], t, 0⟩ := by
      unfold AHeap.of AHeap.keep; rw [hf.2, hf.1, hc]; rfl
    have eM : ofM A M t = M := by unfold ofM; rw [hf.2]; rfl
    rw [eA, eM]
    refine ⟨h.hT, by have := h.hd; simp; omega, ?_, ?_, ?_⟩
    · intro u k ek
      obtain ⟨g1, g2, g3, g4⟩ := h.hM u k ek
      refine ⟨g1, g2, ?_, by simp [g4]⟩
      show (if k = n then some _ else A.objs k) = _
      by_cases ekn : k = n
      · subst ekn
        rw [g3] at h3
        have eut : u = t := by
          have h5 := congrArg AObj.text (Option.some.inj h3)
          exact h5
        subst eut
        rw [if_pos rfl, cntL_snoc]
        simp
      · rw [if_neg ekn, g3, cntL_snoc, if_neg]
        · rfl
        · rintro rfl
          rw [e] at ek; cases ek; exact ekn rfl
    · intro u hu
      simp at hu
      rcases hu with hu | rfl
      · exact h.hI u hu
      · exact ⟨n, e⟩
    · intro k
      show (if k = n then some _ else A.objs k).isSome = tk A.T k
      rw [← h.hN k]
      by_cases ekn : k = n
      · subst ekn; rw [if_pos rfl, h3]; rfl
      · rw [if_neg ekn]
  · have hf := h.notFound hm
    have hok : makeOk 5 t = true := by simp [makeOk, ht]
    have hfr : A.fresh = d + 1 := by unfold AHeap.fresh; rw [h.hT, firstFree_replicate]
    have eA : A.of M t = A.make 5 t := by unfold AHeap.of; rw [hf, hok]; rfl
    have eM : ofM A M t = fun u => if u = t then some A.fresh else M u := by unfold ofM; rw [hf, hok]; rfl
    refine ⟨d + 1, A.fresh, ?_, by unfold ofV; rw [hf, hok]; rfl, by rw [eM]; simp, fun u hu => by rw [eM]; simp; rintro rfl; exact absurd hu hm⟩
    rw [eA, eM]
    have hc0 := cntL_no hm
    refine ⟨by show takeT A.T = _; rw [h.hT, takeT_replicate], by have := h.hd; simp; omega, ?_, ?_, ?_⟩
    · intro u k ek
      by_cases eu : u = t
      · subst eu
        simp at ek
        refine ⟨by omega, by rw [← ek, hfr]; simp, ?_, by simp⟩
        show (if k = A.fresh then some _ else A.objs k) = _
        rw [if_pos ek.symm, cntL_snoc, hc0]
        simp
      · simp [eu] at ek
        obtain ⟨g1, g2, g3, g4⟩ := h.hM u k ek
        refine ⟨g1, by simp; omega, ?_, by simp [g4]⟩
        show (if k = A.fresh then some _ else A.objs k) = _
        rw [if_neg (by omega), g3, cntL_snoc, if_neg (fun q => eu q.symm)]
        rfl
    · intro u hu
      simp at hu
      by_cases eu : u = t
      · exact ⟨A.fresh, by simp [eu]⟩
      · obtain ⟨n, e⟩ := h.hI u (by rcases hu with hu | hu; exact hu; exact absurd hu eu)
        exact ⟨n, by simp [eu, e]⟩
    · intro k
      show (if k = A.fresh then some _ else A.objs k).isSome = tk (takeT A.T) k
      rw [tk_takeT, ← h.hN k]
      by_cases ek : k = A.fresh
      · rw [if_pos ek]; simp [ek, AHeap.fresh]
      · rw [if_neg ek]; simp [AHeap.fresh] at ek; simp [ek]
/-- two texts have one number just if they are one -/
theorem Asked.same (h : Asked l d A M) {t u : ByteArray} {n k : Int} (e1 : M t = some n) (e2 : M u = some k) : decide (t = u) = decide (n = k) := by
  by_cases e : t = u
  · subst e; rw [e1] at e2; cases e2; simp
  · have : n ≠ k := by
      rintro rfl
      have g1 := (h.hM t n e1).2.2.1
      have g2 := (h.hM u n e2).2.2.1
      rw [g1] at g2
      simp at g2
      exact e g2.2
    simp [e, this]
end
end Go.Proofs.Ytkpcngcegipalaa.Tw
