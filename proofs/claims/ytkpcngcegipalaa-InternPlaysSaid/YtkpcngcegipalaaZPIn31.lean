/- InternOne: the plain law: what the heap and the strings hold when a list of texts was asked. No condition. -/
import Derived.Test.YtkpcngcegipalaaZPIn30
import Derived.Test.YtkpcngcegipalaaZPIn9
import Derived.Test.YtkpcngcegipalaaZPIn20
namespace Go.Proofs.Ytkpcngcegipalaa.Tw
set_option linter.unusedVariables false
set_option linter.unusedSimpArgs false
open Go Go.RowKit Go.MapKept

def cntL (l : List ByteArray) (t : ByteArray) : Nat := (l.filter fun u => decide (u = t)).length
theorem cntL_snoc (l : List ByteArray) (u t : ByteArray) : cntL (l ++ [u]) t = cntL l t + if u = t then 1 else 0 := by
  unfold cntL
  rw [List.filter_append, List.length_append]
  by_cases e : u = t <;> simp [e]
theorem cntL_pos {l : List ByteArray} {t : ByteArray} (h : t ∈ l) : 0 < cntL l t := by
  unfold cntL
  exact List.length_pos_of_mem (List.mem_filter.2 ⟨h, by simp⟩)
theorem cntL_le (l : List ByteArray) (t : ByteArray) : cntL l t ≤ l.length := List.length_filter_le _ _
theorem cntL_no {l : List ByteArray} {t : ByteArray} (h : t ∉ l) : cntL l t = 0 := by
  unfold cntL
  rw [List.length_eq_zero_iff, List.filter_eq_nil_iff]
  intro u hu
  simp
  rintro rfl
  exact h hu

/-- the heap and the map when the texts l were asked, one behind the other, and held -/
structure Asked (l : List ByteArray) (d : Nat) (A : AHeap) (M : ByteArray → Option Int) : Prop where
  hT : A.T = List.replicate d true
  hd : d ≤ l.length
  hM : ∀ t n, M t = some n → 1 ≤ n ∧ n ≤ d ∧ A.objs n = some ⟨5, (cntL l t : Nat), [], t, 0⟩ ∧ t ∈ l
  hI : ∀ t, t ∈ l → ∃ n, M t = some n
  hN : ∀ n, (A.objs n).isSome = tk A.T n

theorem tk_replicate (d : Nat) (n : Int) : tk (List.replicate d true) n = (decide (1 ≤ n) && decide (n ≤ d)) := by
  unfold tk
  by_cases h1 : 1 ≤ n
  · by_cases h2 : n ≤ d
    · have : (n - 1).toNat < d := by omega
      rw [List.getElem?_replicate, if_pos this]; simp [h1, h2]
    · have : ¬ (n - 1).toNat < d := by omega
      rw [List.getElem?_replicate, if_neg this]; simp [h1, h2]
  · simp [h1]
theorem firstFree_replicate (d : Nat) : firstFree (List.replicate d true) = d := by
  have := firstFree_all (T := List.replicate d true) (by intro b hb; exact (List.mem_replicate.1 hb).2)
  simpa using this
theorem may5 {n : Int} (h1 : 1 ≤ n) (h2 : n ≤ 2147483647) : mayV ⟨5, n⟩ = true := by
  unfold mayV within
  simp [h1, h2]
theorem ref5 {n : Int} (h1 : 1 ≤ n) (h2 : n ≤ 2147483647) : refV ⟨5, n⟩ = true := by
  unfold refV; rw [may5 h1 h2]; simp

theorem Asked.empty : Asked [] 0 AHeap.empty (fun _ => none) :=
  ⟨rfl, Nat.le_refl _, (fun t n e => by cases e), (fun t h => by cases h), (fun n => by simp [AHeap.empty, tk])⟩
section
variable {l : List ByteArray} {d : Nat} {A : AHeap} {M : ByteArray → Option Int}
theorem Asked.objOf (h : Asked l d A M) (hl : l.length ≤ 1000) {t : ByteArray} {n : Int} (e : M t = some n) : strO A ⟨5, n⟩ = ⟨5, (cntL l t : Nat), [], t, 0⟩ ∧ A.obj n = ⟨5, (cntL l t : Nat), [], t, 0⟩ := by
  obtain ⟨h1, h2, h3, h4⟩ := h.hM t n e
  have hd := h.hd
  have eo : A.obj n = ⟨5, (cntL l t : Nat), [], t, 0⟩ := by unfold AHeap.obj; rw [h3]; rfl
  refine ⟨?_, eo⟩
  unfold strO
  rw [if_pos ⟨rfl, wrap32_of (by show _ ≤ n; omega) (by show n < _; omega)⟩]
  exact eo
theorem Asked.notAsked (h : Asked l d A M) {t : ByteArray} (ht : t ∉ l) : M t = none := by
  cases e : M t with
  | none => rfl
  | some n => exact absurd (h.hM t n e).2.2.2 ht
theorem Asked.found (h : Asked l d A M) (hl : l.length ≤ 1000) {t : ByteArray} {n : Int} (e : M t = some n) : findN M t = n ∧ findOk A M t = true := by
  have hn : findN M t = n := by unfold findN; rw [e]; rfl
  refine ⟨hn, ?_⟩
  obtain ⟨h1, h2, h3, h4⟩ := h.hM t n e
  have hp := cntL_pos h4
  unfold findOk findB strIs
  rw [hn, (h.objOf hl e).1, e]
  simp
  omega
theorem Asked.notFound (h : Asked l d A M) {t : ByteArray} (ht : t ∉ l) : findOk A M t = false := by
  unfold findOk findB; rw [h.notAsked ht]; rfl
theorem Asked.slots (h : Asked l d A M) (hl : l.length ≤ 1000) (t : ByteArray) : (strO A ⟨5, findN M t⟩).slots.length ≤ 2000000000 := by
  cases e : M t with
  | some n =>
    rw [(h.found hl e).1, (h.objOf hl e).1]; simp
  | none =>
    have hn : findN M t = 0 := by unfold findN; rw [e]; rfl
    rw [hn]
    have h0 : A.objs 0 = none := by
      have := h.hN 0
      rw [h.hT, tk_replicate] at this
      simpa using this
    unfold strO AHeap.obj
    rw [h0]
    split <;> simp [AObj.none]
theorem Asked.cnt (h : Asked l d A M) (hl : l.length ≤ 1000) {t : ByteArray} {n : Int} (e : M t = some n) : cntO A ⟨5, n⟩ = some ⟨5, (cntL l t : Nat), [], t, 0⟩ := by
  obtain ⟨h1, h2, h3, h4⟩ := h.hM t n e
  have hd := h.hd
  have hp := cntL_pos h4
  unfold cntO thereV
  rw [ref5 h1 (by omega), may5 h1 (by omega), h3]
  simp
  omega
theorem Asked.wraps (h : Asked l d A M) (hl : l.length ≤ 1000) (t : ByteArray) : ∀ o, cntO A ⟨5, findN M t⟩ = some o → IntKind.i64.wrap (o.count + 1) = o.count + 1 := by
  intro o ho
  have h9 := cntO_some ho
  have hw : ∀ c : Int, 0 ≤ c → c ≤ 1000 → IntKind.i64.wrap (c + 1) = c + 1 := by
    intro c _ _
    unfold IntKind.wrap
    simp [IntKind.bits, IntKind.signed]
    split <;> omega
  cases e : M t with
  | some n =>
    rw [(h.found hl e).1, h.cnt hl e] at ho
    cases ho
    have := cntL_le l t
    exact hw _ (by simp) (by simp; omega)
  | none =>
    have hn : findN M t = 0 := by unfold findN; rw [e]; rfl
    rw [hn] at h9
    have := h.hN 0
    rw [h.hT, tk_replicate, h9] at this
    simp at this
/-- one more text is asked -/
theorem Asked.step (h : Asked l d A M) (hl : l.length < 1000) {t : ByteArray} (ht : t.size ≤ 4096) :
    ∃ d' n, Asked (l ++ [t]) d' (A.of M t) (ofM A M t) ∧ ofV A M t = ⟨5, n⟩ ∧ ofM A M t t = some n ∧ ∀ u ∈ l, ofM A M t u = M u := by
  by_cases hm : t ∈ l
  · obtain ⟨n, e⟩ := h.hI t hm
    obtain ⟨h1, h2, h3, h4⟩ := h.hM t n e
    have hf := h.found (by omega) e
    have hc := h.cnt (by omega) e
    refine ⟨d, n, ?_, by unfold ofV; rw [hf.2, hf.1]; rfl, by unfold ofM; rw [hf.2]; exact e, fun u _ => by unfold ofM; rw [hf.2]; rfl⟩
    have eA : A.of M t = (A.touch n).upd n ⟨5, (cntL l t : Nat) + 1, [], t, 0⟩ := by
      unfold AHeap.of AHeap.keep; rw [hf.2, hf.1, hc]; rfl
    have eM : ofM A M t = M := by unfold ofM; rw [hf.2]; rfl
    rw [eA, eM]
    refine ⟨h.hT, by have := h.hd; simp; omega, ?_, ?_, ?_⟩
    · intro u k ek
      obtain ⟨g1, g2, g3, g4⟩ := h.hM u k ek
      refine ⟨g1, g2, ?_, by simp [g4]⟩
      show (if k = n then some _ else A.objs k) = _
      by_cases ekn : k = n
      · subst ekn
        rw [g3] at h3
        have eut : u = t := by
          have h5 := congrArg AObj.text (Option.some.inj h3)
          exact h5
        subst eut
        rw [if_pos rfl, cntL_snoc]
        simp
      · rw [if_neg ekn, g3, cntL_snoc, if_neg]
        · rfl
        · rintro rfl
          rw [e] at ek; cases ek; exact ekn rfl
    · intro u hu
      simp at hu
      rcases hu with hu | rfl
      · exact h.hI u hu
      · exact ⟨n, e⟩
    · intro k
      show (if k = n then some _ else A.objs k).isSome = tk A.T k
      rw [← h.hN k]
      by_cases ekn : k = n
      · subst ekn; rw [if_pos rfl, h3]; rfl
      · rw [if_neg ekn]
  · have hf := h.notFound hm
    have hok : makeOk 5 t = true := by simp [makeOk, ht]
    have hfr : A.fresh = d + 1 := by unfold AHeap.fresh; rw [h.hT, firstFree_replicate]
    have eA : A.of M t = A.make 5 t := by unfold AHeap.of; rw [hf, hok]; rfl
    have eM : ofM A M t = fun u => if u = t then some A.fresh else M u := by unfold ofM; rw [hf, hok]; rfl
    refine ⟨d + 1, A.fresh, ?_, by unfold ofV; rw [hf, hok]; rfl, by rw [eM]; simp, fun u hu => by rw [eM]; simp; rintro rfl; exact absurd hu hm⟩
    rw [eA, eM]
    have hc0 := cntL_no hm
    refine ⟨by show takeT A.T = _; rw [h.hT, takeT_replicate], by have := h.hd; simp; omega, ?_, ?_, ?_⟩
    · intro u k ek
      by_cases eu : u = t
      · subst eu
        simp at ek
        refine ⟨by omega, by rw [← ek, hfr]; simp, ?_, by simp⟩
        show (if k = A.fresh then some _ else A.objs k) = _
        rw [if_pos ek.symm, cntL_snoc, hc0]
        simp
      · simp [eu] at ek
        obtain ⟨g1, g2, g3, g4⟩ := h.hM u k ek
        refine ⟨g1, by simp; omega, ?_, by simp [g4]⟩
        show (if k = A.fresh then some _ else A.objs k) = _
        rw [if_neg (by omega), g3, cntL_snoc, if_neg (fun q => eu q.symm)]
        rfl
    · intro u hu
      simp at hu
      by_cases eu : u = t
      · exact ⟨A.fresh, by simp [eu]⟩
      · obtain ⟨n, e⟩ := h.hI u (by rcases hu with hu | hu; exact hu; exact absurd hu eu)
        exact ⟨n, by simp [eu, e]⟩
    · intro k
      show (if k = A.fresh then some _ else A.objs k).isSome = tk (takeT A.T) k
      rw [tk_takeT, ← h.hN k]
      by_cases ek : k = A.fresh
      · rw [if_pos ek]; simp [ek, AHeap.fresh]
      · rw [if_neg ek]; simp [AHeap.fresh] at ek; simp [ek]
/-- two texts have one number just if they are one -/
theorem Asked.same (h : Asked l d A M) {t u : ByteArray} {n k : Int} (e1 : M t = some n) (e2 : M u = some k) : decide (t = u) = decide (n = k) := by
  by_cases e : t = u
  · subst e; rw [e1] at e2; cases e2; simp
  · have : n ≠ k := by
      rintro rfl
      have g1 := (h.hM t n e1).2.2.1
      have g2 := (h.hM u n e2).2.2.1
      rw [g1] at g2
      simp at g2
      exact e g2.2
    simp [e, this]
end
end Go.Proofs.Ytkpcngcegipalaa.Tw
namespace Go.Proofs.Ytkpcngcegipalaa.Tw
set_option linter.unusedVariables false
set_option linter.unusedSimpArgs false
open Go Go.RowKit Go.MapKept

theorem law_str {w0 w : World} {F : HP} (h : Sat w0 w F) (n : Int) :
    Calls Try.prog 24 #[.int .i64 n] w fun e w' => e = .returned (.agg #[.int .i64 5, .int .i64 n]) ∧ Sat w0 w' F := by
  have h1 := h.alloc (.cells #[.int .i64 5, .int .i64 n] 28)
  have h2 := h.alloc (.cells #[.int .i64 0, .int .i64 0] 28)
  have y0 : (w.alloc (.cells #[.int .i64 0, .int .i64 0] 28)).cell? ⟨w.heap.size, 0, none⟩ = some (.int .i64 0) := (Sat.cell (T := 28) (cs := #[.int .i64 0, .int .i64 0]) h2 0 rfl)
  have y1 : (w.alloc (.cells #[.int .i64 0, .int .i64 0] 28)).cell? ⟨w.heap.size, 1, none⟩ = some (.int .i64 0) := (Sat.cell (T := 28) (cs := #[.int .i64 0, .int .i64 0]) h2 1 rfl)
  have yf0 := h2.free 0
  have yf1 := h2.free 1
  go_enter Try.func24, Try.ntmps24
  go_wp2_with fail
  refine bodyPost_cell rfl rfl (v := .agg #[.int .i64 5, .int .i64 n]) ?_ rfl ⟨rfl, ?_⟩
  · first
      | exact load_val h1
      | exact load_val ((h2.store (i := 0) (.int .i64 5)).store (i := 1) (.int .i64 n))
  · first
      | exact h1.drop
      | exact ((h2.store (i := 0) (.int .i64 5)).store (i := 1) (.int .i64 n)).drop

theorem run_count (w : World) (v0 v1 v2 v3 v4 : Value) : (Instr.field 39 (.agg #[v0, v1, v2, v3, v4]) 1).run Try.prog w = .ok v1 w := by kernel_rfl
def ta : ByteArray := ByteArray.mk #[97]
def tb : ByteArray := ByteArray.mk #[98]
theorem sW1 (S H F : HP) : S * (H * F) = H * (S * F) := by ac_rfl
theorem sW2 (U V X H R : HP) : U * (V * (X * (H * R))) = H * (U * (V * (X * R))) := by ac_rfl
theorem sW3 (U V X R : HP) : U * (V * (X * R)) = V * (U * (X * R)) := by ac_rfl
theorem sW4 (U V X R : HP) : U * (V * (X * R)) = X * (U * (V * R)) := by ac_rfl
theorem sW5 (H C U V X R : HP) : H * (C * (U * (V * (X * R)))) = U * (V * (X * (H * (C * R)))) := by ac_rfl
set_option maxRecDepth 100000 in
set_option maxHeartbeats 4000000 in
theorem law_works {w0 w : World} {F : HP} (h : Sat w0 w F) :
    Calls Try.prog 17 #[] w fun e w' => e = .returned (.bool true) ∧ Sat w0 w' F := by
  obtain ⟨d1, n1, A1, v1, m1, k1⟩ := Asked.empty.step (by simp) (t := ta) (by decide)
  obtain ⟨d2, n2, A2, v2, m2, k2⟩ := A1.step (by simp) (t := tb) (by decide)
  obtain ⟨d3, n3, A3, v3, m3, k3⟩ := A2.step (by simp) (t := ta) (by decide)
  have e1 : n1 = 1 := by have := A1.hM _ _ m1; have := A1.hd; simp at this; omega
  subst e1
  have e2 : n2 = 2 := by
    have h1 := A2.hM _ _ m2; have h2 := A2.hd; simp at h2
    have h3 := A2.same m2 ((k2 ta (by simp)).trans m1)
    have h4 : decide (tb = ta) = false := by decide
    rw [h4] at h3; simp at h3
    omega
  subst e2
  have e3 : n3 = 1 := by
    have h1 := (k3 ta (by simp)).trans ((k2 ta (by simp)).trans m1)
    rw [m3] at h1; cases h1; rfl
  subst e3
  have o1 := (A3.objOf (by simp) m3).2
  rw [show (cntL ([] ++ [ta] ++ [tb] ++ [ta]) ta) = 2 by decide] at o1
  have K : Knows (fun _ => Option.none) F := Knows.none F
  have q0 : ∀ {w : World}, Sat w0 w (heapR (fun _ => Option.none) 0 AHeap.empty * F) → True := fun _ => trivial
  clear q0
  have V1 := Lib.hid v1
  have V2 := Lib.hid v2
  have V3 := Lib.hid v3
  have P0 := Lib.hid Asked.empty
  have P1 := Lib.hid A1
  have P2 := Lib.hid A2
  have O1 := Lib.hid o1
  clear v1 v2 v3 A1 A2 A3 m1 m2 m3 k1 k2 k3 o1
  go_enter Try.func17, Try.ntmps17
  go_wp2_with fail
  refine (heap_New h).mono ?_
  rintro e w1 ⟨p, rfl, h1⟩
  have h1 := h1 (fun _ => Option.none)
  go_wp2_with fail
  refine (str_New h1 p).mono ?_
  rintro e w2 ⟨s, rfl, h2⟩
  clear h1 h
  go_wp2_with fail
  refine (str_Of ta K (h2.cast (sW1 _ _ _)) (P0.out.slots (by simp) _) (by simp [AHeap.empty]) (P0.out.wraps (by simp) _)).mono ?_
  rw [V1.out]
  rintro e w3 ⟨rfl, h3⟩
  clear h2
  go_wp2_with fail
  refine (str_Of tb K h3 (P1.out.slots (by simp) _) (by rw [P1.out.hT, List.length_replicate]; have := P1.out.hd; simp at this; omega) (P1.out.wraps (by simp) _)).mono ?_
  rw [V2.out]
  rintro e w4 ⟨rfl, h4⟩
  clear h3
  go_wp2_with fail
  refine (str_Of ta K h4 (P2.out.slots (by simp) _) (by rw [P2.out.hT, List.length_replicate]; have := P2.out.hd; simp at this; omega) (P2.out.wraps (by simp) _)).mono ?_
  rw [V3.out]
  rintro e w5 ⟨rfl, h5⟩
  clear h4 P0 P1 P2 V1 V2 V3
  generalize ((AHeap.empty.of (fun _ => Option.none) ta).of (ofM AHeap.empty (fun _ => Option.none) ta) tb).of (ofM (AHeap.empty.of (fun _ => Option.none) ta) (ofM AHeap.empty (fun _ => Option.none) ta) tb) ta = A at *
  generalize ofM ((AHeap.empty.of (fun _ => Option.none) ta).of (ofM AHeap.empty (fun _ => Option.none) ta) tb) (ofM (AHeap.empty.of (fun _ => Option.none) ta) (ofM AHeap.empty (fun _ => Option.none) ta) tb) ta = M at *
  go_wp2_with fail
  have h6 := ((h5.alloc (.cells #[.int .i64 5, .int .i64 1] 28)).alloc (.cells #[.int .i64 5, .int .i64 2] 28)).alloc (.cells #[.int .i64 5, .int .i64 1] 28)
  rw [size_alloc, size_alloc] at h6
  generalize w5.heap.size = q at *
  have hPP : ∀ {w' : World}, Sat w0 w' (pt (q + 1 + 1) (.cells #[.int .i64 5, .int .i64 1] 28) * (pt (q + 1) (.cells #[.int .i64 5, .int .i64 2] 28) * (pt q (.cells #[.int .i64 5, .int .i64 1] 28) * (heapR (fun _ => Option.none) p A * (strR s p M * F))))) →
      w'.cell? ⟨q, 0, none⟩ = some (.int .i64 5) ∧ w'.cell? ⟨q, 1, none⟩ = some (.int .i64 1) ∧ w'.cell? ⟨q + 1, 0, none⟩ = some (.int .i64 5) ∧ w'.cell? ⟨q + 1, 1, none⟩ = some (.int .i64 2) ∧ w'.cell? ⟨q + 1 + 1, 0, none⟩ = some (.int .i64 5) ∧ w'.cell? ⟨q + 1 + 1, 1, none⟩ = some (.int .i64 1) := by
    intro w' hx
    have hy := hx.cast (sW3 _ _ _ _)
    have hz := hx.cast (sW4 _ _ _ _)
    exact ⟨Sat.cell (T := 28) (cs := #[.int .i64 5, .int .i64 1]) hz 0 rfl, Sat.cell (T := 28) (cs := #[.int .i64 5, .int .i64 1]) hz 1 rfl, Sat.cell (T := 28) (cs := #[.int .i64 5, .int .i64 2]) hy 0 rfl, Sat.cell (T := 28) (cs := #[.int .i64 5, .int .i64 2]) hy 1 rfl, Sat.cell (T := 28) (cs := #[.int .i64 5, .int .i64 1]) hx 0 rfl, Sat.cell (T := 28) (cs := #[.int .i64 5, .int .i64 1]) hx 1 rfl⟩
  have HPP := @hPP
  clear hPP h5
  have H6 := h6.drew
  have hrc := run_count
  have hcells := HPP H6
  go_region_held3 (fun w' => w'.cell? ⟨q, 0, none⟩ = some (.int .i64 5) ∧ w'.cell? ⟨q, 1, none⟩ = some (.int .i64 1) ∧ w'.cell? ⟨q + 1, 0, none⟩ = some (.int .i64 5) ∧ w'.cell? ⟨q + 1, 1, none⟩ = some (.int .i64 2) ∧ w'.cell? ⟨q + 1 + 1, 0, none⟩ = some (.int .i64 5) ∧ w'.cell? ⟨q + 1 + 1, 1, none⟩ = some (.int .i64 1)) (assumption) (first
    | (go_at_call 24; first | (refine (law_str hx _).mono ?_; rintro e w' ⟨rfl, hx⟩; have hcc := HPP hx) | (refine (law_str H6 _).mono ?_; rintro e w' ⟨rfl, hx⟩; have hcc := HPP hx))
    | (go_at_call 23; refine (heap_Obj (hx.cast (sW2 _ _ _ _ _)) 1 (by rw [O1.out]; simp)).mono ?_; unfold objV; rw [O1.out]; rintro e w' ⟨a, c, rfl, hv⟩; have hx := hv.drop2.cast (sW2 _ _ _ _ _).symm; have hcc := HPP hx))
  go_wp2_with fail
  go_ret
  exact ⟨rfl, hx.drop.drop.drop.drop.drop⟩
end Go.Proofs.Ytkpcngcegipalaa.Tw
namespace Go.Proofs.Ytkpcngcegipalaa.Tw
set_option linter.unusedVariables false
set_option linter.unusedSimpArgs false
open Go Go.RowKit Go.MapKept

section
variable {w0 w : World} {m : Hp} {s p : Nat} {A : AHeap} {M : ByteArray → Option Int} {F : HP}
theorem of_made (A' : AHeap) (M' : ByteArray → Option Int) (n : Int) (t : ByteArray) (h : Sat w0 w (heapR m p A * (strR s p M * F))) (hB : (strO A ⟨5, findN M t⟩).slots = []) (hf : findOk A M t = false) (hT : A.T.length < 1000000000) (hok : makeOk 5 t = true)
    (hn : A.fresh = n) (hA : A.make 5 t = A') (hM : (fun u => if u = t then some n else M u) = M') :
    Calls Try.prog 18 #[.pointer (some ⟨s, 0, none⟩), .string t] w fun e w' => e = .returned (.agg #[.int .i64 5, .int .i64 n]) ∧ Sat w0 w' (heapR m p A' * (strR s p M' * F)) := by
  subst hn; subst hA; subst hM
  exact str_Of_made t h (by rw [hB]; simp) hf hT hok
theorem of_found (A' : AHeap) (n : Int) (t : ByteArray) (K : Knows m F) (h : Sat w0 w (heapR m p A * (strR s p M * F))) (hB : (strO A ⟨5, n⟩).slots = []) (hf : findOk A M t = true) (hW : ∀ o, cntO A ⟨5, n⟩ = some o → IntKind.i64.wrap (o.count + 1) = o.count + 1)
    (hn : findN M t = n) (hA : A.keep ⟨5, n⟩ = A') :
    Calls Try.prog 18 #[.pointer (some ⟨s, 0, none⟩), .string t] w fun e w' => e = .returned (.agg #[.int .i64 5, .int .i64 n]) ∧ Sat w0 w' (heapR m p A' * (strR s p M * F)) := by
  subst hn; subst hA
  exact str_Of_found t K h (by rw [hB]; simp) hf hW
theorem find_to (n : Int) (b : Bool) (t : ByteArray) (h : Sat w0 w (heapR m p A * (strR s p M * F))) (hB : (strO A ⟨5, n⟩).slots = []) (hn : findN M t = n) (hb : findOk A M t = b) :
    Calls Try.prog 20 #[.pointer (some ⟨s, 0, none⟩), .string t] w fun e w' => e = .returned (.tuple #[foundV n b, .bool b]) ∧ Sat w0 w' (heapR m p A * (strR s p M * F)) := by
  subst hn; subst hb
  exact str_Find t h (by rw [hB]; simp)
theorem text_to (n : Int) (o : AObj) (h : Sat w0 w (heapR m p A * (strR s p M * F))) (hB : o.slots = []) (ho : strO A ⟨5, n⟩ = o) (hk : o.kind = 5) :
    Calls Try.prog 22 #[.pointer (some ⟨s, 0, none⟩), .agg #[.int .i64 5, .int .i64 n]] w fun e w' => e = .returned (.tuple #[.string o.text, .bool true]) ∧ Sat w0 w' (heapR m p A * (strR s p M * F)) := by
  have hT := str_Text (A := A) (m := m) (s := s) (M := M) ⟨5, n⟩ h (by rw [ho, hB]; simp)
  have e : strIs A ⟨5, n⟩ = true := by unfold strIs; rw [ho, hk]; rfl
  rw [e, ho, if_pos rfl] at hT
  exact hT
theorem drop_to (A' : AHeap) (k n e' : Int) (K : Knows m F) (h : Sat w0 w (heapR m p A * F)) (hB : ∀ o, cntO A ⟨k, n⟩ = some o → IntKind.i64.wrap (o.count - 1) = o.count - 1) (hq : A.queue.length ≤ 1000000000) (hb : A.buf.length ≤ 1000000000) (hE : cntE A ⟨k, n⟩ = e') (hA : A.drop ⟨k, n⟩ = A') :
    Calls Try.prog 19 #[.pointer (some ⟨p, 0, none⟩), .agg #[.int .i64 k, .int .i64 n]] w fun e w' => e = .returned (.int .i64 e') ∧ Sat w0 w' (heapR m p A' * F) := by
  subst hE; subst hA
  exact heap_Drop h K ⟨k, n⟩ hB hq hb
theorem obj_to (n : Int) (o : AObj) (h : Sat w0 w (heapR m p A * F)) (hB : o.slots.length ≤ 2000000000) (ho : A.obj n = o) :
    Calls Try.prog 23 #[.pointer (some ⟨p, 0, none⟩), .int .i64 n] w fun e w' => ∃ a c, e = .returned (objV o a c) ∧ Sat w0 w' (heapR m p A * (slc 28 2 a o.slots.length c (avcells o.slots) * F)) := by
  subst ho
  exact heap_Obj h n hB
theorem obj_at (n : Int) (k ct mk : Int) (t : ByteArray) (h : Sat w0 w (heapR m p A * F)) (ho : A.obj n = ⟨k, ct, [], t, mk⟩) :
    Calls Try.prog 23 #[.pointer (some ⟨p, 0, none⟩), .int .i64 n] w fun e w' => ∃ a c, e = .returned (.agg #[.int .i64 k, .int .i64 ct, .slice a 0 c, .string t, .int .i64 mk]) ∧ Sat w0 w' (heapR m p A * F) := by
  refine (obj_to n _ h (by simp) ho).mono ?_
  rintro e w' ⟨a, c, rfl, h1⟩
  exact ⟨a, c, rfl, h1.p2.drop⟩
theorem make_to (A' : AHeap) (k n : Int) (t : ByteArray) (h : Sat w0 w (heapR m p A * F)) (hT : A.T.length < 1000000000) (hok : makeOk k t = true) (hn : A.fresh = n) (hA : A.make k t = A') :
    Calls Try.prog 25 #[.pointer (some ⟨p, 0, none⟩), .int .i64 k, .string t] w fun e w' => e = .returned (.agg #[.int .i64 k, .int .i64 n]) ∧ Sat w0 w' (heapR m p A' * F) := by
  subst hn; subst hA
  exact heap_Make h hT k t hok
theorem free_to (A' : AHeap) (n : Int) {q : List Int} {o : AObj} (K : Knows m F) (h : Sat w0 w (heapR m p A * F)) (hQ : A.queue = n :: q) (ho : A.objs n = some o) (hsl : o.slots = []) (hq : A.queue.length ≤ 1000000000) (hf : A.fins.length ≤ 1000000000) (hT : A.T.length < 1000000000) (hA : A.free n = A') :
    Calls Try.prog 21 #[.pointer (some ⟨p, 0, none⟩), .int .i64 n] w fun e w' => e = .returned (.int .i64 0) ∧ Sat w0 w' (heapR m p A' * F) := by
  subst hA
  exact heap_Free h K n hQ ho hsl hq hf hT
theorem val2 {b : Nat} {k n : Int} (h : Sat w0 w (pt b (.cells #[.int .i64 k, .int .i64 n] 28) * F)) : w.cell? ⟨b, 0, none⟩ = some (.int .i64 k) ∧ w.cell? ⟨b, 1, none⟩ = some (.int .i64 n) :=
  ⟨Sat.cell (T := 28) (cs := #[.int .i64 k, .int .i64 n]) h 0 rfl, Sat.cell (T := 28) (cs := #[.int .i64 k, .int .i64 n]) h 1 rfl⟩
theorem Sat.belowOld (h : Sat w0 w (Old w0)) : Below w0.heap.size w0 w := (h.cast (mul_one _).symm).below
theorem foundV_yes (n : Int) : foundV n true = .agg #[.int .i64 5, .int .i64 n] := rfl
theorem foundV_no (n : Int) : foundV n false = .agg #[.int .i64 0, .int .i64 0] := rfl
end
end Go.Proofs.Ytkpcngcegipalaa.Tw
namespace Go.Proofs.Ytkpcngcegipalaa.Tw
set_option linter.unusedVariables false
set_option linter.unusedSimpArgs false
open Go Go.RowKit Go.MapKept

theorem eqs_nil : ∀ (w : World) (r : Option Nat), (binOp .eql 121 (.map r) (.map none)).run Try.prog w = .ok (.bool r.isNone) w := by intro w r; cases r <;> kernel_rfl
theorem maps_cloneS {w0 w : World} {F : HP} {m : Nat} {L : List (ByteArray × Value)} (h : Sat w0 w (mapR .string Value.string m L * F)) :
    Calls Try.prog 86 #[.map (some m)] w fun e w' => ∃ m', e = .returned (.map (some m')) ∧ Sat w0 w' (mapR .string Value.string m' L * (mapR .string Value.string m L * F)) := by
  obtain ⟨hn, es, clock, hs, hst, hl⟩ := h.openMap
  have hm := eqs_nil
  have hc : (callFunc 127 #[.iface 121 (.map (some m))]).run Try.prog w = .ok (.value (.iface 121 (.map (some w.heap.size)))) (w.alloc (.map es clock)) := by
    rw [run_callFunc_extern Try.func127 (by kernel_rfl) (by kernel_rfl) (by kernel_rfl) (e := Extern.MapsClone.clone) (by kernel_rfl)]
    have e : Extern.MapsClone.clone #[.iface 121 (.map (some m))] = (getObj m >>= fun o => match o with
      | .map entries clock => (newObj (.map entries clock) >>= fun n => pure (.iface 121 (.map (some n))))
      | _ => stuck "maps.clone: a map expected") := rfl
    rw [e]
    simp [MapKept.run_getObj_map hs.blk, Result.andThen]
  have hta := fun w' => run_typeAssert_map w' 121 20 _ _ (.map (some w.heap.size)) Try.underlying121
  go_enter Try.func86, Try.ntmps86
  go_wp2
  go_ret
  exact ⟨_, rfl, Sat.shutMap (L := L) (h.alloc _) hn hst hl⟩
theorem str_Copy {w0 w : World} {F : HP} {s p : Nat} {M : ByteArray → Option Int} (h : Sat w0 w (strR s p M * F)) (q : Nat) :
    Calls Try.prog 27 #[.pointer (some ⟨s, 0, none⟩), .pointer (some ⟨q, 0, none⟩)] w fun e w' => ∃ s', e = .returned (.pointer (some ⟨s', 0, none⟩)) ∧ Sat w0 w' (strR s' q M * (strR s p M * F)) := by
  obtain ⟨mb, L, hL, hs⟩ := h.openStr
  have c1 : w.cell? ⟨s, 1, none⟩ = some (.map (some mb)) := hs.cell 1 rfl
  have HC := Lib.hid (maps_cloneS hs.p2)
  have HL := Lib.hid hL
  clear hL
  go_enter Try.func27, Try.ntmps27
  go_wp2_with fail
  refine HC.out.mono ?_
  rintro e w1 ⟨m', rfl, h1⟩
  have h2 := h1.alloc (.cells #[.pointer (some ⟨q, 0, none⟩), .map (some m')] 123)
  go_wp2_with fail
  go_ret
  refine ⟨w1.heap.size, rfl, ?_⟩
  have h3 := Sat.shutStr (s := s) (p := p) HL.out (h2.p3.p4)
  exact Sat.shutStr HL.out h3.q3
theorem str_Copy_nil (w : World) (q : Option Addr) : Calls Try.prog 27 #[.pointer none, .pointer q] w fun e w' => e = .returned (.pointer none) ∧ w = w' := by
  go_enter Try.func27, Try.ntmps27
  go_wp2
  go_ret
  exact ⟨rfl, rfl⟩
theorem str_Copy_none (w : World) (s : Nat) : Calls Try.prog 27 #[.pointer (some ⟨s, 0, none⟩), .pointer none] w fun e w' => e = .returned (.pointer none) ∧ w = w' := by
  go_enter Try.func27, Try.ntmps27
  go_wp2
  go_ret
  exact ⟨rfl, rfl⟩
theorem str_string_nil (w : World) (v : AVal) {w0 : World} {F : HP} (h : Sat w0 w F) :
    Calls Try.prog 74 #[.pointer none, .agg #[.int .i64 v.kind, .int .i64 v.n]] w fun e w' => e = .returned (.tuple #[objV AObj.none none 0, .bool false]) ∧ Sat w0 w' F := by
  have h1 := (h.alloc (.cells #[.int .i64 v.kind, .int .i64 v.n] 28)).drop.alloc (.cells #[.int .i64 0, .int .i64 0, .slice none 0 0, .string (ByteArray.mk #[]), .int .i64 0] 39)
  rw [size_alloc] at h1
  go_enter Try.func74, Try.ntmps74
  go_wp2
  refine bodyPost_cell_tmp rfl rfl rfl (load_obj h1) rfl ?_
  exact ⟨rfl, h1.drop⟩
theorem str_Text_nil (w : World) (v : AVal) {w0 : World} {F : HP} (h : Sat w0 w F) :
    Calls Try.prog 22 #[.pointer none, .agg #[.int .i64 v.kind, .int .i64 v.n]] w fun e w' => e = .returned (.tuple #[.string (ByteArray.mk #[]), .bool false]) ∧ Sat w0 w' F := by
  have h1 := (h.alloc (.cells #[.int .i64 v.kind, .int .i64 v.n] 28)).drop
  have HS := Lib.hid (str_string_nil _ v h1)
  unfold objV AObj.none at HS
  go_enter Try.func22, Try.ntmps22
  go_wp2_with fail
  refine HS.out.mono ?_
  rintro e w1 ⟨rfl, h2⟩
  have h3 := (h2.alloc (.cells #[.int .i64 0, .int .i64 0, .slice none 0 0, .string (ByteArray.mk #[]), .int .i64 0] 39)).drop
  go_wp2_with fail
  go_ret2
  exact ⟨rfl, h3⟩
theorem str_Of_nil (w : World) (t : ByteArray) {w0 : World} {F : HP} (h : Sat w0 w F) :
    Calls Try.prog 18 #[.pointer none, .string t] w fun e w' => e = .returned (.agg #[.int .i64 0, .int .i64 0]) ∧ Sat w0 w' F := by
  have h1 := h.alloc (.cells #[.int .i64 0, .int .i64 0] 28)
  go_enter Try.func18, Try.ntmps18
  go_wp2
  exact bodyPost_cell rfl rfl (load_val h1) rfl ⟨rfl, h1.drop⟩
end Go.Proofs.Ytkpcngcegipalaa.Tw
