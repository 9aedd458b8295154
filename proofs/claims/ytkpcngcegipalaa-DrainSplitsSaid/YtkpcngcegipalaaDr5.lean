/- drain: Drain, Step and Bound, whatever the number. No condition. -/
import Derived.Test.YtkpcngcegipalaaDr4
import Derived.Test.YtkpcngcegipalaaCell14
namespace Go.Proofs.Ytkpcngcegipalaa.Tw
set_option linter.unusedVariables false
set_option linter.unusedSimpArgs false
open Go Go.RowKit Go.MapKept

def mN : Hp := fun _ => none
theorem knowsN (F : HP) : Knows mN F := Knows.none F
section
variable {w0 w : World} {p : Nat} {A : AHeap} {F : HP} {B : Int}
theorem w_Drain (H : HW A B) (hB : B ≤ 1000000) (n : Int) (hn : n ≤ 9223372036854775807) (h : Sat w0 w (heapR mN p A * F)) :
    Calls Try.prog 34 #[.pointer (some ⟨p, 0, none⟩), .int .i64 n] w fun e w' => e = .returned (.int .i64 ((drainN n.toNat A).1 : Nat)) ∧ Sat w0 w' (heapR mN p (drainN n.toNat A).2 * F) := by
  by_cases h1 : 1 ≤ n
  · refine (dr_Drain (X := 1) H hB (knowsN 1) n h1 hn (h.cast (by rw [one_mul]))).mono ?_
    rintro e w' ⟨rfl, h2⟩
    exact ⟨rfl, h2.cast (by rw [one_mul])⟩
  · have e : n.toNat = 0 := by omega
    rw [e]
    clear e
    have ha := ((h.alloc (.cells #[.pointer (some ⟨p, 0, none⟩)] 22)).alloc (.cells #[.int .i64 n] 3)).alloc (.cells #[.int .i64 0] 3)
    have hlt : n < 1 := by omega
    clear h1
    go_enter Try.func34, Try.ntmps34
    go_wp2
    go_ret
    exact ⟨rfl, ha.drop.drop.drop⟩
theorem w_Step (H : HW A B) (hB : B ≤ 1000000) (h : Sat w0 w (heapR mN p A * F)) :
    Calls Try.prog 38 #[.pointer (some ⟨p, 0, none⟩)] w fun e w' => e = .returned (.bool (!A.queue.isEmpty)) ∧ Sat w0 w' (heapR mN p A.stepF * F) := by
  have HC := Lib.hid (w_Drain H hB 1 (by omega) h)
  cases hq : A.queue with
  | nil =>
    have e1 : drainN (1 : Int).toNat A = (0, A) := by show (if A.queue = [] then (0, A) else _) = _; rw [if_pos hq]
    have e2 : A.stepF = A := by unfold AHeap.stepF; rw [hq]
    rw [e1] at HC
    rw [e2]
    go_enter Try.func38, Try.ntmps38
    go_wp2_with fail
    refine HC.out.mono ?_
    rintro e w' ⟨rfl, h2⟩
    go_wp2
    go_ret
    exact ⟨rfl, h2⟩
  | cons n q =>
    have e1 : drainN (1 : Int).toNat A = (1, A.stepF) := by show (if A.queue = [] then (0, A) else _) = _; rw [if_neg (by rw [hq]; simp)]; rfl
    rw [e1] at HC
    clear hq e1
    go_enter Try.func38, Try.ntmps38
    go_wp2_with fail
    refine HC.out.mono ?_
    rintro e w' ⟨rfl, h2⟩
    go_wp2
    go_ret
    exact ⟨rfl, h2⟩
theorem run_field_graph (a : Option Addr) (n c : Nat) (w : World) : (Instr.field 64 (Value.agg #[.slice a n c]) 0).run Try.prog w = .ok (.slice a n c) w := by
  unfold Instr.field
  simp [Sem.run_bind, run_underlying Try.underlying64, Result.andThen, asAgg, go_sem]
def boundO (o : AObj) : Nat := if o.kind = 0 then 0 else 2 + o.slots.length
def boundL (L : List AObj) : Nat := (L.map boundO).sum
def AHeap.boundF (A : AHeap) : Nat := boundL (graphL A (lastT A.T))
theorem boundL_snoc (L : List AObj) (o : AObj) : boundL (L ++ [o]) = boundL L + boundO o := by unfold boundL; simp
set_option maxRecDepth 100000 in
set_option maxHeartbeats 2000000 in
theorem w_Bound (H : HW A B) (hB : B ≤ 100000) (h : Sat w0 w (heapR mN p A * F)) :
    Calls Try.prog 37 #[.pointer (some ⟨p, 0, none⟩)] w fun e w' => e = .returned (.int .i64 (A.boundF : Nat)) ∧ Sat w0 w' (heapR mN p A * F) := by
  have hT := H.t
  have HC := Lib.hid (heap_Graph h (by omega) fun n o ho => by have := H.c n o ho; omega)
  have hN := lastT_le A.T
  have hsl : ∀ o ∈ graphL A (lastT A.T), (o.slots.length : Int) ≤ 100000 := fun o ho => by
    unfold graphL at ho
    obtain ⟨i, _, rfl⟩ := List.mem_map.1 ho
    unfold AHeap.obj
    cases e : A.objs ((i : Int) + 1) with
    | none => simp [AObj.none]
    | some o => have := H.c _ o e; show (o.slots.length : Int) ≤ _; omega
  have hle : ∀ k, (boundL ((graphL A (lastT A.T)).take k) : Int) ≤ 100002 * k := by
    intro k
    induction k with
    | zero => simp [boundL]
    | succ k ih =>
      rw [List.take_add_one]
      cases e : (graphL A (lastT A.T))[k]? with
      | none => simp; omega
      | some o =>
        have h1 := hsl o (List.mem_of_getElem? e)
        show (boundL (_ ++ [o]) : Int) ≤ _
        rw [boundL_snoc]
        unfold boundO
        split <;> omega
  have hgl : (graphL A (lastT A.T)).length = lastT A.T := by simp [graphL]
  unfold AHeap.boundF
  generalize graphL A (lastT A.T) = L at *
  have HS := Lib.hid (And.intro hsl (And.intro hle hgl))
  generalize lastT A.T = N at *
  have hN2 : N ≤ 100000 := by omega
  clear hsl hle hgl hT hN h
  go_enter Try.func37, Try.ntmps37
  go_wp2_with fail
  refine HC.out.mono ?_
  rintro e w1 ⟨ga, gc, rfl, h1⟩
  obtain ⟨X, ⟨hX1, hX2⟩, h2⟩ := h1.openObjs
  have H2 := Lib.hid h2
  have HX := Lib.hid hX1
  clear h1 h2 hX1 hX2
  have hfg := run_field_graph ga N gc w1
  go_wp2
  go_loopw [3, 10] (fun sv iv wr => ∃ k : Nat, sv = .int .i64 (boundL (L.take k) : Nat) ∧ iv = .int .i64 k ∧ k ≤ N ∧ Sat w0 wr (slc 39 5 ga N gc (xscells X) * (xslotsR X * (heapR mN p A * F)))) (fun _ iv _ => N - (intOf iv).toNat)
  case atStart => exact ⟨0, rfl, rfl, by omega, H2.out⟩
  case round =>
    obtain ⟨k, rfl, rfl, hk, hs⟩ := hrel
    by_cases hlt : k < N
    · have hb := HS.out.2.1 k
      have hXl : X.length = N := by have e := HS.out.2.2; rw [← HX.out, List.length_map] at e; exact e
      have hx : X[k]? = some (X[k]'(by omega)) := List.getElem?_eq_getElem _
      generalize X[k]'(by omega) = x at hx
      have hLx : L[k]? = some x.1 := by rw [← HX.out, List.getElem?_map, hx]; rfl
      obtain ⟨g, off, e1, d0, d1, d2, d3, d4⟩ := objAtX hs hx
      have htk : L.take (k + 1) = L.take k ++ [x.1] := by rw [List.take_add_one, hLx]; rfl
      have hbs := boundL_snoc (L.take k) x.1
      rw [← htk] at hbs
      have hsx := HS.out.1 x.1 (List.mem_of_getElem? hLx)
      obtain ⟨⟨ok, oc, osl, otx, om⟩, sa, sc⟩ := x
      dsimp only at d0 d1 d2 d3 d4 hsx hbs
      unfold boundO at hbs
      dsimp only at hbs
      generalize hosl : osl.length = sl at *
      cases e1
      generalize hbk : boundL (L.take k) = bk at *
      have HTK := Lib.hid hbs
      have hal := hs.alloc (.cells #[.int .i64 ok, .int .i64 oc, .slice sa sl sc, .string otx, .int .i64 om] 39)
      have HAL := Lib.hid hal.drop
      clear hal hs hXl hx hLx htk hosl hbk hbs
      by_cases hk0 : ok = 0
      · have f1 : (ok != 0) = false := by simp [hk0]
        have HK0 := Lib.hid hk0
        clear hk0
        go_wp2
        go_round
        case rel => exact ⟨k + 1, by rw [HTK.out, if_pos HK0.out]; rfl, by go_num, by omega, HAL.out⟩
        case measure => simp [intOf]; omega
      · have f1 : (ok != 0) = true := by simp [hk0]
        have HK0 := Lib.hid hk0
        clear hk0
        go_wp2
        go_round
        case rel => exact ⟨k + 1, by rw [HTK.out, if_neg HK0.out]; go_num, by go_num, by omega, HAL.out⟩
        case measure => simp [intOf]; omega
    · have hkn : k = N := by omega
      subst hkn
      have e : L.take k = L := List.take_of_length_le (by have := HS.out.2.2; omega)
      rw [e]
      clear e
      go_wp2
      go_ret
      exact ⟨rfl, hs.drop.drop⟩
end
end Go.Proofs.Ytkpcngcegipalaa.Tw
