/- the laws of drain: ints, two, works. No condition. -/
import Derived.Test.YtkpcngcegipalaaDr5
import Derived.Test.YtkpcngcegipalaaCell10
namespace Go.Proofs.Ytkpcngcegipalaa.Tw
set_option linter.unusedVariables false
set_option linter.unusedSimpArgs false
open Go Go.RowKit Go.MapKept

section
variable {w0 w : World} {F : HP}
/-- two lists of numbers, as far as k -/
theorem law_ints {a b : Option Addr} {c c' n m : Nat} {l r : List Int} (h : Sat w0 w (slc 3 1 a n c (l.map ival) * (slc 3 1 b m c' (r.map ival) * F))) (hl : l.length = n) (hr : r.length = m) (hn : n ≤ 1000000000) (hm : m ≤ 1000000000) :
    Calls Try.prog 39 #[.slice a n c, .slice b m c'] w fun e w' => e = .returned (.bool (decide (l = r))) ∧ Sat w0 w' (slc 3 1 a n c (l.map ival) * (slc 3 1 b m c' (r.map ival) * F)) := by
  by_cases hnm : n = m
  · subst hnm
    have HL := Lib.hid (And.intro hl hr)
    clear hl hr
    go_enter Try.func39, Try.ntmps39
    go_wp2
    go_loopw [5] (fun iv wr => ∃ k : Nat, iv = .int .i64 k ∧ k ≤ n ∧ Hid (l.take k = r.take k) ∧ Sat w0 wr (slc 3 1 a n c (l.map ival) * (slc 3 1 b n c' (r.map ival) * F))) (fun iv _ => n - (intOf iv).toNat)
    case atStart => exact ⟨0, rfl, by omega, Lib.hid rfl, h⟩
    case round =>
      obtain ⟨k, rfl, hk, hb, hs⟩ := hrel
      by_cases hlt : k < n
      · have hl1 := HL.out
        have ex : l[k]? = some (l[k]'(by omega)) := List.getElem?_eq_getElem _
        have ey : r[k]? = some (r[k]'(by omega)) := List.getElem?_eq_getElem _
        obtain ⟨g, off, rfl, c1, _⟩ := intCells hs ex
        obtain ⟨g2, off2, rfl, c2, _⟩ := intCells hs.p2 ey
        generalize l[k]'(by omega) = x at *
        generalize r[k]'(by omega) = y at *
        have HX := Lib.hid (And.intro ex ey)
        clear ex ey hl1
        by_cases hxy : x = y
        · subst hxy
          go_wp2
          go_region
          go_wp2
          go_round
          case rel =>
            refine ⟨k + 1, by go_num, by omega, Lib.hid ?_, hs⟩
            rw [List.take_add_one, List.take_add_one, hb.out, HX.out.1, HX.out.2]
          case measure => simp [intOf]; omega
        · have hq : (x != y) = true := by simpa using hxy
          go_wp2
          go_region
          go_wp2
          go_ret
          have hne : l ≠ r := fun e => hxy (by have h1 := HX.out.1; rw [e, HX.out.2] at h1; exact (Option.some.inj h1).symm)
          exact ⟨by rw [decide_eq_false hne]; rfl, hs⟩
      · have hkn : k = n := by omega
        subst hkn
        go_wp2
        go_ret
        refine ⟨?_, hs⟩
        have e : l = r := by
          have := hb.out
          have hl1 := HL.out
          rwa [List.take_of_length_le (by omega), List.take_of_length_le (by omega)] at this
        rw [decide_eq_true e]; rfl
  · have hq : ((n : Int) != (m : Int)) = true := by simp; omega
    have hne : l ≠ r := fun e => hnm (by rw [← hl, ← hr, e])
    go_enter Try.func39, Try.ntmps39
    go_wp2
    go_ret
    exact ⟨by rw [decide_eq_false hne]; rfl, h⟩
theorem Sat.lit {b n : Nat} {L : List Int} (h : Sat w0 w (pt b (.cells (L.map ival).toArray 3 (0, 0)) * F)) (hl : L.length = n) (hn : n ≤ 1000000) : Sat w0 w (slc 3 1 (some ⟨b, 0, none⟩) n n (L.map ival) * F) := by
  subst hl
  exact Sat.shutSlc h (Nat.le_refl _) (by unfold maxLen; omega) (by simp) (by simp only [List.drop_zero, Nat.mul_one]; exact List.take_of_length_le (by simp))
theorem ints_same {a b : Option Addr} {c c' n : Nat} {L : List Int} (h : Sat w0 w (slc 3 1 b n c' (L.map ival) * (slc 3 1 a n c (L.map ival) * F))) (hl : L.length = n) (hn : n ≤ 1000000) :
    Calls Try.prog 39 #[.slice a n c, .slice b n c'] w fun e w' => e = .returned (.bool true) ∧ Sat w0 w' F := by
  refine (law_ints h.p2 hl hl (by omega) (by omega)).mono ?_
  rintro e w' ⟨rfl, h2⟩
  exact ⟨by rw [decide_eq_true rfl], h2.drop.drop⟩
end
theorem HW.drain {A : AHeap} {B : Int} (h : HW A B) : ∀ (n : Nat), HW (drainN n A).2 B := by
  intro n
  induction n generalizing A with
  | zero => exact h
  | succ n ih =>
    unfold drainN
    split
    · exact h
    · exact ih h.step
section
variable {w0 w : World} {p : Nat} {A : AHeap} {F : HP} {B : Int}
theorem c_Make (H : HW A B) (hB : B ≤ 1000000) (h : Sat w0 w (heapR mN p A * F)) (k : Int) (tx : ByteArray) {v : AVal} (hv : A.makeV k tx = v) :
    Calls Try.prog 25 #[.pointer (some ⟨p, 0, none⟩), .int .i64 k, .string tx] w fun e w' => e = .returned (.agg #[.int .i64 v.kind, .int .i64 v.n]) ∧ Sat w0 w' (heapR mN p (A.makeF k tx) * F) := hv ▸ t_Make H hB h k tx
theorem c_Queue (H : HW A B) (hB : B ≤ 1000000) (h : Sat w0 w (heapR mN p A * F)) {L : List Int} {n : Nat} (hL : A.queue = L) (hn : L.length = n) :
    Calls Try.prog 35 #[.pointer (some ⟨p, 0, none⟩)] w fun e w' => ∃ a c, e = .returned (.slice a n c) ∧ Sat w0 w' (slc 3 1 a n c (L.map ival) * (heapR mN p A * F)) := by
  have hql := H.ql
  refine (heap_Queue h (by omega)).mono ?_
  rintro e w' ⟨a, c, rfl, h2⟩
  rw [hL, hn] at h2
  exact ⟨a, c, by rw [hL, hn], h2⟩
theorem c_Fins (H : HW A B) (hB : B ≤ 1000000) (h : Sat w0 w (heapR mN p A * F)) {L : List Int} {n : Nat} (hL : A.fins.map (·.1) = L) (hn : L.length = n) :
    Calls Try.prog 40 #[.pointer (some ⟨p, 0, none⟩)] w fun e w' => ∃ a c, e = .returned (.slice a n c) ∧ Sat w0 w' (slc 3 1 a n c (L.map ival) * (heapR mN p A * F)) := by
  have hfl := H.fl
  have e2 : A.fins.length = n := by rw [← hn, ← hL, List.length_map]
  refine (heap_Fins h (by omega)).mono ?_
  rintro e w' ⟨a, c, rfl, h2⟩
  rw [hL, e2] at h2
  exact ⟨a, c, by rw [e2], h2⟩
theorem c_Drain (H : HW A B) (hB : B ≤ 1000000) (n : Int) (hn : n ≤ 9223372036854775807) (h : Sat w0 w (heapR mN p A * F)) {k : Int} {A' : AHeap} (hk : ((drainN n.toNat A).1 : Int) = k) (hA : (drainN n.toNat A).2 = A') :
    Calls Try.prog 34 #[.pointer (some ⟨p, 0, none⟩), .int .i64 n] w fun e w' => e = .returned (.int .i64 k) ∧ Sat w0 w' (heapR mN p A' * F) := by
  subst hk; subst hA; exact w_Drain H hB n hn h
end
def tx0 : ByteArray := ByteArray.mk #[]
def two2 : AHeap := ((AHeap.empty.makeF 6 tx0).makeF 6 tx0).pushF 1 ⟨6, 2⟩
def twoA (mk : Bool) : AHeap := (if mk then two2.mark 1 else two2).drop ⟨6, 1⟩
theorem hw_two2 : HW two2 4 := ((((HW.empty.mono (show (0 : Int) ≤ 1 by omega)).make (by omega) 6 tx0).make (by omega) 6 tx0).push 1 ⟨6, 2⟩).mono (by omega)
theorem hw_twoA (mk : Bool) : HW (twoA mk) 5 := by
  unfold twoA
  refine HW.drop ?_ _
  split
  · exact (hw_two2.mark 1).mono (by omega)
  · exact hw_two2.mono (by omega)
section
variable {w0 w : World} {F : HP}
set_option maxRecDepth 100000 in
set_option maxHeartbeats 2000000 in
theorem law_two (mk : Bool) (h : Sat w0 w F) : Calls Try.prog 41 #[.bool mk] w fun e w' => ∃ p, e = .returned (.pointer (some ⟨p, 0, none⟩)) ∧ Sat w0 w' (heapR mN p (twoA mk) * F) := by
  have H0 := HW.empty.mono (show (0 : Int) ≤ 1 by omega)
  have H1 := H0.make (by omega) 6 tx0
  have H2 := H1.make (by omega) 6 tx0
  have hx := hw_two2
  cases mk
  all_goals
    go_enter Try.func41, Try.ntmps41
    go_wp2_with fail
    refine (heap_New h).mono ?_
    rintro e w1 ⟨p, rfl, h1⟩
    go_wp2_with fail
    refine (c_Make H0 (by omega) (h1 mN) 6 tx0 (v := ⟨6, 1⟩) (by decide +kernel)).mono ?_
    rintro e w2 ⟨rfl, h2⟩
    have h2 := h2.alloc (.cells #[.int .i64 6, .int .i64 1] 28)
    have H2a := Lib.hid h2.p2
    have va := Sat.cell (T := 28) (cs := #[.int .i64 6, .int .i64 1]) h2 0 rfl
    clear h1 h2
    generalize hba : w2.heap.size = ba at *
    go_wp2_with fail
    refine (c_Make H1 (by omega) H2a.out 6 tx0 (v := ⟨6, 2⟩) (by decide +kernel)).mono ?_
    rintro e w3 ⟨rfl, h3⟩
    have h4 := h3.alloc (.cells #[.int .i64 6, .int .i64 2] 28)
    have b0 : (w3.alloc (.cells #[.int .i64 6, .int .i64 2] 28)).cell? ⟨w3.heap.size, 0, none⟩ = some (.int .i64 6) := Sat.cell (T := 28) (cs := #[.int .i64 6, .int .i64 2]) h4 0 rfl
    have b1 : (w3.alloc (.cells #[.int .i64 6, .int .i64 2] 28)).cell? ⟨w3.heap.size, 1, none⟩ = some (.int .i64 2) := Sat.cell (T := 28) (cs := #[.int .i64 6, .int .i64 2]) h4 1 rfl
    have HP := Lib.hid (t_Push H2 (by omega) (knowsN _) h4.p2 1 ⟨6, 2⟩)
    clear h3 h4
    go_wp2_with fail
    refine HP.out.mono ?_
    rintro e w4 ⟨rfl, h5⟩
    have h6 : Sat w0 w4 (pt ba (.cells #[.int .i64 6, .int .i64 1] 28 (0, 0)) * (heapR mN p two2 * F)) := h5.p2.drop.p2
    clear h5
  · have a0 : w4.cell? ⟨ba, 0, none⟩ = some (.int .i64 6) := Sat.cell (T := 28) (cs := #[.int .i64 6, .int .i64 1]) h6 0 rfl
    have a1 : w4.cell? ⟨ba, 1, none⟩ = some (.int .i64 1) := Sat.cell (T := 28) (cs := #[.int .i64 6, .int .i64 1]) h6 1 rfl
    have HD := Lib.hid (t_Drop hx (by omega) (knowsN _) h6.drop ⟨6, 1⟩)
    clear h6
    go_wp2_with fail
    refine HD.out.mono ?_
    rintro e w5 ⟨rfl, h7⟩
    go_wp2
    go_ret
    exact ⟨p, rfl, h7⟩
  · have HMk := Lib.hid (t_Mark hx (by omega) (knowsN _) h6.p2 1)
    clear h6
    go_wp2_with fail
    refine HMk.out.mono ?_
    rintro e w5 ⟨rfl, h7⟩
    have h8 := h7.p2
    have a0 : w5.cell? ⟨ba, 0, none⟩ = some (.int .i64 6) := Sat.cell (T := 28) (cs := #[.int .i64 6, .int .i64 1]) h8 0 rfl
    have a1 : w5.cell? ⟨ba, 1, none⟩ = some (.int .i64 1) := Sat.cell (T := 28) (cs := #[.int .i64 6, .int .i64 1]) h8 1 rfl
    have HD := Lib.hid (t_Drop (hx.mark 1) (by omega) (knowsN _) h8.drop ⟨6, 1⟩)
    clear h7 h8
    go_wp2_with fail
    refine HD.out.mono ?_
    rintro e w6 ⟨rfl, h9⟩
    go_wp2
    go_ret
    exact ⟨p, rfl, h9⟩
end
end Go.Proofs.Ytkpcngcegipalaa.Tw
