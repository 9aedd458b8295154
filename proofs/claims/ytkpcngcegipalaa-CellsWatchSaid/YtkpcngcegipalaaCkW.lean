/- the laws of cells: of, ints, has, once, works. No condition. -/
import Derived.Test.YtkpcngcegipalaaXc
namespace Go.Proofs.Ytkpcngcegipalaa.Tw
set_option linter.unusedVariables false
set_option linter.unusedSimpArgs false
open Go Go.RowKit Go.MapKept

section
variable {w0 w : World} {F : HP}
/-- two lists of numbers, as far as k -/
theorem law_ints13 {a b : Option Addr} {c c' n m : Nat} {l r : List Int} (h : Sat w0 w (slc 3 1 a n c (l.map ival) * (slc 3 1 b m c' (r.map ival) * F))) (hl : l.length = n) (hr : r.length = m) (hn : n ≤ 1000000000) (hm : m ≤ 1000000000) :
    Calls Try.prog 60 #[.slice a n c, .slice b m c'] w fun e w' => e = .returned (.bool (decide (l = r))) ∧ Sat w0 w' (slc 3 1 a n c (l.map ival) * (slc 3 1 b m c' (r.map ival) * F)) := by
  by_cases hnm : n = m
  · subst hnm
    have HL := Lib.hid (And.intro hl hr)
    clear hl hr
    go_enter Try.func60, Try.ntmps60
    go_wp2
    go_loopw [5] (fun iv wr => ∃ k : Nat, iv = .int .i64 k ∧ k ≤ n ∧ Hid (l.take k = r.take k) ∧ Sat w0 wr (slc 3 1 a n c (l.map ival) * (slc 3 1 b n c' (r.map ival) * F))) (fun iv _ => n - (intOf iv).toNat)
    case atStart => exact ⟨0, rfl, by omega, Lib.hid rfl, h⟩
    case round =>
      obtain ⟨k, rfl, hk, hb, hs⟩ := hrel
      by_cases hlt : k < n
      · have hl1 := HL.out
        have ex : l[k]? = some (l[k]'(by omega)) := List.getElem?_eq_getElem _
        have ey : r[k]? = some (r[k]'(by omega)) := List.getElem?_eq_getElem _
        obtain ⟨g, off, rfl, c1, _⟩ := intCells hs ex
        obtain ⟨g2, off2, rfl, c2, _⟩ := intCells hs.p2 ey
        generalize l[k]'(by omega) = x at *
        generalize r[k]'(by omega) = y at *
        have HX := Lib.hid (And.intro ex ey)
        clear ex ey hl1
        by_cases hxy : x = y
        · subst hxy
          go_wp2
          go_region
          go_wp2
          go_round
          case rel =>
            refine ⟨k + 1, by go_num, by omega, Lib.hid ?_, hs⟩
            rw [List.take_add_one, List.take_add_one, hb.out, HX.out.1, HX.out.2]
          case measure => simp [intOf]; omega
        · have hq : (x != y) = true := by simpa using hxy
          go_wp2
          go_region
          go_wp2
          go_ret
          have hne : l ≠ r := fun e => hxy (by have h1 := HX.out.1; rw [e, HX.out.2] at h1; exact (Option.some.inj h1).symm)
          exact ⟨by rw [decide_eq_false hne]; rfl, hs⟩
      · have hkn : k = n := by omega
        subst hkn
        go_wp2
        go_ret
        refine ⟨?_, hs⟩
        have e : l = r := by
          have := hb.out
          have hl1 := HL.out
          rwa [List.take_of_length_le (by omega), List.take_of_length_le (by omega)] at this
        rw [decide_eq_true e]; rfl
  · have hq : ((n : Int) != (m : Int)) = true := by simp; omega
    have hne : l ≠ r := fun e => hnm (by rw [← hl, ← hr, e])
    go_enter Try.func60, Try.ntmps60
    go_wp2
    go_ret
    exact ⟨by rw [decide_eq_false hne]; rfl, h⟩
theorem ints_same13 {a b : Option Addr} {c c' n : Nat} {L : List Int} (h : Sat w0 w (slc 3 1 b n c' (L.map ival) * (slc 3 1 a n c (L.map ival) * F))) (hl : L.length = n) (hn : n ≤ 1000000) :
    Calls Try.prog 60 #[.slice a n c, .slice b n c'] w fun e w' => e = .returned (.bool true) ∧ Sat w0 w' F := by
  refine (law_ints13 h.p2 hl hl (by omega) (by omega)).mono ?_
  rintro e w' ⟨rfl, h2⟩
  exact ⟨by rw [decide_eq_true rfl], h2.drop.drop⟩
theorem law_of13 (h : Sat w0 w F) (k n : Int) :
    Calls Try.prog 58 #[.int .i64 k, .int .i64 n] w fun e w' => e = .returned (.agg #[.int .i64 k, .int .i64 n]) ∧ Sat w0 w' F := by
  have h1 := h.alloc (.cells #[.int .i64 k, .int .i64 n] 28)
  have h2 := h.alloc (.cells #[.int .i64 0, .int .i64 0] 28)
  have y0 := (val2' h2).1
  have y1 := (val2' h2).2.1
  have yf0 := (val2' h2).2.2.1
  have yf1 := (val2' h2).2.2.2
  go_enter Try.func58, Try.ntmps58
  go_wp2_with fail
  first
    | exact bodyPost_cell rfl rfl (load_val h1) rfl ⟨rfl, h1.drop⟩
    | exact bodyPost_cell rfl rfl (load_val ((h2.store (i := 0) (.int .i64 k)).store (i := 1) (.int .i64 n))) rfl ⟨rfl, ((h2.store (i := 0) (.int .i64 k)).store (i := 1) (.int .i64 n)).drop⟩
theorem law_has {a : Option Addr} {c n : Nat} {l : List Int} (h : Sat w0 w (slc 3 1 a n c (l.map ival) * F)) (hl : l.length = n) (hn : n ≤ 1000000000) (x : Int) :
    Calls Try.prog 53 #[.slice a n c, .int .i64 x] w fun e w' => e = .returned (.bool (decide (x ∈ l))) ∧ Sat w0 w' (slc 3 1 a n c (l.map ival) * F) := by
  have HL := Lib.hid hl
  clear hl
  go_enter Try.func53, Try.ntmps53
  go_wp2
  go_loopw [5] (fun iv wr => ∃ k : Nat, iv = .int .i64 k ∧ k ≤ n ∧ Hid (x ∉ l.take k) ∧ Sat w0 wr (slc 3 1 a n c (l.map ival) * F)) (fun iv _ => n - (intOf iv).toNat)
  case atStart => exact ⟨0, rfl, by omega, Lib.hid (by simp), h⟩
  case round =>
    obtain ⟨k, rfl, hk, hb, hs⟩ := hrel
    by_cases hlt : k < n
    · have hl1 := HL.out
      have ex : l[k]? = some (l[k]'(by omega)) := List.getElem?_eq_getElem _
      obtain ⟨g, off, rfl, c1, _⟩ := intCells hs ex
      generalize l[k]'(by omega) = y at *
      have HX := Lib.hid ex
      clear ex hl1
      by_cases hxy : y = x
      · subst hxy
        go_wp2
        go_ret
        exact ⟨by rw [decide_eq_true (List.mem_of_getElem? HX.out)]; rfl, hs⟩
      · have hq : (y == x) = false := by simpa using hxy
        go_wp2
        go_round
        case rel =>
          refine ⟨k + 1, by go_num, by omega, Lib.hid ?_, hs⟩
          rw [List.take_add_one, HX.out]
          intro hm
          rcases List.mem_append.1 hm with h1 | h1
          · exact hb.out h1
          · simp at h1; exact hxy h1.symm
        case measure => simp [intOf]; omega
    · have hkn : k = n := by omega
      subst hkn
      go_wp2
      go_ret
      have e := hb.out
      rw [List.take_of_length_le (by have := HL.out; omega)] at e
      exact ⟨by rw [decide_eq_false e]; rfl, hs⟩
theorem law_once {a : Option Addr} {c n : Nat} {l : List Int} (h : Sat w0 w (slc 3 1 a n c (l.map ival) * F)) (hl : l.length = n) (hn : n ≤ 1000000000) (hd : l.Nodup) :
    Calls Try.prog 52 #[.slice a n c] w fun e w' => e = .returned (.bool true) ∧ Sat w0 w' (slc 3 1 a n c (l.map ival) * F) := by
  have HL := Lib.hid (And.intro hl hd)
  clear hl hd
  go_enter Try.func52, Try.ntmps52
  go_wp2
  go_loopw [3] (fun iv wr => ∃ k : Nat, iv = .int .i64 k ∧ k ≤ n ∧ Sat w0 wr (slc 3 1 a n c (l.map ival) * F)) (fun iv _ => n - (intOf iv).toNat)
  case atStart => exact ⟨0, rfl, by omega, h⟩
  case round =>
    obtain ⟨k, rfl, hk, hs⟩ := hrel
    by_cases hlt : k < n
    · have hw1 : IntKind.i64.wrap ((k : Int) + 1) = (k : Int) + 1 := IntWalk.i64_in _ (by omega)
      go_wp2
      go_loopw [4] (fun jv wr2 => ∃ j : Nat, jv = .int .i64 j ∧ k < j ∧ j ≤ n ∧ Sat w0 wr2 (slc 3 1 a n c (l.map ival) * F)) (fun jv _ => n - (intOf jv).toNat)
      case atStart => exact ⟨k + 1, by go_num, by omega, by omega, hs⟩
      case round =>
        obtain ⟨j, rfl, hj1, hj2, hs2⟩ := hrel
        by_cases hlt2 : j < n
        · have hl1 := HL.out.1
          have ex : l[k]? = some (l[k]'(by omega)) := List.getElem?_eq_getElem _
          have ey : l[j]? = some (l[j]'(by omega)) := List.getElem?_eq_getElem _
          obtain ⟨g, off, rfl, c1, _⟩ := intCells hs2 ex
          obtain ⟨g2, off2, q2, c2, _⟩ := intCells hs2 ey
          cases q2
          have hne : l[k]'(by omega) ≠ l[j]'(by omega) := List.pairwise_iff_getElem.1 HL.out.2 k j (by omega) (by omega) hj1
          generalize l[k]'(by omega) = x at *
          generalize l[j]'(by omega) = y at *
          have hq : (x == y) = false := by simpa using hne
          clear ex ey hl1 hne
          go_wp2
          go_region
          go_wp2
          go_round
          case rel => exact ⟨j + 1, by go_num, by omega, by omega, hs2⟩
          case measure => simp [intOf]; omega
        · have hjn : j = n := by omega
          subst hjn
          go_wp2
          go_round
          case rel => exact ⟨k + 1, by go_num, by omega, hs2⟩
          case measure => simp [intOf]; omega
    · have hkn : k = n := by omega
      subst hkn
      go_wp2
      go_ret
      exact ⟨rfl, hs⟩
end
end Go.Proofs.Ytkpcngcegipalaa.Tw
