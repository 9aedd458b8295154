/- tallowlaw11: has, ints. No condition. -/
import Derived.Test.YtmngkodejlhalaaGr11
namespace Go.Proofs.Ytmngkodejlhalaa.Tw
set_option linter.unusedVariables false
set_option linter.unusedSimpArgs false
open Go Go.RowKit Go.MapKept

section
variable {w0 w : World} {F : HP}
theorem law_has11 {a : Option Addr} {c n : Nat} {l : List Int} (x : Int) (h : Sat w0 w (slc 3 1 a n c (l.map ival) * F)) (hl : l.length = n) (hn : n ≤ 1000000000) :
    Calls Try.prog 26 #[.slice a n c, .int .i64 x] w fun e w' => e = .returned (.bool (decide (x ∈ l))) ∧ w = w' := by
  have hget : ∀ k, k < n → ∃ y, l[k]? = some y ∧ ∃ g off, a = some ⟨g, off, none⟩ ∧ w.cell? ⟨g, off + k, none⟩ = some (.int .i64 y) := fun k hk => by
    have e : l[k]? = some (l[k]'(by omega)) := List.getElem?_eq_getElem _
    obtain ⟨g, off, e1, e2, _⟩ := intCells h e
    exact ⟨_, e, g, off, e1, e2⟩
  have HG := Lib.hid hget
  have HL := Lib.hid hl
  clear hget hl
  go_enter Try.func26, Try.ntmps26
  go_wp2
  go_loop [5] (fun iv => ∃ k : Nat, iv = .int .i64 k ∧ k ≤ n ∧ Hid (∀ j y, j < k → l[j]? = some y → y ≠ x)) (fun iv => n - (intOf iv).toNat)
  case atStart => exact ⟨0, rfl, by omega, Lib.hid (by intro j y hj; omega)⟩
  case round =>
    obtain ⟨k, rfl, hk, hb⟩ := hrel
    by_cases hlt : k < n
    · obtain ⟨y, hy, g, off, rfl, hc⟩ := HG.out k hlt
      have HY := Lib.hid hy
      clear hy
      by_cases hxy : y = x
      · subst hxy
        go_wp2
        go_ret
        exact ⟨by rw [decide_eq_true (List.mem_of_getElem? HY.out)]; rfl, rfl⟩
      · have hq : (y == x) = false := by simpa using hxy
        have HQ := Lib.hid hxy
        clear hxy
        go_wp2
        go_round
        case rel =>
          refine ⟨k + 1, by go_num, by omega, Lib.hid ?_⟩
          intro j z hj hz
          rcases Nat.lt_or_ge j k with h3 | h3
          · exact hb.out j z h3 hz
          · obtain rfl : j = k := by omega
            rw [HY.out] at hz; cases hz; exact HQ.out
        case measure => simp [intOf]; omega
    · have hkn : k = n := by omega
      go_wp2
      go_ret
      refine ⟨?_, rfl⟩
      suffices hnm : x ∉ l by
        rw [decide_eq_false hnm]; rfl
      intro hm
      obtain ⟨j, hj, e⟩ := List.mem_iff_getElem.1 hm
      exact hb.out j x (by have := HL.out; omega) (by rw [← e]; exact List.getElem?_eq_getElem _) rfl
/-- two lists of numbers, as far as k -/
theorem law_ints11 {a b : Option Addr} {c c' n m : Nat} {l r : List Int} (h : Sat w0 w (slc 3 1 a n c (l.map ival) * (slc 3 1 b m c' (r.map ival) * F))) (hl : l.length = n) (hr : r.length = m) (hn : n ≤ 1000000000) (hm : m ≤ 1000000000) :
    Calls Try.prog 29 #[.slice a n c, .slice b m c'] w fun e w' => e = .returned (.bool (decide (l = r))) ∧ Sat w0 w' (slc 3 1 a n c (l.map ival) * (slc 3 1 b m c' (r.map ival) * F)) := by
  by_cases hnm : n = m
  · subst hnm
    have HL := Lib.hid (And.intro hl hr)
    clear hl hr
    go_enter Try.func29, Try.ntmps29
    go_wp2
    go_loopw [5] (fun iv wr => ∃ k : Nat, iv = .int .i64 k ∧ k ≤ n ∧ Hid (l.take k = r.take k) ∧ Sat w0 wr (slc 3 1 a n c (l.map ival) * (slc 3 1 b n c' (r.map ival) * F))) (fun iv _ => n - (intOf iv).toNat)
    case atStart => exact ⟨0, rfl, by omega, Lib.hid rfl, h⟩
    case round =>
      obtain ⟨k, rfl, hk, hb, hs⟩ := hrel
      by_cases hlt : k < n
      · have hl1 := HL.out
        have ex : l[k]? = some (l[k]'(by omega)) := List.getElem?_eq_getElem _
        have ey : r[k]? = some (r[k]'(by omega)) := List.getElem?_eq_getElem _
        obtain ⟨g, off, rfl, c1, _⟩ := intCells hs ex
        obtain ⟨g2, off2, rfl, c2, _⟩ := intCells hs.p2 ey
        generalize l[k]'(by omega) = x at *
        generalize r[k]'(by omega) = y at *
        have HX := Lib.hid (And.intro ex ey)
        clear ex ey hl1
        by_cases hxy : x = y
        · subst hxy
          go_wp2
          go_region
          go_wp2
          go_round
          case rel =>
            refine ⟨k + 1, by go_num, by omega, Lib.hid ?_, hs⟩
            rw [List.take_add_one, List.take_add_one, hb.out, HX.out.1, HX.out.2]
          case measure => simp [intOf]; omega
        · have hq : (x != y) = true := by simpa using hxy
          go_wp2
          go_region
          go_wp2
          go_ret
          have hne : l ≠ r := fun e => hxy (by have h1 := HX.out.1; rw [e, HX.out.2] at h1; exact (Option.some.inj h1).symm)
          exact ⟨by rw [decide_eq_false hne]; rfl, hs⟩
      · have hkn : k = n := by omega
        subst hkn
        go_wp2
        go_ret
        refine ⟨?_, hs⟩
        have e : l = r := by
          have := hb.out
          have hl1 := HL.out
          rwa [List.take_of_length_le (by omega), List.take_of_length_le (by omega)] at this
        rw [decide_eq_true e]; rfl
  · have hq : ((n : Int) != (m : Int)) = true := by simp; omega
    have hne : l ≠ r := fun e => hnm (by rw [← hl, ← hr, e])
    go_enter Try.func29, Try.ntmps29
    go_wp2
    go_ret
    exact ⟨by rw [decide_eq_false hne]; rfl, h⟩
end
end Go.Proofs.Ytmngkodejlhalaa.Tw
