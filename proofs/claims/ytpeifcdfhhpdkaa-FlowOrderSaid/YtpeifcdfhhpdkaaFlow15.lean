/- Ints of layer 2; the document's Next, whatever the place; an argument's code. No condition. -/
import Derived.Test.YtpeifcdfhhpdkaaFlow14
import Derived.Deep.Slices
import Derived.Deep.Fields
import Derived.ChangeSame
namespace Go.Proofs.Ytpeifcdfhhpdkaa.Tw
set_option linter.unusedVariables false
set_option linter.unusedSimpArgs false
open Go Go.RowKit Go.MapKept
section
variable {w0 w : World} {F : HP}
/-- two lists of numbers, as far as k -/
theorem ref_Ints {a b : Option Addr} {c c' n m : Nat} {l r : List Int} (h : Sat w0 w (slc 3 1 a n c (l.map ival) * (slc 3 1 b m c' (r.map ival) * F))) (hl : l.length = n) (hr : r.length = m) (hn : n ≤ 1000000000) (hm : m ≤ 1000000000) :
    Calls Try.prog 12 #[.slice a n c, .slice b m c'] w fun e w' => e = .returned (.bool (decide (l = r))) ∧ Sat w0 w' (slc 3 1 a n c (l.map ival) * (slc 3 1 b m c' (r.map ival) * F)) := by
  by_cases hnm : n = m
  · subst hnm
    have HL := Lib.hid (And.intro hl hr)
    clear hl hr
    go_enter Try.func12, Try.ntmps12
    go_wp2
    go_loopw [5] (fun iv wr => ∃ k : Nat, iv = .int .i64 k ∧ k ≤ n ∧ Hid (l.take k = r.take k) ∧ Sat w0 wr (slc 3 1 a n c (l.map ival) * (slc 3 1 b n c' (r.map ival) * F))) (fun iv _ => n - (intOf iv).toNat)
    case atStart => exact ⟨0, rfl, by omega, Lib.hid rfl, h⟩
    case round =>
      obtain ⟨k, rfl, hk, hb, hs⟩ := hrel
      by_cases hlt : k < n
      · have hl1 := HL.out
        have ex : l[k]? = some (l[k]'(by omega)) := List.getElem?_eq_getElem _
        have ey : r[k]? = some (r[k]'(by omega)) := List.getElem?_eq_getElem _
        obtain ⟨g, off, rfl, c1, _⟩ := intCells hs ex
        obtain ⟨g2, off2, rfl, c2, _⟩ := intCells hs.p2 ey
        generalize l[k]'(by omega) = x at *
        generalize r[k]'(by omega) = y at *
        have HX := Lib.hid (And.intro ex ey)
        clear ex ey hl1
        by_cases hxy : x = y
        · subst hxy
          go_wp2
          go_region
          go_wp2
          go_round
          case rel =>
            refine ⟨k + 1, by go_num, by omega, Lib.hid ?_, hs⟩
            rw [List.take_add_one, List.take_add_one, hb.out, HX.out.1, HX.out.2]
          case measure => simp [intOf]; omega
        · have hq : (x != y) = true := by simpa using hxy
          go_wp2
          go_region
          go_wp2
          go_ret
          have hne : l ≠ r := fun e => hxy (by have h1 := HX.out.1; rw [e, HX.out.2] at h1; exact (Option.some.inj h1).symm)
          exact ⟨by rw [decide_eq_false hne]; rfl, hs⟩
      · have hkn : k = n := by omega
        subst hkn
        go_wp2
        go_ret
        refine ⟨?_, hs⟩
        have e : l = r := by
          have := hb.out
          have hl1 := HL.out
          rwa [List.take_of_length_le (by omega), List.take_of_length_le (by omega)] at this
        rw [decide_eq_true e]; rfl
  · have hq : ((n : Int) != (m : Int)) = true := by simp; omega
    have hne : l ≠ r := fun e => hnm (by rw [← hl, ← hr, e])
    go_enter Try.func12, Try.ntmps12
    go_wp2
    go_ret
    exact ⟨by rw [decide_eq_false hne]; rfl, h⟩
theorem refInts_same {a b : Option Addr} {c c' n : Nat} {L : List Int} (h : Sat w0 w (slc 3 1 b n c' (L.map ival) * (slc 3 1 a n c (L.map ival) * F))) (hl : L.length = n) (hn : n ≤ 1000000) :
    Calls Try.prog 12 #[.slice a n c, .slice b n c'] w fun e w' => e = .returned (.bool true) ∧ Sat w0 w' F := by
  refine (ref_Ints h.p2 hl hl (by omega) (by omega)).mono ?_
  rintro e w' ⟨rfl, h2⟩
  exact ⟨by rw [decide_eq_true rfl], h2.drop.drop⟩
/-- an argument: instructions in a slice -/
def IsCode (w : World) (a : Option Addr) (len cap : Nat) (l : List AIn) : Prop :=
  l.length = len ∧ len ≤ cap ∧ cap ≤ maxLen ∧ ∀ k x, l[k]? = some x → ∃ g off, a = some ⟨g, off, none⟩ ∧ w.cell? ⟨g, off + k * 3, none⟩ = some (.int .i64 x.op) ∧ w.cell? ⟨g, off + k * 3 + 1, none⟩ = some (.int .i64 x.a) ∧ w.cell? ⟨g, off + k * 3 + 2, none⟩ = some (.int .i64 x.b)
theorem codeAt_old {a : Option Addr} {len cap n : Nat} {l : List AIn} (h : IsCode w a len cap l) (hn : n ≤ len) : CodeAt w (Old w) a n (l.take n) := by
  refine ⟨by rw [List.length_take, h.1]; omega, fun W G hs k x hx => ?_⟩
  have hx' : l[k]? = some x := by
    rw [List.getElem?_take] at hx
    split at hx
    · exact hx
    · cases hx
  obtain ⟨g, off, e, c0, c1, c2⟩ := h.2.2.2 k x hx'
  exact ⟨g, off, e, hs.oldCell c0, hs.oldCell c1, hs.oldCell c2⟩
section
variable {CR : HP} {sa : Option Addr} {n c : Nat} {l : List AIn}
theorem ref_Next (hC : CodeAt w0 CR sa n l) (hcap : n ≤ c) (hn : n ≤ 1000000000) (pc : Int) (h : Sat w0 w (CR * F)) :
    Calls Try.prog 14 #[.slice sa n c, .int .i64 pc] w fun e w' => ∃ a c', e = .returned (.slice a (nextL l pc).length c') ∧ Sat w0 w' (slc 3 1 a (nextL l pc).length c' ((sortI (nextL l pc)).map ival) * (CR * F)) := by
  have hln := hC.1
  by_cases hin : 0 ≤ pc ∧ pc < n
  · obtain ⟨p, rfl⟩ : ∃ p : Nat, pc = (p : Int) := ⟨pc.toNat, by omega⟩
    have hp : p < n := by omega
    have hx : l[p]? = some (l[p]'(by omega)) := List.getElem?_eq_getElem _
    refine (ref_next_in hC hcap hn p hp _ hx h).mono ?_
    rintro e w' ⟨a, c', rfl, h2⟩
    subst hln
    rw [hits_next hx, sortI_length] at h2
    rw [hits_next hx, sortI_length]
    exact ⟨a, c', rfl, h2⟩
  · have e : nextL l pc = [] := by
      unfold nextL
      by_cases h0 : 0 ≤ pc
      · rw [if_pos h0, List.getElem?_eq_none (by omega)]
      · rw [if_neg h0]
    have e2 : sortI [] = [] := by simp [sortI]
    rw [e, e2]
    clear e e2 hC
    have hno := h.nilSlc (T := 3) (sz := 1)
    by_cases h0 : pc < 0
    · clear hin
      go_enter Try.func14, Try.ntmps14
      go_wp2
      go_ret
      exact ⟨none, 0, rfl, hno⟩
    · have hge : (n : Int) ≤ pc := by omega
      clear hin
      go_enter Try.func14, Try.ntmps14
      go_wp2
      go_ret
      exact ⟨none, 0, rfl, hno⟩
end
end
end Go.Proofs.Ytpeifcdfhhpdkaa.Tw
