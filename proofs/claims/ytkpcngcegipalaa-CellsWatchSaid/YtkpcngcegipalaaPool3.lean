/- The pool: Give. No condition. -/
import Derived.Test.YtkpcngcegipalaaPool2
namespace Go.Proofs.Ytkpcngcegipalaa.Tw
set_option linter.unusedVariables false
set_option linter.unusedSimpArgs false
open Go Go.RowKit Go.MapKept

theorem give_cmp (x n : Int) (hx : 0 ≤ x) (hx2 : x ≤ 2000000000) (hn : 0 ≤ n) (hn2 : n ≤ 2000000000) (w : World) :
    Calls Try.prog 123 #[.int .i64 x, .int .i64 n] w fun e w' => e = .returned (.int .i64 (n - x)) ∧ w = w' := by
  go_enter Try.func123, Try.ntmps123
  go_wp2
  go_ret
  exact ⟨rfl, rfl⟩

theorem bsearch {w0 w : World} {F : HP} {a : Option Addr} {c : Nat} {l : List Int} (h : Sat w0 w (slc 3 1 a l.length c (l.map ival) * F)) (hl : l.length ≤ 1000000000) (hf : l.Pairwise (· > ·)) (hb : ∀ x ∈ l, 0 ≤ x ∧ x ≤ 2000000000) (n : Int) (hn : 0 ≤ n) (hn2 : n ≤ 2000000000) :
    Calls Try.prog 122 #[.slice a l.length c, .int .i64 n, (.func (.func 123) #[] #[])] w fun e w' => (∃ b, e = .returned (.tuple #[.int .i64 (placeOf l n), .bool b])) ∧ w = w' := by
  go_enter Try.func122, Try.ntmps122
  go_wp2
  have hcell : ∀ k : Nat, k < l.length → ∃ g off, a = some ⟨g, off, none⟩ ∧ w.cell? ⟨g, off + k, none⟩ = some (.int .i64 (l.getD k 0)) := by
    intro k hk
    obtain ⟨g, off, e, hc, _⟩ := h.slcAt (j := k) (u := ival (l.getD k 0)) (by simp [hk])
    exact ⟨g, off, e, hc⟩
  go_loop [9, 10] (fun i j => ∃ p q : Nat, i = .int .i64 p ∧ j = .int .i64 q ∧ p ≤ q ∧ q ≤ l.length ∧ p ≤ placeOf l n ∧ placeOf l n ≤ q) (fun i j => ((intOf j) - (intOf i)).toNat)
  case atStart => exact ⟨0, l.length, rfl, rfl, Nat.zero_le _, Nat.le_refl _, Nat.zero_le _, placeOf_le l n⟩
  case round =>
    obtain ⟨p, q, rfl, rfl, h1, h2, h3, h4⟩ := hrel
    by_cases hlt : p < q
    · obtain ⟨m, hm⟩ : ∃ m : Nat, (p + q) / 2 = m := ⟨_, rfl⟩
      have he : ((p : Int) + q) / 2 = (m : Int) := by omega
      have hml : m < l.length := by omega
      have hmp : p ≤ m ∧ m < q := by omega
      obtain ⟨g, off, rfl, hc⟩ := hcell m hml
      obtain ⟨x, hx⟩ : ∃ x, l.getD m 0 = x := ⟨_, rfl⟩
      rw [hx] at hc
      have hx' : l[m]? = some x := by rw [← hx]; simp [hml]
      obtain ⟨hx1, hx2⟩ := hb x (List.mem_of_getElem? hx')
      have hcap := h.slcCap
      clear hm hx hcell
      have hp1 : n < x → m < placeOf l n := placeOf_lt_of hf hx'
      have hp2 : x ≤ n → placeOf l n ≤ m := placeOf_le_of hx'
      clear hx'
      by_cases hnx : n < x
      · have hp3 := hp1 hnx
        go_wp2_with (go_at_call 123; refine (give_cmp _ _ hx1 hx2 hn hn2 _).mono ?_; rintro e w' ⟨rfl, rfl⟩)
        go_round
        case rel => exact ⟨m + 1, q, by go_num, rfl, by omega, by omega, by omega, by omega⟩
        case measure => simp [intOf]; omega
      · have hp3 := hp2 (by omega)
        go_wp2_with (go_at_call 123; refine (give_cmp _ _ hx1 hx2 hn hn2 _).mono ?_; rintro e w' ⟨rfl, rfl⟩)
        go_round
        case rel => exact ⟨p, m, rfl, rfl, by omega, by omega, by omega, by omega⟩
        case measure => simp [intOf]; omega
    · have hpq : placeOf l n = p := by omega
      have Hpq := Lib.hid hpq
      clear hpq
      by_cases hpl : p < l.length
      · obtain ⟨g, off, rfl, hc⟩ := hcell p hpl
        obtain ⟨x, hx⟩ : ∃ x, l.getD p 0 = x := ⟨_, rfl⟩
        rw [hx] at hc
        have hx' : l[p]? = some x := by rw [← hx]; simp [hpl]
        obtain ⟨hx1, hx2⟩ := hb x (List.mem_of_getElem? hx')
        have hcap := h.slcCap
        clear hx hcell hx'
        go_wp2_with (go_at_call 123; refine (give_cmp _ _ hx1 hx2 hn hn2 _).mono ?_; rintro e w' ⟨rfl, rfl⟩)
        go_ret2
        rw [Hpq.out]
        simp
      · clear hcell
        go_wp2
        go_ret2
        rw [Hpq.out]
        simp
end Go.Proofs.Ytkpcngcegipalaa.Tw
