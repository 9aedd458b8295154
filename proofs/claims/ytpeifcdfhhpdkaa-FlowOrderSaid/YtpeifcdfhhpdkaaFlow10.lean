/- the law's works: the walk. No condition. -/
import Derived.Test.YtpeifcdfhhpdkaaFlow9
namespace Go.Proofs.Ytpeifcdfhhpdkaa.Tw
set_option linter.unusedVariables false
set_option linter.unusedSimpArgs false
open Go Go.RowKit Go.MapKept
section
variable {w0 w : World} {F : HP}
/-- a literal list, an owned slice -/
theorem Sat.lit {b n : Nat} {L : List Int} (h : Sat w0 w (pt b (.cells (L.map ival).toArray 3 (0, 0)) * F)) (hl : L.length = n) (hn : n ≤ 1000000) : Sat w0 w (slc 3 1 (some ⟨b, 0, none⟩) n n (L.map ival) * F) := by
  subst hl
  exact Sat.shutSlc h (Nat.le_refl _) (by unfold maxLen; omega) (by simp) (by simp only [List.drop_zero, Nat.mul_one]; exact List.take_of_length_le (by simp))
theorem ints_same {a b : Option Addr} {c c' n : Nat} {L : List Int} (h : Sat w0 w (slc 3 1 b n c' (L.map ival) * (slc 3 1 a n c (L.map ival) * F))) (hl : L.length = n) (hn : n ≤ 1000000) :
    Calls Try.prog 21 #[.slice a n c, .slice b n c'] w fun e w' => e = .returned (.bool true) ∧ Sat w0 w' F := by
  refine (law_ints h.p2 hl hl (by omega) (by omega)).mono ?_
  rintro e w' ⟨rfl, h2⟩
  exact ⟨by rw [decide_eq_true rfl], h2.drop.drop⟩
set_option maxRecDepth 100000 in
set_option maxHeartbeats 2000000 in
theorem law_works (h : Sat w0 w F) : Calls Try.prog 15 #[] w fun e w' => e = .returned (.bool true) ∧ Sat w0 w' F := by
  go_enter Try.func15, Try.ntmps15
  go_wp2_with fail
  refine (law_five h).mono ?_
  rintro e w1 ⟨b, rfl, h1⟩
  go_wp2_with fail
  refine (five_Next 0 sn0 rfl h1).mono ?_
  rintro e w2 ⟨a, c, rfl, h2⟩
  have h3 := Sat.lit (L := [1, 3]) (n := 2) (h2.alloc (.cells #[.int .i64 1, .int .i64 3] 3)) rfl (by decide)
  go_wp2_with fail
  refine (ints_same h3 rfl (by decide)).mono ?_
  rintro e w3 ⟨rfl, h4⟩
  clear h1 h2 h3
  go_wp2_with fail
  refine (law_five h4).mono ?_
  rintro e w4 ⟨b1, rfl, h1⟩
  go_wp2_with fail
  refine (five_Next 2 sn2 rfl h1).mono ?_
  rintro e w5 ⟨a1, c1, rfl, h2⟩
  have h3 := Sat.lit (L := [0]) (n := 1) (h2.alloc (.cells #[.int .i64 0] 3)) rfl (by decide)
  go_wp2_with fail
  refine (ints_same h3 rfl (by decide)).mono ?_
  rintro e w6 ⟨rfl, h5⟩
  clear h1 h2 h3
  go_wp2_with fail
  refine (law_five h5).mono ?_
  rintro e w7 ⟨b2, rfl, h1⟩
  go_wp2_with fail
  refine (five_Next 3 sn3 rfl h1).mono ?_
  rintro e w8 ⟨a2, c2, rfl, h6⟩
  go_wp2_with fail
  refine (law_five h6.drop).mono ?_
  rintro e w9 ⟨b3, rfl, h1⟩
  go_wp2_with fail
  refine (five_From 0 five_from0 rfl h1).mono ?_
  rintro e w10 ⟨a3, c3, rfl, h2⟩
  have h3 := Sat.lit (L := [0, 1, 2, 3]) (n := 4) (h2.alloc (.cells #[.int .i64 0, .int .i64 1, .int .i64 2, .int .i64 3] 3)) rfl (by decide)
  go_wp2_with fail
  refine (ints_same h3 rfl (by decide)).mono ?_
  rintro e w11 ⟨rfl, h7⟩
  clear h1 h2 h3
  go_wp2_with fail
  refine (law_five h7).mono ?_
  rintro e w12 ⟨b4, rfl, h1⟩
  go_wp2_with fail
  refine (five_From 4 five_from4 rfl h1).mono ?_
  rintro e w13 ⟨a4, c4, rfl, h2⟩
  have h3 := Sat.lit (L := [4]) (n := 1) (h2.alloc (.cells #[.int .i64 4] 3)) rfl (by decide)
  go_wp2_with fail
  refine (ints_same h3 rfl (by decide)).mono ?_
  rintro e w14 ⟨rfl, h8⟩
  clear h1 h2 h3
  go_wp2_with fail
  refine (law_five h8).mono ?_
  rintro e w15 ⟨b5, rfl, h1⟩
  go_wp2_with fail
  refine (five_Order h1).mono ?_
  rintro e w16 ⟨a5, c5, rfl, h2⟩
  have h3 := Sat.lit (L := [0, 3, 1, 2]) (n := 4) (h2.alloc (.cells #[.int .i64 0, .int .i64 3, .int .i64 1, .int .i64 2] 3)) rfl (by decide)
  go_wp2_with fail
  refine (ints_same h3 rfl (by decide)).mono ?_
  rintro e w17 ⟨rfl, h9⟩
  clear h1 h2 h3
  go_wp2_with fail
  go_ret
  exact ⟨rfl, h9⟩
end
end Go.Proofs.Ytpeifcdfhhpdkaa.Tw
