/- The pool's rows of the chapter: works. No condition. -/
import Derived.Test.YtpbdmijjonbggaaPool6
namespace Go.Proofs.Ytpbdmijjonbggaa.Tw
set_option linter.unusedVariables false
set_option linter.unusedSimpArgs false
open Go Go.RowKit Go.MapKept

theorem take_to {w0 w : World} {F : HP} {p : Nat} {T : List Bool} (h : Sat w0 w (poolR p T * F)) {n : Int} {T' : List Bool} (hT : T.length < 1000000000) (e1 : (firstFree T : Int) + 1 = n) (e2 : takeT T = T') :
    Calls Try.prog 9 #[.pointer (some ⟨p, 0, none⟩)] w fun e w' => e = .returned (.int .i64 n) ∧ Sat w0 w' (poolR p T' * F) := by
  subst e1; subst e2; exact pool_Take h hT
theorem give_to {w0 w : World} {F : HP} {p : Nat} {T : List Bool} (h : Sat w0 w (poolR p T * F)) {n : Int} {T' : List Bool} (hT : T.length < 1000000000) (e1 : tk T n = true) (e2 : giveT T n = T') :
    Calls Try.prog 10 #[.pointer (some ⟨p, 0, none⟩), .int .i64 n] w fun e w' => e = .returned (.bool true) ∧ Sat w0 w' (poolR p T' * F) := by
  subst e2; exact pool_Give_yes h hT n e1
theorem in_to {w0 w : World} {F : HP} {p : Nat} {T : List Bool} (h : Sat w0 w (poolR p T * F)) (n : Int) {b : Bool} (e1 : tk T n = b) :
    Calls Try.prog 11 #[.pointer (some ⟨p, 0, none⟩), .int .i64 n] w fun e w' => e = .returned (.bool b) ∧ Sat w0 w' (poolR p T * F) := by
  subst e1; exact pool_In h n
theorem last_to {w0 w : World} {F : HP} {p : Nat} {T : List Bool} (h : Sat w0 w (poolR p T * F)) {n : Int} (hT : T.length < 1000000000) (e1 : (lastT T : Int) = n) :
    Calls Try.prog 12 #[.pointer (some ⟨p, 0, none⟩)] w fun e w' => e = .returned (.int .i64 n) ∧ Sat w0 w' (poolR p T * F) := by
  subst e1; exact pool_Last h hT
theorem len_to {w0 w : World} {F : HP} {p : Nat} {T : List Bool} (h : Sat w0 w (poolR p T * F)) {n : Int} (e1 : (countT T : Int) = n) :
    Calls Try.prog 13 #[.pointer (some ⟨p, 0, none⟩)] w fun e w' => e = .returned (.int .i64 n) ∧ Sat w0 w' (poolR p T * F) := by
  subst e1; exact (pool_Len h).mono (by rintro e w' ⟨rfl, rfl⟩; exact ⟨rfl, h⟩)

set_option maxRecDepth 100000 in
set_option maxHeartbeats 2000000 in
theorem pool_works {w0 w : World} {F : HP} (h : Sat w0 w F) : Calls Try.prog 7 #[] w fun e w' => e = .returned (.bool true) ∧ Sat w0 w' F := by
  go_enter Try.func7, Try.ntmps7
  go_wp2_with fail
  refine (pool_New h).mono ?_; rintro e w1 ⟨p, rfl, h1⟩
  go_wp2_with fail
  refine (take_to h1 (n := 1) (T' := [true]) (by decide) rfl rfl).mono ?_; rintro e w2 ⟨rfl, h2⟩; clear h1
  go_wp2_with fail
  refine (take_to h2 (n := 2) (T' := [true, true]) (by decide) rfl rfl).mono ?_; rintro e w3 ⟨rfl, h3⟩; clear h2
  go_wp2_with fail
  refine (take_to h3 (n := 3) (T' := [true, true, true]) (by decide) rfl rfl).mono ?_; rintro e w4 ⟨rfl, h4⟩; clear h3
  go_wp2_with fail
  refine (give_to h4 (n := 2) (T' := [true, false, true]) (by decide) rfl rfl).mono ?_; rintro e w5 ⟨rfl, h5⟩; clear h4
  go_wp2_with fail
  refine (take_to h5 (n := 2) (T' := [true, true, true]) (by decide) rfl rfl).mono ?_; rintro e w6 ⟨rfl, h6⟩; clear h5
  go_wp2_with fail
  refine (take_to h6 (n := 4) (T' := [true, true, true, true]) (by decide) rfl rfl).mono ?_; rintro e w7 ⟨rfl, h7⟩; clear h6
  go_wp2_with fail
  refine (pool_Give_no h7 7 rfl).mono ?_; rintro e w8 ⟨rfl, h8⟩; clear h7
  go_wp2_with fail
  refine (pool_Give_no h8 0 rfl).mono ?_; rintro e w9 ⟨rfl, h9⟩; clear h8
  go_wp2_with fail
  refine (in_to h9 1 (b := true) rfl).mono ?_; rintro e w10 ⟨rfl, h10⟩; clear h9
  go_wp2_with fail
  refine (last_to h10 (n := 4) (by decide) rfl).mono ?_; rintro e w11 ⟨rfl, h11⟩; clear h10
  go_wp2_with fail
  refine (len_to h11 (n := 4) rfl).mono ?_; rintro e w12 ⟨rfl, h12⟩; clear h11
  go_wp2_with fail
  refine (give_to h12 (n := 4) (T' := [true, true, true, false]) (by decide) rfl rfl).mono ?_; rintro e w13 ⟨rfl, h13⟩; clear h12
  go_wp2_with fail
  refine (give_to h13 (n := 3) (T' := [true, true, false, false]) (by decide) rfl rfl).mono ?_; rintro e w14 ⟨rfl, h14⟩; clear h13
  go_wp2_with fail
  refine (last_to h14 (n := 2) (by decide) rfl).mono ?_; rintro e w15 ⟨rfl, h15⟩; clear h14
  go_wp2_with fail
  refine (take_to h15 (n := 3) (T' := [true, true, true, false]) (by decide) rfl rfl).mono ?_; rintro e w16 ⟨rfl, h16⟩; clear h15
  go_wp2
  go_ret
  exact ⟨rfl, h16.drop⟩
end Go.Proofs.Ytpbdmijjonbggaa.Tw
