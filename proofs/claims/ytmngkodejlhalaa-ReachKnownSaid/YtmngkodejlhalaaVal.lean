/- Values: May, Ref, walked; and their plain meaning. No condition. -/
import Derived.Test.YtmngkodejlhalaaOps
namespace Go.Proofs.Ytmngkodejlhalaa.Tw
set_option linter.unusedVariables false
set_option linter.unusedSimpArgs false
open Go Go.RowKit Go.MapKept

/-- a value of the program -/
structure AVal where
  kind : Int
  n : Int
  deriving DecidableEq
def AVal.v (x : AVal) : Value := .agg #[.int .i64 x.kind, .int .i64 x.n]
def AVal.cells (x : AVal) : List Value := [.int .i64 x.kind, .int .i64 x.n]
def within (x : AVal) (lo hi : Int) : Bool := decide (lo ≤ x.n) && decide (x.n ≤ hi)
def mayV (x : AVal) : Bool :=
  if x.kind = 0 ∨ x.kind = 1 then within x 0 0 else if x.kind = 2 then within x 0 1 else if x.kind = 3 then true else if x.kind = 4 then within x 0 12
  else decide (5 ≤ x.kind) && decide (x.kind ≤ 9) && within x 1 2147483647
def refV (x : AVal) : Bool := decide (5 ≤ x.kind) && mayV x

theorem may_in {w0 w : World} {F : HP} (b : Nat) (k n lo hi : Int) (c1 : w.cell? ⟨b, 1, none⟩ = some (.int .i64 n)) (h : Sat w0 w F) :
    Calls Try.prog 108 #[.int .i64 lo, .int .i64 hi, .pointer (some ⟨b, 0, none⟩)] w fun e w' => e = .returned (.bool (decide (lo ≤ n) && decide (n ≤ hi))) ∧ w = w' := by
  by_cases h1 : lo ≤ n
  · by_cases h2 : n ≤ hi
    · go_enter Try.func108, Try.ntmps108
      go_wp2
      go_ret
      exact ⟨by simp [h1, h2], rfl⟩
    · go_enter Try.func108, Try.ntmps108
      go_wp2
      go_ret
      exact ⟨by simp [h1, h2], rfl⟩
  · go_enter Try.func108, Try.ntmps108
    go_wp2
    go_ret
    exact ⟨by simp; omega, rfl⟩

theorem val_May {w0 w : World} {F : HP} (x : AVal) (h : Sat w0 w F) :
    Calls Try.prog 86 #[.agg #[.int .i64 x.kind, .int .i64 x.n]] w fun e w' => e = .returned (.bool (mayV x)) ∧ Sat w0 w' F := by
  obtain ⟨k, n⟩ := x
  have hb := h.alloc (.cells #[.int .i64 k, .int .i64 n] 33)
  have c1 : ∀ {w' G}, Sat w0 w' (pt w.heap.size (.cells #[.int .i64 k, .int .i64 n] 33) * G) → w'.cell? ⟨w.heap.size, 1, none⟩ = some (.int .i64 n) := fun hh => Sat.cell (T := 33) (cs := #[.int .i64 k, .int .i64 n]) hh 1 rfl
  have d1 := c1 hb
  have hF := hb.drop
  by_cases k0 : k = 0
  · subst k0
    go_enter Try.func86, Try.ntmps86
    go_wp2_with (go_at_call 108; refine (may_in _ 0 n 0 0 d1 hF).mono ?_; rintro e w' ⟨rfl, rfl⟩)
    go_ret
    exact ⟨rfl, hF⟩
  by_cases k1 : k = 1
  · subst k1
    go_enter Try.func86, Try.ntmps86
    go_wp2_with (go_at_call 108; refine (may_in _ 0 n 0 0 d1 hF).mono ?_; rintro e w' ⟨rfl, rfl⟩)
    go_ret
    exact ⟨rfl, hF⟩
  by_cases k2 : k = 2
  · subst k2
    go_enter Try.func86, Try.ntmps86
    go_wp2_with (go_at_call 108; refine (may_in _ 0 n 0 1 d1 hF).mono ?_; rintro e w' ⟨rfl, rfl⟩)
    go_ret
    exact ⟨rfl, hF⟩
  by_cases k3 : k = 3
  · subst k3
    go_enter Try.func86, Try.ntmps86
    go_wp2
    go_ret
    exact ⟨rfl, hF⟩
  by_cases k4 : k = 4
  · subst k4
    go_enter Try.func86, Try.ntmps86
    go_wp2_with (go_at_call 108; refine (may_in _ 0 n 0 12 d1 hF).mono ?_; rintro e w' ⟨rfl, rfl⟩)
    go_ret
    exact ⟨rfl, hF⟩
  have e0 : (k == 0) = false := by simp; omega
  have e1 : (k == 1) = false := by simp; omega
  have e2 : (k == 2) = false := by simp; omega
  have e3 : (k == 3) = false := by simp; omega
  have e4 : (k == 4) = false := by simp; omega
  have em : mayV ⟨k, n⟩ = (decide (5 ≤ k) && decide (k ≤ 9) && within ⟨k, n⟩ 1 2147483647) := by
    unfold mayV; simp only
    rw [if_neg (by omega), if_neg k2, if_neg k3, if_neg k4]
  have EM := Lib.hid em
  clear em k0 k1 k2 k3 k4
  by_cases h5 : 5 ≤ k
  · by_cases h9 : k ≤ 9
    · go_enter Try.func86, Try.ntmps86
      go_wp2_with (go_at_call 108; refine (may_in _ 0 n 1 2147483647 d1 hF).mono ?_; rintro e w' ⟨rfl, rfl⟩)
      go_ret
      refine ⟨?_, hF⟩
      rw [EM.out]; simp [h5, h9, within]
    · go_enter Try.func86, Try.ntmps86
      go_wp2
      go_ret
      refine ⟨?_, hF⟩
      rw [EM.out]; simp; intros; omega
  · go_enter Try.func86, Try.ntmps86
    go_wp2
    go_ret
    refine ⟨?_, hF⟩
    rw [EM.out]; simp; intros; omega
theorem val_Ref {w0 w : World} {F : HP} (x : AVal) (h : Sat w0 w F) :
    Calls Try.prog 49 #[.agg #[.int .i64 x.kind, .int .i64 x.n]] w fun e w' => e = .returned (.bool (refV x)) ∧ Sat w0 w' F := by
  obtain ⟨k, n⟩ := x
  have hb := h.alloc (.cells #[.int .i64 k, .int .i64 n] 33)
  have hF := hb.drop
  by_cases h5 : 5 ≤ k
  · go_enter Try.func49, Try.ntmps49
    go_wp2_with (go_at_call 86; refine (val_May ⟨k, n⟩ hF).mono ?_; rintro e w' ⟨rfl, hF'⟩)
    go_ret
    exact ⟨by simp [refV, h5], hF'⟩
  · go_enter Try.func49, Try.ntmps49
    go_wp2
    go_ret
    exact ⟨by simp [refV]; intros; omega, hF⟩
end Go.Proofs.Ytmngkodejlhalaa.Tw
