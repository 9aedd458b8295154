/- the law's works: what five() answers. No condition. -/
import Derived.Test.YtpeifcdfhhpdkaaFlow8
namespace Go.Proofs.Ytpeifcdfhhpdkaa.Tw
set_option linter.unusedVariables false
set_option linter.unusedSimpArgs false
open Go Go.RowKit Go.MapKept

/-- sorting, by the list -/
theorem sortI_of {l r : List Int} (hp : l.Perm r) (hs : r.Pairwise (· ≤ ·)) : sortI l = r := by
  have h1 : (sortI l).Pairwise (· ≤ ·) := by
    have := List.pairwise_mergeSort (le := fun x y : Int => decide (x ≤ y)) (by intro a b c h1 h2; simp at *; omega) (by intro a b; simp; omega) l
    exact this.imp fun h => by simpa using h
  exact List.Perm.eq_of_pairwise (fun a b _ _ h1 h2 => by omega) h1 hs ((List.mergeSort_perm _ _).trans hp)
theorem five_next0 : nextL fiveL 0 = [1, 3] := by decide
theorem five_next2 : nextL fiveL 2 = [0] := by decide
theorem five_next3 : nextL fiveL 3 = [] := by decide
theorem five_from0 : fromL fiveL 0 = [0, 1, 2, 3] := by
  unfold fromL
  rw [if_pos (by decide)]
  exact sortI_of (by decide) (by decide)
theorem five_from4 : fromL fiveL 4 = [4] := by
  unfold fromL
  rw [if_pos (by decide)]
  exact sortI_of (by decide) (by decide)
theorem sn0 : sortI (nextL fiveL 0) = [1, 3] := sortI_of (by decide) (by decide)
theorem sn1 : sortI (nextL fiveL 1) = [2] := sortI_of (by decide) (by decide)
theorem sn2 : sortI (nextL fiveL 2) = [0] := sortI_of (by decide) (by decide)
theorem sn3 : sortI (nextL fiveL 3) = [] := sortI_of (by decide) (by decide)
theorem five_order : orderL fiveL = [0, 3, 1, 2] := by
  unfold orderL
  rw [if_neg (by decide)]
  show (dfs fiveL 20 [(0, sortI (nextL fiveL 0))] [0] []).reverse = _
  simp [dfs, sn0, sn1, sn2, sn3]
section
variable {w0 w : World} {F : HP} {b : Nat}
abbrev fiveR (b : Nat) : HP := pt b (.cells (insV fiveL).toArray 34 (0, 0))
theorem five_Next {L : List Int} {k : Nat} (pc : Int) (hL : sortI (nextL fiveL pc) = L) (hk : L.length = k) (h : Sat w0 w (fiveR b * F)) :
    Calls Try.prog 13 #[.slice (some ⟨b, 0, none⟩) 5 5, .int .i64 pc] w fun e w' => ∃ a c', e = .returned (.slice a k c') ∧ Sat w0 w' (slc 3 1 a k c' (L.map ival) * F) := by
  refine (flow_Next (codeAt_row (n := 5) rfl) (Nat.le_refl _) (by decide) pc h).mono ?_
  rintro e w' ⟨a, c', rfl, h2⟩
  have e2 : (nextL fiveL pc).length = k := by rw [← hk, ← hL, sortI_length]
  rw [hL, e2] at h2
  rw [e2]
  exact ⟨a, c', rfl, h2.p2.drop⟩
theorem five_From {L : List Int} {k : Nat} (pc : Int) (hL : fromL fiveL pc = L) (hk : L.length = k) (h : Sat w0 w (fiveR b * F)) :
    Calls Try.prog 16 #[.slice (some ⟨b, 0, none⟩) 5 5, .int .i64 pc] w fun e w' => ∃ a c', e = .returned (.slice a k c') ∧ Sat w0 w' (slc 3 1 a k c' (L.map ival) * F) := by
  refine (flow_From (codeAt_row (n := 5) rfl) (Nat.le_refl _) (by decide) pc h).mono ?_
  rintro e w' ⟨a, c', rfl, h2⟩
  rw [hL, hk] at h2
  rw [hL, hk]
  exact ⟨a, c', rfl, h2.p2.drop⟩
theorem five_Order (h : Sat w0 w (fiveR b * F)) :
    Calls Try.prog 18 #[.slice (some ⟨b, 0, none⟩) 5 5] w fun e w' => ∃ a c', e = .returned (.slice a 4 c') ∧ Sat w0 w' (slc 3 1 a 4 c' ([0, 3, 1, 2].map ival) * F) := by
  refine (flow_Order (codeAt_row (n := 5) rfl) (Nat.le_refl _) (by decide) h).mono ?_
  rintro e w' ⟨a, c', rfl, h2⟩
  rw [five_order] at h2
  rw [five_order]
  exact ⟨a, c', rfl, h2.p2.drop⟩
end
end Go.Proofs.Ytpeifcdfhhpdkaa.Tw
