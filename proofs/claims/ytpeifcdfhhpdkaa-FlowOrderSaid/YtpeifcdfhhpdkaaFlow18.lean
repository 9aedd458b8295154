/- rows of bools; the law's has, answered with yes. No condition. -/
import Derived.Test.YtpeifcdfhhpdkaaFlow16
import Derived.Test.YtpeifcdfhhpdkaaFlow17
import Derived.Laws.MakeOwn
import Derived.Lib.MinMax
namespace Go.Proofs.Ytpeifcdfhhpdkaa.Tw
set_option linter.unusedVariables false
set_option linter.unusedSimpArgs false
open Go Go.RowKit Go.MapKept

section
variable {w0 w : World} {F : HP}
def boolR (sb n : Nat) (bs : List Bool) : HP := slc 4 1 (some ⟨sb, 0, none⟩) n n (bs.map Value.bool)
theorem info_boolF : (Try.prog.info? 4).map (fun i => (i.zero, i.size, i.bytes)) = some (some (.bool false), 1, 1) := by kernel_rfl
theorem made_one (v : Value) (n : Nat) : madeCells #[v] n = (List.replicate n v).toArray := by
  apply Array.toList_inj.1
  refine List.ext_getElem (by simp [madeCells]) fun i h1 h2 => ?_
  simp only [madeCells, Array.toList_map, List.getElem_map, List.getElem_replicate, List.size_toArray, List.length_cons, List.length_nil, Nat.zero_add, Nat.mod_one]
  rfl
theorem Sat.madeBools {sb n : Nat} (hn : n ≤ 1000000000) (h : Sat w0 w (pt sb (.cells (madeCells #[.bool false] n) 4 (0, 0)) * F)) : Sat w0 w (boolR sb n (List.replicate n false) * F) := by
  rw [made_one] at h
  refine Sat.shutSlc h (Nat.le_refl _) (by unfold maxLen; omega) (by simp) ?_
  simp
theorem boolCell {sb n : Nat} {bs : List Bool} {j : Nat} {b : Bool} (h : Sat w0 w (boolR sb n bs * F)) (hj : bs[j]? = some b) : w.cell? ⟨sb, j, none⟩ = some (.bool b) ∧ w.frozen? ⟨sb, j, none⟩ = false := by
  have e : (bs.map Value.bool)[j]? = some (.bool b) := by rw [List.getElem?_map, hj]; rfl
  obtain ⟨g, off, e1, e2, e3⟩ := Sat.slcAt h e
  cases e1
  rw [Nat.zero_add] at e2 e3
  exact ⟨e2, e3⟩
theorem Sat.boolLen {sb n : Nat} {bs : List Bool} (h : Sat w0 w (boolR sb n bs * F)) : bs.length = n := by
  have := Sat.slcLen h
  simpa using this
theorem Sat.boolStore {sb n : Nat} {bs : List Bool} {j : Nat} (b : Bool) (hj : j < n) (h : Sat w0 w (boolR sb n bs * F)) : Sat w0 (w.setCell ⟨sb, j, none⟩ (.bool b)) (boolR sb n (bs.set j b) * F) := by
  have h1 := Sat.slcStore h (j := j) (by omega) (.bool b)
  rw [Nat.zero_add] at h1
  unfold boolR
  rw [List.map_set]
  exact h1
theorem has_yes {a : Option Addr} {c n : Nat} {l : List Int} (x : Int) (h : Sat w0 w (slc 3 1 a n c (l.map ival) * F)) (hl : l.length = n) (hn : n ≤ 1000000000) (hx : x ∈ l) :
    Calls Try.prog 20 #[.slice a n c, .int .i64 x] w fun e w' => e = .returned (.bool true) ∧ w = w' := by
  refine (law_has x h hl hn).mono ?_
  rintro e w' ⟨rfl, rfl⟩
  exact ⟨by rw [decide_eq_true hx], rfl⟩
end
end Go.Proofs.Ytpeifcdfhhpdkaa.Tw
