/- slices.Sort (and slices.Reverse) of ints in the small separation logic. No condition. -/
import Derived.Test.YtmngkodejlhalaaGV
import Derived.Test.YtmngkodejlhalaaShelf
import Derived.Lib.RowBridge
namespace Go.Proofs.Ytmngkodejlhalaa.Tw
set_option linter.unusedVariables false
set_option linter.unusedSimpArgs false
open Go Go.RowKit Go.MapKept

section
variable {w0 w : World} {F : HP}
theorem Sat.grow (h : Sat w0 w F) (os : Array Obj) : Sat w0 (Sort.grow w os) F := by
  obtain ⟨⟨h1, h2, h3, h4⟩, x, p, r⟩ := h
  refine ⟨⟨h1, h2, h3, ?_⟩, x, p, fun k ob e => ?_⟩
  · show _ ≤ (w.heap ++ os).size
    rw [Array.size_append]; omega
  · have := r k ob e
    show (w.heap ++ os)[k]? = _
    rw [Array.getElem?_append_left (Array.getElem?_eq_some_iff.1 this).1]; exact this
/-- all cells of an owned slice, turned -/
theorem Sat.slcAll {T : TypeId} {n c g off : Nat} : ∀ (vs : List Value) (j : Nat) (w : World) (xs : List Value), Sat w0 w (slc T 1 (some ⟨g, off, none⟩) n c xs * F) → j + vs.length ≤ n →
    Sat w0 (w.setCells g (off + j) vs) (slc T 1 (some ⟨g, off, none⟩) n c (xs.take j ++ vs ++ xs.drop (j + vs.length)) * F)
  | [], j, w, xs, h, _ => by simpa [World.setCells] using h
  | v :: vs, j, w, xs, h, hl => by
    have hx := h.slcLen
    simp only [List.length_cons] at hl
    have h1 := h.slcStore (j := j) (by omega) v
    have h2 := Sat.slcAll vs (j + 1) _ _ h1 (by omega)
    have e : (xs.set j v).take (j + 1) ++ vs ++ (xs.set j v).drop (j + 1 + vs.length) = xs.take j ++ (v :: vs) ++ xs.drop (j + (v :: vs).length) := by
      have hj : j < xs.length := by omega
      rw [List.take_add_one, List.take_set_of_le (Nat.le_refl _), List.getElem?_set, List.drop_set]
      simp only [if_true, hj, if_pos, Option.toList_some, List.length_cons]
      rw [if_pos (by omega), show j + 1 + vs.length = j + (vs.length + 1) by omega]
      simp
    rw [e] at h2
    exact h2
theorem slcHolds {n c g off : Nat} {l : List Int} (h : Sat w0 w (slc 3 1 (some ⟨g, off, none⟩) n c (l.map ival) * F)) : Sort.Holds (Value.int .i64) w g off l.toArray := by
  intro j hj
  have hj' : j < l.length := by simpa using hj
  obtain ⟨g', off', e, h1, h2⟩ := intCells h (List.getElem?_eq_getElem hj')
  cases e
  refine ⟨?_, h2⟩
  rw [h1]
  simp [getElem!_pos, hj']
theorem Sat.putRow {n c g off q : Nat} {l l' : List Int} (h : Sat w0 w (slc 3 1 (some ⟨g, off, none⟩) n c (l.map ival) * F)) (hl : l.length = n) (hl' : l'.length = n) :
    Sat w0 (Sort.putRow (Value.int .i64) (Sort.ahead w q) g off l'.toArray) (slc 3 1 (some ⟨g, off, none⟩) n c (l'.map ival) * F) := by
  rw [Lib.putRow_eq_setCells (Value.int .i64) w g off l.toArray l' q (slcHolds h) (by simp [hl, hl'])]
  have h2 := (h.drewN q).slcAll (l'.map (Value.int .i64)) 0 _ _ (by simp [hl'])
  simp only [Nat.add_zero, List.take_zero, List.nil_append, Nat.zero_add, List.length_map] at h2
  rw [List.drop_of_length_le (by simp [hl, hl']), List.append_nil] at h2
  exact h2
def sortI (l : List Int) : List Int := l.mergeSort fun x y => decide (x ≤ y)
theorem sort_sat {sa : Option Addr} {n c : Nat} {l : List Int} (h : Sat w0 w (slc 3 1 sa n c (l.map ival) * F)) (hl : l.length = n) (hn : n ≤ 1000000000) :
    Calls Try.prog 90 #[.slice sa n c] w fun e w' => e = .returned (.tuple #[]) ∧ Sat w0 w' (slc 3 1 sa n c ((sortI l).map ival) * F) := by
  subst hl
  rcases h.openSlc.2 with ⟨rfl, e1, rfl, hF⟩ | ⟨g, off, cur, rfl, e2, e3, e4, e5, e6⟩
  · have : l = [] := List.eq_nil_of_length_eq_zero e1
    subst this
    refine (Sh.sh_slices_Sort_int_none none 0 w).mono ?_
    rintro e w' ⟨rfl, rfl⟩
    refine ⟨rfl, ?_⟩
    have : sortI [] = [] := by simp [sortI]
    rw [this]; exact h
  · refine (Sh.sh_slices_Sort_int g off c l w (slcHolds h) e6.lt (by omega)).mono ?_
    rintro e w' ⟨rfl, q, os, rfl⟩
    exact ⟨rfl, (h.putRow rfl (by simp)).grow os⟩
end
end Go.Proofs.Ytmngkodejlhalaa.Tw
