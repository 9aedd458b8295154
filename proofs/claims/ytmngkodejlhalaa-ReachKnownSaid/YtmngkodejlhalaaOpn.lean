/- Arguments: slices of values, graphs, values. No condition. -/
import Derived.Test.YtmngkodejlhalaaArg
import Derived.Test.YtmngkodejlhalaaGV
import Derived.ProofKit
import Derived.OpenShut
import Derived.ChangeOld
import Derived.ChangeSame
namespace Go.Proofs.Ytmngkodejlhalaa.Tw
set_option linter.unusedVariables false
set_option linter.unusedSimpArgs false
open Go Go.RowKit Go.MapKept Go.ChangeShapes Go.WideShapes Go.Deep

/-- objects in a slice, of whatever size, wherever SR is held -/
structure SrcG (w0 : World) (SR : HP) (a : Option Addr) (n c : Nat) (X : List XObj) : Prop where
  cell : ∀ w' G, Sat w0 w' (SR * G) → ∀ k x, X[k]? = some x → ∃ g off, a = some ⟨g, off, none⟩ ∧ w'.cell? ⟨g, off + k * 5, none⟩ = some (.int .i64 x.1.kind) ∧ w'.cell? ⟨g, off + k * 5 + 1, none⟩ = some (.int .i64 x.1.count) ∧ w'.cell? ⟨g, off + k * 5 + 2, none⟩ = some (.slice x.2.1 x.1.slots.length x.2.2) ∧ w'.cell? ⟨g, off + k * 5 + 3, none⟩ = some (.string x.1.text) ∧ w'.cell? ⟨g, off + k * 5 + 4, none⟩ = some (.int .i64 x.1.mark)
  len : X.length = n
  nil0 : a = none → n = 0 ∧ c = 0
  cap : n ≤ c ∧ c ≤ maxLen
  slots : ∀ x ∈ X, SrcV w0 SR x.2.1 x.1.slots.length x.2.2 x.1.slots
section
variable {H : Type} {enc : TypeId × Value → H} {w : World} {base : Nat} {held : Bool} {fuel : Nat} {cs : List Value} {x : DataW H × List MemPlace}
theorem open_recs_nil {P : Program} {T e : TypeId} (hT : P.underlying T = some (.slice e)) {spare : Nat → Bool} {len cap : Nat}
    (h : DataW.trod enc P w base spare held fuel T [.slice none len cap] = some x) : len = 0 ∧ cap = 0 := by
  rcases open_slice hT h with ⟨hcs, _⟩ | ⟨ad, l, c, m, n, D, Pl, hcs, _⟩
  · simp at hcs; exact hcs
  · simp at hcs
theorem val_cells {spare : Nat → Bool} (h : DataW.trod enc Try.prog w base spare held fuel 33 cs = some x) : ∃ v : AVal, cs = v.cells := by
  obtain ⟨y0, y1, n, _, hl, g0, g1⟩ := trod_struct2 Try.underlying33 h
  have h2 : Try.prog.cellsOf 33 = 2 := by kernel_rfl
  have k0 : Try.prog.cellsOf 3 = 1 := by kernel_rfl
  have k1 : Try.prog.cellsOf 2 = 1 := by kernel_rfl
  rw [h2] at hl
  obtain ⟨v0, v1, rfl⟩ : ∃ v0 v1, cs = [v0, v1] := by
    rcases cs with _ | ⟨v0, _ | ⟨v1, _ | ⟨v2, r⟩⟩⟩
    · simp at hl
    · simp at hl
    · exact ⟨v0, v1, rfl⟩
    · simp at hl
  simp only [k0, k1, List.drop_zero, List.drop_succ_cons, List.take_succ_cons, List.take_zero] at g0 g1
  obtain ⟨p, e0, _, _⟩ := DataW.trod_int Try.underlying3 g0
  obtain ⟨q, e1, _, _⟩ := DataW.trod_int Try.underlying2 g1
  simp at e0 e1
  exact ⟨⟨p, q⟩, by rw [e0, e1]; rfl⟩
/-- an argument that is a slice of values -/
theorem open_vals {a : Option Addr} {len cap : Nat} (h : DataW.trod enc Try.prog w base (fun _ => true) held fuel 25 [.slice a len cap] = some x) : ∃ l : List AVal, SrcV w (Old w) a len cap l := by
  obtain ⟨h1, h2, css, h3, h4, h5⟩ := open_recs Try.underlying25 (show Try.prog.cellsOf 33 = 2 by kernel_rfl) (by omega) (E := fun cs => ∃ v : AVal, True ∧ cs = v.cells) (fun _ _ _ hh => by obtain ⟨v, e⟩ := val_cells hh; exact ⟨v, trivial, e⟩) h
  obtain ⟨l, rfl, _⟩ := of_forall_ex (f := AVal.cells) (R := fun _ => True) css h4
  rw [List.length_map] at h3
  have e : (l.map AVal.cells).flatten = avcells l := by unfold avcells; rw [List.flatMap_def]
  rw [e] at h5
  refine ⟨l, fun w' G hs k y hk => ?_, h3, fun ea => ?_, h1, h2⟩
  · obtain ⟨e0, e1⟩ := avcells_get l k y hk
    obtain ⟨g, off, ea, c0⟩ := h5 w' G _ _ hs e0
    obtain ⟨g1, off1, ea1, c1⟩ := h5 w' G _ _ hs e1
    rw [ea] at ea1; cases ea1
    exact ⟨g, off, ea, c0, by rw [Nat.add_assoc]; exact c1⟩
  · subst ea
    exact open_recs_nil Try.underlying25 h
theorem obj_cells (h : DataW.trod enc Try.prog w base (fun _ => true) held fuel 39 cs = some x) : ∃ r : XObj, SrcV w (Old w) r.2.1 r.1.slots.length r.2.2 r.1.slots ∧ cs = xcells r := by
  obtain ⟨xs, n, _, rfl, hl, hlen, hf⟩ := DataW.trod_struct Try.underlying39 h
  have h7 : Try.prog.cellsOf 39 = 5 := by kernel_rfl
  have k0 : Try.prog.cellsOf 3 = 1 := by kernel_rfl
  have k4 : Try.prog.cellsOf 25 = 1 := by kernel_rfl
  have k5 : Try.prog.cellsOf 9 = 1 := by kernel_rfl
  rw [h7] at hl
  obtain ⟨v0, v1, v2, v3, v4, rfl⟩ : ∃ v0 v1 v2 v3 v4, cs = [v0, v1, v2, v3, v4] := by
    rcases cs with _ | ⟨v0, _ | ⟨v1, _ | ⟨v2, _ | ⟨v3, _ | ⟨v4, _ | ⟨v5, r⟩⟩⟩⟩⟩⟩ <;> simp at hl
    exact ⟨v0, v1, v2, v3, v4, rfl⟩
  obtain ⟨y0, y1, y2, y3, y4, rfl⟩ : ∃ y0 y1 y2 y3 y4, xs = [y0, y1, y2, y3, y4] := by
    match xs, hlen with
    | [y0, y1, y2, y3, y4], _ => exact ⟨y0, y1, y2, y3, y4, rfl⟩
  have f0 : DataW.trod enc Try.prog w base (fun _ => true) held n 3 ([v0, v1, v2, v3, v4].drop 0 |>.take (Try.prog.cellsOf 3)) = some y0 := hf 0 _ rfl
  rw [k0] at f0
  replace f0 : DataW.trod enc Try.prog w base (fun _ => true) held n 3 [v0] = some y0 := f0
  have f1 : DataW.trod enc Try.prog w base (fun _ => true) held n 3 ([v0, v1, v2, v3, v4].drop 1 |>.take (Try.prog.cellsOf 3)) = some y1 := hf 1 _ rfl
  rw [k0] at f1
  replace f1 : DataW.trod enc Try.prog w base (fun _ => true) held n 3 [v1] = some y1 := f1
  have f2 : DataW.trod enc Try.prog w base (fun _ => true) held n 25 ([v0, v1, v2, v3, v4].drop 2 |>.take (Try.prog.cellsOf 25)) = some y2 := hf 2 _ rfl
  rw [k4] at f2
  replace f2 : DataW.trod enc Try.prog w base (fun _ => true) held n 25 [v2] = some y2 := f2
  have f3 : DataW.trod enc Try.prog w base (fun _ => true) held n 9 ([v0, v1, v2, v3, v4].drop 3 |>.take (Try.prog.cellsOf 9)) = some y3 := hf 3 _ rfl
  rw [k5] at f3
  replace f3 : DataW.trod enc Try.prog w base (fun _ => true) held n 9 [v3] = some y3 := f3
  have f4 : DataW.trod enc Try.prog w base (fun _ => true) held n 3 ([v0, v1, v2, v3, v4].drop 4 |>.take (Try.prog.cellsOf 3)) = some y4 := hf 4 _ rfl
  rw [k0] at f4
  replace f4 : DataW.trod enc Try.prog w base (fun _ => true) held n 3 [v4] = some y4 := f4
  obtain ⟨p0, e0, _, _⟩ := DataW.trod_int Try.underlying3 f0
  obtain ⟨p1, e1, _, _⟩ := DataW.trod_int Try.underlying3 f1
  obtain ⟨s, e3, _, _⟩ := DataW.trod_string Try.underlying9 f3
  obtain ⟨p4, e4, _, _⟩ := DataW.trod_int Try.underlying3 f4
  obtain ⟨a, ln, c, rfl⟩ : ∃ a ln c, v2 = .slice a ln c := by
    rcases open_slice Try.underlying25 f2 with ⟨hcs, _⟩ | ⟨ad, l, c, m, n, D, Pl, hcs, _⟩
    · simp at hcs; exact ⟨_, _, _, hcs⟩
    · simp at hcs; exact ⟨_, _, _, hcs⟩
  obtain ⟨l, hS⟩ := open_vals f2
  have hln : l.length = ln := hS.2.1
  subst hln
  simp at e0 e1 e3 e4
  refine ⟨(⟨p0, p1, l, s, p4⟩, a, c), hS, ?_⟩
  rw [e0, e1, e3, e4]; rfl
/-- an argument that is a slice of objects -/
theorem open_objs {a : Option Addr} {len cap : Nat} (h : DataW.trod enc Try.prog w base (fun _ => true) held fuel 22 [.slice a len cap] = some x) : ∃ X : List XObj, SrcG w (Old w) a len cap X := by
  obtain ⟨h1, h2, css, h3, h4, h5⟩ := open_recs Try.underlying22 (show Try.prog.cellsOf 39 = 5 by kernel_rfl) (by omega) (fun _ _ _ hh => obj_cells hh) h
  obtain ⟨X, rfl, hr⟩ := of_forall_ex (f := xcells) (R := fun r => SrcV w (Old w) r.2.1 r.1.slots.length r.2.2 r.1.slots) css h4
  rw [List.length_map] at h3
  have e : (X.map xcells).flatten = xscells X := by unfold xscells; rw [List.flatMap_def]
  rw [e] at h5
  refine ⟨X, fun w' G hs k y hk => ?_, h3, fun ea => ?_, ⟨h1, h2⟩, hr⟩
  · have hg := xscells_get X k y hk
    have hg0 : (xscells X)[k * 5]? = some (.int .i64 y.1.kind) := hg 0 (by omega)
    obtain ⟨g, off, ea, c0⟩ := h5 w' G _ _ hs hg0
    have hj : ∀ j v, j < 5 → (xcells y)[j]? = some v → w'.cell? ⟨g, off + k * 5 + j, none⟩ = some v := fun j v hj hv => by
      obtain ⟨g1, off1, ea1, c1⟩ := h5 w' G _ _ hs ((hg j hj).trans hv)
      rw [ea] at ea1; cases ea1
      rw [Nat.add_assoc]; exact c1
    exact ⟨g, off, ea, c0, hj 1 _ (by omega) rfl, hj 2 _ (by omega) rfl, hj 3 _ (by omega) rfl, hj 4 _ (by omega) rfl⟩
  · subst ea
    exact open_recs_nil Try.underlying22 h
/-- an argument that is a graph -/
theorem open_graph {v : Value} (h : DataW.trod enc Try.prog w base (fun _ => true) held fuel 24 v.cells.toList = some x) (hv : ∃ cs, v = .agg cs ∧ cs.size = Try.prog.cellsOf 24) : ∃ (a : Option Addr) (n c : Nat) (X : List XObj), v = .agg #[.slice a n c] ∧ SrcG w (Old w) a n c X := by
  obtain ⟨cs, rfl, hs⟩ := hv
  rw [show Try.prog.cellsOf 24 = 1 by kernel_rfl] at hs
  obtain ⟨u, rfl⟩ : ∃ u, cs = #[u] := by
    obtain ⟨l⟩ := cs
    rcases l with _ | ⟨u, _ | ⟨u2, r⟩⟩ <;> simp at hs
    exact ⟨u, rfl⟩
  obtain ⟨y0, n, _, hl, f0⟩ := trod_struct1 Try.underlying24 h
  have k4 : Try.prog.cellsOf 22 = 1 := by kernel_rfl
  simp only [k4, Value.cells] at f0
  replace f0 : DataW.trod enc Try.prog w base (fun _ => true) held n 22 [u] = some y0 := f0
  obtain ⟨a, ln, c, rfl⟩ : ∃ a ln c, u = .slice a ln c := by
    rcases open_slice Try.underlying22 f0 with ⟨hcs, _⟩ | ⟨ad, l, c, m, n, D, Pl, hcs, _⟩
    · simp at hcs; exact ⟨_, _, _, hcs⟩
    · simp at hcs; exact ⟨_, _, _, hcs⟩
  obtain ⟨X, hX⟩ := open_objs f0
  exact ⟨a, ln, c, X, rfl, hX⟩
/-- an argument that is a value -/
theorem open_value {v : Value} (h : DataW.trod enc Try.prog w base (fun _ => true) held fuel 33 v.cells.toList = some x) (hv : ∃ cs, v = .agg cs ∧ cs.size = Try.prog.cellsOf 33) : ∃ u : AVal, v = .agg #[.int .i64 u.kind, .int .i64 u.n] := by
  obtain ⟨cs, rfl, hs⟩ := hv
  rw [show Try.prog.cellsOf 33 = 2 by kernel_rfl] at hs
  obtain ⟨u, u2, rfl⟩ : ∃ u u2, cs = #[u, u2] := by
    obtain ⟨l⟩ := cs
    rcases l with _ | ⟨u, _ | ⟨u2, _ | ⟨u3, r⟩⟩⟩ <;> simp at hs
    exact ⟨u, u2, rfl⟩
  obtain ⟨a, e⟩ := val_cells h
  refine ⟨a, ?_⟩
  simp only [Value.cells, AVal.cells] at e
  simp at e
  rw [e.1, e.2]
end
end Go.Proofs.Ytmngkodejlhalaa.Tw
