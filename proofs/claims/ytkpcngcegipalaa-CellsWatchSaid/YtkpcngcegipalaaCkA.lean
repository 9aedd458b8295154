/- The laws of cells: an argument that is a slice of acts. No condition. -/
import Derived.Test.YtkpcngcegipalaaCkP
import Derived.Test.YtkpcngcegipalaaCkW2
import Derived.ProofKit
import Derived.OpenShut
import Derived.ChangeOld
namespace Go.Proofs.Ytkpcngcegipalaa.Tw
set_option linter.unusedVariables false
set_option linter.unusedSimpArgs false
open Go Go.RowKit Go.MapKept Go.ChangeShapes Go.WideShapes Go.Deep

section
variable {H : Type} {enc : TypeId × Value → H} {w : World} {base : Nat} {held : Bool} {fuel : Nat} {cs : List Value} {x : DataW H × List MemPlace}
theorem open_recs_nil {P : Program} {T e : TypeId} (hT : P.underlying T = some (.slice e)) {spare : Nat → Bool} {len cap : Nat}
    (h : DataW.trod enc P w base spare held fuel T [.slice none len cap] = some x) : len = 0 ∧ cap = 0 := by
  rcases open_slice hT h with ⟨hcs, _⟩ | ⟨ad, l, c, m, n, D, Pl, hcs, _⟩
  · simp at hcs; exact hcs
  · simp at hcs
theorem val_cells {spare : Nat → Bool} (h : DataW.trod enc Try.prog w base spare held fuel 28 cs = some x) : ∃ v : AVal, cs = v.cells := by
  obtain ⟨y0, y1, n, _, hl, g0, g1⟩ := trod_struct2 Try.underlying28 h
  have h2 : Try.prog.cellsOf 28 = 2 := by kernel_rfl
  have k0 : Try.prog.cellsOf 3 = 1 := by kernel_rfl
  have k1 : Try.prog.cellsOf 2 = 1 := by kernel_rfl
  rw [h2] at hl
  obtain ⟨v0, v1, rfl⟩ : ∃ v0 v1, cs = [v0, v1] := by
    rcases cs with _ | ⟨v0, _ | ⟨v1, _ | ⟨v2, r⟩⟩⟩
    · simp at hl
    · simp at hl
    · exact ⟨v0, v1, rfl⟩
    · simp at hl
  simp only [k0, k1, List.drop_zero, List.drop_succ_cons, List.take_succ_cons, List.take_zero] at g0 g1
  obtain ⟨p, e0, _, _⟩ := DataW.trod_int Try.underlying3 g0
  obtain ⟨q, e1, _, _⟩ := DataW.trod_int Try.underlying2 g1
  simp at e0 e1
  exact ⟨⟨p, q⟩, by rw [e0, e1]; rfl⟩
/-- an argument that is a slice of values -/
theorem open_vals {a : Option Addr} {len cap : Nat} (h : DataW.trod enc Try.prog w base (fun _ => true) held fuel 37 [.slice a len cap] = some x) : ∃ l : List AVal, SrcV w (Old w) a len cap l := by
  obtain ⟨h1, h2, css, h3, h4, h5⟩ := open_recs Try.underlying37 (show Try.prog.cellsOf 28 = 2 by kernel_rfl) (by omega) (E := fun cs => ∃ v : AVal, True ∧ cs = v.cells) (fun _ _ _ hh => by obtain ⟨v, e⟩ := val_cells hh; exact ⟨v, trivial, e⟩) h
  obtain ⟨l, rfl, _⟩ := of_forall_ex (f := AVal.cells) (R := fun _ => True) css h4
  rw [List.length_map] at h3
  have e : (l.map AVal.cells).flatten = avcells l := by unfold avcells; rw [List.flatMap_def]
  rw [e] at h5
  refine ⟨l, fun w' G hs k y hk => ?_, h3, fun ea => ?_, h1, h2⟩
  · obtain ⟨e0, e1⟩ := avcells_get l k y hk
    obtain ⟨g, off, ea, c0⟩ := h5 w' G _ _ hs e0
    obtain ⟨g1, off1, ea1, c1⟩ := h5 w' G _ _ hs e1
    rw [ea] at ea1; cases ea1
    exact ⟨g, off, ea, c0, by rw [Nat.add_assoc]; exact c1⟩
  · subst ea
    exact open_recs_nil Try.underlying37 h
theorem act_cells (h : DataW.trod enc Try.prog w base (fun _ => true) held fuel 100 cs = some x) : ∃ r : RAct, SrcV w (Old w) r.la r.x.l.length r.lc r.x.l ∧ cs = rcells r := by
  obtain ⟨xs, n, _, rfl, hl, hlen, hf⟩ := DataW.trod_struct Try.underlying100 h
  have h7 : Try.prog.cellsOf 100 = 7 := by kernel_rfl
  have k0 : Try.prog.cellsOf 3 = 1 := by kernel_rfl
  have k3 : Try.prog.cellsOf 28 = 2 := by kernel_rfl
  have k4 : Try.prog.cellsOf 37 = 1 := by kernel_rfl
  have k5 : Try.prog.cellsOf 9 = 1 := by kernel_rfl
  rw [h7] at hl
  obtain ⟨v0, v1, v2, v3, v4, v5, v6, rfl⟩ : ∃ v0 v1 v2 v3 v4 v5 v6, cs = [v0, v1, v2, v3, v4, v5, v6] := by
    rcases cs with _ | ⟨v0, _ | ⟨v1, _ | ⟨v2, _ | ⟨v3, _ | ⟨v4, _ | ⟨v5, _ | ⟨v6, _ | ⟨v7, r⟩⟩⟩⟩⟩⟩⟩⟩ <;> simp at hl
    exact ⟨v0, v1, v2, v3, v4, v5, v6, rfl⟩
  obtain ⟨y0, y1, y2, y3, y4, y5, rfl⟩ : ∃ y0 y1 y2 y3 y4 y5, xs = [y0, y1, y2, y3, y4, y5] := by
    match xs, hlen with
    | [y0, y1, y2, y3, y4, y5], _ => exact ⟨y0, y1, y2, y3, y4, y5, rfl⟩
  have f0 : DataW.trod enc Try.prog w base (fun _ => true) held n 3 ([v0, v1, v2, v3, v4, v5, v6].drop 0 |>.take (Try.prog.cellsOf 3)) = some y0 := hf 0 _ rfl
  rw [k0] at f0
  replace f0 : DataW.trod enc Try.prog w base (fun _ => true) held n 3 [v0] = some y0 := f0
  have f1 : DataW.trod enc Try.prog w base (fun _ => true) held n 3 ([v0, v1, v2, v3, v4, v5, v6].drop 1 |>.take (Try.prog.cellsOf 3)) = some y1 := hf 1 _ rfl
  rw [k0] at f1
  replace f1 : DataW.trod enc Try.prog w base (fun _ => true) held n 3 [v1] = some y1 := f1
  have f2 : DataW.trod enc Try.prog w base (fun _ => true) held n 3 ([v0, v1, v2, v3, v4, v5, v6].drop 2 |>.take (Try.prog.cellsOf 3)) = some y2 := hf 2 _ rfl
  rw [k0] at f2
  replace f2 : DataW.trod enc Try.prog w base (fun _ => true) held n 3 [v2] = some y2 := f2
  have f3 : DataW.trod enc Try.prog w base (fun _ => true) held n 28 ([v0, v1, v2, v3, v4, v5, v6].drop 3 |>.take (Try.prog.cellsOf 28)) = some y3 := hf 3 _ rfl
  rw [k3] at f3
  replace f3 : DataW.trod enc Try.prog w base (fun _ => true) held n 28 [v3, v4] = some y3 := f3
  have f4 : DataW.trod enc Try.prog w base (fun _ => true) held n 37 ([v0, v1, v2, v3, v4, v5, v6].drop 5 |>.take (Try.prog.cellsOf 37)) = some y4 := hf 4 _ rfl
  rw [k4] at f4
  replace f4 : DataW.trod enc Try.prog w base (fun _ => true) held n 37 [v5] = some y4 := f4
  have f5 : DataW.trod enc Try.prog w base (fun _ => true) held n 9 ([v0, v1, v2, v3, v4, v5, v6].drop 6 |>.take (Try.prog.cellsOf 9)) = some y5 := hf 5 _ rfl
  rw [k5] at f5
  replace f5 : DataW.trod enc Try.prog w base (fun _ => true) held n 9 [v6] = some y5 := f5
  obtain ⟨p0, e0, _, _⟩ := DataW.trod_int Try.underlying3 f0
  obtain ⟨p1, e1, _, _⟩ := DataW.trod_int Try.underlying3 f1
  obtain ⟨p2, e2, _, _⟩ := DataW.trod_int Try.underlying3 f2
  obtain ⟨v, e3⟩ := val_cells f3
  obtain ⟨s, e5, _, _⟩ := DataW.trod_string Try.underlying9 f5
  obtain ⟨a, ln, c, rfl⟩ : ∃ a ln c, v5 = .slice a ln c := by
    rcases open_slice Try.underlying37 f4 with ⟨hcs, _⟩ | ⟨ad, l, c, m, n, D, Pl, hcs, _⟩
    · simp at hcs; exact ⟨_, _, _, hcs⟩
    · simp at hcs; exact ⟨_, _, _, hcs⟩
  obtain ⟨l, hS⟩ := open_vals f4
  have hln : l.length = ln := hS.2.1
  subst hln
  simp [AVal.cells] at e0 e1 e2 e3 e5
  refine ⟨⟨⟨p0, p1, p2, v, l, s⟩, a, c⟩, hS, ?_⟩
  rw [e0, e1, e2, e3.1, e3.2, e5]; rfl
/-- an argument: acts in a slice -/
def IsActs13 (w : World) (a : Option Addr) (len cap : Nat) (rs : List RAct) : Prop :=
  rs.length = len ∧ len ≤ cap ∧ cap ≤ maxLen ∧ (∀ r ∈ rs, SrcV w (Old w) r.la r.x.l.length r.lc r.x.l) ∧ ArgAt w (Old w) a (racells rs)
theorem open_acts13 {a : Option Addr} {len cap : Nat} (h : DataW.trod enc Try.prog w base (fun _ => true) held fuel 98 [.slice a len cap] = some x) : ∃ rs, IsActs13 w a len cap rs := by
  obtain ⟨h1, h2, css, h3, h4, h5⟩ := open_recs Try.underlying98 (show Try.prog.cellsOf 100 = 7 by kernel_rfl) (by omega) (fun _ _ _ hh => act_cells hh) h
  obtain ⟨rs, rfl, hr⟩ := of_forall_ex (f := rcells) (R := fun r => SrcV w (Old w) r.la r.x.l.length r.lc r.x.l) css h4
  rw [List.length_map] at h3
  exact ⟨rs, h3, h1, h2, hr, h5⟩
end
end Go.Proofs.Ytkpcngcegipalaa.Tw
