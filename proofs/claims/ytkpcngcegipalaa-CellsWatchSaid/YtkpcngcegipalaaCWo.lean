/- The laws of cells: an argument that is an act, or two numbers. No condition. -/
import Derived.Test.YtkpcngcegipalaaCkA
namespace Go.Proofs.Ytkpcngcegipalaa.Tw
set_option linter.unusedVariables false
set_option linter.unusedSimpArgs false
open Go Go.RowKit Go.MapKept Go.ChangeShapes Go.WideShapes Go.Deep

section
variable {H : Type} {enc : TypeId × Value → H} {w : World} {base : Nat} {held : Bool} {fuel : Nat} {x : DataW H × List MemPlace}
theorem okWide_array {P : Program} {t e : TypeId} {n : Nat} {r : Reach} {b : Nat} {v : Value} (ht : P.underlying t = some (.array n e)) (h : Value.okWide P w r b t v) : ∃ cs, v = .agg cs ∧ cs.size = P.cellsOf t := by
  simp only [Value.okWide, ht] at h
  obtain ⟨cs, h1, h2, _⟩ := h
  exact ⟨cs, h1, h2⟩
theorem open_two {v : Value} (h : DataW.trod enc Try.prog w base (fun _ => true) held fuel 101 v.cells.toList = some x) (hv : ∃ cs, v = .agg cs ∧ cs.size = Try.prog.cellsOf 101) : ∃ a b : Int, v = .agg #[.int .i64 a, .int .i64 b] := by
  obtain ⟨cs, rfl, hs⟩ := hv
  rw [show Try.prog.cellsOf 101 = 2 by kernel_rfl] at hs
  obtain ⟨u, u2, rfl⟩ : ∃ u u2, cs = #[u, u2] := by
    obtain ⟨l⟩ := cs
    rcases l with _ | ⟨u, _ | ⟨u2, _ | ⟨u3, r⟩⟩⟩ <;> simp at hs
    exact ⟨u, u2, rfl⟩
  have h' : DataW.trod enc Try.prog w base (fun _ => true) held fuel 101 [u, u2] = some x := h
  obtain ⟨xs, n, _, rfl, hl, hlen, hf⟩ := DataW.trod_array Try.underlying101 h'
  have k0 : Try.prog.cellsOf 3 = 1 := by kernel_rfl
  obtain ⟨y0, y1, rfl⟩ : ∃ y0 y1, xs = [y0, y1] := by
    match xs, hlen with
    | [y0, y1], _ => exact ⟨y0, y1, rfl⟩
  have f0 := hf 0 (by omega)
  have f1 := hf 1 (by omega)
  simp only [k0, Nat.zero_mul, Nat.one_mul, List.drop_zero, List.drop_succ_cons, List.take_succ_cons, List.take_zero, List.getElem?_cons_zero, List.getElem?_cons_succ] at f0 f1
  replace f0 : DataW.trod enc Try.prog w base (fun _ => true) held n 3 [u] = some y0 := f0
  replace f1 : DataW.trod enc Try.prog w base (fun _ => true) held n 3 [u2] = some y1 := f1
  obtain ⟨p0, e0, _, _⟩ := DataW.trod_int Try.underlying3 f0
  obtain ⟨p1, e1, _, _⟩ := DataW.trod_int Try.underlying3 f1
  simp at e0 e1
  exact ⟨p0, p1, by rw [e0, e1]⟩
theorem open_act {v : Value} (h : DataW.trod enc Try.prog w base (fun _ => true) held fuel 100 v.cells.toList = some x) (hv : ∃ cs, v = .agg cs ∧ cs.size = Try.prog.cellsOf 100) : ∃ r : RAct, SrcV w (Old w) r.la r.x.l.length r.lc r.x.l ∧ v = .agg (rcells r).toArray := by
  obtain ⟨cs, rfl, _⟩ := hv
  obtain ⟨r, h1, h2⟩ := act_cells h
  refine ⟨r, h1, ?_⟩
  have h3 : cs.toList = rcells r := h2
  rw [← h3]
def IsActsN (w : World) (a : Option Addr) (len cap : Nat) (rs : List RAct) : Prop := IsActs13 w a len cap rs ∧ (a = none → len = 0 ∧ cap = 0)
theorem open_actsN {a : Option Addr} {len cap : Nat} (h : DataW.trod enc Try.prog w base (fun _ => true) held fuel 98 [.slice a len cap] = some x) : ∃ rs, IsActsN w a len cap rs := by
  obtain ⟨rs, hr⟩ := open_acts13 h
  refine ⟨rs, hr, fun e => ?_⟩
  subst e
  exact open_recs_nil Try.underlying98 h
end
end Go.Proofs.Ytkpcngcegipalaa.Tw
