/- an argument that is a slice of instructions. No condition. -/
import Derived.Test.YtpeifcdfhhpdkaaFlow15
import Derived.Deep.Strs
namespace Go.Proofs.Ytpeifcdfhhpdkaa.Tw
set_option linter.unusedVariables false
set_option linter.unusedSimpArgs false
open Go Go.RowKit Go.MapKept Go.ChangeShapes Go.WideShapes Go.Deep

section
variable {H : Type} {enc : TypeId × Value → H} {P : Program} {w : World} {base : Nat} {spare : Nat → Bool} {held : Bool} {t : TypeId} {fuel : Nat} {cs : List Value} {x : DataW H × List MemPlace}
theorem three_ints {e : TypeId} {f0 f1 f2 : Field} (hs : P.underlying e = some (.struct #[f0, f1, f2])) (h3 : P.cellsOf e = 3) (o0 : f0.offset = 0) (o1 : f1.offset = 1) (o2 : f2.offset = 2)
    (k0 : P.cellsOf f0.type = 1) (k1 : P.cellsOf f1.type = 1) (k2 : P.cellsOf f2.type = 1) (u0 : P.underlying f0.type = some (.int .i64)) (u1 : P.underlying f1.type = some (.int .i64)) (u2 : P.underlying f2.type = some (.int .i64))
    (h : DataW.trod enc P w base spare held fuel e cs = some x) : ∃ p q r : Int, cs = [.int .i64 p, .int .i64 q, .int .i64 r] := by
  obtain ⟨y0, y1, y2, n, _, hl, g0, g1, g2⟩ := trod_struct3 hs h
  rw [h3] at hl
  match cs, hl with
  | [v0, v1, v2], _ =>
    rw [o0, k0] at g0
    rw [o1, k1] at g1
    rw [o2, k2] at g2
    obtain ⟨p, e0, _, _⟩ := DataW.trod_int u0 g0
    obtain ⟨q, e1, _, _⟩ := DataW.trod_int u1 g1
    obtain ⟨r, e2, _, _⟩ := DataW.trod_int u2 g2
    simp at e0 e1 e2
    exact ⟨p, q, r, by rw [e0, e1, e2]⟩
end
theorem Sat.s23 {w0 w : World} {A B C F : HP} (h : Sat w0 w (A * (B * (C * F)))) : Sat w0 w (A * (C * (B * F))) := h.cast (by ac_rfl)
theorem addr_of_cell' {w : World} {x : Addr} {v : Value} (h : w.cell? (x.add 0) = some v) : ∃ b off, x = ⟨b, off, none⟩ := by
  obtain ⟨b, off, sp⟩ := x
  cases sp with
  | none => exact ⟨b, off, rfl⟩
  | some s =>
    simp [Addr.add, World.cell?] at h
    split at h <;> simp at h
theorem open_code {H : Type} {enc : TypeId × Value → H} {w : World} {base : Nat} {held : Bool} {fuel : Nat} {a : Option Addr} {len cap : Nat} {x : DataW H × List MemPlace}
    (h : DataW.trod enc Try.prog w base (fun _ => true) held fuel 22 [.slice a len cap] = some x) : ∃ l, IsCode w a len cap l := by
  rcases open_slice Try.underlying22 h with ⟨hcs, _⟩ | ⟨ad, l, c, m, n, D, Pl, hcs, _, hl, hm, hmm, _, hx⟩
  · simp at hcs
    obtain ⟨rfl, rfl, rfl⟩ := hcs
    exact ⟨[], rfl, Nat.le_refl _, Nat.zero_le _, fun k x hk => by simp at hk⟩
  · simp at hcs
    obtain ⟨rfl, rfl, rfl⟩ := hcs
    have h3 : Try.prog.cellsOf 34 = 3 := by kernel_rfl
    rw [h3] at hx
    have hmc : m = cap := by rw [hmm]; rfl
    subst hmc
    have each : ∀ i, i < m → ∃ y : AIn, w.cell? (ad.add (i * 3)) = some (.int .i64 y.op) ∧ w.cell? ((ad.add (i * 3)).add 1) = some (.int .i64 y.a) ∧ w.cell? ((ad.add (i * 3)).add 2) = some (.int .i64 y.b) := fun i hi => by
      obtain ⟨cs', hc, ht⟩ := hx i hi
      obtain ⟨_, hcl, hat⟩ := World.cells?_some hc
      obtain ⟨p, q, r, rfl⟩ := three_ints Try.underlying34 h3 rfl rfl rfl (by kernel_rfl) (by kernel_rfl) (by kernel_rfl) Try.underlying3 Try.underlying3 Try.underlying3 ht
      refine ⟨⟨p, q, r⟩, ?_, hat 1 (by omega), hat 2 (by omega)⟩
      have := hat 0 (by omega)
      rw [Go.Deep.add_add, Nat.add_zero] at this
      exact this
    let l : List AIn := (List.range len).map fun i => if hi : i < m then (each i hi).choose else ⟨0, 0, 0⟩
    refine ⟨l, by simp [l], hl, hm, fun k y hk => ?_⟩
    have hkl : k < len := by
      have := (List.getElem?_eq_some_iff.1 hk).1
      simpa [l] using this
    have hkm : k < m := by omega
    have hy : y = (each k hkm).choose := by
      simp [l, hkl, hkm] at hk
      exact hk.symm
    have hs := (each k hkm).choose_spec
    rw [← hy] at hs
    have h0 : ∃ b off, ad = ⟨b, off, none⟩ := by
      obtain ⟨y0, hs0, _⟩ := each 0 (by omega)
      exact addr_of_cell' (v := .int .i64 y0.op) (by simpa using hs0)
    obtain ⟨b, off, rfl⟩ := h0
    rw [addr_add] at hs
    simp only [addr_add] at hs
    exact ⟨b, off, rfl, hs.1, hs.2.1, hs.2.2⟩
end Go.Proofs.Ytpeifcdfhhpdkaa.Tw
