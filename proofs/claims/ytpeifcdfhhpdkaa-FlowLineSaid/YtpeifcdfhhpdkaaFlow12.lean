/- FlowLine. No condition. -/
import Derived.Test.YtpeifcdfhhpdkaaFlow11
import Derived.Laws.MakeOwn
namespace Go.Proofs.Ytpeifcdfhhpdkaa.Tw
set_option linter.unusedVariables false
set_option linter.unusedSimpArgs false
open Go Go.RowKit Go.MapKept

/-- an owned slice of instructions is a code -/
theorem codeAt_slc {w0 : World} {a : Option Addr} {n c : Nat} {T : TypeId} {l : List AIn} (hl : l.length = n) : CodeAt w0 (slc T 3 a n c (insV l)) a n l := by
  refine ⟨hl, fun W G h k x hx => ?_⟩
  obtain ⟨e0, e1, e2⟩ := insV_get l k x hx
  obtain ⟨g, off, rfl, c0, _⟩ := h.slcAt e0
  obtain ⟨_, _, q1, c1, _⟩ := h.slcAt e1
  cases q1
  obtain ⟨_, _, q2, c2, _⟩ := h.slcAt e2
  cases q2
  exact ⟨g, off, rfl, c0, by rw [Nat.add_assoc]; exact c1, by rw [Nat.add_assoc]; exact c2⟩
theorem insV_set : ∀ (l : List AIn) (k : Nat) (x : AIn), k < l.length → (((insV l).set (k * 3) (ival x.op)).set (k * 3 + 1) (ival x.a)).set (k * 3 + 2) (ival x.b) = insV (l.set k x)
  | [], k, x, h => by simp at h
  | y :: l, 0, x, h => rfl
  | y :: l, k + 1, x, h => by
    have ih := insV_set l k x (by simp at h; omega)
    rw [Nat.add_mul, Nat.one_mul]
    show ival y.op :: ival y.a :: ival y.b :: (((insV l).set (k * 3) (ival x.op)).set (k * 3 + 1) (ival x.a)).set (k * 3 + 2) (ival x.b) = ival y.op :: ival y.a :: ival y.b :: insV (l.set k x)
    rw [ih]
theorem insV_length : ∀ l : List AIn, (insV l).length = l.length * 3
  | [] => rfl
  | y :: l => by
    show (insV l).length + 3 = (l.length + 1) * 3
    rw [insV_length l]; omega
theorem made_insV (N : Nat) : (madeCells #[.int .i64 0, .int .i64 0, .int .i64 0] (N * 3)).toList = insV (List.replicate N ⟨0, 0, 0⟩) := by
  have hz : ∀ l : List AIn, (∀ x ∈ l, x = ⟨0, 0, 0⟩) → insV l = List.replicate (l.length * 3) (ival 0) := by
    intro l
    induction l with
    | nil => intro _; rfl
    | cons y l ih =>
      intro h
      obtain rfl := h y (by simp)
      show ival 0 :: ival 0 :: ival 0 :: insV l = _
      rw [ih fun x hx => h x (by simp [hx])]
      show _ = List.replicate ((l.length + 1) * 3) (ival 0)
      rw [show (l.length + 1) * 3 = l.length * 3 + 1 + 1 + 1 by omega]
      simp [List.replicate_succ]
  rw [hz _ (fun x hx => (List.mem_replicate.1 hx).2), List.length_replicate]
  refine List.ext_getElem (by simp [madeCells]) fun i h1 h2 => ?_
  rw [List.getElem_replicate]
  simp only [madeCells, Array.toList_map, List.getElem_map]
  have : ∀ j : Nat, (#[Value.int .i64 0, .int .i64 0, .int .i64 0] : Array Value)[j % 3]! = ival 0 := fun j => by
    have : j % 3 = 0 ∨ j % 3 = 1 ∨ j % 3 = 2 := by omega
    rcases this with h | h | h <;> rw [h] <;> rfl
  exact this _
def fillL (op : Int) (N k : Nat) : List AIn := (List.range N).map fun (i : Nat) => if i < k then ⟨op, 0, (i : Int)⟩ else ⟨0, 0, 0⟩
theorem info_instr : (Try.prog.info? 34).map (fun i => (i.zero, i.size, i.bytes)) = some (some (.agg #[.int .i64 0, .int .i64 0, .int .i64 0]), 3, 24) := by kernel_rfl
end Go.Proofs.Ytpeifcdfhhpdkaa.Tw
