/- Arguments: slices of values, graphs, values. No condition. -/
import Derived.Test.YtmngkodejlhalaaZRPaths13
import Derived.Test.YtmngkodejlhalaaZRPaths5
import Derived.ProofKit
import Derived.OpenShut
import Derived.ChangeOld
import Derived.ChangeSame
import Derived.Test.YtmngkodejlhalaaZRPaths12
namespace Go.Proofs.Ytmngkodejlhalaa.Tw
set_option linter.unusedVariables false
set_option linter.unusedSimpArgs false
open Go Go.RowKit Go.MapKept Go.ChangeShapes Go.WideShapes Go.Deep

/-- objects in a slice, of whatever size, wherever SR is held -/
structure SrcG (w0 : World) (SR : HP) (a : Option Addr) (n c : Nat) (X : List XObj) : Prop where
  cell : ∀ w' G, Sat w0 w' (SR * G) → ∀ k x, X[k]? = some x → ∃ g off, a = some ⟨g, off, none⟩ ∧ w'.cell? ⟨g, off + k * 5, none⟩ = some (.int .i64 x.1.kind) ∧ w'.cell? ⟨g, off + k * 5 + 1, none⟩ = some (.int .i64 x.1.count) ∧ w'.cell? ⟨g, off + k * 5 + 2, none⟩ = some (.slice x.2.1 x.1.slots.length x.2.2) ∧ w'.cell? ⟨g, off + k * 5 + 3, none⟩ = some (.string x.1.text) ∧ w'.cell? ⟨g, off + k * 5 + 4, none⟩ = some (.int .i64 x.1.mark)
  len : X.length = n
  nil0 : a = none → n = 0 ∧ c = 0
  cap : n ≤ c ∧ c ≤ maxLen
  slots : ∀ x ∈ X, SrcV w0 SR x.2.1 x.1.slots.length x.2.2 x.1.slots
section
variable {H : Type} {enc : TypeId × Value → H} {w : World} {base : Nat} {held : Bool} {fuel : Nat} {cs : List Value} {x : DataW H × List MemPlace}
theorem open_recs_nil {P : Program} {T e : TypeId} (hT : P.underlying T = some (.slice e)) {spare : Nat → Bool} {len cap : Nat}
    (h : DataW.trod enc P w base spare held fuel T [.slice none len cap] = some x) : len = 0 ∧ cap = 0 := by
  rcases open_slice hT h with ⟨hcs, _⟩ | ⟨ad, l, c, m, n, D, Pl, hcs, _⟩
  · simp at hcs; exact hcs
  · simp at hcs
theorem val_cells {spare : Nat → Bool} (h : DataW.trod enc Try.prog w base spare held fuel 33 cs = some x) : ∃ v : AVal, cs = v.cells := by
  obtain ⟨y0, y1, n, _, hl, g0, g1⟩ := trod_struct2 Try.underlying33 h
  have h2 : Try.prog.cellsOf 33 = 2 := by kernel_rfl
  have k0 : Try.prog.cellsOf 3 = 1 := by kernel_rfl
  have k1 : Try.prog.cellsOf 2 = 1 := by kernel_rfl
  rw [h2] at hl
  obtain ⟨v0, v1, rfl⟩ : ∃ v0 v1, cs = [v0, v1] := by
    rcases cs with _ | ⟨v0, _ | ⟨v1, _ | ⟨v2, r⟩⟩⟩
    · simp at hl
    · simp at hl
    · exact ⟨v0, v1, rfl⟩
    · simp at hl
  simp only [k0, k1, List.drop_zero, List.drop_succ_cons, List.take_succ_cons, List.take_zero] at g0 g1
  obtain ⟨p, e0, _, _⟩ := DataW.trod_int Try.underlying3 g0
  obtain ⟨q, e1, _, _⟩ := DataW.trod_int Try.underlying2 g1
  simp at e0 e1
  exact ⟨⟨p, q⟩, by rw [e0, e1]; rfl⟩
/-- an argument that is a slice of values -/
theorem open_vals {a : Option Addr} {len cap : Nat} (h : DataW.trod enc Try.prog w base (fun _ => true) held fuel 25 [.slice a len cap] = some x) : ∃ l : List AVal, SrcV w (Old w) a len cap l := by
  obtain ⟨h1, h2, css, h3, h4, h5⟩ := open_recs Try.underlying25 (show Try.prog.cellsOf 33 = 2 by kernel_rfl) (by omega) (E := fun cs => ∃ v : AVal, True ∧ cs = v.cells) (fun _ _ _ hh => by obtain ⟨v, e⟩ := val_cells hh; exact ⟨v, trivial, e⟩) h
  obtain ⟨l, rfl, _⟩ := of_forall_ex (f := AVal.cells) (R := fun _ => True) css h4
  rw [List.length_map] at h3
  have e : (l.map AVal.cells).flatten = avcells l := by unfold avcells; rw [List.flatMap_def]
  rw [e] at h5
  refine ⟨l, fun w' G hs k y hk => ?_, h3, fun ea => ?_, h1, h2⟩
  · obtain ⟨e0, e1⟩ := avcells_get l k y hk
    obtain ⟨g, off, ea, c0⟩ := h5 w' G _ _ hs e0
    obtain ⟨g1, off1, ea1, c1⟩ := h5 w' G _ _ hs e1
    rw [ea] at ea1; cases ea1
    exact ⟨g, off, ea, c0, by rw [Nat.add_assoc]; exact c1⟩
  · subst ea
    exact open_recs_nil Try.underlying25 h
theorem obj_cells (h : DataW.trod enc Try.prog w base (fun _ => true) held fuel 39 cs = some x) : ∃ r : XObj, SrcV w (Old w) r.2.1 r.1.slots.length r.2.2 r.1.slots ∧ cs = xcells r := by
  obtain ⟨xs, n, _, rfl, hl, hlen, hf⟩ := DataW.trod_struct Try.underlying39 h
  have h7 : Try.prog.cellsOf 39 = 5 := by kernel_rfl
  have k0 : Try.prog.cellsOf 3 = 1 := by kernel_rfl
  have k4 : Try.prog.cellsOf 25 = 1 := by kernel_rfl
  have k5 : Try.prog.cellsOf 9 = 1 := by kernel_rfl
  rw [h7] at hl
  obtain ⟨v0, v1, v2, v3, v4, rfl⟩ : ∃ v0 v1 v2 v3 v4, cs = [v0, v1, v2, v3, v4] := by
    rcases cs with _ | ⟨v0, _ | ⟨v1, _ | ⟨v2, _ | ⟨v3, _ | ⟨v4, _ | ⟨v5, r⟩⟩⟩⟩⟩⟩ <;> simp at hl
    exact ⟨v0, v1, v2, v3, v4, rfl⟩
  obtain ⟨y0, y1, y2, y3, y4, rfl⟩ : ∃ y0 y1 y2 y3 y4, xs = [y0, y1, y2, y3, y4] := by
    match xs, hlen with
    | [y0, y1, y2, y3, y4], _ => exact ⟨y0, y1, y2, y3, y4, rfl⟩
  have f0 : DataW.trod enc Try.prog w base (fun _ => true) held n 3 ([v0, v1, v2, v3, v4].drop 0 |>.take (Try.prog.cellsOf 3)) = some y0 := hf 0 _ rfl
  rw [k0] at f0
  replace f0 : DataW.trod enc Try.prog w base (fun _ => true) held n 3 [v0] = some y0 := f0
  have f1 : DataW.trod enc Try.prog w base (fun _ => true) held n 3 ([v0, v1, v2, v3, v4].drop 1 |>.take (Try.prog.cellsOf 3)) = some y1 := hf 1 _ rfl
  rw [k0] at f1
  replace f1 : DataW.trod enc Try.prog w base (fun _ => true) held n 3 [v1] = some y1 := f1
  have f2 : DataW.trod enc Try.prog w base (fun _ => true) held n 25 ([v0, v1, v2, v3, v4].drop 2 |>.take (Try.prog.cellsOf 25)) = some y2 := hf 2 _ rfl
  rw [k4] at f2
  replace f2 : DataW.trod enc Try.prog w base (fun _ => true) held n 25 [v2] = some y2 := f2
  have f3 : DataW.trod enc Try.prog w base (fun _ => true) held n 9 ([v0, v1, v2, v3, v4].drop 3 |>.take (Try.prog.cellsOf 9)) = some y3 := hf 3 _ rfl
  rw [k5] at f3
  replace f3 : DataW.trod enc Try.prog w base (fun _ => true) held n 9 [v3] = some y3 := f3
  have f4 : DataW.trod enc Try.prog w base (fun _ => true) held n 3 ([v0, v1, v2, v3, v4].drop 4 |>.take (Try.prog.cellsOf 3)) = some y4 := hf 4 _ rfl
  rw [k0] at f4
  replace f4 : DataW.trod enc Try.prog w base (fun _ => true) held n 3 [v4] = some y4 := f4
  obtain ⟨p0, e0, _, _⟩ := DataW.trod_int Try.underlying3 f0
  obtain ⟨p1, e1, _, _⟩ := DataW.trod_int Try.underlying3 f1
  obtain ⟨s, e3, _, _⟩ := DataW.trod_string Try.underlying9 f3
  obtain ⟨p4, e4, _, _⟩ := DataW.trod_int Try.underlying3 f4
  obtain ⟨a, ln, c, rfl⟩ : ∃ a ln c, v2 = .slice a ln c := by
    rcases open_slice Try.underlying25 f2 with ⟨hcs, _⟩ | ⟨ad, l, c, m, n, D, Pl, hcs, _⟩
    · simp at hcs; exact ⟨_, _, _, hcs⟩
    · simp at hcs; exact ⟨_, _, _, hcs⟩
  obtain ⟨l, hS⟩ := open_vals f2
  have hln : l.length = ln := hS.2.1
  subst hln
  simp at e0 e1 e3 e4
  refine ⟨(⟨p0, p1, l, s, p4⟩, a, c), hS, ?_⟩
  rw [e0, e1, e3, e4]; rfl
/-- an argument that is a slice of objects -/
theorem open_objs {a : Option Addr} {len cap : Nat} (h : DataW.trod enc Try.prog w base (fun _ => true) held fuel 22 [.slice a len cap] = some x) : ∃ X : List XObj, SrcG w (Old w) a len cap X := by
  obtain ⟨h1, h2, css, h3, h4, h5⟩ := open_recs Try.underlying22 (show Try.prog.cellsOf 39 = 5 by kernel_rfl) (by omega) (fun _ _ _ hh => obj_cells hh) h
  obtain ⟨X, rfl, hr⟩ := of_forall_ex (f := xcells) (R := fun r => SrcV w (Old w) r.2.1 r.1.slots.length r.2.2 r.1.slots) css h4
  rw [List.length_map] at h3
  have e : (X.map xcells).flatten = xscells X := by unfold xscells; rw [List.flatMap_def]
  rw [e] at h5
  refine ⟨X, fun w' G hs k y hk => ?_, h3, fun ea => ?_, ⟨h1, h2⟩, hr⟩
  · have hg := xscells_get X k y hk
    have hg0 : (xscells X)[k * 5]? = some (.int .i64 y.1.kind) := hg 0 (by omega)
    obtain ⟨g, off, ea, c0⟩ := h5 w' G _ _ hs hg0
    have hj : ∀ j v, j < 5 → (xcells y)[j]? = some v → w'.cell? ⟨g, off + k * 5 + j, none⟩ = some v := fun j v hj hv => by
      obtain ⟨g1, off1, ea1, c1⟩ := h5 w' G _ _ hs ((hg j hj).trans hv)
      rw [ea] at ea1; cases ea1
      rw [Nat.add_assoc]; exact c1
    exact ⟨g, off, ea, c0, hj 1 _ (by omega) rfl, hj 2 _ (by omega) rfl, hj 3 _ (by omega) rfl, hj 4 _ (by omega) rfl⟩
  · subst ea
    exact open_recs_nil Try.underlying22 h
/-- an argument that is a graph -/
theorem open_graph {v : Value} (h : DataW.trod enc Try.prog w base (fun _ => true) held fuel 24 v.cells.toList = some x) (hv : ∃ cs, v = .agg cs ∧ cs.size = Try.prog.cellsOf 24) : ∃ (a : Option Addr) (n c : Nat) (X : List XObj), v = .agg #[.slice a n c] ∧ SrcG w (Old w) a n c X := by
  obtain ⟨cs, rfl, hs⟩ := hv
  rw [show Try.prog.cellsOf 24 = 1 by kernel_rfl] at hs
  obtain ⟨u, rfl⟩ : ∃ u, cs = #[u] := by
    obtain ⟨l⟩ := cs
    rcases l with _ | ⟨u, _ | ⟨u2, r⟩⟩ <;> simp at hs
    exact ⟨u, rfl⟩
  obtain ⟨y0, n, _, hl, f0⟩ := trod_struct1 Try.underlying24 h
  have k4 : Try.prog.cellsOf 22 = 1 := by kernel_rfl
  simp only [k4, Value.cells] at f0
  replace f0 : DataW.trod enc Try.prog w base (fun _ => true) held n 22 [u] = some y0 := f0
  obtain ⟨a, ln, c, rfl⟩ : ∃ a ln c, u = .slice a ln c := by
    rcases open_slice Try.underlying22 f0 with ⟨hcs, _⟩ | ⟨ad, l, c, m, n, D, Pl, hcs, _⟩
    · simp at hcs; exact ⟨_, _, _, hcs⟩
    · simp at hcs; exact ⟨_, _, _, hcs⟩
  obtain ⟨X, hX⟩ := open_objs f0
  exact ⟨a, ln, c, X, rfl, hX⟩
/-- an argument that is a value -/
theorem open_value {v : Value} (h : DataW.trod enc Try.prog w base (fun _ => true) held fuel 33 v.cells.toList = some x) (hv : ∃ cs, v = .agg cs ∧ cs.size = Try.prog.cellsOf 33) : ∃ u : AVal, v = .agg #[.int .i64 u.kind, .int .i64 u.n] := by
  obtain ⟨cs, rfl, hs⟩ := hv
  rw [show Try.prog.cellsOf 33 = 2 by kernel_rfl] at hs
  obtain ⟨u, u2, rfl⟩ : ∃ u u2, cs = #[u, u2] := by
    obtain ⟨l⟩ := cs
    rcases l with _ | ⟨u, _ | ⟨u2, _ | ⟨u3, r⟩⟩⟩ <;> simp at hs
    exact ⟨u, u2, rfl⟩
  obtain ⟨a, e⟩ := val_cells h
  refine ⟨a, ?_⟩
  simp only [Value.cells, AVal.cells] at e
  simp at e
  rw [e.1, e.2]
end
end Go.Proofs.Ytmngkodejlhalaa.Tw
namespace Go.Proofs.Ytmngkodejlhalaa.Tw
set_option linter.unusedVariables false
set_option linter.unusedSimpArgs false
open Go Go.RowKit Go.MapKept

section
variable {P : Program} {w0 w : World} {F : HP} {ops : Array Oper} {rest : List Oper} {o : Oper} {a : Act} {Q : Exit → Act → World → Prop} {K : Act → World → Prop}
theorem wpList_pushObj (hg : o.guard = none) (s x : Operand) (hop : o.op = .call { callee := .builtin .append, args := #[s, x], argTypes := #[22, 22] })
    (sa : Option Addr) (n c : Nat) (X : List XObj) (hs : a.eval s = .slice sa n c) (h : Sat w0 w (slc 39 5 sa n c (xscells X) * F)) (bx c' : Nat) (v : XObj) (hx : a.eval x = .slice (some ⟨bx, 0, none⟩) 1 c')
    (hc : ∀ j u, (xcells v)[j]? = some u → w.cell? ⟨bx, j, none⟩ = some u) (hn : n ≤ 1000000000)
    (hK : ∀ a' c'' w', Sat w0 w' (slc 39 5 a' (n + 1) c'' (xscells (X ++ [v])) * F) → wpList Try.prog ops Q rest (a.put o.dst (.slice a' (n + 1) c'')) w') : wpList Try.prog ops Q (o :: rest) a w :=
  wpList_plain hg fun _ hK' => wp_pushObj s x hop sa n c X hs h bx c' v hx hc hn fun a' c'' w' h2 => hK' _ _ (hK a' c'' w' h2)
end
/-- an owned slice is a source -/
theorem srcV_slc' {w0 : World} {a : Option Addr} {n c : Nat} {l : List AVal} (hl : l.length = n) (hc : n ≤ c ∧ c ≤ maxLen) (hnil : a = none → n = 0 ∧ c = 0) : SrcV w0 (slc 33 2 a n c (avcells l)) a n c l := by
  refine ⟨fun w' G h k x hx => ?_, hl, hnil, hc⟩
  obtain ⟨g, off, e, c0, c1, _, _⟩ := valAt h hx
  exact ⟨g, off, e, c0, c1⟩
theorem slc_nil {w0 w : World} {T : TypeId} {sz : Nat} {F : HP} {a : Option Addr} {n c : Nat} {xs : List Value} (h : Sat w0 w (slc T sz a n c xs * F)) : a = none → n = 0 ∧ c = 0 := by
  intro e
  subst e
  rcases h.openSlc.2 with ⟨_, e1, e2, _⟩ | ⟨g, off, cur, e, _⟩
  · exact ⟨e1, e2⟩
  · cases e
theorem xslots_get : ∀ {X : List XObj} {x : XObj}, x ∈ X → ∃ R, xslotsR X = slc 33 2 x.2.1 x.1.slots.length x.2.2 (avcells x.1.slots) * R
  | y :: X, x, h => by
    rcases List.mem_cons.1 h with rfl | h
    · exact ⟨_, rfl⟩
    · obtain ⟨R, e⟩ := xslots_get h
      exact ⟨slc 33 2 y.2.1 y.1.slots.length y.2.2 (avcells y.1.slots) * R, by show _ * xslotsR X = _; rw [e, mul_left_comm]⟩
/-- an owned graph is a source -/
theorem Sat.srcO {w0 w : World} {F : HP} {ga : Option Addr} {n c : Nat} {X : List XObj} (h : Sat w0 w ((slc 39 5 ga n c (xscells X) * xslotsR X) * F)) (hn : X.length = n) (hs : n ≤ 1000000) (hb : ∀ x ∈ X, x.1.slots.length ≤ 1000000) :
    SrcO w0 (slc 39 5 ga n c (xscells X) * xslotsR X) ga n c X := by
  refine ⟨fun w' G h' k x hx => objAtX h'.assoc hx, hn, slc_nil h.assoc, h.assoc.slcCap, fun x hx => ⟨?_, hb x hx⟩, hs⟩
  obtain ⟨R, e⟩ := xslots_get hx
  have h2 : Sat w0 w (slc 33 2 x.2.1 x.1.slots.length x.2.2 (avcells x.1.slots) * (slc 39 5 ga n c (xscells X) * (R * F))) := h.cast (by rw [e]; ac_rfl)
  have := srcV_slc' (w0 := w0) (l := x.1.slots) rfl h2.slcCap (slc_nil h2)
  rw [e]
  have h3 := (this.mono (C := slc 39 5 ga n c (xscells X) * R))
  rwa [show slc 33 2 x.2.1 x.1.slots.length x.2.2 (avcells x.1.slots) * (slc 39 5 ga n c (xscells X) * R) = slc 39 5 ga n c (xscells X) * (slc 33 2 x.2.1 x.1.slots.length x.2.2 (avcells x.1.slots) * R) by ac_rfl] at h3
section
variable {w0 w : World} {SR F : HP}
theorem SrcV.flat {a : Option Addr} {n c : Nat} {l : List AVal} (hS : SrcV w0 SR a n c l) (h : Sat w0 w (SR * F)) : ∀ ad, a = some ad → ∀ j u, (avcells l)[j]? = some u → w.cell? (ad.add j) = some u := by
  rintro ad rfl j u hj
  have hjl : j < (avcells l).length := (List.getElem?_eq_some_iff.1 hj).1
  rw [avcells_length] at hjl
  have hx : l[j / 2]? = some (l[j / 2]'(by omega)) := List.getElem?_eq_getElem _
  obtain ⟨e0, e1⟩ := avcells_get l _ _ hx
  obtain ⟨g, off, q1, d0, d1⟩ := hS.1 _ _ h _ _ hx
  cases q1
  rw [addr_add]
  rcases Nat.mod_two_eq_zero_or_one j with hm | hm
  · have : j = j / 2 * 2 := by omega
    rw [this] at hj ⊢
    rw [e0] at hj; cases hj
    exact d0
  · have : j = j / 2 * 2 + 1 := by omega
    rw [this] at hj ⊢
    rw [e1] at hj; cases hj
    rw [← Nat.add_assoc]; exact d1
theorem SrcV.take {a : Option Addr} {n c : Nat} {l : List AVal} (hS : SrcV w0 SR a n c l) {m : Nat} (hm : m ≤ n) : SrcV w0 SR a m c (l.take m) := by
  refine ⟨fun w' G h k x hx => ?_, by rw [List.length_take, hS.2.1]; omega, fun e => ?_, by have := hS.2.2.2; omega⟩
  · rw [List.getElem?_take] at hx
    split at hx
    · exact hS.1 w' G h k x hx
    · cases hx
  · have := hS.2.2.1 e; omega
theorem load_graphG {b : Nat} {x : Value} {a : Option Addr} {n c : Nat} (hx : x = .slice a n c) (h : Sat w0 w (row b 24 #[x] * F)) :
    (loadVar 24 ⟨b, 0, none⟩).run Try.prog w = .ok (.agg #[x]) w := by
  have c0 : w.cell? ⟨b, 0, none⟩ = some x := h.cell 0 rfl
  subst hx
  go_simp
theorem own5 {w : World} {b : Nat} {k cc m : Int} {a : Option Addr} {mm sc : Nat} {tx : ByteArray} {l : List AVal} {F : HP} (hl : l.length = mm) (h : Sat w0 w (pt b (.cells #[.int .i64 k, .int .i64 cc, .slice a mm sc, .string tx, .int .i64 m] 39 (0, 0)) * F)) :
    ∀ j u, (xcells (⟨k, cc, l, tx, m⟩, a, sc))[j]? = some u → w.cell? ⟨b, j, none⟩ = some u := by
  subst hl
  exact five_cells (x := (⟨k, cc, l, tx, m⟩, a, sc)) h
def o40 (o : AObj) : AObj := { o with slots := o.slots.take 40 }
def ownL (L : List AObj) : List AObj := (L.take 40).map o40
theorem ownL_len (L : List AObj) : (ownL L).length ≤ 40 := by unfold ownL; rw [List.length_map, List.length_take]; omega
theorem ownL_slots {L : List AObj} {o : AObj} (h : o ∈ ownL L) : o.slots.length ≤ 40 := by
  unfold ownL at h
  obtain ⟨x, _, rfl⟩ := List.mem_map.1 h
  show (x.slots.take 40).length ≤ 40
  rw [List.length_take]; omega
set_option maxRecDepth 100000 in
set_option maxHeartbeats 8000000 in
theorem law_own {ga : Option Addr} {n c : Nat} {X : List XObj} (h : Sat w0 w (SR * F)) (hG : SrcG w0 SR ga n c X) {N : Nat} {L : List AObj} (hL : ownL (X.map (·.1)) = L) (hN : L.length = N) :
    Calls Try.prog 15 #[.agg #[.slice ga n c]] w fun e w' => ∃ oa oc, e = .returned (.agg #[.slice oa N oc]) ∧ Sat w0 w' (objsV oa N oc L * (SR * F)) := by
  have hb := ((h.alloc (.cells #[.slice ga n c] 24)).alloc (.cells #[.slice none 0 0] 24)).alloc (.cells #[.slice none 0 0] 24)
  rw [size_alloc, size_alloc] at hb
  generalize hgb : w.heap.size = gb at *
  have HL := Lib.hid (And.intro hL hN)
  have HG := Lib.hid hG
  have hcap := hG.cap
  have hn63 : n ≤ 9223372036854775807 := by unfold maxLen at hcap; omega
  have hlen : Hid (X.length = n) := Lib.hid hG.len
  clear hL hN hG
  have h0 : Sat w0 (((w.alloc (.cells #[.slice ga n c] 24)).alloc (.cells #[.slice none 0 0] 24)).alloc (.cells #[.slice none 0 0] 24)) (objsV none 0 0 [] * (pt (gb + 1 + 1) (.cells #[.slice none 0 0] 24 (0, 0)) * (pt (gb + 1) (.cells #[.slice none 0 0] 24 (0, 0)) * (pt gb (.cells #[.slice ga n c] 24 (0, 0)) * (SR * F))))) := by
    refine Sat.shutObjs (X := []) rfl rfl ?_
    rw [xslotsR, one_mul]
    exact hb.nilSlc
  have c0 := boxG hb.p3
  go_enter Try.func15, Try.ntmps15
  try rw [hgb]
  go_wp2
  go_loopw [4] (fun iv wr => ∃ (k : Nat) (oa : Option Addr) (oc : Nat), iv = .int .i64 k ∧ k ≤ n ∧ k ≤ 40 ∧ Sat w0 wr (objsV oa k oc (((X.map (·.1)).take k).map o40) * (pt (gb + 1 + 1) (.cells #[.slice oa k oc] 24 (0, 0)) * (pt (gb + 1) (.cells #[.slice none 0 0] 24 (0, 0)) * (pt gb (.cells #[.slice ga n c] 24 (0, 0)) * (SR * F)))))) (fun iv _ => n - (intOf iv).toNat)
  case atStart => exact ⟨0, none, 0, rfl, by omega, by omega, h0⟩
  case round =>
    obtain ⟨k, oa, oc, rfl, hk, hk40, hs0⟩ := hrel
    obtain ⟨Y, hY, hs⟩ := hs0.openObjs
    have HY := Lib.hid hY.1
    have g0 := boxG hs.p5
    have g2 := boxG hs.p3
    clear hY
    by_cases hlt : k < n
    · by_cases h40 : k < 40
      · have hxl := hlen.out
        obtain ⟨x, hx⟩ : ∃ x, X[k]? = some x := ⟨X[k]'(by omega), List.getElem?_eq_getElem _⟩
        obtain ⟨g, off, rfl, e0, e1, e2, e3, e4⟩ := HG.out.cell _ _ hs.p6 k x hx
        have hsl := HG.out.slots x (List.mem_of_getElem? hx)
        have htk : ((X.map (·.1)).take (k + 1)).map o40 = ((X.map (·.1)).take k).map o40 ++ [o40 x.1] := by
          rw [List.take_add_one, List.getElem?_map, hx, List.map_append]; rfl
        have HTK := Lib.hid htk
        obtain ⟨⟨xk, xc, xs, xt, xm⟩, sa, sc⟩ := x
        dsimp only at e0 e1 e2 e3 e4 hsl
        have hscap := hsl.2.2.2
        have hs63 : xs.length ≤ 9223372036854775807 := by unfold maxLen at hscap; omega
        have HSL := Lib.hid hsl
        clear htk hsl hx hxl
        have h5 := hs.alloc (.cells #[.int .i64 xk, .int .i64 xc, .slice sa xs.length sc, .string xt, .int .i64 xm] 39)
        generalize hob : wr.heap.size = ob at *
        obtain ⟨f0, f1, f2, f3, f4⟩ := boxO h5
        have h6 := emptySlcV h5
        rw [size_alloc, hob] at h6
        have hmin : min (xs.length : Int) 40 = ((min xs.length 40 : Nat) : Int) := by omega
        have hmle : min xs.length 40 ≤ xs.length := by omega
        have hm40 : min xs.length 40 ≤ 40 := by omega
        have hmx : Hid (xs.take 40 = xs.take (min xs.length 40)) := Lib.hid (by rw [List.take_eq_take_iff]; omega)
        generalize min xs.length 40 = mm at *
        have hST := HSL.out.take hmle
        have HSRC := Lib.hid (And.intro (hST.flat (h6.p8)) hST.2.2.1)
        have hSTl := hST.2.1
        have HSTL := Lib.hid hSTl
        clear hST hSTl
        obtain ⟨i0, hi, hz0, hz1, hz2⟩ := info_parts info_val
        go_wp2_with (first
          | (at_builtin; refine wpList_append_any rfl _ _ 25 rfl i0 (.agg #[.int .i64 0, .int .i64 0]) 16 Try.underlying25 hi hz0 hz1 hz2 rfl (some ⟨ob + 1, 0, none⟩) 0 0 [] rfl h6 sa mm sc (avcells (xs.take mm)) rfl (by rw [avcells_length, HSTL.out]) ⟨HSRC.out.1, fun e => by have := HSRC.out.2 e; omega⟩ (oneCell_avcells _) (by unfold maxLen; omega) (by omega) ?_; intro a' c' w7 h7 hne; have h8 := h7.p2; have fz := Sat.free (T := 39) (cs := #[.int .i64 xk, .int .i64 xc, .slice sa xs.length sc, .string xt, .int .i64 xm]) h8 2; have c8 := (boxO h8).2.2.1; have h9 : Sat w0 _ (pt ob (.cells #[.int .i64 xk, .int .i64 xc, .slice a' mm c', .string xt, .int .i64 xm] 39 (0, 0)) * _) := Sat.store (T := 39) (cs := #[.int .i64 xk, .int .i64 xc, .slice sa xs.length sc, .string xt, .int .i64 xm]) h8 (i := 2) (.slice a' mm c'); have y0 := (boxO h9).1; have y1 := (boxO h9).2.1; have y2 := (boxO h9).2.2.1; have y3 := (boxO h9).2.2.2.1; have y4 := (boxO h9).2.2.2.2; have z2 := boxG h9.p5; have h11 := h9.alloc (.cells #[.int .i64 xk, .int .i64 xc, .slice a' mm c', .string xt, .int .i64 xm] 39); have q5 : ∀ j u, (xcells (⟨xk, xc, xs.take mm, xt, xm⟩, a', c'))[j]? = some u → ((w7.setCell ⟨ob, 2, none⟩ (.slice a' mm c')).alloc (.cells #[.int .i64 xk, .int .i64 xc, .slice a' mm c', .string xt, .int .i64 xm] 39)).cell? ⟨w7.heap.size, j, none⟩ = some u := own5 HSTL.out (by rw [size_setCell'] at h11; exact h11))
          | (at_builtin; refine wpList_pushObj rfl _ _ rfl oa k oc Y rfl h11.p4 w7.heap.size 1 (⟨xk, xc, xs.take mm, xt, xm⟩, a', c') rfl q5 (by omega) ?_; intro a2 c2 w9 h12; have x2 := boxG h12.p6; have x2f := Sat.free (T := 24) (cs := #[.slice oa k oc]) h12.p6 0))
        go_roundw
        case rel =>
          refine ⟨k + 1, a2, c2, by go_num, by omega, by omega, ?_⟩
          have h13 : Sat w0 _ (pt (gb + 1 + 1) (.cells #[.slice a2 (k + 1) c2] 24 (0, 0)) * _) := Sat.store (T := 24) (cs := #[.slice oa k oc]) h12.p6 (i := 0) (.slice a2 (k + 1) c2)
          rw [HTK.out, ← HY.out]
          refine Sat.shutObjs (X := Y ++ [(⟨xk, xc, xs.take mm, xt, xm⟩, a', c')]) ?_ ?_ ?_
          · rw [List.map_append]
            congr 1
            show [(⟨xk, xc, xs.take mm, xt, xm⟩ : AObj)] = [o40 ⟨xk, xc, xs, xt, xm⟩]
            unfold o40
            rw [hmx.out]
          · simp only [List.length_append, HY.out, List.length_map, List.length_take, List.length_singleton, hlen.out]; omega
          · rw [show xslotsR (Y ++ [((⟨xk, xc, xs.take mm, xt, xm⟩ : AObj), a', c')]) = slc 33 2 a' (xs.take mm).length c' (avcells (xs.take mm)) * xslotsR Y by rw [xslotsR_split Y [] _, List.append_nil], HSTL.out]
            rw [Nat.zero_add, List.nil_append] at h13
            exact (h13.p3.drop.p3.drop).q4.cast (by simp only [mul_assoc])
        case measure => simp [intOf]; omega
      · have hk4 : k = 40 := by omega
        subst hk4
        have HE := Lib.hid (show ((X.map (·.1)).take 40).map o40 = L from HL.out.1)
        have HE2 := Lib.hid (show N = 40 by rw [← HL.out.2, ← HE.out, List.length_map, List.length_take, List.length_map, hlen.out]; omega)
        clear h0 hb c0
        have g1 := boxG hs0.p3
        have g1f := Sat.free (T := 24) (cs := #[.slice none 0 0]) hs0.p3 0
        have h7 : Sat w0 _ (row (gb + 1) 24 #[.slice oa 40 oc] * _) := Sat.store (T := 24) (cs := #[.slice none 0 0]) hs0.p3 (i := 0) (.slice oa 40 oc)
        have h8 := h7.drop.p2.drop.p2.drop
        rw [HE.out] at h8
        go_wp2_with fail
        refine bodyPost_cell rfl rfl (load_graphG (x := .slice oa 40 oc) rfl h7) rfl ?_
        rw [HE2.out]
        exact ⟨oa, oc, rfl, h8⟩
    · have hkn : k = n := by omega
      subst hkn
      have HE := Lib.hid (show ((X.map (·.1)).take k).map o40 = L from by rw [← HL.out.1]; unfold ownL; rw [List.take_of_length_le (by rw [List.length_map, hlen.out]; omega), List.take_of_length_le (by rw [List.length_map, hlen.out]; omega)])
      have HE2 := Lib.hid (show N = k by rw [← HL.out.2, ← HE.out, List.length_map, List.length_take, List.length_map, hlen.out]; omega)
      clear h0 hb c0
      have g1 := boxG hs0.p3
      have g1f := Sat.free (T := 24) (cs := #[.slice none 0 0]) hs0.p3 0
      have h7 : Sat w0 _ (row (gb + 1) 24 #[.slice oa k oc] * _) := Sat.store (T := 24) (cs := #[.slice none 0 0]) hs0.p3 (i := 0) (.slice oa k oc)
      have h8 := h7.drop.p2.drop.p2.drop
      rw [HE.out] at h8
      go_wp2_with fail
      refine bodyPost_cell rfl rfl (load_graphG (x := .slice oa k oc) rfl h7) rfl ?_
      rw [HE2.out]
      exact ⟨oa, oc, rfl, h8⟩
end
end Go.Proofs.Ytmngkodejlhalaa.Tw
namespace Go.Proofs.Ytmngkodejlhalaa.Tw
set_option linter.unusedVariables false
set_option linter.unusedSimpArgs false
open Go Go.RowKit Go.MapKept

section
variable {w0 w : World} {F : HP}
theorem law_has11 {a : Option Addr} {c n : Nat} {l : List Int} (x : Int) (h : Sat w0 w (slc 3 1 a n c (l.map ival) * F)) (hl : l.length = n) (hn : n ≤ 1000000000) :
    Calls Try.prog 26 #[.slice a n c, .int .i64 x] w fun e w' => e = .returned (.bool (decide (x ∈ l))) ∧ w = w' := by
  have hget : ∀ k, k < n → ∃ y, l[k]? = some y ∧ ∃ g off, a = some ⟨g, off, none⟩ ∧ w.cell? ⟨g, off + k, none⟩ = some (.int .i64 y) := fun k hk => by
    have e : l[k]? = some (l[k]'(by omega)) := List.getElem?_eq_getElem _
    obtain ⟨g, off, e1, e2, _⟩ := intCells h e
    exact ⟨_, e, g, off, e1, e2⟩
  have HG := Lib.hid hget
  have HL := Lib.hid hl
  clear hget hl
  go_enter Try.func26, Try.ntmps26
  go_wp2
  go_loop [5] (fun iv => ∃ k : Nat, iv = .int .i64 k ∧ k ≤ n ∧ Hid (∀ j y, j < k → l[j]? = some y → y ≠ x)) (fun iv => n - (intOf iv).toNat)
  case atStart => exact ⟨0, rfl, by omega, Lib.hid (by intro j y hj; omega)⟩
  case round =>
    obtain ⟨k, rfl, hk, hb⟩ := hrel
    by_cases hlt : k < n
    · obtain ⟨y, hy, g, off, rfl, hc⟩ := HG.out k hlt
      have HY := Lib.hid hy
      clear hy
      by_cases hxy : y = x
      · subst hxy
        go_wp2
        go_ret
        exact ⟨by rw [decide_eq_true (List.mem_of_getElem? HY.out)]; rfl, rfl⟩
      · have hq : (y == x) = false := by simpa using hxy
        have HQ := Lib.hid hxy
        clear hxy
        go_wp2
        go_round
        case rel =>
          refine ⟨k + 1, by go_num, by omega, Lib.hid ?_⟩
          intro j z hj hz
          rcases Nat.lt_or_ge j k with h3 | h3
          · exact hb.out j z h3 hz
          · obtain rfl : j = k := by omega
            rw [HY.out] at hz; cases hz; exact HQ.out
        case measure => simp [intOf]; omega
    · have hkn : k = n := by omega
      go_wp2
      go_ret
      refine ⟨?_, rfl⟩
      suffices hnm : x ∉ l by
        rw [decide_eq_false hnm]; rfl
      intro hm
      obtain ⟨j, hj, e⟩ := List.mem_iff_getElem.1 hm
      exact hb.out j x (by have := HL.out; omega) (by rw [← e]; exact List.getElem?_eq_getElem _) rfl
/-- two lists of numbers, as far as k -/
theorem law_ints11 {a b : Option Addr} {c c' n m : Nat} {l r : List Int} (h : Sat w0 w (slc 3 1 a n c (l.map ival) * (slc 3 1 b m c' (r.map ival) * F))) (hl : l.length = n) (hr : r.length = m) (hn : n ≤ 1000000000) (hm : m ≤ 1000000000) :
    Calls Try.prog 29 #[.slice a n c, .slice b m c'] w fun e w' => e = .returned (.bool (decide (l = r))) ∧ Sat w0 w' (slc 3 1 a n c (l.map ival) * (slc 3 1 b m c' (r.map ival) * F)) := by
  by_cases hnm : n = m
  · subst hnm
    have HL := Lib.hid (And.intro hl hr)
    clear hl hr
    go_enter Try.func29, Try.ntmps29
    go_wp2
    go_loopw [5] (fun iv wr => ∃ k : Nat, iv = .int .i64 k ∧ k ≤ n ∧ Hid (l.take k = r.take k) ∧ Sat w0 wr (slc 3 1 a n c (l.map ival) * (slc 3 1 b n c' (r.map ival) * F))) (fun iv _ => n - (intOf iv).toNat)
    case atStart => exact ⟨0, rfl, by omega, Lib.hid rfl, h⟩
    case round =>
      obtain ⟨k, rfl, hk, hb, hs⟩ := hrel
      by_cases hlt : k < n
      · have hl1 := HL.out
        have ex : l[k]? = some (l[k]'(by omega)) := List.getElem?_eq_getElem _
        have ey : r[k]? = some (r[k]'(by omega)) := List.getElem?_eq_getElem _
        obtain ⟨g, off, rfl, c1, _⟩ := intCells hs ex
        obtain ⟨g2, off2, rfl, c2, _⟩ := intCells hs.p2 ey
        generalize l[k]'(by omega) = x at *
        generalize r[k]'(by omega) = y at *
        have HX := Lib.hid (And.intro ex ey)
        clear ex ey hl1
        by_cases hxy : x = y
        · subst hxy
          go_wp2
          go_region
          go_wp2
          go_round
          case rel =>
            refine ⟨k + 1, by go_num, by omega, Lib.hid ?_, hs⟩
            rw [List.take_add_one, List.take_add_one, hb.out, HX.out.1, HX.out.2]
          case measure => simp [intOf]; omega
        · have hq : (x != y) = true := by simpa using hxy
          go_wp2
          go_region
          go_wp2
          go_ret
          have hne : l ≠ r := fun e => hxy (by have h1 := HX.out.1; rw [e, HX.out.2] at h1; exact (Option.some.inj h1).symm)
          exact ⟨by rw [decide_eq_false hne]; rfl, hs⟩
      · have hkn : k = n := by omega
        subst hkn
        go_wp2
        go_ret
        refine ⟨?_, hs⟩
        have e : l = r := by
          have := hb.out
          have hl1 := HL.out
          rwa [List.take_of_length_le (by omega), List.take_of_length_le (by omega)] at this
        rw [decide_eq_true e]; rfl
  · have hq : ((n : Int) != (m : Int)) = true := by simp; omega
    have hne : l ≠ r := fun e => hnm (by rw [← hl, ← hr, e])
    go_enter Try.func29, Try.ntmps29
    go_wp2
    go_ret
    exact ⟨by rw [decide_eq_false hne]; rfl, h⟩
end
end Go.Proofs.Ytmngkodejlhalaa.Tw
