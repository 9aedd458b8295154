/- CellsPlay's acts, plainly. No condition. -/
import Derived.Test.YtkpcngcegipalaaZPDw27
import Derived.Test.YtkpcngcegipalaaZPDw40
import Derived.ProofKit
import Derived.OpenShut
import Derived.ChangeOld
import Derived.Test.YtkpcngcegipalaaZPDw16
namespace Go.Proofs.Ytkpcngcegipalaa.Tw
set_option linter.unusedVariables false
set_option linter.unusedSimpArgs false
open Go Go.RowKit Go.MapKept

def slotP (A : AHeap) (x : Act13) : AHeap :=
  if x.what.tmod 5 = 0 then A.pushF x.n x.v
  else if x.what.tmod 5 = 1 then A.popF x.n
  else if x.what.tmod 5 = 2 then A
  else if x.what.tmod 5 = 3 then A.swapF x.n x.i x.v
  else A.layF x.n (x.l.take 20)
def actPl (A : AHeap) (x : Act13) : AHeap :=
  if x.what = 0 ∨ x.what = 1 then A.makeF x.i (txc x.tx 5000)
  else if 2 ≤ x.what ∧ x.what ≤ 13 then actA A x
  else slotP A x
def playPl (l : List Act13) (k : Nat) : AHeap := (l.take k).foldl actPl AHeap.empty
theorem playPl_succ {l : List Act13} {k : Nat} {x : Act13} (h : l[k]? = some x) : playPl l (k + 1) = actPl (playPl l k) x := by
  unfold playPl
  rw [List.take_add_one, h, List.foldl_append]; rfl
theorem HW.slotP {A : AHeap} {B : Int} (h : HW A B) (hB : 20 ≤ B) (x : Act13) : HW (slotP A x) (B + 1) := by
  unfold Tw.slotP
  by_cases h0 : x.what.tmod 5 = 0
  · rw [if_pos h0]; exact h.push _ _
  rw [if_neg h0]
  by_cases h1 : x.what.tmod 5 = 1
  · rw [if_pos h1]; exact (h.pop _).mono (by omega)
  rw [if_neg h1]
  by_cases h2 : x.what.tmod 5 = 2
  · rw [if_pos h2]; exact h.mono (by omega)
  rw [if_neg h2]
  by_cases h3 : x.what.tmod 5 = 3
  · rw [if_pos h3]; exact (h.swap _ _ _).mono (by omega)
  rw [if_neg h3]
  exact (h.lay _ _ (by rw [List.length_take]; omega)).mono (by omega)
theorem HW.actPl {A : AHeap} {B : Int} (h : HW A B) (hB : 20 ≤ B) (x : Act13) : HW (actPl A x) (B + 1) := by
  unfold Tw.actPl
  by_cases h0 : x.what = 0 ∨ x.what = 1
  · rw [if_pos h0]; exact h.make (by omega) _ _
  rw [if_neg h0]
  by_cases h1 : 2 ≤ x.what ∧ x.what ≤ 13
  · rw [if_pos h1]; exact h.act hB x
  rw [if_neg h1]
  exact h.slotP hB x
/-! the watch stays, but where it is laid anew -/
theorem keep_watch (A : AHeap) (v : AVal) : (A.keep v).watch = A.watch := by unfold AHeap.keep; split <;> rfl
theorem drop_watch (A : AHeap) (v : AVal) : (A.drop v).watch = A.watch := by
  unfold AHeap.drop
  split
  · rfl
  · dsimp only
    repeat' split
    all_goals rfl
theorem mark_watch (A : AHeap) (n : Int) : (A.mark n).watch = A.watch := by
  unfold AHeap.mark
  cases A.objs n with
  | none => rfl
  | some o => dsimp only; split <;> rfl
theorem pop_watch (A : AHeap) (n : Int) : (A.popF n).watch = A.watch := by unfold AHeap.popF; repeat' split
                                                                           all_goals rfl
theorem push_watch (A : AHeap) (n : Int) (v : AVal) : (A.pushF n v).watch = A.watch := by unfold AHeap.pushF; repeat' split
                                                                                          all_goals rfl
theorem swap_watch (A : AHeap) (n i : Int) (v : AVal) : (A.swapF n i v).watch = A.watch := by unfold AHeap.swapF; repeat' split
                                                                                              all_goals rfl
theorem lay_watch (A : AHeap) (n : Int) (s : List AVal) : (A.layF n s).watch = A.watch := by unfold AHeap.layF; repeat' split
                                                                                             all_goals rfl
theorem fin_watch (A : AHeap) (n : Int) : (A.finF n).watch = A.watch := by unfold AHeap.finF; repeat' split
                                                                           all_goals rfl
theorem free_watch (A : AHeap) (n : Int) : (A.freeF n).watch = A.watch := by unfold AHeap.freeF; split <;> rfl
theorem make_watch (A : AHeap) (k : Int) (tx : ByteArray) : (A.makeF k tx).watch = A.watch := by unfold AHeap.makeF; split <;> rfl
theorem susp_watch (A : AHeap) (n : Int) : (A.suspF n).watch = A.watch := by unfold AHeap.suspF; split <;> rfl
theorem actA_watch (A : AHeap) (x : Act13) (h : A.watch.length ≤ 2) : (actA A x).watch.length ≤ 2 := by
  unfold actA
  by_cases h0 : x.what = 0 ∨ x.what = 1
  · rw [if_pos h0]; rw [make_watch]; exact h
  rw [if_neg h0]
  by_cases h1 : x.what = 2 ∨ x.what = 3
  · rw [if_pos h1]; rw [keep_watch]; exact h
  rw [if_neg h1]
  by_cases h2 : x.what = 4 ∨ x.what = 5 ∨ x.what = 6
  · rw [if_pos h2]; rw [drop_watch]; exact h
  rw [if_neg h2]
  by_cases h3 : x.what = 7
  · rw [if_pos h3]; rw [free_watch]; exact h
  rw [if_neg h3]
  by_cases h4 : x.what = 8
  · rw [if_pos h4]; rw [mark_watch]; exact h
  rw [if_neg h4]
  by_cases h5 : x.what = 9
  · rw [if_pos h5]; rw [fin_watch]; exact h
  rw [if_neg h5]
  by_cases h6 : x.what = 10
  · rw [if_pos h6]; exact h
  rw [if_neg h6]
  by_cases h7 : x.what = 11
  · rw [if_pos h7]; exact h
  rw [if_neg h7]
  by_cases h8 : x.what = 12
  · rw [if_pos h8]; rw [susp_watch]; exact h
  rw [if_neg h8]
  by_cases h9 : x.what = 13
  · rw [if_pos h9]; exact Nat.le_refl _
  rw [if_neg h9]
  by_cases h10 : x.what = 14
  · rw [if_pos h10]; rw [push_watch]; exact h
  rw [if_neg h10]
  by_cases h11 : x.what = 15
  · rw [if_pos h11]; rw [pop_watch]; exact h
  rw [if_neg h11]
  by_cases h12 : x.what = 16
  · rw [if_pos h12]; rw [swap_watch]; exact h
  rw [if_neg h12]
  rw [lay_watch]; exact h
theorem slotP_watch (A : AHeap) (x : Act13) (h : A.watch.length ≤ 2) : (slotP A x).watch.length ≤ 2 := by
  unfold slotP
  by_cases h0 : x.what.tmod 5 = 0
  · rw [if_pos h0]; rw [push_watch]; exact h
  rw [if_neg h0]
  by_cases h1 : x.what.tmod 5 = 1
  · rw [if_pos h1]; rw [pop_watch]; exact h
  rw [if_neg h1]
  by_cases h2 : x.what.tmod 5 = 2
  · rw [if_pos h2]; exact h
  rw [if_neg h2]
  by_cases h3 : x.what.tmod 5 = 3
  · rw [if_pos h3]; rw [swap_watch]; exact h
  rw [if_neg h3]
  rw [lay_watch]; exact h
theorem actPl_watch (A : AHeap) (x : Act13) (h : A.watch.length ≤ 2) : (actPl A x).watch.length ≤ 2 := by
  unfold actPl
  by_cases h0 : x.what = 0 ∨ x.what = 1
  · rw [if_pos h0, make_watch]; exact h
  rw [if_neg h0]
  by_cases h1 : 2 ≤ x.what ∧ x.what ≤ 13
  · rw [if_pos h1]; exact actA_watch A x h
  rw [if_neg h1]
  exact slotP_watch A x h
theorem playPl_ok (l : List Act13) : ∀ k, HW (playPl l k) (20 + k) ∧ (playPl l k).watch.length ≤ 2
  | 0 => ⟨HW.empty.mono (by omega), by simp [playPl, AHeap.empty]⟩
  | k + 1 => by
    obtain ⟨h1, h2⟩ := playPl_ok l k
    cases h : l[k]? with
    | none =>
      have e : playPl l (k + 1) = playPl l k := by unfold playPl; rw [List.take_add_one, h]; simp
      rw [e]
      exact ⟨h1.mono (by omega), h2⟩
    | some x =>
      rw [playPl_succ h]
      exact ⟨(h1.actPl (by omega) x).mono (by omega), actPl_watch _ x h2⟩
end Go.Proofs.Ytkpcngcegipalaa.Tw
namespace Go.Proofs.Ytkpcngcegipalaa.Tw
set_option linter.unusedVariables false
set_option linter.unusedSimpArgs false
open Go Go.RowKit Go.MapKept

/-- an act as it lies: its values' slice -/
structure RAct where
  x : Act13
  la : Option Addr
  lc : Nat
def rcells (r : RAct) : List Value := [.int .i64 r.x.what, .int .i64 r.x.n, .int .i64 r.x.i, .int .i64 r.x.v.kind, .int .i64 r.x.v.n, .slice r.la r.x.l.length r.lc, .string r.x.tx]
def racells (rs : List RAct) : List Value := (rs.map rcells).flatten
theorem racells_get : ∀ {rs : List RAct} {k : Nat} {r : RAct}, rs[k]? = some r → ∀ j v, (rcells r)[j]? = some v → (racells rs)[k * 7 + j]? = some v
  | [], k, r, h, _, _, _ => by simp at h
  | y :: rs, 0, r, h, j, v, hj => by
    simp at h; subst h
    show (rcells y ++ racells rs)[0 * 7 + j]? = _
    rw [List.getElem?_append_left (by have := (List.getElem?_eq_some_iff.1 hj).1; omega), Nat.zero_mul, Nat.zero_add]; exact hj
  | y :: rs, k + 1, r, h, j, v, hj => by
    simp at h
    have := racells_get h j v hj
    show (rcells y ++ racells rs)[(k + 1) * 7 + j]? = _
    rw [List.getElem?_append_right (by show 7 ≤ _; omega)]
    show (racells rs)[(k + 1) * 7 + j - 7]? = _
    rw [show (k + 1) * 7 + j - 7 = k * 7 + j by omega]; exact this
section
variable {w0 w : World} {F CR : HP}
theorem srcV_take {SR : HP} {a : Option Addr} {n c k : Nat} {l : List AVal} (h : SrcV w0 SR a n c l) (hk : k ≤ l.length) : SrcV w0 SR a k c (l.take k) := by
  obtain ⟨h1, h2, h3, h4, h5⟩ := h
  refine ⟨fun w' G hs j x hx => h1 w' G hs j x ?_, by rw [List.length_take]; omega, fun e => ?_, by omega, h5⟩
  · rw [List.getElem?_take] at hx
    split at hx
    · exact hx
    · cases hx
  · have := h3 e; omega
end
end Go.Proofs.Ytkpcngcegipalaa.Tw
namespace Go.Proofs.Ytkpcngcegipalaa.Tw
set_option linter.unusedVariables false
set_option linter.unusedSimpArgs false
open Go Go.RowKit Go.MapKept Go.ChangeShapes Go.WideShapes Go.Deep

section
variable {H : Type} {enc : TypeId × Value → H} {w : World} {base : Nat} {held : Bool} {fuel : Nat} {cs : List Value} {x : DataW H × List MemPlace}
theorem open_recs_nil {P : Program} {T e : TypeId} (hT : P.underlying T = some (.slice e)) {spare : Nat → Bool} {len cap : Nat}
    (h : DataW.trod enc P w base spare held fuel T [.slice none len cap] = some x) : len = 0 ∧ cap = 0 := by
  rcases open_slice hT h with ⟨hcs, _⟩ | ⟨ad, l, c, m, n, D, Pl, hcs, _⟩
  · simp at hcs; exact hcs
  · simp at hcs
theorem val_cells {spare : Nat → Bool} (h : DataW.trod enc Try.prog w base spare held fuel 28 cs = some x) : ∃ v : AVal, cs = v.cells := by
  obtain ⟨y0, y1, n, _, hl, g0, g1⟩ := trod_struct2 Try.underlying28 h
  have h2 : Try.prog.cellsOf 28 = 2 := by kernel_rfl
  have k0 : Try.prog.cellsOf 3 = 1 := by kernel_rfl
  have k1 : Try.prog.cellsOf 2 = 1 := by kernel_rfl
  rw [h2] at hl
  obtain ⟨v0, v1, rfl⟩ : ∃ v0 v1, cs = [v0, v1] := by
    rcases cs with _ | ⟨v0, _ | ⟨v1, _ | ⟨v2, r⟩⟩⟩
    · simp at hl
    · simp at hl
    · exact ⟨v0, v1, rfl⟩
    · simp at hl
  simp only [k0, k1, List.drop_zero, List.drop_succ_cons, List.take_succ_cons, List.take_zero] at g0 g1
  obtain ⟨p, e0, _, _⟩ := DataW.trod_int Try.underlying3 g0
  obtain ⟨q, e1, _, _⟩ := DataW.trod_int Try.underlying2 g1
  simp at e0 e1
  exact ⟨⟨p, q⟩, by rw [e0, e1]; rfl⟩
/-- an argument that is a slice of values -/
theorem open_vals {a : Option Addr} {len cap : Nat} (h : DataW.trod enc Try.prog w base (fun _ => true) held fuel 37 [.slice a len cap] = some x) : ∃ l : List AVal, SrcV w (Old w) a len cap l := by
  obtain ⟨h1, h2, css, h3, h4, h5⟩ := open_recs Try.underlying37 (show Try.prog.cellsOf 28 = 2 by kernel_rfl) (by omega) (E := fun cs => ∃ v : AVal, True ∧ cs = v.cells) (fun _ _ _ hh => by obtain ⟨v, e⟩ := val_cells hh; exact ⟨v, trivial, e⟩) h
  obtain ⟨l, rfl, _⟩ := of_forall_ex (f := AVal.cells) (R := fun _ => True) css h4
  rw [List.length_map] at h3
  have e : (l.map AVal.cells).flatten = avcells l := by unfold avcells; rw [List.flatMap_def]
  rw [e] at h5
  refine ⟨l, fun w' G hs k y hk => ?_, h3, fun ea => ?_, h1, h2⟩
  · obtain ⟨e0, e1⟩ := avcells_get l k y hk
    obtain ⟨g, off, ea, c0⟩ := h5 w' G _ _ hs e0
    obtain ⟨g1, off1, ea1, c1⟩ := h5 w' G _ _ hs e1
    rw [ea] at ea1; cases ea1
    exact ⟨g, off, ea, c0, by rw [Nat.add_assoc]; exact c1⟩
  · subst ea
    exact open_recs_nil Try.underlying37 h
theorem act_cells (h : DataW.trod enc Try.prog w base (fun _ => true) held fuel 100 cs = some x) : ∃ r : RAct, SrcV w (Old w) r.la r.x.l.length r.lc r.x.l ∧ cs = rcells r := by
  obtain ⟨xs, n, _, rfl, hl, hlen, hf⟩ := DataW.trod_struct Try.underlying100 h
  have h7 : Try.prog.cellsOf 100 = 7 := by kernel_rfl
  have k0 : Try.prog.cellsOf 3 = 1 := by kernel_rfl
  have k3 : Try.prog.cellsOf 28 = 2 := by kernel_rfl
  have k4 : Try.prog.cellsOf 37 = 1 := by kernel_rfl
  have k5 : Try.prog.cellsOf 9 = 1 := by kernel_rfl
  rw [h7] at hl
  obtain ⟨v0, v1, v2, v3, v4, v5, v6, rfl⟩ : ∃ v0 v1 v2 v3 v4 v5 v6, cs = [v0, v1, v2, v3, v4, v5, v6] := by
    rcases cs with _ | ⟨v0, _ | ⟨v1, _ | ⟨v2, _ | ⟨v3, _ | ⟨v4, _ | ⟨v5, _ | ⟨v6, _ | ⟨v7, r⟩⟩⟩⟩⟩⟩⟩⟩ <;> simp at hl
    exact ⟨v0, v1, v2, v3, v4, v5, v6, rfl⟩
  obtain ⟨y0, y1, y2, y3, y4, y5, rfl⟩ : ∃ y0 y1 y2 y3 y4 y5, xs = [y0, y1, y2, y3, y4, y5] := by
    match xs, hlen with
    | [y0, y1, y2, y3, y4, y5], _ => exact ⟨y0, y1, y2, y3, y4, y5, rfl⟩
  have f0 : DataW.trod enc Try.prog w base (fun _ => true) held n 3 ([v0, v1, v2, v3, v4, v5, v6].drop 0 |>.take (Try.prog.cellsOf 3)) = some y0 := hf 0 _ rfl
  rw [k0] at f0
  replace f0 : DataW.trod enc Try.prog w base (fun _ => true) held n 3 [v0] = some y0 := f0
  have f1 : DataW.trod enc Try.prog w base (fun _ => true) held n 3 ([v0, v1, v2, v3, v4, v5, v6].drop 1 |>.take (Try.prog.cellsOf 3)) = some y1 := hf 1 _ rfl
  rw [k0] at f1
  replace f1 : DataW.trod enc Try.prog w base (fun _ => true) held n 3 [v1] = some y1 := f1
  have f2 : DataW.trod enc Try.prog w base (fun _ => true) held n 3 ([v0, v1, v2, v3, v4, v5, v6].drop 2 |>.take (Try.prog.cellsOf 3)) = some y2 := hf 2 _ rfl
  rw [k0] at f2
  replace f2 : DataW.trod enc Try.prog w base (fun _ => true) held n 3 [v2] = some y2 := f2
  have f3 : DataW.trod enc Try.prog w base (fun _ => true) held n 28 ([v0, v1, v2, v3, v4, v5, v6].drop 3 |>.take (Try.prog.cellsOf 28)) = some y3 := hf 3 _ rfl
  rw [k3] at f3
  replace f3 : DataW.trod enc Try.prog w base (fun _ => true) held n 28 [v3, v4] = some y3 := f3
  have f4 : DataW.trod enc Try.prog w base (fun _ => true) held n 37 ([v0, v1, v2, v3, v4, v5, v6].drop 5 |>.take (Try.prog.cellsOf 37)) = some y4 := hf 4 _ rfl
  rw [k4] at f4
  replace f4 : DataW.trod enc Try.prog w base (fun _ => true) held n 37 [v5] = some y4 := f4
  have f5 : DataW.trod enc Try.prog w base (fun _ => true) held n 9 ([v0, v1, v2, v3, v4, v5, v6].drop 6 |>.take (Try.prog.cellsOf 9)) = some y5 := hf 5 _ rfl
  rw [k5] at f5
  replace f5 : DataW.trod enc Try.prog w base (fun _ => true) held n 9 [v6] = some y5 := f5
  obtain ⟨p0, e0, _, _⟩ := DataW.trod_int Try.underlying3 f0
  obtain ⟨p1, e1, _, _⟩ := DataW.trod_int Try.underlying3 f1
  obtain ⟨p2, e2, _, _⟩ := DataW.trod_int Try.underlying3 f2
  obtain ⟨v, e3⟩ := val_cells f3
  obtain ⟨s, e5, _, _⟩ := DataW.trod_string Try.underlying9 f5
  obtain ⟨a, ln, c, rfl⟩ : ∃ a ln c, v5 = .slice a ln c := by
    rcases open_slice Try.underlying37 f4 with ⟨hcs, _⟩ | ⟨ad, l, c, m, n, D, Pl, hcs, _⟩
    · simp at hcs; exact ⟨_, _, _, hcs⟩
    · simp at hcs; exact ⟨_, _, _, hcs⟩
  obtain ⟨l, hS⟩ := open_vals f4
  have hln : l.length = ln := hS.2.1
  subst hln
  simp [AVal.cells] at e0 e1 e2 e3 e5
  refine ⟨⟨⟨p0, p1, p2, v, l, s⟩, a, c⟩, hS, ?_⟩
  rw [e0, e1, e2, e3.1, e3.2, e5]; rfl
/-- an argument: acts in a slice -/
def IsActs13 (w : World) (a : Option Addr) (len cap : Nat) (rs : List RAct) : Prop :=
  rs.length = len ∧ len ≤ cap ∧ cap ≤ maxLen ∧ (∀ r ∈ rs, SrcV w (Old w) r.la r.x.l.length r.lc r.x.l) ∧ ArgAt w (Old w) a (racells rs)
theorem open_acts13 {a : Option Addr} {len cap : Nat} (h : DataW.trod enc Try.prog w base (fun _ => true) held fuel 98 [.slice a len cap] = some x) : ∃ rs, IsActs13 w a len cap rs := by
  obtain ⟨h1, h2, css, h3, h4, h5⟩ := open_recs Try.underlying98 (show Try.prog.cellsOf 100 = 7 by kernel_rfl) (by omega) (fun _ _ _ hh => act_cells hh) h
  obtain ⟨rs, rfl, hr⟩ := of_forall_ex (f := rcells) (R := fun r => SrcV w (Old w) r.la r.x.l.length r.lc r.x.l) css h4
  rw [List.length_map] at h3
  exact ⟨rs, h3, h1, h2, hr, h5⟩
end
end Go.Proofs.Ytkpcngcegipalaa.Tw
namespace Go.Proofs.Ytkpcngcegipalaa.Tw
set_option linter.unusedVariables false
set_option linter.unusedSimpArgs false
open Go Go.RowKit Go.MapKept

section
variable {w0 w : World} {F : HP}
/-- two lists of numbers, as far as k -/
theorem law_ints {a b : Option Addr} {c c' n m : Nat} {l r : List Int} (h : Sat w0 w (slc 3 1 a n c (l.map ival) * (slc 3 1 b m c' (r.map ival) * F))) (hl : l.length = n) (hr : r.length = m) (hn : n ≤ 1000000000) (hm : m ≤ 1000000000) :
    Calls Try.prog 39 #[.slice a n c, .slice b m c'] w fun e w' => e = .returned (.bool (decide (l = r))) ∧ Sat w0 w' (slc 3 1 a n c (l.map ival) * (slc 3 1 b m c' (r.map ival) * F)) := by
  by_cases hnm : n = m
  · subst hnm
    have HL := Lib.hid (And.intro hl hr)
    clear hl hr
    go_enter Try.func39, Try.ntmps39
    go_wp2
    go_loopw [5] (fun iv wr => ∃ k : Nat, iv = .int .i64 k ∧ k ≤ n ∧ Hid (l.take k = r.take k) ∧ Sat w0 wr (slc 3 1 a n c (l.map ival) * (slc 3 1 b n c' (r.map ival) * F))) (fun iv _ => n - (intOf iv).toNat)
    case atStart => exact ⟨0, rfl, by omega, Lib.hid rfl, h⟩
    case round =>
      obtain ⟨k, rfl, hk, hb, hs⟩ := hrel
      by_cases hlt : k < n
      · have hl1 := HL.out
        have ex : l[k]? = some (l[k]'(by omega)) := List.getElem?_eq_getElem _
        have ey : r[k]? = some (r[k]'(by omega)) := List.getElem?_eq_getElem _
        obtain ⟨g, off, rfl, c1, _⟩ := intCells hs ex
        obtain ⟨g2, off2, rfl, c2, _⟩ := intCells hs.p2 ey
        generalize l[k]'(by omega) = x at *
        generalize r[k]'(by omega) = y at *
        have HX := Lib.hid (And.intro ex ey)
        clear ex ey hl1
        by_cases hxy : x = y
        · subst hxy
          go_wp2
          go_region
          go_wp2
          go_round
          case rel =>
            refine ⟨k + 1, by go_num, by omega, Lib.hid ?_, hs⟩
            rw [List.take_add_one, List.take_add_one, hb.out, HX.out.1, HX.out.2]
          case measure => simp [intOf]; omega
        · have hq : (x != y) = true := by simpa using hxy
          go_wp2
          go_region
          go_wp2
          go_ret
          have hne : l ≠ r := fun e => hxy (by have h1 := HX.out.1; rw [e, HX.out.2] at h1; exact (Option.some.inj h1).symm)
          exact ⟨by rw [decide_eq_false hne]; rfl, hs⟩
      · have hkn : k = n := by omega
        subst hkn
        go_wp2
        go_ret
        refine ⟨?_, hs⟩
        have e : l = r := by
          have := hb.out
          have hl1 := HL.out
          rwa [List.take_of_length_le (by omega), List.take_of_length_le (by omega)] at this
        rw [decide_eq_true e]; rfl
  · have hq : ((n : Int) != (m : Int)) = true := by simp; omega
    have hne : l ≠ r := fun e => hnm (by rw [← hl, ← hr, e])
    go_enter Try.func39, Try.ntmps39
    go_wp2
    go_ret
    exact ⟨by rw [decide_eq_false hne]; rfl, h⟩
theorem Sat.lit {b n : Nat} {L : List Int} (h : Sat w0 w (pt b (.cells (L.map ival).toArray 3 (0, 0)) * F)) (hl : L.length = n) (hn : n ≤ 1000000) : Sat w0 w (slc 3 1 (some ⟨b, 0, none⟩) n n (L.map ival) * F) := by
  subst hl
  exact Sat.shutSlc h (Nat.le_refl _) (by unfold maxLen; omega) (by simp) (by simp only [List.drop_zero, Nat.mul_one]; exact List.take_of_length_le (by simp))
theorem ints_same {a b : Option Addr} {c c' n : Nat} {L : List Int} (h : Sat w0 w (slc 3 1 b n c' (L.map ival) * (slc 3 1 a n c (L.map ival) * F))) (hl : L.length = n) (hn : n ≤ 1000000) :
    Calls Try.prog 39 #[.slice a n c, .slice b n c'] w fun e w' => e = .returned (.bool true) ∧ Sat w0 w' F := by
  refine (law_ints h.p2 hl hl (by omega) (by omega)).mono ?_
  rintro e w' ⟨rfl, h2⟩
  exact ⟨by rw [decide_eq_true rfl], h2.drop.drop⟩
end
theorem HW.drain {A : AHeap} {B : Int} (h : HW A B) : ∀ (n : Nat), HW (drainN n A).2 B := by
  intro n
  induction n generalizing A with
  | zero => exact h
  | succ n ih =>
    unfold drainN
    split
    · exact h
    · exact ih h.step
section
variable {w0 w : World} {p : Nat} {A : AHeap} {F : HP} {B : Int}
theorem c_Make (H : HW A B) (hB : B ≤ 1000000) (h : Sat w0 w (heapR mN p A * F)) (k : Int) (tx : ByteArray) {v : AVal} (hv : A.makeV k tx = v) :
    Calls Try.prog 25 #[.pointer (some ⟨p, 0, none⟩), .int .i64 k, .string tx] w fun e w' => e = .returned (.agg #[.int .i64 v.kind, .int .i64 v.n]) ∧ Sat w0 w' (heapR mN p (A.makeF k tx) * F) := hv ▸ t_Make H hB h k tx
theorem c_Queue (H : HW A B) (hB : B ≤ 1000000) (h : Sat w0 w (heapR mN p A * F)) {L : List Int} {n : Nat} (hL : A.queue = L) (hn : L.length = n) :
    Calls Try.prog 35 #[.pointer (some ⟨p, 0, none⟩)] w fun e w' => ∃ a c, e = .returned (.slice a n c) ∧ Sat w0 w' (slc 3 1 a n c (L.map ival) * (heapR mN p A * F)) := by
  have hql := H.ql
  refine (heap_Queue h (by omega)).mono ?_
  rintro e w' ⟨a, c, rfl, h2⟩
  rw [hL, hn] at h2
  exact ⟨a, c, by rw [hL, hn], h2⟩
theorem c_Fins (H : HW A B) (hB : B ≤ 1000000) (h : Sat w0 w (heapR mN p A * F)) {L : List Int} {n : Nat} (hL : A.fins.map (·.1) = L) (hn : L.length = n) :
    Calls Try.prog 40 #[.pointer (some ⟨p, 0, none⟩)] w fun e w' => ∃ a c, e = .returned (.slice a n c) ∧ Sat w0 w' (slc 3 1 a n c (L.map ival) * (heapR mN p A * F)) := by
  have hfl := H.fl
  have e2 : A.fins.length = n := by rw [← hn, ← hL, List.length_map]
  refine (heap_Fins h (by omega)).mono ?_
  rintro e w' ⟨a, c, rfl, h2⟩
  rw [hL, e2] at h2
  exact ⟨a, c, by rw [e2], h2⟩
theorem c_Drain (H : HW A B) (hB : B ≤ 1000000) (n : Int) (hn : n ≤ 9223372036854775807) (h : Sat w0 w (heapR mN p A * F)) {k : Int} {A' : AHeap} (hk : ((drainN n.toNat A).1 : Int) = k) (hA : (drainN n.toNat A).2 = A') :
    Calls Try.prog 34 #[.pointer (some ⟨p, 0, none⟩), .int .i64 n] w fun e w' => e = .returned (.int .i64 k) ∧ Sat w0 w' (heapR mN p A' * F) := by
  subst hk; subst hA; exact w_Drain H hB n hn h
end
def tx0 : ByteArray := ByteArray.mk #[]
def two2 : AHeap := ((AHeap.empty.makeF 6 tx0).makeF 6 tx0).pushF 1 ⟨6, 2⟩
def twoA (mk : Bool) : AHeap := (if mk then two2.mark 1 else two2).drop ⟨6, 1⟩
theorem hw_two2 : HW two2 4 := ((((HW.empty.mono (show (0 : Int) ≤ 1 by omega)).make (by omega) 6 tx0).make (by omega) 6 tx0).push 1 ⟨6, 2⟩).mono (by omega)
theorem hw_twoA (mk : Bool) : HW (twoA mk) 5 := by
  unfold twoA
  refine HW.drop ?_ _
  split
  · exact (hw_two2.mark 1).mono (by omega)
  · exact hw_two2.mono (by omega)
section
variable {w0 w : World} {F : HP}
set_option maxRecDepth 100000 in
set_option maxHeartbeats 2000000 in
theorem law_two (mk : Bool) (h : Sat w0 w F) : Calls Try.prog 41 #[.bool mk] w fun e w' => ∃ p, e = .returned (.pointer (some ⟨p, 0, none⟩)) ∧ Sat w0 w' (heapR mN p (twoA mk) * F) := by
  have H0 := HW.empty.mono (show (0 : Int) ≤ 1 by omega)
  have H1 := H0.make (by omega) 6 tx0
  have H2 := H1.make (by omega) 6 tx0
  have hx := hw_two2
  cases mk
  all_goals
    go_enter Try.func41, Try.ntmps41
    go_wp2_with fail
    refine (heap_New h).mono ?_
    rintro e w1 ⟨p, rfl, h1⟩
    go_wp2_with fail
    refine (c_Make H0 (by omega) (h1 mN) 6 tx0 (v := ⟨6, 1⟩) (by decide +kernel)).mono ?_
    rintro e w2 ⟨rfl, h2⟩
    have h2 := h2.alloc (.cells #[.int .i64 6, .int .i64 1] 28)
    have H2a := Lib.hid h2.p2
    have va := Sat.cell (T := 28) (cs := #[.int .i64 6, .int .i64 1]) h2 0 rfl
    clear h1 h2
    generalize hba : w2.heap.size = ba at *
    go_wp2_with fail
    refine (c_Make H1 (by omega) H2a.out 6 tx0 (v := ⟨6, 2⟩) (by decide +kernel)).mono ?_
    rintro e w3 ⟨rfl, h3⟩
    have h4 := h3.alloc (.cells #[.int .i64 6, .int .i64 2] 28)
    have b0 : (w3.alloc (.cells #[.int .i64 6, .int .i64 2] 28)).cell? ⟨w3.heap.size, 0, none⟩ = some (.int .i64 6) := Sat.cell (T := 28) (cs := #[.int .i64 6, .int .i64 2]) h4 0 rfl
    have b1 : (w3.alloc (.cells #[.int .i64 6, .int .i64 2] 28)).cell? ⟨w3.heap.size, 1, none⟩ = some (.int .i64 2) := Sat.cell (T := 28) (cs := #[.int .i64 6, .int .i64 2]) h4 1 rfl
    have HP := Lib.hid (t_Push H2 (by omega) (knowsN _) h4.p2 1 ⟨6, 2⟩)
    clear h3 h4
    go_wp2_with fail
    refine HP.out.mono ?_
    rintro e w4 ⟨rfl, h5⟩
    have h6 : Sat w0 w4 (pt ba (.cells #[.int .i64 6, .int .i64 1] 28 (0, 0)) * (heapR mN p two2 * F)) := h5.p2.drop.p2
    clear h5
  · have a0 : w4.cell? ⟨ba, 0, none⟩ = some (.int .i64 6) := Sat.cell (T := 28) (cs := #[.int .i64 6, .int .i64 1]) h6 0 rfl
    have a1 : w4.cell? ⟨ba, 1, none⟩ = some (.int .i64 1) := Sat.cell (T := 28) (cs := #[.int .i64 6, .int .i64 1]) h6 1 rfl
    have HD := Lib.hid (t_Drop hx (by omega) (knowsN _) h6.drop ⟨6, 1⟩)
    clear h6
    go_wp2_with fail
    refine HD.out.mono ?_
    rintro e w5 ⟨rfl, h7⟩
    go_wp2
    go_ret
    exact ⟨p, rfl, h7⟩
  · have HMk := Lib.hid (t_Mark hx (by omega) (knowsN _) h6.p2 1)
    clear h6
    go_wp2_with fail
    refine HMk.out.mono ?_
    rintro e w5 ⟨rfl, h7⟩
    have h8 := h7.p2
    have a0 : w5.cell? ⟨ba, 0, none⟩ = some (.int .i64 6) := Sat.cell (T := 28) (cs := #[.int .i64 6, .int .i64 1]) h8 0 rfl
    have a1 : w5.cell? ⟨ba, 1, none⟩ = some (.int .i64 1) := Sat.cell (T := 28) (cs := #[.int .i64 6, .int .i64 1]) h8 1 rfl
    have HD := Lib.hid (t_Drop (hx.mark 1) (by omega) (knowsN _) h8.drop ⟨6, 1⟩)
    clear h7 h8
    go_wp2_with fail
    refine HD.out.mono ?_
    rintro e w6 ⟨rfl, h9⟩
    go_wp2
    go_ret
    exact ⟨p, rfl, h9⟩
end
end Go.Proofs.Ytkpcngcegipalaa.Tw
