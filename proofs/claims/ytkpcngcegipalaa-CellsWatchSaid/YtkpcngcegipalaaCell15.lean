/- The heap of cells: Copy. No condition. -/
import Derived.Test.YtkpcngcegipalaaCell14
import Derived.Test.YtkpcngcegipalaaIter
namespace Go.Proofs.Ytkpcngcegipalaa.Tw
set_option linter.unusedVariables false
set_option linter.unusedSimpArgs false
open Go Go.RowKit Go.MapKept

/-- what was made beside old blocks that stay as they were -/
theorem Sat.lift {w0 w w' : World} {X G : HP} (h : Sat w w' (X * Old w)) (hg : Sat w0 w G) : Sat w0 w' (X * G) := by
  obtain ⟨⟨a1, a2, a3, a4⟩, x, ⟨y, z, dj, rfl, hy, hz⟩, r⟩ := h
  obtain ⟨⟨b1, b2, b3, b4⟩, g, hgg, rg⟩ := hg
  refine ⟨⟨a1.trans b1, a2.trans b2, a3.trans b3, Nat.le_trans b4 a4⟩, join y g, ⟨y, g, ?_, rfl, hy, hgg⟩, ?_⟩
  · intro k
    rcases dj k with e | e
    · exact .inl e
    · cases hk : g k with
      | none => exact .inr rfl
      | some o =>
        have h1 := rg k o hk
        have hlt : k < w.heap.size := (Array.getElem?_eq_some_iff.1 h1).1
        have := hz k hlt
        rw [e, h1] at this
        cases this
  · intro k o e
    unfold join at e
    cases hy' : y k with
    | some v =>
      rw [hy'] at e
      exact r k o (by unfold join; rw [hy']; exact e)
    | none =>
      rw [hy'] at e
      have hg' : g k = some o := by simpa using e
      have h1 := rg k o hg'
      have hlt : k < w.heap.size := (Array.getElem?_eq_some_iff.1 h1).1
      exact r k o (by unfold join; rw [hy', hz k hlt, h1]; rfl)

theorem clone_vals_U {w : World} {a : Option Addr} {n c : Nat} {xs : List Value} (hx : xs.length = n * 2) (hsrc : (∀ ad, a = some ad → ∀ j u, xs[j]? = some u → w.cell? (ad.add j) = some u) ∧ (a = none → n = 0 ∧ c = 0)) (hn : n ≤ 2000000000) (h1 : ∀ v ∈ xs, v.oneCell' = true) :
    Calls Try.prog 81 #[.slice a n c] w fun e w' => ∃ a' c', e = .returned (.slice a' n c') ∧ Sat w w' (slc 28 2 a' n c' xs * Old w) := by
  obtain ⟨i0, hi, hz0, hz1, hz2⟩ := info_parts info_val
  have hq : ∀ (w : World) (a : Option Addr) (n c : Nat), (binOp .eql 37 (.slice a n c) (.slice none 0 0)).run Try.prog w = .ok (.bool a.isNone) w := fun w a n c => Lib.run_eql_slice_nil w _ _ _ _ _ 0 0 Try.underlying37
  have h := Sat.refl w
  cases a with
  | none =>
    obtain ⟨rfl, rfl⟩ := hsrc.2 rfl
    have : xs = [] := List.eq_nil_of_length_eq_zero (by simpa using hx)
    subst this
    go_enter Try.func81, Try.ntmps81
    go_wp2
    go_ret
    exact ⟨none, 0, rfl, h.nilSlc⟩
  | some ad =>
    have HC := Lib.hid (hsrc.1 ad rfl)
    have hcl : ∀ j u, xs[j]? = some u → (w.alloc (.cells #[] 28)).cell? (ad.add j) = some u := fun j u hj => by
      have hw : Sat w (w.alloc (.cells #[] 28)) (Old w * _) := (h.alloc (.cells #[] 28)).swap
      exact hw.oldCell (HC.out j u hj)
    have HCL := Lib.hid hcl
    clear hcl hsrc
    go_enter Try.func81, Try.ntmps81
    go_wp2_with (at_builtin; refine wpList_append rfl _ _ 37 rfl i0 (.agg #[.int .i64 0, .int .i64 0]) 16 Try.underlying37 hi hz0 hz1 hz2 rfl (some ⟨w.heap.size, 0, none⟩) 0 0 [] rfl (emptySlcV h) ad n c xs rfl (by omega) HCL.out h1 (by unfold maxLen; omega) (by omega) ?_; intro a' c' w1 hs1 hne)
    go_ret
    rw [Nat.zero_add, List.nil_append] at hs1
    exact ⟨a', c', rfl, hs1⟩

theorem heap_find_U {w : World} {p b mb : Nat} {n : Int} (c1 : w.cell? ⟨p, 1, none⟩ = some (.map (some mb))) (hl : (Instr.lookup 86 (.map (some mb)) (.int .i64 n) false).run Try.prog w = .ok (.pointer (some ⟨b, 0, none⟩)) w) :
    Calls Try.prog 80 #[.pointer (some ⟨p, 0, none⟩), .int .i64 n] w fun e w' => e = .returned (.tuple #[.pointer (some ⟨b, 0, none⟩), .int .i64 0]) ∧ w = w' := by
  go_enter Try.func80, Try.ntmps80
  go_wp2
  go_ret2
  exact ⟨rfl, rfl⟩
/-- Obj, where only facts on cells are at hand -/
theorem heap_Obj_U {w : World} {p b mb : Nat} {n : Int} {x : XObj} (p1 : (w.alloc (.cells #[.int .i64 0, .int .i64 0, .slice none 0 0, .string (ByteArray.mk #[]), .int .i64 0] 39)).cell? ⟨p, 1, none⟩ = some (.map (some mb))) (hl : (Instr.lookup 86 (.map (some mb)) (.int .i64 n) false).run Try.prog (w.alloc (.cells #[.int .i64 0, .int .i64 0, .slice none 0 0, .string (ByteArray.mk #[]), .int .i64 0] 39)) = .ok (.pointer (some ⟨b, 0, none⟩)) (w.alloc (.cells #[.int .i64 0, .int .i64 0, .slice none 0 0, .string (ByteArray.mk #[]), .int .i64 0] 39)))
    (hc : ∀ j v, (xcells x)[j]? = some v → (w.alloc (.cells #[.int .i64 0, .int .i64 0, .slice none 0 0, .string (ByteArray.mk #[]), .int .i64 0] 39)).cell? ⟨b, j, none⟩ = some v) (hsrc : (∀ ad, x.2.1 = some ad → ∀ j u, (avcells x.1.slots)[j]? = some u → (w.alloc (.cells #[.int .i64 0, .int .i64 0, .slice none 0 0, .string (ByteArray.mk #[]), .int .i64 0] 39)).cell? (ad.add j) = some u) ∧ (x.2.1 = none → x.1.slots.length = 0 ∧ x.2.2 = 0)) (hn : x.1.slots.length ≤ 2000000000) :
    Calls Try.prog 23 #[.pointer (some ⟨p, 0, none⟩), .int .i64 n] w fun e w' => ∃ a c, e = .returned (objV x.1 a c) ∧ Sat w w' (slc 28 2 a x.1.slots.length c (avcells x.1.slots) * Old w) := by
  obtain ⟨o, a, c⟩ := x
  obtain ⟨kd, ct, sl, tx, mk⟩ := o
  have h0 := (Sat.refl w).alloc (.cells #[.int .i64 0, .int .i64 0, .slice none 0 0, .string (ByteArray.mk #[]), .int .i64 0] 39)
  have h1 := h0.alloc (.cells #[.int .i64 kd, .int .i64 ct, .slice a sl.length c, .string tx, .int .i64 mk] 39)
  rw [size_alloc] at h1
  have c0 : (w.alloc (.cells #[.int .i64 0, .int .i64 0, .slice none 0 0, .string (ByteArray.mk #[]), .int .i64 0] 39)).cell? ⟨b, 0, none⟩ = some (.int .i64 kd) := hc 0 _ rfl
  have c1 : (w.alloc (.cells #[.int .i64 0, .int .i64 0, .slice none 0 0, .string (ByteArray.mk #[]), .int .i64 0] 39)).cell? ⟨b, 1, none⟩ = some (.int .i64 ct) := hc 1 _ rfl
  have c2 : (w.alloc (.cells #[.int .i64 0, .int .i64 0, .slice none 0 0, .string (ByteArray.mk #[]), .int .i64 0] 39)).cell? ⟨b, 2, none⟩ = some (.slice a sl.length c) := hc 2 _ rfl
  have c3 : (w.alloc (.cells #[.int .i64 0, .int .i64 0, .slice none 0 0, .string (ByteArray.mk #[]), .int .i64 0] 39)).cell? ⟨b, 3, none⟩ = some (.string tx) := hc 3 _ rfl
  have c4 : (w.alloc (.cells #[.int .i64 0, .int .i64 0, .slice none 0 0, .string (ByteArray.mk #[]), .int .i64 0] 39)).cell? ⟨b, 4, none⟩ = some (.int .i64 mk) := hc 4 _ rfl
  have HF := Lib.hid (heap_find_U p1 hl)
  have d2 := Lib.cell?_alloc_some (.cells #[.int .i64 kd, .int .i64 ct, .slice a sl.length c, .string tx, .int .i64 mk] 39) c2
  have hold := fun ad v (hv : (w.alloc (.cells #[.int .i64 0, .int .i64 0, .slice none 0 0, .string (ByteArray.mk #[]), .int .i64 0] 39)).cell? ad = some v) => Lib.cell?_alloc_some (.cells #[.int .i64 kd, .int .i64 ct, .slice a sl.length c, .string tx, .int .i64 mk] 39) hv
  have HCl := Lib.hid (clone_vals_U (w := (w.alloc (.cells #[.int .i64 0, .int .i64 0, .slice none 0 0, .string (ByteArray.mk #[]), .int .i64 0] 39)).alloc (.cells #[.int .i64 kd, .int .i64 ct, .slice a sl.length c, .string tx, .int .i64 mk] 39)) (a := a) (n := sl.length) (c := c) (avcells_length sl) ⟨fun ad e j u hj => hold _ _ (hsrc.1 ad e j u hj), hsrc.2⟩ hn (oneCell_avcells sl))
  clear hc hsrc hold hl p1
  generalize hbx : w.heap.size = bx at *
  go_enter Try.func23, Try.ntmps23
  try rw [hbx]
  go_wp2_with fail
  refine HF.out.mono ?_
  rintro e w1 ⟨rfl, rfl⟩
  go_wp2_with fail
  refine HCl.out.mono ?_
  rintro e w2 ⟨a', c', rfl, h3⟩
  have h4 := (h3.lift h1).p2
  have g2 := Sat.free (T := 39) (cs := #[.int .i64 kd, .int .i64 ct, .slice a sl.length c, .string tx, .int .i64 mk]) h4 2
  have gc2 : w2.cell? ⟨bx + 1, 2, none⟩ = some (.slice a sl.length c) := Sat.cell (T := 39) (cs := #[.int .i64 kd, .int .i64 ct, .slice a sl.length c, .string tx, .int .i64 mk]) h4 2 rfl
  have h5 := Sat.store (T := 39) (cs := #[.int .i64 kd, .int .i64 ct, .slice a sl.length c, .string tx, .int .i64 mk]) h4 (i := 2) (.slice a' sl.length c')
  simp only [List.setIfInBounds_toArray, List.set_cons_zero, List.set_cons_succ] at h5
  have e0 : (w2.setCell ⟨bx + 1, 2, none⟩ (.slice a' sl.length c')).cell? ⟨bx + 1, 0, none⟩ = some (.int .i64 kd) := h5.cell 0 rfl
  have e1 : (w2.setCell ⟨bx + 1, 2, none⟩ (.slice a' sl.length c')).cell? ⟨bx + 1, 1, none⟩ = some (.int .i64 ct) := h5.cell 1 rfl
  have e2 : (w2.setCell ⟨bx + 1, 2, none⟩ (.slice a' sl.length c')).cell? ⟨bx + 1, 2, none⟩ = some (.slice a' sl.length c') := h5.cell 2 rfl
  have e3 : (w2.setCell ⟨bx + 1, 2, none⟩ (.slice a' sl.length c')).cell? ⟨bx + 1, 3, none⟩ = some (.string tx) := h5.cell 3 rfl
  have e4 : (w2.setCell ⟨bx + 1, 2, none⟩ (.slice a' sl.length c')).cell? ⟨bx + 1, 4, none⟩ = some (.int .i64 mk) := h5.cell 4 rfl
  have h6 := h5.p3
  have j0 : (w2.setCell ⟨bx + 1, 2, none⟩ (.slice a' sl.length c')).cell? ⟨bx, 0, none⟩ = some (.int .i64 0) := Sat.cell (T := 39) (cs := #[.int .i64 0, .int .i64 0, .slice none 0 0, .string (ByteArray.mk #[]), .int .i64 0]) h6 0 rfl
  have j1 : (w2.setCell ⟨bx + 1, 2, none⟩ (.slice a' sl.length c')).cell? ⟨bx, 1, none⟩ = some (.int .i64 0) := Sat.cell (T := 39) (cs := #[.int .i64 0, .int .i64 0, .slice none 0 0, .string (ByteArray.mk #[]), .int .i64 0]) h6 1 rfl
  have j2 : (w2.setCell ⟨bx + 1, 2, none⟩ (.slice a' sl.length c')).cell? ⟨bx, 2, none⟩ = some (.slice none 0 0) := Sat.cell (T := 39) (cs := #[.int .i64 0, .int .i64 0, .slice none 0 0, .string (ByteArray.mk #[]), .int .i64 0]) h6 2 rfl
  have j3 : (w2.setCell ⟨bx + 1, 2, none⟩ (.slice a' sl.length c')).cell? ⟨bx, 3, none⟩ = some (.string (ByteArray.mk #[])) := Sat.cell (T := 39) (cs := #[.int .i64 0, .int .i64 0, .slice none 0 0, .string (ByteArray.mk #[]), .int .i64 0]) h6 3 rfl
  have j4 : (w2.setCell ⟨bx + 1, 2, none⟩ (.slice a' sl.length c')).cell? ⟨bx, 4, none⟩ = some (.int .i64 0) := Sat.cell (T := 39) (cs := #[.int .i64 0, .int .i64 0, .slice none 0 0, .string (ByteArray.mk #[]), .int .i64 0]) h6 4 rfl
  have i0 := h6.free 0
  have i1 := h6.free 1
  have i2 := h6.free 2
  have i3 := h6.free 3
  have i4 := h6.free 4
  clear c0 c1 c2 c3 c4 d2
  go_wp2_with fail
  try simp only [Exit.inBlock, Exit.then]
  have h7 := h6.store (i := 0) (.int .i64 kd) |>.store (i := 1) (.int .i64 ct) |>.store (i := 2) (.slice a' sl.length c') |>.store (i := 3) (.string tx) |>.store (i := 4) (.int .i64 mk)
  simp only [List.setIfInBounds_toArray, List.set_cons_zero, List.set_cons_succ] at h7
  refine bodyPost_cell rfl rfl (v := objV ⟨kd, ct, sl, tx, mk⟩ a' c') ?_ rfl ⟨a', c', rfl, ?_⟩
  · exact load_obj h7
  exact h7.drop.drop

theorem emptySlcF {w0 w : World} {F : HP} (h : Sat w0 w F) : Sat w0 (w.alloc (.cells #[] 135)) (slc 135 2 (some ⟨w.heap.size, 0, none⟩) 0 0 [] * F) :=
  Sat.shutSlc (h.alloc (.cells #[] 135)) (Nat.le_refl _) (Nat.zero_le _) (by simp) (by simp)
theorem clone_fins {w0 w : World} {F : HP} {a : Option Addr} {n c : Nat} {xs : List Value} (h : Sat w0 w (slc 135 2 a n c xs * F)) (hn : n ≤ 2000000000) (h1 : ∀ v ∈ xs, v.oneCell' = true) :
    Calls Try.prog 85 #[.slice a n c] w fun e w' => ∃ a' c', e = .returned (.slice a' n c') ∧ Sat w0 w' (slc 135 2 a' n c' xs * (slc 135 2 a n c xs * F)) := by
  obtain ⟨i0, hi, hz0, hz1, hz2⟩ := info_parts info_fin
  have hq : ∀ (w : World) (a : Option Addr) (n c : Nat), (binOp .eql 87 (.slice a n c) (.slice none 0 0)).run Try.prog w = .ok (.bool a.isNone) w := fun w a n c => Lib.run_eql_slice_nil w _ _ _ _ _ 0 0 Try.underlying87
  have hlx := h.slcLen
  cases a with
  | none =>
    rcases h.openSlc.2 with ⟨_, rfl, rfl, hF⟩ | ⟨g, off, cur, e, _⟩
    · have : xs = [] := List.eq_nil_of_length_eq_zero (by simpa using hlx)
      subst this
      go_enter Try.func85, Try.ntmps85
      go_wp2
      go_ret
      exact ⟨none, 0, rfl, h.nilSlc⟩
    · cases e
  | some ad =>
    have hcl := h.slcCells
    go_enter Try.func85, Try.ntmps85
    go_wp2_with (at_builtin; refine wpList_append rfl _ _ 87 rfl i0 (.agg #[.int .i64 0, .int .i64 0]) 16 Try.underlying87 hi hz0 hz1 hz2 rfl (some ⟨w.heap.size, 0, none⟩) 0 0 [] rfl (emptySlcF h) ad n c xs rfl (by omega) (emptySlcF h).slcCells2 h1 (by unfold maxLen; omega) (by omega) ?_; intro a' c' w1 hs1 hne)
    go_ret
    rw [Nat.zero_add, List.nil_append] at hs1
    exact ⟨a', c', rfl, hs1⟩
end Go.Proofs.Ytkpcngcegipalaa.Tw
