/- The heap of cells: Copy. No condition. -/
import Derived.Test.YtkpcngcegipalaaZPIn13
import Derived.Test.YtkpcngcegipalaaZPIn6
import Derived.IntWalk
namespace Go.Proofs.Ytkpcngcegipalaa.Tw
set_option linter.unusedVariables false
set_option linter.unusedSimpArgs false
open Go Go.RowKit Go.MapKept

/-- what was made beside old blocks that stay as they were -/
theorem Sat.lift {w0 w w' : World} {X G : HP} (h : Sat w w' (X * Old w)) (hg : Sat w0 w G) : Sat w0 w' (X * G) := by
  obtain ⟨⟨a1, a2, a3, a4⟩, x, ⟨y, z, dj, rfl, hy, hz⟩, r⟩ := h
  obtain ⟨⟨b1, b2, b3, b4⟩, g, hgg, rg⟩ := hg
  refine ⟨⟨a1.trans b1, a2.trans b2, a3.trans b3, Nat.le_trans b4 a4⟩, join y g, ⟨y, g, ?_, rfl, hy, hgg⟩, ?_⟩
  · intro k
    rcases dj k with e | e
    · exact .inl e
    · cases hk : g k with
      | none => exact .inr rfl
      | some o =>
        have h1 := rg k o hk
        have hlt : k < w.heap.size := (Array.getElem?_eq_some_iff.1 h1).1
        have := hz k hlt
        rw [e, h1] at this
        cases this
  · intro k o e
    unfold join at e
    cases hy' : y k with
    | some v =>
      rw [hy'] at e
      exact r k o (by unfold join; rw [hy']; exact e)
    | none =>
      rw [hy'] at e
      have hg' : g k = some o := by simpa using e
      have h1 := rg k o hg'
      have hlt : k < w.heap.size := (Array.getElem?_eq_some_iff.1 h1).1
      exact r k o (by unfold join; rw [hy', hz k hlt, h1]; rfl)

theorem clone_vals_U {w : World} {a : Option Addr} {n c : Nat} {xs : List Value} (hx : xs.length = n * 2) (hsrc : (∀ ad, a = some ad → ∀ j u, xs[j]? = some u → w.cell? (ad.add j) = some u) ∧ (a = none → n = 0 ∧ c = 0)) (hn : n ≤ 2000000000) (h1 : ∀ v ∈ xs, v.oneCell' = true) :
    Calls Try.prog 81 #[.slice a n c] w fun e w' => ∃ a' c', e = .returned (.slice a' n c') ∧ Sat w w' (slc 28 2 a' n c' xs * Old w) := by
  obtain ⟨i0, hi, hz0, hz1, hz2⟩ := info_parts info_val
  have hq : ∀ (w : World) (a : Option Addr) (n c : Nat), (binOp .eql 37 (.slice a n c) (.slice none 0 0)).run Try.prog w = .ok (.bool a.isNone) w := fun w a n c => Lib.run_eql_slice_nil w _ _ _ _ _ 0 0 Try.underlying37
  have h := Sat.refl w
  cases a with
  | none =>
    obtain ⟨rfl, rfl⟩ := hsrc.2 rfl
    have : xs = [] := List.eq_nil_of_length_eq_zero (by simpa using hx)
    subst this
    go_enter Try.func81, Try.ntmps81
    go_wp2
    go_ret
    exact ⟨none, 0, rfl, h.nilSlc⟩
  | some ad =>
    have HC := Lib.hid (hsrc.1 ad rfl)
    have hcl : ∀ j u, xs[j]? = some u → (w.alloc (.cells #[] 28)).cell? (ad.add j) = some u := fun j u hj => by
      have hw : Sat w (w.alloc (.cells #[] 28)) (Old w * _) := (h.alloc (.cells #[] 28)).swap
      exact hw.oldCell (HC.out j u hj)
    have HCL := Lib.hid hcl
    clear hcl hsrc
    go_enter Try.func81, Try.ntmps81
    go_wp2_with (at_builtin; refine wpList_append rfl _ _ 37 rfl i0 (.agg #[.int .i64 0, .int .i64 0]) 16 Try.underlying37 hi hz0 hz1 hz2 rfl (some ⟨w.heap.size, 0, none⟩) 0 0 [] rfl (emptySlcV h) ad n c xs rfl (by omega) HCL.out h1 (by unfold maxLen; omega) (by omega) ?_; intro a' c' w1 hs1 hne)
    go_ret
    rw [Nat.zero_add, List.nil_append] at hs1
    exact ⟨a', c', rfl, hs1⟩

theorem heap_find_U {w : World} {p b mb : Nat} {n : Int} (c1 : w.cell? ⟨p, 1, none⟩ = some (.map (some mb))) (hl : (Instr.lookup 86 (.map (some mb)) (.int .i64 n) false).run Try.prog w = .ok (.pointer (some ⟨b, 0, none⟩)) w) :
    Calls Try.prog 80 #[.pointer (some ⟨p, 0, none⟩), .int .i64 n] w fun e w' => e = .returned (.tuple #[.pointer (some ⟨b, 0, none⟩), .int .i64 0]) ∧ w = w' := by
  go_enter Try.func80, Try.ntmps80
  go_wp2
  go_ret2
  exact ⟨rfl, rfl⟩
/-- Obj, where only facts on cells are at hand -/
theorem heap_Obj_U {w : World} {p b mb : Nat} {n : Int} {x : XObj} (p1 : (w.alloc (.cells #[.int .i64 0, .int .i64 0, .slice none 0 0, .string (ByteArray.mk #[]), .int .i64 0] 39)).cell? ⟨p, 1, none⟩ = some (.map (some mb))) (hl : (Instr.lookup 86 (.map (some mb)) (.int .i64 n) false).run Try.prog (w.alloc (.cells #[.int .i64 0, .int .i64 0, .slice none 0 0, .string (ByteArray.mk #[]), .int .i64 0] 39)) = .ok (.pointer (some ⟨b, 0, none⟩)) (w.alloc (.cells #[.int .i64 0, .int .i64 0, .slice none 0 0, .string (ByteArray.mk #[]), .int .i64 0] 39)))
    (hc : ∀ j v, (xcells x)[j]? = some v → (w.alloc (.cells #[.int .i64 0, .int .i64 0, .slice none 0 0, .string (ByteArray.mk #[]), .int .i64 0] 39)).cell? ⟨b, j, none⟩ = some v) (hsrc : (∀ ad, x.2.1 = some ad → ∀ j u, (avcells x.1.slots)[j]? = some u → (w.alloc (.cells #[.int .i64 0, .int .i64 0, .slice none 0 0, .string (ByteArray.mk #[]), .int .i64 0] 39)).cell? (ad.add j) = some u) ∧ (x.2.1 = none → x.1.slots.length = 0 ∧ x.2.2 = 0)) (hn : x.1.slots.length ≤ 2000000000) :
    Calls Try.prog 23 #[.pointer (some ⟨p, 0, none⟩), .int .i64 n] w fun e w' => ∃ a c, e = .returned (objV x.1 a c) ∧ Sat w w' (slc 28 2 a x.1.slots.length c (avcells x.1.slots) * Old w) := by
  obtain ⟨o, a, c⟩ := x
  obtain ⟨kd, ct, sl, tx, mk⟩ := o
  have h0 := (Sat.refl w).alloc (.cells #[.int .i64 0, .int .i64 0, .slice none 0 0, .string (ByteArray.mk #[]), .int .i64 0] 39)
  have h1 := h0.alloc (.cells #[.int .i64 kd, .int .i64 ct, .slice a sl.length c, .string tx, .int .i64 mk] 39)
  rw [size_alloc] at h1
  have c0 : (w.alloc (.cells #[.int .i64 0, .int .i64 0, .slice none 0 0, .string (ByteArray.mk #[]), .int .i64 0] 39)).cell? ⟨b, 0, none⟩ = some (.int .i64 kd) := hc 0 _ rfl
  have c1 : (w.alloc (.cells #[.int .i64 0, .int .i64 0, .slice none 0 0, .string (ByteArray.mk #[]), .int .i64 0] 39)).cell? ⟨b, 1, none⟩ = some (.int .i64 ct) := hc 1 _ rfl
  have c2 : (w.alloc (.cells #[.int .i64 0, .int .i64 0, .slice none 0 0, .string (ByteArray.mk #[]), .int .i64 0] 39)).cell? ⟨b, 2, none⟩ = some (.slice a sl.length c) := hc 2 _ rfl
  have c3 : (w.alloc (.cells #[.int .i64 0, .int .i64 0, .slice none 0 0, .string (ByteArray.mk #[]), .int .i64 0] 39)).cell? ⟨b, 3, none⟩ = some (.string tx) := hc 3 _ rfl
  have c4 : (w.alloc (.cells #[.int .i64 0, .int .i64 0, .slice none 0 0, .string (ByteArray.mk #[]), .int .i64 0] 39)).cell? ⟨b, 4, none⟩ = some (.int .i64 mk) := hc 4 _ rfl
  have HF := Lib.hid (heap_find_U p1 hl)
  have d2 := Lib.cell?_alloc_some (.cells #[.int .i64 kd, .int .i64 ct, .slice a sl.length c, .string tx, .int .i64 mk] 39) c2
  have hold := fun ad v (hv : (w.alloc (.cells #[.int .i64 0, .int .i64 0, .slice none 0 0, .string (ByteArray.mk #[]), .int .i64 0] 39)).cell? ad = some v) => Lib.cell?_alloc_some (.cells #[.int .i64 kd, .int .i64 ct, .slice a sl.length c, .string tx, .int .i64 mk] 39) hv
  have HCl := Lib.hid (clone_vals_U (w := (w.alloc (.cells #[.int .i64 0, .int .i64 0, .slice none 0 0, .string (ByteArray.mk #[]), .int .i64 0] 39)).alloc (.cells #[.int .i64 kd, .int .i64 ct, .slice a sl.length c, .string tx, .int .i64 mk] 39)) (a := a) (n := sl.length) (c := c) (avcells_length sl) ⟨fun ad e j u hj => hold _ _ (hsrc.1 ad e j u hj), hsrc.2⟩ hn (oneCell_avcells sl))
  clear hc hsrc hold hl p1
  generalize hbx : w.heap.size = bx at *
  go_enter Try.func23, Try.ntmps23
  try rw [hbx]
  go_wp2_with fail
  refine HF.out.mono ?_
  rintro e w1 ⟨rfl, rfl⟩
  go_wp2_with fail
  refine HCl.out.mono ?_
  rintro e w2 ⟨a', c', rfl, h3⟩
  have h4 := (h3.lift h1).p2
  have g2 := Sat.free (T := 39) (cs := #[.int .i64 kd, .int .i64 ct, .slice a sl.length c, .string tx, .int .i64 mk]) h4 2
  have gc2 : w2.cell? ⟨bx + 1, 2, none⟩ = some (.slice a sl.length c) := Sat.cell (T := 39) (cs := #[.int .i64 kd, .int .i64 ct, .slice a sl.length c, .string tx, .int .i64 mk]) h4 2 rfl
  have h5 := Sat.store (T := 39) (cs := #[.int .i64 kd, .int .i64 ct, .slice a sl.length c, .string tx, .int .i64 mk]) h4 (i := 2) (.slice a' sl.length c')
  simp only [List.setIfInBounds_toArray, List.set_cons_zero, List.set_cons_succ] at h5
  have e0 : (w2.setCell ⟨bx + 1, 2, none⟩ (.slice a' sl.length c')).cell? ⟨bx + 1, 0, none⟩ = some (.int .i64 kd) := h5.cell 0 rfl
  have e1 : (w2.setCell ⟨bx + 1, 2, none⟩ (.slice a' sl.length c')).cell? ⟨bx + 1, 1, none⟩ = some (.int .i64 ct) := h5.cell 1 rfl
  have e2 : (w2.setCell ⟨bx + 1, 2, none⟩ (.slice a' sl.length c')).cell? ⟨bx + 1, 2, none⟩ = some (.slice a' sl.length c') := h5.cell 2 rfl
  have e3 : (w2.setCell ⟨bx + 1, 2, none⟩ (.slice a' sl.length c')).cell? ⟨bx + 1, 3, none⟩ = some (.string tx) := h5.cell 3 rfl
  have e4 : (w2.setCell ⟨bx + 1, 2, none⟩ (.slice a' sl.length c')).cell? ⟨bx + 1, 4, none⟩ = some (.int .i64 mk) := h5.cell 4 rfl
  have h6 := h5.p3
  have j0 : (w2.setCell ⟨bx + 1, 2, none⟩ (.slice a' sl.length c')).cell? ⟨bx, 0, none⟩ = some (.int .i64 0) := Sat.cell (T := 39) (cs := #[.int .i64 0, .int .i64 0, .slice none 0 0, .string (ByteArray.mk #[]), .int .i64 0]) h6 0 rfl
  have j1 : (w2.setCell ⟨bx + 1, 2, none⟩ (.slice a' sl.length c')).cell? ⟨bx, 1, none⟩ = some (.int .i64 0) := Sat.cell (T := 39) (cs := #[.int .i64 0, .int .i64 0, .slice none 0 0, .string (ByteArray.mk #[]), .int .i64 0]) h6 1 rfl
  have j2 : (w2.setCell ⟨bx + 1, 2, none⟩ (.slice a' sl.length c')).cell? ⟨bx, 2, none⟩ = some (.slice none 0 0) := Sat.cell (T := 39) (cs := #[.int .i64 0, .int .i64 0, .slice none 0 0, .string (ByteArray.mk #[]), .int .i64 0]) h6 2 rfl
  have j3 : (w2.setCell ⟨bx + 1, 2, none⟩ (.slice a' sl.length c')).cell? ⟨bx, 3, none⟩ = some (.string (ByteArray.mk #[])) := Sat.cell (T := 39) (cs := #[.int .i64 0, .int .i64 0, .slice none 0 0, .string (ByteArray.mk #[]), .int .i64 0]) h6 3 rfl
  have j4 : (w2.setCell ⟨bx + 1, 2, none⟩ (.slice a' sl.length c')).cell? ⟨bx, 4, none⟩ = some (.int .i64 0) := Sat.cell (T := 39) (cs := #[.int .i64 0, .int .i64 0, .slice none 0 0, .string (ByteArray.mk #[]), .int .i64 0]) h6 4 rfl
  have i0 := h6.free 0
  have i1 := h6.free 1
  have i2 := h6.free 2
  have i3 := h6.free 3
  have i4 := h6.free 4
  clear c0 c1 c2 c3 c4 d2
  go_wp2_with fail
  try simp only [Exit.inBlock, Exit.then]
  have h7 := h6.store (i := 0) (.int .i64 kd) |>.store (i := 1) (.int .i64 ct) |>.store (i := 2) (.slice a' sl.length c') |>.store (i := 3) (.string tx) |>.store (i := 4) (.int .i64 mk)
  simp only [List.setIfInBounds_toArray, List.set_cons_zero, List.set_cons_succ] at h7
  refine bodyPost_cell rfl rfl (v := objV ⟨kd, ct, sl, tx, mk⟩ a' c') ?_ rfl ⟨a', c', rfl, ?_⟩
  · exact load_obj h7
  exact h7.drop.drop

theorem emptySlcF {w0 w : World} {F : HP} (h : Sat w0 w F) : Sat w0 (w.alloc (.cells #[] 135)) (slc 135 2 (some ⟨w.heap.size, 0, none⟩) 0 0 [] * F) :=
  Sat.shutSlc (h.alloc (.cells #[] 135)) (Nat.le_refl _) (Nat.zero_le _) (by simp) (by simp)
theorem clone_fins {w0 w : World} {F : HP} {a : Option Addr} {n c : Nat} {xs : List Value} (h : Sat w0 w (slc 135 2 a n c xs * F)) (hn : n ≤ 2000000000) (h1 : ∀ v ∈ xs, v.oneCell' = true) :
    Calls Try.prog 85 #[.slice a n c] w fun e w' => ∃ a' c', e = .returned (.slice a' n c') ∧ Sat w0 w' (slc 135 2 a' n c' xs * (slc 135 2 a n c xs * F)) := by
  obtain ⟨i0, hi, hz0, hz1, hz2⟩ := info_parts info_fin
  have hq : ∀ (w : World) (a : Option Addr) (n c : Nat), (binOp .eql 87 (.slice a n c) (.slice none 0 0)).run Try.prog w = .ok (.bool a.isNone) w := fun w a n c => Lib.run_eql_slice_nil w _ _ _ _ _ 0 0 Try.underlying87
  have hlx := h.slcLen
  cases a with
  | none =>
    rcases h.openSlc.2 with ⟨_, rfl, rfl, hF⟩ | ⟨g, off, cur, e, _⟩
    · have : xs = [] := List.eq_nil_of_length_eq_zero (by simpa using hlx)
      subst this
      go_enter Try.func85, Try.ntmps85
      go_wp2
      go_ret
      exact ⟨none, 0, rfl, h.nilSlc⟩
    · cases e
  | some ad =>
    have hcl := h.slcCells
    go_enter Try.func85, Try.ntmps85
    go_wp2_with (at_builtin; refine wpList_append rfl _ _ 87 rfl i0 (.agg #[.int .i64 0, .int .i64 0]) 16 Try.underlying87 hi hz0 hz1 hz2 rfl (some ⟨w.heap.size, 0, none⟩) 0 0 [] rfl (emptySlcF h) ad n c xs rfl (by omega) (emptySlcF h).slcCells2 h1 (by unfold maxLen; omega) (by omega) ?_; intro a' c' w1 hs1 hne)
    go_ret
    rw [Nat.zero_add, List.nil_append] at hs1
    exact ⟨a', c', rfl, hs1⟩
end Go.Proofs.Ytkpcngcegipalaa.Tw
namespace Go.Proofs.Ytkpcngcegipalaa.Tw
set_option linter.unusedVariables false
set_option linter.unusedSimpArgs false
open Go Go.RowKit Go.MapKept

theorem wrap_small {x : Int} (h1 : -2000000 ≤ x) (h2 : x ≤ 2000000) : IntKind.i64.wrap x = x := IntWalk.i64_in _ (by omega)
theorem cnt_rng {A : AHeap} {B : Int} (H : HW A B) {v : AVal} {o : AObj} (h : cntO A v = some o) : 0 ≤ o.count ∧ o.count ≤ B := by
  have := H.c _ o (cntO_some h)
  refine ⟨this.1, ?_⟩
  have h2 := this.2.1
  split at h2 <;> omega
section
variable {w0 w : World} {m : Hp} {p : Nat} {A : AHeap} {F : HP} {B : Int}
theorem t_Make (H : HW A B) (hB : B ≤ 1000000) (h : Sat w0 w (heapR m p A * F)) (k : Int) (tx : ByteArray) :
    Calls Try.prog 25 #[.pointer (some ⟨p, 0, none⟩), .int .i64 k, .string tx] w fun e w' => e = .returned (.agg #[.int .i64 (A.makeV k tx).kind, .int .i64 (A.makeV k tx).n]) ∧ Sat w0 w' (heapR m p (A.makeF k tx) * F) := by
  have ht := H.t
  unfold AHeap.makeV AHeap.makeF
  by_cases hok : makeOk k tx = true
  · rw [if_pos hok, if_pos hok]
    exact heap_Make h (by omega) k tx hok
  · rw [if_neg hok, if_neg hok]
    exact heap_Make_no h _ k tx (.inr (by simpa using hok))
theorem t_Keep (H : HW A B) (hB : B ≤ 1000000) (K : Knows m F) (h : Sat w0 w (heapR m p A * F)) (v : AVal) :
    Calls Try.prog 59 #[.pointer (some ⟨p, 0, none⟩), .agg #[.int .i64 v.kind, .int .i64 v.n]] w fun e w' => e = .returned (.int .i64 (cntE A v)) ∧ Sat w0 w' (heapR m p (A.keep v) * F) :=
  heap_Keep h K v fun o ho => by have := cnt_rng H ho; exact wrap_small (by omega) (by omega)
theorem t_Drop (H : HW A B) (hB : B ≤ 1000000) (K : Knows m F) (h : Sat w0 w (heapR m p A * F)) (v : AVal) :
    Calls Try.prog 19 #[.pointer (some ⟨p, 0, none⟩), .agg #[.int .i64 v.kind, .int .i64 v.n]] w fun e w' => e = .returned (.int .i64 (cntE A v)) ∧ Sat w0 w' (heapR m p (A.drop v) * F) :=
  heap_Drop h K v (fun o ho => by have := cnt_rng H ho; exact wrap_small (by omega) (by omega)) (by have := H.ql; omega) (by have := H.bl; omega)
theorem t_Free (H : HW A B) (hB : B ≤ 1000000) (K : Knows m F) (h : Sat w0 w (heapR m p A * F)) (n : Int) :
    Calls Try.prog 21 #[.pointer (some ⟨p, 0, none⟩), .int .i64 n] w fun e w' => e = .returned (.int .i64 (A.freeE n)) ∧ Sat w0 w' (heapR m p (A.freeF n) * F) := by
  have hql := H.ql
  have hfl := H.fl
  have ht := H.t
  unfold AHeap.freeE AHeap.freeF
  by_cases hb : A.freeB n = true
  · rw [if_pos hb, if_pos hb]
    unfold AHeap.freeB at hb
    simp only [Bool.and_eq_true, decide_eq_true_eq] at hb
    obtain ⟨hq, hs⟩ := hb
    obtain ⟨q, hQ⟩ : ∃ q, A.queue = n :: q := by
      cases e : A.queue with
      | nil => rw [e] at hq; cases hq
      | cons x q => rw [e] at hq; simp at hq; exact ⟨q, by rw [hq]⟩
    obtain ⟨o, ho, _⟩ := H.q1 n (by rw [hQ]; simp)
    unfold AHeap.obj at hs
    rw [ho] at hs
    exact heap_Free h K n hQ ho hs (by omega) (by omega) (by omega)
  · rw [if_neg hb, if_neg hb]
    refine heap_Free_no h n (by omega) ?_
    by_cases hq : A.queue.head? = some n
    · right
      obtain ⟨q, hQ⟩ : ∃ q, A.queue = n :: q := by
        cases e : A.queue with
        | nil => rw [e] at hq; cases hq
        | cons x q => rw [e] at hq; simp at hq; exact ⟨q, by rw [hq]⟩
      obtain ⟨o, ho, _⟩ := H.q1 n (by rw [hQ]; simp)
      refine ⟨o, ho, hq, ?_⟩
      unfold AHeap.freeB AHeap.obj at hb
      rw [ho] at hb
      simp [hq] at hb
      cases e : o.slots with
      | nil => exact absurd e hb
      | cons => simp
    · exact .inl hq
theorem t_Mark (H : HW A B) (hB : B ≤ 1000000) (K : Knows m F) (h : Sat w0 w (heapR m p A * F)) (n : Int) :
    Calls Try.prog 62 #[.pointer (some ⟨p, 0, none⟩), .int .i64 n] w fun e w' => e = .returned (.int .i64 (A.markN n)) ∧ Sat w0 w' (heapR m p (A.mark n) * F) :=
  heap_Mark h K n (by have := H.m; omega)
theorem t_Fin (H : HW A B) (hB : B ≤ 1000000) (K : Knows m F) (h : Sat w0 w (heapR m p A * F)) (n : Int) :
    Calls Try.prog 63 #[.pointer (some ⟨p, 0, none⟩), .int .i64 n] w fun e w' => e = .returned (.int .i64 (A.finE n)) ∧ Sat w0 w' (heapR m p (A.finF n) * F) := by
  have hql := H.ql
  have hfl := H.fl
  unfold AHeap.finE AHeap.finF
  cases hb : finB A n with
  | true =>
    unfold finB at hb
    cases ho : A.objs n with
    | none => rw [ho] at hb; cases hb
    | some o =>
      rw [ho] at hb
      have hm : 1 ≤ o.mark := by simpa using hb
      dsimp only
      rw [if_pos hm]
      have hc := H.c n o ho
      exact heap_Fin h K n ho hm (wrap_small (by omega) (by have := hc.2.1; split at this <;> omega)) (by omega) (by omega)
  | false =>
    refine (heap_Fin_no h n hb).mono ?_
    rintro e w' ⟨rfl, rfl⟩
    refine ⟨rfl, ?_⟩
    unfold finB at hb
    cases ho : A.objs n with
    | none => exact h
    | some o =>
      rw [ho] at hb
      dsimp only
      rw [if_neg (by simpa using hb)]
      exact h
theorem t_Next (H : HW A B) (hB : B ≤ 1000000) (h : Sat w0 w (heapR m p A * F)) :
    Calls Try.prog 42 #[.pointer (some ⟨p, 0, none⟩)] w fun e w' => e = .returned (.tuple #[.agg #[.int .i64 A.nextV.kind, .int .i64 A.nextV.n], .int .i64 A.nextM, .bool (!A.fins.isEmpty)]) ∧ Sat w0 w' (heapR m p A.nextF * F) := by
  have hfl := H.fl
  unfold AHeap.nextV AHeap.nextM AHeap.nextF
  cases hf : A.fins with
  | nil =>
    refine (heap_NextFin_no h hf).mono ?_
    rintro e w' ⟨rfl, h2⟩
    refine ⟨rfl, ?_⟩
    have : ({ A with fins := ([] : List (Int × Int)).tail } : AHeap) = A := by
      show { A with fins := [] } = A
      rw [← hf]
    rw [this]; exact h2
  | cons x q =>
    obtain ⟨o, ho, _⟩ := H.f1 x (by rw [hf]; simp)
    have e : (A.obj x.1).kind = o.kind := by unfold AHeap.obj; rw [ho]; rfl
    dsimp only
    rw [e]
    exact heap_NextFin h hf ho (by omega)
theorem t_Susp (H : HW A B) (hB : B ≤ 1000000) (h : Sat w0 w (heapR m p A * F)) (n : Int) :
    Calls Try.prog 64 #[.pointer (some ⟨p, 0, none⟩), .int .i64 n] w fun e w' => e = .returned (.int .i64 (if suspB A n then 0 else 2)) ∧ Sat w0 w' (heapR m p (A.suspF n) * F) := by
  have hbl := H.bl
  unfold AHeap.suspF
  cases hb : suspB A n with
  | true => exact heap_Suspect h n (by omega) hb
  | false =>
    refine (heap_Suspect_no h n (by omega) hb).mono ?_
    rintro e w' ⟨rfl, rfl⟩
    exact ⟨rfl, h⟩
theorem t_Push (H : HW A B) (hB : B ≤ 1000000) (K : Knows m F) (h : Sat w0 w (heapR m p A * F)) (n : Int) (v : AVal) :
    Calls Try.prog 33 #[.pointer (some ⟨p, 0, none⟩), .int .i64 n, .agg #[.int .i64 v.kind, .int .i64 v.n]] w fun e w' => e = .returned (.int .i64 (A.pushE n v)) ∧ Sat w0 w' (heapR m p (A.pushF n v) * F) := by
  unfold AHeap.pushE AHeap.pushF
  cases ho : A.objs n with
  | none => exact heap_Push_none h n v ho
  | some o =>
    have hc := H.c n o ho
    dsimp only
    cases hb : pushB A o v with
    | true => exact heap_Push h K n v ho hb (by omega)
    | false => exact heap_Push_no h n v ho hb
theorem t_Pop (H : HW A B) (hB : B ≤ 1000000) (K : Knows m F) (h : Sat w0 w (heapR m p A * F)) (n : Int) :
    Calls Try.prog 61 #[.pointer (some ⟨p, 0, none⟩), .int .i64 n] w fun e w' => e = .returned (.tuple #[.agg #[.int .i64 (A.popV n).kind, .int .i64 (A.popV n).n], .int .i64 (A.popE n)]) ∧ Sat w0 w' (heapR m p (A.popF n) * F) := by
  unfold AHeap.popV AHeap.popE AHeap.popF
  cases ho : A.objs n with
  | none => exact heap_Pop_none h n fun o ho2 => by rw [ho] at ho2; cases ho2
  | some o =>
    have hc := H.c n o ho
    dsimp only
    by_cases hs : o.slots = []
    · rw [if_pos hs, if_pos hs, hs]
      exact heap_Pop_none h n fun o2 ho2 => by rw [ho] at ho2; cases ho2; exact hs
    · rw [if_neg hs, if_neg hs]
      have e : o.slots = o.slots.dropLast ++ [o.slots.getLast hs] := (List.dropLast_concat_getLast hs).symm
      have e2 : o.slots.getLast? = some (o.slots.getLast hs) := List.getLast?_eq_some_getLast hs
      rw [e2]
      exact heap_Pop h K n ho e (by omega)
end
end Go.Proofs.Ytkpcngcegipalaa.Tw
namespace Go.Proofs.Ytkpcngcegipalaa.Tw
set_option linter.unusedVariables false
set_option linter.unusedSimpArgs false
open Go Go.RowKit Go.MapKept

theorem clone_valsS {w0 w : World} {F SR : HP} {a : Option Addr} {n c : Nat} {l : List AVal} (h : Sat w0 w (SR * F)) (hS : SrcV w0 SR a n c l) (hn : n ≤ 2000000000) :
    Calls Try.prog 81 #[.slice a n c] w fun e w' => ∃ a' c', e = .returned (.slice a' n c') ∧ (a' = none → a = none) ∧ Sat w0 w' (slc 28 2 a' n c' (avcells l) * (SR * F)) := by
  obtain ⟨i0, hi, hz0, hz1, hz2⟩ := info_parts info_val
  have hq : ∀ (w : World) (a : Option Addr) (n c : Nat), (binOp .eql 37 (.slice a n c) (.slice none 0 0)).run Try.prog w = .ok (.bool a.isNone) w := fun w a n c => Lib.run_eql_slice_nil w _ _ _ _ _ 0 0 Try.underlying37
  obtain ⟨hS1, hS2, hS3, hS4⟩ := hS
  cases a with
  | none =>
    obtain ⟨rfl, rfl⟩ := hS3 rfl
    have : l = [] := List.eq_nil_of_length_eq_zero hS2
    subst this
    go_enter Try.func81, Try.ntmps81
    go_wp2
    go_ret
    exact ⟨none, 0, rfl, h.nilSlc⟩
  | some ad =>
    have he := emptySlcV h
    have hcl : ∀ j u, (avcells l)[j]? = some u → (w.alloc (.cells #[] 28)).cell? (ad.add j) = some u := by
      intro j u hj
      have hjl : j < (avcells l).length := (List.getElem?_eq_some_iff.1 hj).1
      rw [avcells_length] at hjl
      have hx : l[j / 2]? = some (l[j / 2]'(by omega)) := List.getElem?_eq_getElem _
      obtain ⟨e0, e1⟩ := avcells_get l _ _ hx
      obtain ⟨g, off, q1, d0, d1⟩ := hS1 _ _ he.p2 _ _ hx
      cases q1
      rw [addr_add]
      rcases Nat.mod_two_eq_zero_or_one j with hm | hm
      · have : j = j / 2 * 2 := by omega
        rw [this] at hj ⊢
        rw [e0] at hj; cases hj
        exact d0
      · have : j = j / 2 * 2 + 1 := by omega
        rw [this] at hj ⊢
        rw [e1] at hj; cases hj
        rw [← Nat.add_assoc]; exact d1
    have hn63 := hS4.1
    go_enter Try.func81, Try.ntmps81
    go_wp2_with (at_builtin; refine wpList_append rfl _ _ 37 rfl i0 (.agg #[.int .i64 0, .int .i64 0]) 16 Try.underlying37 hi hz0 hz1 hz2 rfl (some ⟨w.heap.size, 0, none⟩) 0 0 [] rfl he ad n c (avcells l) rfl (by rw [avcells_length, hS2]) hcl (oneCell_avcells l) (by unfold maxLen; omega) (by omega) ?_; intro a' c' w1 hs1 hne)
    go_ret
    rw [Nat.zero_add, List.nil_append] at hs1
    refine ⟨a', c', ?_, ?_, hs1⟩
    · rfl
    · intro e; exact absurd (hne e).1 (by simp)
set_option maxRecDepth 100000 in
set_option maxHeartbeats 2000000 in
theorem heap_LayS_no {w0 w : World} {m : Hp} {p : Nat} {A : AHeap} {F SR : HP} (n : Int) {a : Option Addr} {sn c : Nat} {s : List AVal} (h : Sat w0 w (heapR m p A * (SR * F))) (hS : SrcV w0 SR a sn c s) (hn : sn ≤ 1000000000) {o : AObj} (ho : A.objs n = some o) (hno : layB A o s = false) :
    Calls Try.prog 66 #[.pointer (some ⟨p, 0, none⟩), .int .i64 n, .slice a sn c] w fun e w' => e = .returned (.int .i64 2) ∧ Sat w0 w' (heapR m p A * (SR * F)) := by
  obtain ⟨pb, mb, O, qa, qc, ba, bc, fa, fc, fv, op0⟩ := h.openHeap
  have op := op0.alloc (.cells #[.pointer (some ⟨p, 0, none⟩)] 22)
  generalize hbx : w.heap.size = bx at *
  obtain ⟨b, l, r, eO, hl, e3⟩ := op.obj ho
  have HF := Lib.hid (heap_find op e3)
  obtain ⟨sa, sc, G, hG⟩ := op.objCells eO
  have c0 : (w.alloc (.cells #[.pointer (some ⟨p, 0, none⟩)] 22)).cell? ⟨b, 0, none⟩ = some (.int .i64 o.kind) := hG.cell 0 rfl
  have hC := containsFunc_valS (fun v => !thereV A v) 116 #[.pointer (some ⟨bx, 0, none⟩)] (enters_of Try.func116 (by kernel_rfl) rfl) (lay_fn op bx) ((op.closed.p3).cast (show _ = SR * ((pt bx (.cells #[.pointer (some ⟨p, 0, none⟩)] 22 (0, 0)) * openR p A pb mb O qa qc ba bc fa fc fv) * F) by ac_rfl)) hS hn
  clear ho eO e3 hG
  by_cases hk : o.kind = 5
  · have hk' : (o.kind == 5) = true := by simpa using hk
    clear hno hk hC
    go_enter Try.func66, Try.ntmps66
    try rw [hbx]
    go_wp2_with fail
    refine HF.out.mono ?_
    rintro e w' ⟨rfl, rfl⟩
    go_wp2_with fail
    go_ret
    exact ⟨rfl, op.unframe.shut⟩
  · have hk' : (o.kind == 5) = false := by simpa using hk
    have hany : s.any (fun v => !thereV A v) = true := by
      unfold layB at hno
      simp only [hk, decide_false, Bool.not_false, Bool.true_and] at hno
      rw [List.any_eq_not_all_not]
      simp [hno]
    rw [hany] at hC
    have HC := Lib.hid hC
    clear hno hk hC hany
    go_enter Try.func66, Try.ntmps66
    try rw [hbx]
    go_wp2_with fail
    refine HF.out.mono ?_
    rintro e w' ⟨rfl, rfl⟩
    go_wp2_with fail
    refine HC.out.mono ?_
    rintro e w2 ⟨rfl, h2⟩
    have op2 := op.opens (G := SR * F) ((h2.p2.assoc.drop).cast (by ac_rfl))
    go_wp2_with fail
    go_ret
    exact ⟨rfl, op2.shut⟩
set_option maxRecDepth 100000 in
set_option maxHeartbeats 2000000 in
theorem heap_LayS {w0 w : World} {m : Hp} {p : Nat} {A : AHeap} {F SR : HP} (n : Int) {a : Option Addr} {sn c : Nat} {s : List AVal} (h : Sat w0 w (heapR m p A * (SR * F))) (K : Knows m F) (hS : SrcV w0 SR a sn c s) (hn : sn ≤ 1000000000) {o : AObj} (ho : A.objs n = some o) (hyes : layB A o s = true) :
    Calls Try.prog 66 #[.pointer (some ⟨p, 0, none⟩), .int .i64 n, .slice a sn c] w fun e w' => e = .returned (.int .i64 0) ∧ Sat w0 w' (heapR m p (A.lay n o s) * (SR * F)) := by
  obtain ⟨pb, mb, O, qa, qc, ba, bc, fa, fc, fv, op0⟩ := h.openHeap
  have op := op0.alloc (.cells #[.pointer (some ⟨p, 0, none⟩)] 22)
  generalize hbx : w.heap.size = bx at *
  obtain ⟨b, l, r, eO, hl, e3⟩ := op.obj ho
  have HF := Lib.hid (heap_find op e3)
  obtain ⟨sa, sc, G, hG⟩ := op.objCells eO
  have c0 : (w.alloc (.cells #[.pointer (some ⟨p, 0, none⟩)] 22)).cell? ⟨b, 0, none⟩ = some (.int .i64 o.kind) := hG.cell 0 rfl
  have hC := containsFunc_valS (fun v => !thereV A v) 116 #[.pointer (some ⟨bx, 0, none⟩)] (enters_of Try.func116 (by kernel_rfl) rfl) (lay_fn op bx) ((op.closed.p3).cast (show _ = SR * ((pt bx (.cells #[.pointer (some ⟨p, 0, none⟩)] 22 (0, 0)) * openR p A pb mb O qa qc ba bc fa fc fv) * F) by ac_rfl)) hS hn
  unfold layB at hyes
  simp only [Bool.and_eq_true, Bool.not_eq_true', decide_eq_false_iff_not] at hyes
  obtain ⟨hk, hall⟩ := hyes
  have hk' : (o.kind == 5) = false := by simpa using hk
  have hany : s.any (fun v => !thereV A v) = false := by
    rw [List.any_eq_false]
    intro v hv
    have := List.all_eq_true.1 hall v hv
    simp [this]
  rw [hany] at hC
  have HC := Lib.hid hC
  have HO := Lib.hid eO
  clear ho eO e3 hG hk hC hany hall
  have hsl := hS.2.1
  subst hsl
  go_enter Try.func66, Try.ntmps66
  try rw [hbx]
  go_wp2_with fail
  refine HF.out.mono ?_
  rintro e w' ⟨rfl, rfl⟩
  go_wp2_with fail
  refine HC.out.mono ?_
  rintro e w2 ⟨rfl, h2⟩
  have HCl := Lib.hid (clone_valsS h2 hS (by omega))
  go_wp2_with fail
  refine HCl.out.mono ?_
  rintro e w3 ⟨a', c', rfl, hnil, h3⟩
  have op3 := op.opens (G := pt bx (.cells #[.pointer (some ⟨p, 0, none⟩)] 22 (0, 0)) * (slc 28 2 a' s.length c' (avcells s) * (SR * F))) (h3.cast (by ac_rfl))
  obtain ⟨sa1, sc1, hT1⟩ := op3.takeObj HO.out
  have c2 : w3.cell? ⟨b, 2, none⟩ = some (.slice sa1 o.slots.length sc1) := hT1.cell 2 rfl
  have f2 := hT1.free 2
  have hs4 := (hT1.store (i := 2) (.slice a' s.length c')).p2.drop
  rw [restR_frame, restR_frame] at hs4
  have op4 := op3.putTurned { o with slots := s } HO.out hl (a := a') (c := c') (G := pt bx (.cells #[.pointer (some ⟨p, 0, none⟩)] 22 (0, 0)) * (SR * F)) (by rw [restR_frame]; exact hs4.cast (by ac_rfl))
  have HT := Lib.hid (heap_touch op4 K.left.left n)
  have x0 : (w3.setCell ⟨b, 2, none⟩ (.slice a' s.length c')).cell? ⟨bx, 0, none⟩ = some (.pointer (some ⟨p, 0, none⟩)) := Sat.cell (T := 22) (cs := #[.pointer (some ⟨p, 0, none⟩)]) op4.front 0 rfl
  clear hT1 hs4 h3
  go_wp2_with fail
  refine HT.out.mono ?_
  rintro e w5 ⟨rfl, op5⟩
  go_wp2_with fail
  go_ret
  exact ⟨rfl, op5.unframe.shut⟩
end Go.Proofs.Ytkpcngcegipalaa.Tw
namespace Go.Proofs.Ytkpcngcegipalaa.Tw
set_option linter.unusedVariables false
set_option linter.unusedSimpArgs false
open Go Go.RowKit Go.MapKept

def AHeap.atVV (A : AHeap) (n i : Int) : AVal := (atV A n i).getD ⟨0, 0⟩
def AHeap.atE (A : AHeap) (n i : Int) : Int := match atV A n i with | none => 5 | some _ => 0
def AHeap.swapF (A : AHeap) (n i : Int) (v : AVal) : AHeap := match atV A n i, A.objs n with
  | some _, some o => if thereV A v then A.swap n o i.toNat v else A
  | _, _ => A
def AHeap.swapV (A : AHeap) (n i : Int) (v : AVal) : AVal := match atV A n i with
  | none => ⟨0, 0⟩
  | some u => if thereV A v then u else ⟨0, 0⟩
def AHeap.swapE (A : AHeap) (n i : Int) (v : AVal) : Int := match atV A n i with
  | none => 5
  | some _ => if thereV A v then 0 else 2
def AHeap.layF (A : AHeap) (n : Int) (s : List AVal) : AHeap := match A.objs n with
  | none => A
  | some o => if layB A o s then A.lay n o s else A
def AHeap.layE (A : AHeap) (n : Int) (s : List AVal) : Int := match A.objs n with
  | none => 5
  | some o => if layB A o s then 0 else 2
def AHeap.watchF (A : AHeap) (l : List Int) : AHeap := { A with watch := l, touched := false }
theorem atV_some {A : AHeap} {n i : Int} {u : AVal} (h : atV A n i = some u) : ∃ o, A.objs n = some o ∧ 0 ≤ i ∧ o.slots[i.toNat]? = some u := by
  unfold atV at h
  cases ho : A.objs n with
  | none => rw [ho] at h; cases h
  | some o =>
    rw [ho] at h
    dsimp only at h
    split at h
    · rename_i hi; exact ⟨o, rfl, hi, h⟩
    · cases h
theorem HW.swap {A : AHeap} {B : Int} (h : HW A B) (n i : Int) (v : AVal) : HW (A.swapF n i v) B := by
  unfold AHeap.swapF
  cases ha : atV A n i with
  | none => exact h
  | some u =>
    obtain ⟨o, ho, _, _⟩ := atV_some ha
    rw [ho]
    dsimp only
    split
    · have hc := h.c n o ho
      refine h.same (Int.le_refl _) ho (o' := { o with slots := o.slots.set i.toNat v }) rfl rfl h.m rfl ?_ Iff.rfl (fun e => e) rfl rfl rfl
      dsimp only
      rw [List.length_set]
      exact ⟨hc.1, hc.2.1, hc.2.2.1⟩
    · exact h
theorem HW.lay {A : AHeap} {B : Int} (h : HW A B) (n : Int) (s : List AVal) (hs : (s.length : Int) ≤ B) : HW (A.layF n s) B := by
  unfold AHeap.layF
  cases ho : A.objs n with
  | none => exact h
  | some o =>
    dsimp only
    split
    · have hc := h.c n o ho
      exact h.same (Int.le_refl _) ho (o' := { o with slots := s }) rfl rfl h.m rfl ⟨hc.1, hc.2.1, hs⟩ Iff.rfl (fun e => e) rfl rfl rfl
    · exact h
theorem HW.watch {A : AHeap} {B : Int} (h : HW A B) (l : List Int) : HW (A.watchF l) B :=
  ⟨h.q1, h.q2, h.qn, h.b1, h.bn, h.f1, h.fn, h.c, h.t, h.ht, h.m⟩
section
variable {w0 w : World} {m : Hp} {p : Nat} {A : AHeap} {F : HP} {B : Int}
theorem HW.slotsN {A : AHeap} {B : Int} (H : HW A B) (hB : B ≤ 1000000) : ∀ n o, A.objs n = some o → o.slots.length ≤ 1000000000 := fun n o ho => by have := H.c n o ho; omega
theorem t_At (H : HW A B) (hB : B ≤ 1000000) (h : Sat w0 w (heapR m p A * F)) (n i : Int) :
    Calls Try.prog 68 #[.pointer (some ⟨p, 0, none⟩), .int .i64 n, .int .i64 i] w fun e w' => e = .returned (.tuple #[.agg #[.int .i64 (A.atVV n i).kind, .int .i64 (A.atVV n i).n], .int .i64 (A.atE n i)]) ∧ Sat w0 w' (heapR m p A * F) := by
  unfold AHeap.atVV AHeap.atE
  cases ha : atV A n i with
  | none => exact heap_At_none h n i ha (H.slotsN hB n)
  | some v => exact heap_At h n i ha (H.slotsN hB n)
theorem t_Swap (H : HW A B) (hB : B ≤ 1000000) (K : Knows m F) (h : Sat w0 w (heapR m p A * F)) (n i : Int) (v : AVal) :
    Calls Try.prog 67 #[.pointer (some ⟨p, 0, none⟩), .int .i64 n, .int .i64 i, .agg #[.int .i64 v.kind, .int .i64 v.n]] w fun e w' => e = .returned (.tuple #[.agg #[.int .i64 (A.swapV n i v).kind, .int .i64 (A.swapV n i v).n], .int .i64 (A.swapE n i v)]) ∧ Sat w0 w' (heapR m p (A.swapF n i v) * F) := by
  unfold AHeap.swapV AHeap.swapE AHeap.swapF
  cases ha : atV A n i with
  | none => exact heap_Swap_none h n i v ha (H.slotsN hB n)
  | some u =>
    obtain ⟨o, ho, hi, hu⟩ := atV_some ha
    rw [ho]
    dsimp only
    cases ht : thereV A v with
    | false => exact heap_Swap_no h n i v ha (H.slotsN hB n) ht
    | true =>
      have := heap_Swap h K n i.toNat v ho hu (H.slotsN hB n o ho) ht
      rw [Int.toNat_of_nonneg hi] at this
      exact this
theorem t_Lay {SR : HP} (H : HW A B) (hB : B ≤ 1000000) (K : Knows m F) (n : Int) {a : Option Addr} {sn c : Nat} {s : List AVal} (h : Sat w0 w (heapR m p A * (SR * F))) (hS : SrcV w0 SR a sn c s) (hn : sn ≤ 1000000) :
    Calls Try.prog 66 #[.pointer (some ⟨p, 0, none⟩), .int .i64 n, .slice a sn c] w fun e w' => e = .returned (.int .i64 (A.layE n s)) ∧ Sat w0 w' (heapR m p (A.layF n s) * (SR * F)) := by
  unfold AHeap.layE AHeap.layF
  cases ho : A.objs n with
  | none => exact heap_Lay_none h n a sn c ho
  | some o =>
    dsimp only
    cases hb : layB A o s with
    | false => exact heap_LayS_no n h hS (by omega) ho hb
    | true => exact heap_LayS n h K hS (by omega) ho hb
end
section
variable {w0 w : World} {m : Hp} {p : Nat} {A : AHeap} {F : HP} {B : Int}
theorem Sat.litI {b n : Nat} {L : List Int} (h : Sat w0 w (pt b (.cells (L.map ival).toArray 3 (0, 0)) * F)) (hl : L.length = n) (hn : n ≤ 1000000) : Sat w0 w (slc 3 1 (some ⟨b, 0, none⟩) n n (L.map ival) * F) := by
  subst hl
  exact Sat.shutSlc h (Nat.le_refl _) (by unfold maxLen; omega) (by simp) (by simp only [List.drop_zero, Nat.mul_one]; exact List.take_of_length_le (by simp))
/-- an owned slice is a source -/
theorem srcV_slc {a : Option Addr} {n c : Nat} {l : List AVal} (hl : l.length = n) (hc : n ≤ c ∧ c ≤ maxLen) (hnil : a = none → n = 0 ∧ c = 0) : SrcV w0 (slc 28 2 a n c (avcells l)) a n c l := by
  refine ⟨fun w' G h k x hx => ?_, hl, hnil, hc⟩
  obtain ⟨g, off, e, c0, c1, _, _⟩ := valAt h hx
  exact ⟨g, off, e, c0, c1⟩
theorem Sat.srcV {a : Option Addr} {n c : Nat} {l : List AVal} (h : Sat w0 w (slc 28 2 a n c (avcells l) * F)) (hl : l.length = n) : SrcV w0 (slc 28 2 a n c (avcells l)) a n c l :=
  srcV_slc hl h.slcCap fun e => by
    subst e
    rcases h.openSlc.2 with ⟨_, e1, e2, _⟩ | ⟨g, off, cur, e, _⟩
    · exact ⟨e1, e2⟩
    · cases e
end
end Go.Proofs.Ytkpcngcegipalaa.Tw
