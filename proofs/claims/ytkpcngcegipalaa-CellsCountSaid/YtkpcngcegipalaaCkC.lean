/- CellsCount: counts are what was kept and dropped, plainly. No condition. -/
import Derived.Test.YtkpcngcegipalaaCkM
namespace Go.Proofs.Ytkpcngcegipalaa.Tw
set_option linter.unusedVariables false
set_option linter.unusedSimpArgs false
open Go Go.RowKit Go.MapKept

def CountInv (A : AHeap) (net : List Int) : Prop := ∀ n : Int, 1 ≤ n → n ≤ 79 → net.getD n.toNat 0 = (A.obj n).count
theorem obj_upd {A A' : AHeap} {m : Int} {o' : AObj} (h : ∀ k, A'.objs k = if k = m then some o' else A.objs k) (n : Int) : A'.obj n = if n = m then o' else A.obj n := by
  unfold AHeap.obj
  rw [h]
  split <;> rfl
theorem obj_some {A : AHeap} {n : Int} {o : AObj} (h : A.objs n = some o) : A.obj n = o := by unfold AHeap.obj; rw [h]; rfl
theorem inv_same {A A' : AHeap} {net : List Int} (h : CountInv A net) (hc : ∀ n, (A'.obj n).count = (A.obj n).count) : CountInv A' net := fun n h1 h2 => by rw [h n h1 h2, hc]
/-- one object's slots or mark turned -/
theorem inv_turn {A A' : AHeap} {net : List Int} (h : CountInv A net) {m : Int} {o o' : AObj} (ho : A.objs m = some o) (hobj : ∀ k, A'.objs k = if k = m then some o' else A.objs k) (hc : o'.count = o.count) : CountInv A' net := by
  refine inv_same h fun n => ?_
  rw [obj_upd hobj]
  split
  · rename_i e; rw [e, obj_some ho, hc]
  · rfl
theorem inv_set {A A' : AHeap} {net : List Int} (h : CountInv A net) (hl : net.length = 80) {m : Int} (h1 : 1 ≤ m) (h2 : m ≤ 79) {z : Int} (hz : (A'.obj m).count = z) (hn : ∀ n, n ≠ m → (A'.obj n).count = (A.obj n).count) : CountInv A' (net.set m.toNat z) := by
  intro n n1 n2
  simp only [List.getD, List.getElem?_set]
  by_cases e : n = m
  · subst e
    rw [if_pos rfl, if_pos (by omega), hz]; rfl
  · rw [if_neg (by omega), hn n e]
    exact h n n1 n2
theorem cnt_cases {A : AHeap} (v : AVal) : (cntE A v = 0 ∧ refV v = true ∧ ∃ o, cntO A v = some o) ∨ (¬ (cntE A v = 0 ∧ refV v = true) ∧ cntO A v = none) := by
  unfold cntE
  cases hr : refV v with
  | false =>
    refine .inr ⟨by simp, ?_⟩
    unfold cntO; rw [hr]; rfl
  | true =>
    cases hc : cntO A v with
    | none => exact .inr ⟨by simp, rfl⟩
    | some o => exact .inl ⟨by simp, rfl, o, rfl⟩
theorem clamp_in {x : Int} (h1 : 0 ≤ x) (h2 : x ≤ 79) : clampI x = x := by unfold clampI; omega
theorem inv_act {A : AHeap} {net : List Int} {B : Int} (H : HW A B) (hT : A.T.length ≤ 60) (hl : net.length = 80) (h : CountInv A net) (x : Act13) : CountInv (actA A x) (actN A net x) := by
  have rng : ∀ {n o}, A.objs n = some o → 1 ≤ n ∧ n ≤ 60 := fun ho => by have := H.rng ho; omega
  unfold actA actN
  by_cases h0 : x.what = 0 ∨ x.what = 1
  · rw [if_pos h0, if_pos h0]
    unfold AHeap.makeF AHeap.makeV
    by_cases hok : makeOk x.i (txc x.tx 100) = true
    · rw [if_pos hok, if_pos hok]
      have hf : 1 ≤ A.fresh ∧ A.fresh ≤ 61 := by
        have := firstFree_le A.T
        unfold AHeap.fresh; omega
      have hob : ∀ k, (A.make x.i (txc x.tx 100)).objs k = if k = A.fresh then some ⟨x.i, 1, [], if x.i = 5 then txc x.tx 100 else ByteArray.mk #[], 0⟩ else A.objs k := fun k => rfl
      rw [if_pos (show 0 < A.fresh ∧ A.fresh < 80 by omega)]
      refine inv_set h hl hf.1 (by omega) ?_ fun n hn => ?_
      · rw [obj_upd hob, if_pos rfl]
      · rw [obj_upd hob, if_neg hn]
    · rw [if_neg hok, if_neg hok]
      exact h
  rw [if_neg h0, if_neg h0]
  by_cases h1 : x.what = 2 ∨ x.what = 3
  · rw [if_pos h1, if_pos h1]
    rcases cnt_cases (A := A) x.v with ⟨e1, e2, o, ho⟩ | ⟨e1, e2⟩
    · rw [if_pos ⟨e1, e2⟩]
      have hoo := cntO_some ho
      have hr := rng hoo
      have hk : ∀ k, (A.keep x.v).objs k = if k = x.v.n then some { o with count := o.count + 1 } else A.objs k := fun k => by unfold AHeap.keep; rw [ho]; rfl
      unfold incN
      rw [clamp_in (by omega) (by omega), h x.v.n hr.1 (by omega), obj_some hoo]
      refine inv_set h hl hr.1 (by omega) ?_ fun n hn => ?_
      · rw [obj_upd hk, if_pos rfl]
      · rw [obj_upd hk, if_neg hn]
    · rw [if_neg e1]
      have : A.keep x.v = A := by unfold AHeap.keep; rw [e2]
      rw [this]; exact h
  rw [if_neg h1, if_neg h1]
  by_cases h2 : x.what = 4 ∨ x.what = 5 ∨ x.what = 6
  · rw [if_pos h2, if_pos h2]
    rcases cnt_cases (A := A) x.v with ⟨e1, e2, o, ho⟩ | ⟨e1, e2⟩
    · rw [if_pos ⟨e1, e2⟩]
      have hoo := cntO_some ho
      have hr := rng hoo
      have hk : ∀ k, (A.drop x.v).objs k = if k = x.v.n then some { o with count := o.count - 1 } else A.objs k := fun k => by
        unfold AHeap.drop; rw [ho]; dsimp only
        split
        · rfl
        · split <;> rfl
      unfold incN
      rw [clamp_in (by omega) (by omega), h x.v.n hr.1 (by omega), obj_some hoo]
      refine inv_set h hl hr.1 (by omega) ?_ fun n hn => ?_
      · rw [obj_upd hk, if_pos rfl]; rfl
      · rw [obj_upd hk, if_neg hn]
    · rw [if_neg e1]
      have : A.drop x.v = A := by unfold AHeap.drop; rw [e2]
      rw [this]; exact h
  rw [if_neg h2, if_neg h2]
  by_cases h3 : x.what = 7
  · rw [if_pos h3, if_pos h3]
    unfold AHeap.freeE AHeap.freeF
    by_cases hb : A.freeB x.n = true
    · rw [if_pos hb, if_pos hb, if_pos rfl]
      have hq : A.queue.head? = some x.n := by
        unfold AHeap.freeB at hb
        simp only [Bool.and_eq_true, decide_eq_true_eq] at hb
        exact hb.1
      obtain ⟨o, ho, _⟩ := H.q1 x.n (List.mem_of_mem_head? hq)
      have hr := rng ho
      rw [clamp_in (by omega) (by omega)]
      have hk : ∀ k, (A.free x.n).objs k = if k = x.n then none else A.objs k := fun k => rfl
      refine inv_set h hl hr.1 (by omega) ?_ fun n hn => ?_
      · unfold AHeap.obj; rw [hk, if_pos rfl]; rfl
      · unfold AHeap.obj; rw [hk, if_neg hn]
    · rw [if_neg hb, if_neg hb, if_neg (by decide)]
      exact h
  rw [if_neg h3, if_neg h3]
  by_cases h4 : x.what = 8
  · rw [if_pos h4, if_neg (show ¬ x.what = 9 by omega)]
    unfold AHeap.mark
    cases ho : A.objs x.n with
    | none => exact h
    | some o =>
      dsimp only
      split
      · exact inv_turn h ho (fun k => rfl) rfl
      · exact h
  rw [if_neg h4]
  by_cases h5 : x.what = 9
  · rw [if_pos h5, if_pos h5]
    unfold AHeap.finE AHeap.finF finB
    cases ho : A.objs x.n with
    | none => dsimp only; rw [if_neg (by decide)]; exact h
    | some o =>
      dsimp only
      have hr := rng ho
      by_cases hm : 1 ≤ o.mark
      · rw [if_pos hm, if_pos (by simp [hm])]
        have hk : ∀ k, (A.fin x.n o).objs k = if k = x.n then some { o with count := o.count + 1, mark := -1 } else A.objs k := fun k => rfl
        unfold incN
        rw [clamp_in (by omega) (by omega), h x.n hr.1 (by omega), obj_some ho]
        refine inv_set h hl hr.1 (by omega) ?_ fun n hn => ?_
        · rw [obj_upd hk, if_pos rfl]
        · rw [obj_upd hk, if_neg hn]
      · rw [if_neg hm, if_neg (by simp [hm])]
        exact h
  rw [if_neg h5, if_neg h5]
  by_cases h6 : x.what = 10
  · rw [if_pos h6]; exact h
  rw [if_neg h6]
  by_cases h7 : x.what = 11
  · rw [if_pos h7]; exact h
  rw [if_neg h7]
  by_cases h8 : x.what = 12
  · rw [if_pos h8]
    unfold AHeap.suspF
    split <;> exact h
  rw [if_neg h8]
  by_cases h9 : x.what = 13
  · rw [if_pos h9]; exact h
  rw [if_neg h9]
  by_cases h10 : x.what = 14
  · rw [if_pos h10]
    unfold AHeap.pushF
    cases ho : A.objs x.n with
    | none => exact h
    | some o =>
      dsimp only
      split
      · exact inv_turn h ho (fun k => rfl) rfl
      · exact h
  rw [if_neg h10]
  by_cases h11 : x.what = 15
  · rw [if_pos h11]
    unfold AHeap.popF
    cases ho : A.objs x.n with
    | none => exact h
    | some o =>
      dsimp only
      split
      · exact h
      · exact inv_turn h ho (fun k => rfl) rfl
  rw [if_neg h11]
  by_cases h12 : x.what = 16
  · rw [if_pos h12]
    unfold AHeap.swapF
    cases ha : atV A x.n x.i with
    | none => exact h
    | some u =>
      obtain ⟨o, ho, _, _⟩ := atV_some ha
      rw [ho]
      dsimp only
      split
      · exact inv_turn h ho (fun k => rfl) rfl
      · exact h
  rw [if_neg h12]
  unfold AHeap.layF
  cases ho : A.objs x.n with
  | none => exact h
  | some o =>
    dsimp only
    split
    · exact inv_turn h ho (fun k => rfl) rfl
    · exact h
theorem play13_inv (l : List Act13) : ∀ k, k ≤ 60 → CountInv (play13 l k).1 (play13 l k).2
  | 0, _ => fun n h1 h2 => by
    have e1 : (play13 l 0).2 = List.replicate 80 0 := rfl
    have e2 : (play13 l 0).1.obj n = AObj.none := rfl
    rw [e1, e2]
    simp only [List.getD, List.getElem?_replicate]
    split <;> rfl
  | k + 1, hk => by
    have ih := play13_inv l k (by omega)
    obtain ⟨i1, i2, i3, _⟩ := play13_hw l k
    cases h : l[k]? with
    | none =>
      have e : play13 l (k + 1) = play13 l k := by unfold play13; rw [List.take_add_one, h]; simp
      rw [e]; exact ih
    | some x =>
      rw [play13_succ h]
      exact inv_act i1 (by omega) i3 ih x
/-- what the law asks of each object -/
theorem count_row {A : AHeap} {net : List Int} {B : Int} (H : HW A B) (h : CountInv A net) {n : Int} (h1 : 1 ≤ n) (h2 : n ≤ 79) :
    (A.obj n).count = net.getD n.toNat 0 ∧ ((A.obj n).kind ≠ 0 ∧ (A.obj n).count = 0 ↔ n ∈ A.queue) ∧ (n ∈ A.buf → (A.obj n).kind ≠ 0 ∧ (A.obj n).kind ≠ 5 ∧ (A.obj n).count ≠ 0) := by
  refine ⟨(h n h1 h2).symm, ?_, fun hb => ?_⟩
  · cases ho : A.objs n with
    | none =>
      have : A.obj n = AObj.none := by unfold AHeap.obj; rw [ho]; rfl
      rw [this]
      constructor
      · rintro ⟨e, _⟩; exact absurd rfl e
      · intro hq
        obtain ⟨o, ho2, _⟩ := H.q1 n hq
        rw [ho] at ho2; cases ho2
    | some o =>
      rw [obj_some ho]
      have hc := H.c n o ho
      rw [H.qmem ho]
      constructor
      · rintro ⟨_, e⟩; exact e
      · intro e; exact ⟨by omega, e⟩
  · obtain ⟨o, ho, e1, e2⟩ := H.b1 n hb
    rw [obj_some ho]
    have hc := H.c n o ho
    exact ⟨by omega, e1, e2⟩
end Go.Proofs.Ytkpcngcegipalaa.Tw
