/- CellsWatch, plainly: what one act does to a heap that is watched. No condition. -/
import Derived.Test.YtkpcngcegipalaaCkM
namespace Go.Proofs.Ytkpcngcegipalaa.Tw
set_option linter.unusedVariables false
set_option linter.unusedSimpArgs false
open Go Go.RowKit Go.MapKept

def AlikeO (a b : AObj) : Prop := a.kind = b.kind ∧ a.count = b.count ∧ a.mark = b.mark ∧ a.slots = b.slots
instance (a b : AObj) : Decidable (AlikeO a b) := by unfold AlikeO; infer_instance
theorem AlikeO.refl (a : AObj) : AlikeO a a := ⟨rfl, rfl, rfl, rfl⟩
def Shape1 (A B : AHeap) (n : Int) : Prop := B.touched = (A.touched || decide (n ∈ A.watch)) ∧ ∀ m, m ≠ n → B.objs m = A.objs m
def ActLaw (A B : AHeap) (q : Prop) : Prop := (B.touched = A.touched ∧ ∀ m, B.objs m = A.objs m) ∨ ∃ n, Shape1 A B n ∧ (q → ¬ AlikeO (A.obj n) (B.obj n))
theorem ActLaw.same (A : AHeap) (q : Prop) : ActLaw A A q := .inl ⟨rfl, fun _ => rfl⟩
theorem aupd_self (A : AHeap) (n : Int) (o : AObj) : (A.upd n o).objs n = some o := if_pos rfl
theorem aupd_ne (A : AHeap) {n m : Int} (o : AObj) (h : m ≠ n) : (A.upd n o).objs m = A.objs m := if_neg h
theorem law_keep (A : AHeap) (v : AVal) (q : Prop) : ActLaw A (A.keep v) q := by
  unfold AHeap.keep
  cases h : cntO A v with
  | none => exact ActLaw.same A q
  | some o =>
    refine .inr ⟨v.n, ⟨rfl, fun m hm => aupd_ne _ _ hm⟩, fun _ hal => ?_⟩
    have h1 := cntO_some h
    unfold AHeap.obj at hal
    rw [h1, show ((A.touch v.n).upd v.n { o with count := o.count + 1 }).objs v.n = some _ from aupd_self _ _ _] at hal
    have := hal.2.1
    simp only [Option.getD_some] at this
    omega
theorem law_drop (A : AHeap) (v : AVal) (q : Prop) : ActLaw A (A.drop v) q := by
  unfold AHeap.drop
  cases h : cntO A v with
  | none => exact ActLaw.same A q
  | some o =>
    have h1 := cntO_some h
    have key : ∀ B : AHeap, B.touched = (A.drop1 v.n o).touched → B.objs = (A.drop1 v.n o).objs → ActLaw A B q := fun B e1 e2 => by
      refine .inr ⟨v.n, ⟨e1, fun m hm => by rw [e2]; exact aupd_ne _ _ hm⟩, fun _ hal => ?_⟩
      unfold AHeap.obj at hal
      rw [e2, h1, show (A.drop1 v.n o).objs v.n = some _ from aupd_self _ _ _] at hal
      have := hal.2.1
      simp only [Option.getD_some] at this
      omega
    dsimp only
    split
    · exact key _ rfl rfl
    · split
      · exact key _ rfl rfl
      · exact key _ rfl rfl
theorem law_free {A : AHeap} {K : Int} (H : HW A K) (n : Int) (q : Prop) : ActLaw A (A.freeF n) q := by
  unfold AHeap.freeF
  split
  · rename_i hb
    unfold AHeap.freeB at hb
    simp only [Bool.and_eq_true, decide_eq_true_eq] at hb
    have hq : n ∈ A.queue := List.mem_of_mem_head? (by rw [hb.1]; rfl)
    obtain ⟨o, ho, hc⟩ := H.q1 n hq
    refine .inr ⟨n, ⟨rfl, fun m hm => if_neg hm⟩, fun _ hal => ?_⟩
    unfold AHeap.obj at hal
    rw [ho, show (A.free n).objs n = none from if_pos rfl] at hal
    have h1 := hal.1
    have h2 := (H.c n o ho).2.2.2
    simp only [Option.getD_some, Option.getD_none, AObj.none] at h1
    omega
  · exact ActLaw.same A q
theorem law_mark {A : AHeap} {K : Int} (H : HW A K) (n : Int) (q : Prop) : ActLaw A (A.mark n) q := by
  unfold AHeap.mark
  cases ho : A.objs n with
  | none => exact ActLaw.same A q
  | some o =>
    dsimp only
    split
    · rename_i hm
      refine .inr ⟨n, ⟨rfl, fun m hm => aupd_ne _ _ hm⟩, fun _ hal => ?_⟩
      unfold AHeap.obj at hal
      rw [ho, show ((AHeap.upd { A with marks := A.marks + 1 } n { o with mark := A.marks + 1 }).touch n).objs n = some _ from aupd_self _ _ _] at hal
      have h1 := hal.2.2.1
      have h2 := H.m
      simp only [Option.getD_some] at h1
      omega
    · exact ActLaw.same A q
theorem law_fin (A : AHeap) (n : Int) (q : Prop) : ActLaw A (A.finF n) q := by
  unfold AHeap.finF
  cases ho : A.objs n with
  | none => exact ActLaw.same A q
  | some o =>
    dsimp only
    split
    · refine .inr ⟨n, ⟨rfl, fun m hm => aupd_ne _ _ hm⟩, fun _ hal => ?_⟩
      unfold AHeap.obj at hal
      rw [ho, show (A.fin n o).objs n = some _ from aupd_self _ _ _] at hal
      have h1 := hal.2.1
      simp only [Option.getD_some] at h1
      omega
    · exact ActLaw.same A q
theorem law_push (A : AHeap) (n : Int) (v : AVal) : ActLaw A (A.pushF n v) False := by
  unfold AHeap.pushF
  cases ho : A.objs n with
  | none => exact ActLaw.same A _
  | some o =>
    dsimp only
    split
    · exact .inr ⟨n, ⟨rfl, fun m hm => aupd_ne _ _ hm⟩, fun h => h.elim⟩
    · exact ActLaw.same A _
theorem law_pop (A : AHeap) (n : Int) : ActLaw A (A.popF n) False := by
  unfold AHeap.popF
  cases ho : A.objs n with
  | none => exact ActLaw.same A _
  | some o =>
    dsimp only
    split
    · exact ActLaw.same A _
    · exact .inr ⟨n, ⟨rfl, fun m hm => aupd_ne _ _ hm⟩, fun h => h.elim⟩
theorem law_swap (A : AHeap) (n i : Int) (v : AVal) : ActLaw A (A.swapF n i v) False := by
  unfold AHeap.swapF
  repeat' split
  all_goals first
    | exact ActLaw.same A _
    | exact .inr ⟨n, ⟨rfl, fun m hm => aupd_ne _ _ hm⟩, fun h => h.elim⟩
theorem law_lay (A : AHeap) (n : Int) (l : List AVal) : ActLaw A (A.layF n l) False := by
  unfold AHeap.layF
  repeat' split
  all_goals first
    | exact ActLaw.same A _
    | exact .inr ⟨n, ⟨rfl, fun m hm => aupd_ne _ _ hm⟩, fun h => h.elim⟩

/-- one act, that neither makes an object nor watches -/
theorem act_law {A : AHeap} {K : Int} (H : HW A K) (x : Act13) (h0 : ¬ (x.what = 0 ∨ x.what = 1)) (h13 : x.what ≠ 13) : ActLaw A (actA A x) (0 ≤ x.what ∧ x.what < 14) := by
  have weak : ∀ B, ¬ (0 ≤ x.what ∧ x.what < 14) → ActLaw A B False → ActLaw A B (0 ≤ x.what ∧ x.what < 14) := fun B hn h => h.imp id fun ⟨n, h1, h2⟩ => ⟨n, h1, fun c => (hn c).elim⟩
  unfold actA
  rw [if_neg h0]
  by_cases h1 : x.what = 2 ∨ x.what = 3
  · rw [if_pos h1]; exact law_keep _ _ _
  rw [if_neg h1]
  by_cases h2 : x.what = 4 ∨ x.what = 5 ∨ x.what = 6
  · rw [if_pos h2]; exact law_drop _ _ _
  rw [if_neg h2]
  by_cases h3 : x.what = 7
  · rw [if_pos h3]; exact law_free H _ _
  rw [if_neg h3]
  by_cases h4 : x.what = 8
  · rw [if_pos h4]; exact law_mark H _ _
  rw [if_neg h4]
  by_cases h5 : x.what = 9
  · rw [if_pos h5]; exact law_fin _ _ _
  rw [if_neg h5]
  by_cases h6 : x.what = 10
  · rw [if_pos h6]; exact .inl ⟨rfl, fun _ => rfl⟩
  rw [if_neg h6]
  by_cases h7 : x.what = 11
  · rw [if_pos h7]; exact .inl ⟨rfl, fun _ => rfl⟩
  rw [if_neg h7]
  by_cases h8 : x.what = 12
  · rw [if_pos h8]
    refine .inl ?_
    unfold AHeap.suspF
    split <;> exact ⟨rfl, fun _ => rfl⟩
  rw [if_neg h8, if_neg h13]
  refine weak _ (by omega) ?_
  by_cases h14 : x.what = 14
  · rw [if_pos h14]; exact law_push _ _ _
  rw [if_neg h14]
  by_cases h15 : x.what = 15
  · rw [if_pos h15]; exact law_pop _ _
  rw [if_neg h15]
  by_cases h16 : x.what = 16
  · rw [if_pos h16]; exact law_swap _ _ _ _
  rw [if_neg h16]; exact law_lay _ _ _
/-- what CellsWatch says of the act behind the watch -/
theorem watch_law {A : AHeap} {K : Int} (H : HW A K) (x : Act13) (a b : Int) (h0 : ¬ (x.what = 0 ∨ x.what = 1)) (h13 : x.what ≠ 13) :
    (AlikeO (A.obj a) ((actA (A.watchF [a, b]) x).obj a) ∧ AlikeO (A.obj b) ((actA (A.watchF [a, b]) x).obj b) ∨ (actA (A.watchF [a, b]) x).touched = true) ∧
    (0 ≤ x.what ∧ x.what < 14 → AlikeO (A.obj a) ((actA (A.watchF [a, b]) x).obj a) → AlikeO (A.obj b) ((actA (A.watchF [a, b]) x).obj b) → (actA (A.watchF [a, b]) x).touched = false) := by
  have H' : HW (A.watchF [a, b]) K := ⟨H.q1, H.q2, H.qn, H.b1, H.bn, H.f1, H.fn, H.c, H.t, H.ht, H.m⟩
  have hobj : ∀ n, (A.watchF [a, b]).obj n = A.obj n := fun _ => rfl
  rcases act_law H' x h0 h13 with ⟨ht, ho⟩ | ⟨n, ⟨ht, ho⟩, hq⟩
  · have e : ∀ m, (actA (A.watchF [a, b]) x).obj m = A.obj m := fun m => by unfold AHeap.obj; rw [ho m]; rfl
    refine ⟨.inl ⟨by rw [e]; exact AlikeO.refl _, by rw [e]; exact AlikeO.refl _⟩, fun _ _ _ => by rw [ht]; rfl⟩
  · have e : ∀ m, m ≠ n → (actA (A.watchF [a, b]) x).obj m = A.obj m := fun m hm => by unfold AHeap.obj; rw [ho m hm]; rfl
    have ht' : (actA (A.watchF [a, b]) x).touched = decide (n ∈ [a, b]) := by rw [ht]; exact Bool.false_or _
    by_cases hn : n = a ∨ n = b
    · refine ⟨.inr (by rw [ht']; simpa using hn), fun hw ha hb => ?_⟩
      have := hq hw
      rw [hobj] at this
      rcases hn with rfl | rfl
      · exact absurd ha this
      · exact absurd hb this
    · refine ⟨.inl ⟨?_, ?_⟩, fun _ _ _ => by rw [ht']; simpa using hn⟩
      · rw [e a (fun c => hn (.inl c.symm))]; exact AlikeO.refl _
      · rw [e b (fun c => hn (.inr c.symm))]; exact AlikeO.refl _
theorem make_touched (A : AHeap) (k : Int) (tx : ByteArray) : (A.makeF k tx).touched = A.touched := by unfold AHeap.makeF; split <;> rfl
end Go.Proofs.Ytkpcngcegipalaa.Tw
