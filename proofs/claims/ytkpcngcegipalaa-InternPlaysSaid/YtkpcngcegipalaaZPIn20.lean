/- The acts of the laws of cells, plainly. No condition. -/
import Derived.Test.YtkpcngcegipalaaZPIn14
import Derived.Test.YtkpcngcegipalaaZPIn12
namespace Go.Proofs.Ytkpcngcegipalaa.Tw
set_option linter.unusedVariables false
set_option linter.unusedSimpArgs false
open Go Go.RowKit Go.MapKept

structure Act13 where
  what : Int
  n : Int
  i : Int
  v : AVal
  l : List AVal
  tx : ByteArray
def clampI (x : Int) : Int := max 0 (min x 79)
def txc (t : ByteArray) (k : Nat) : ByteArray := t.extract 0 (min t.size k)
def incN (net : List Int) (k : Int) (d : Int) : List Int := net.set k.toNat (net.getD k.toNat 0 + d)
def actA (A : AHeap) (x : Act13) : AHeap :=
  if x.what = 0 ∨ x.what = 1 then A.makeF x.i (txc x.tx 100)
  else if x.what = 2 ∨ x.what = 3 then A.keep x.v
  else if x.what = 4 ∨ x.what = 5 ∨ x.what = 6 then A.drop x.v
  else if x.what = 7 then A.freeF x.n
  else if x.what = 8 then A.mark x.n
  else if x.what = 9 then A.finF x.n
  else if x.what = 10 then A.nextF
  else if x.what = 11 then { A with buf := [] }
  else if x.what = 12 then A.suspF x.n
  else if x.what = 13 then A.watchF [x.n, x.i]
  else if x.what = 14 then A.pushF x.n x.v
  else if x.what = 15 then A.popF x.n
  else if x.what = 16 then A.swapF x.n x.i x.v
  else A.layF x.n (x.l.take 20)
def actN (A : AHeap) (net : List Int) (x : Act13) : List Int :=
  if x.what = 0 ∨ x.what = 1 then (if 0 < (A.makeV x.i (txc x.tx 100)).n ∧ (A.makeV x.i (txc x.tx 100)).n < 80 then net.set (A.makeV x.i (txc x.tx 100)).n.toNat 1 else net)
  else if x.what = 2 ∨ x.what = 3 then (if cntE A x.v = 0 ∧ refV x.v = true then incN net (clampI x.v.n) 1 else net)
  else if x.what = 4 ∨ x.what = 5 ∨ x.what = 6 then (if cntE A x.v = 0 ∧ refV x.v = true then incN net (clampI x.v.n) (-1) else net)
  else if x.what = 7 then (if A.freeE x.n = 0 then net.set (clampI x.n).toNat 0 else net)
  else if x.what = 9 then (if A.finE x.n = 0 then incN net (clampI x.n) 1 else net)
  else net
def act1 (s : AHeap × List Int) (x : Act13) : AHeap × List Int := (actA s.1 x, actN s.1 s.2 x)
def play13 (l : List Act13) (k : Nat) : AHeap × List Int := (l.take k).foldl act1 (AHeap.empty, List.replicate 80 0)
theorem play13_succ {l : List Act13} {k : Nat} {x : Act13} (h : l[k]? = some x) : play13 l (k + 1) = act1 (play13 l k) x := by
  unfold play13
  rw [List.take_add_one, h, List.foldl_append]; rfl
theorem clampI_rng (x : Int) : 0 ≤ clampI x ∧ clampI x ≤ 79 := by unfold clampI; omega
theorem actN_len (A : AHeap) (net : List Int) (x : Act13) : (actN A net x).length = net.length := by
  unfold actN incN
  repeat' split
  all_goals simp
theorem makeF_T (A : AHeap) (k : Int) (tx : ByteArray) : (A.makeF k tx).T.length ≤ A.T.length + 1 := by
  unfold AHeap.makeF
  split
  · show (takeT A.T).length ≤ _
    rw [takeT_length]
    have := firstFree_le A.T
    omega
  · omega
theorem keep_T (A : AHeap) (v : AVal) : (A.keep v).T = A.T := by unfold AHeap.keep; split <;> rfl
theorem drop_T (A : AHeap) (v : AVal) : (A.drop v).T = A.T := by
  unfold AHeap.drop
  split
  · rfl
  · dsimp only
    repeat' split
    all_goals rfl
theorem free_T (A : AHeap) (n : Int) : (A.freeF n).T.length = A.T.length := by
  unfold AHeap.freeF
  split
  · exact giveT_length _ _
  · rfl
theorem mark_T (A : AHeap) (n : Int) : (A.mark n).T = A.T := by
  unfold AHeap.mark
  cases A.objs n with
  | none => rfl
  | some o =>
    dsimp only
    split <;> rfl
theorem actA_T (A : AHeap) (x : Act13) : (actA A x).T.length ≤ A.T.length + 1 := by
  unfold actA
  by_cases h0 : x.what = 0 ∨ x.what = 1
  · rw [if_pos h0]
    exact makeF_T _ _ _
  rw [if_neg h0]
  by_cases h1 : x.what = 2 ∨ x.what = 3
  · rw [if_pos h1]
    rw [keep_T]; omega
  rw [if_neg h1]
  by_cases h2 : x.what = 4 ∨ x.what = 5 ∨ x.what = 6
  · rw [if_pos h2]
    rw [drop_T]; omega
  rw [if_neg h2]
  by_cases h3 : x.what = 7
  · rw [if_pos h3]
    rw [free_T]; omega
  rw [if_neg h3]
  by_cases h4 : x.what = 8
  · rw [if_pos h4]
    rw [mark_T]; omega
  rw [if_neg h4]
  by_cases h5 : x.what = 9
  · rw [if_pos h5]
    unfold AHeap.finF; repeat' split
    all_goals (show A.T.length ≤ _; omega)
  rw [if_neg h5]
  by_cases h6 : x.what = 10
  · rw [if_pos h6]
    show A.T.length ≤ _; omega
  rw [if_neg h6]
  by_cases h7 : x.what = 11
  · rw [if_pos h7]
    show A.T.length ≤ _; omega
  rw [if_neg h7]
  by_cases h8 : x.what = 12
  · rw [if_pos h8]
    unfold AHeap.suspF; split <;> (show A.T.length ≤ _; omega)
  rw [if_neg h8]
  by_cases h9 : x.what = 13
  · rw [if_pos h9]
    show A.T.length ≤ _; omega
  rw [if_neg h9]
  by_cases h10 : x.what = 14
  · rw [if_pos h10]
    unfold AHeap.pushF; repeat' split
    all_goals (show A.T.length ≤ _; omega)
  rw [if_neg h10]
  by_cases h11 : x.what = 15
  · rw [if_pos h11]
    unfold AHeap.popF; repeat' split
    all_goals (show A.T.length ≤ _; omega)
  rw [if_neg h11]
  by_cases h12 : x.what = 16
  · rw [if_pos h12]
    unfold AHeap.swapF; repeat' split
    all_goals (show A.T.length ≤ _; omega)
  rw [if_neg h12]
  unfold AHeap.layF; repeat' split
  all_goals (show A.T.length ≤ _; omega)
theorem HW.act {A : AHeap} {B : Int} (h : HW A B) (hB : 20 ≤ B) (x : Act13) : HW (actA A x) (B + 1) := by
  unfold actA
  by_cases h0 : x.what = 0 ∨ x.what = 1
  · rw [if_pos h0]
    exact h.make (by omega) _ _
  rw [if_neg h0]
  by_cases h1 : x.what = 2 ∨ x.what = 3
  · rw [if_pos h1]
    exact h.keep _
  rw [if_neg h1]
  by_cases h2 : x.what = 4 ∨ x.what = 5 ∨ x.what = 6
  · rw [if_pos h2]
    exact (h.drop _).mono (by omega)
  rw [if_neg h2]
  by_cases h3 : x.what = 7
  · rw [if_pos h3]
    exact (h.free _).mono (by omega)
  rw [if_neg h3]
  by_cases h4 : x.what = 8
  · rw [if_pos h4]
    exact h.mark _
  rw [if_neg h4]
  by_cases h5 : x.what = 9
  · rw [if_pos h5]
    exact (h.fin _).mono (by omega)
  rw [if_neg h5]
  by_cases h6 : x.what = 10
  · rw [if_pos h6]
    exact h.next.mono (by omega)
  rw [if_neg h6]
  by_cases h7 : x.what = 11
  · rw [if_pos h7]
    exact h.take.mono (by omega)
  rw [if_neg h7]
  by_cases h8 : x.what = 12
  · rw [if_pos h8]
    exact (h.susp _).mono (by omega)
  rw [if_neg h8]
  by_cases h9 : x.what = 13
  · rw [if_pos h9]
    exact (h.watch _).mono (by omega)
  rw [if_neg h9]
  by_cases h10 : x.what = 14
  · rw [if_pos h10]
    exact h.push _ _
  rw [if_neg h10]
  by_cases h11 : x.what = 15
  · rw [if_pos h11]
    exact (h.pop _).mono (by omega)
  rw [if_neg h11]
  by_cases h12 : x.what = 16
  · rw [if_pos h12]
    exact (h.swap _ _ _).mono (by omega)
  rw [if_neg h12]
  exact (h.lay _ _ (by rw [List.length_take]; omega)).mono (by omega)
/-- numbers of a net, bounded -/
def NetB (net : List Int) (k : Int) : Prop := ∀ j, -k ≤ net.getD j 0 ∧ net.getD j 0 ≤ k + 1
theorem netB_set {net : List Int} {k : Int} (h : NetB net k) (i : Nat) (z : Int) (hz : -(k + 1) ≤ z ∧ z ≤ k + 2) : NetB (net.set i z) (k + 1) := by
  intro j
  have := h j
  simp only [List.getD, List.getElem?_set] at this ⊢
  split
  · split
    · simp; omega
    · have h0 := h net.length
      simp [List.getD] at h0
      simp; omega
  · omega
theorem actN_b {A : AHeap} {net : List Int} {k : Int} (h : NetB net k) (hk : 0 ≤ k) (x : Act13) : NetB (actN A net x) (k + 1) := by
  have hm : NetB net (k + 1) := fun j => by have := h j; omega
  unfold actN incN
  by_cases h0 : x.what = 0 ∨ x.what = 1
  · rw [if_pos h0]
    split
    · exact netB_set h _ _ (by omega)
    · exact hm
  rw [if_neg h0]
  by_cases h1 : x.what = 2 ∨ x.what = 3
  · rw [if_pos h1]
    split
    · have := h (clampI x.v.n).toNat
      exact netB_set h _ _ (by omega)
    · exact hm
  rw [if_neg h1]
  by_cases h2 : x.what = 4 ∨ x.what = 5 ∨ x.what = 6
  · rw [if_pos h2]
    split
    · have := h (clampI x.v.n).toNat
      exact netB_set h _ _ (by omega)
    · exact hm
  rw [if_neg h2]
  by_cases h3 : x.what = 7
  · rw [if_pos h3]
    split
    · exact netB_set h _ _ (by omega)
    · exact hm
  rw [if_neg h3]
  by_cases h4 : x.what = 9
  · rw [if_pos h4]
    split
    · have := h (clampI x.n).toNat
      exact netB_set h _ _ (by omega)
    · exact hm
  rw [if_neg h4]
  exact hm
theorem play13_hw (l : List Act13) : ∀ k, HW (play13 l k).1 (20 + k) ∧ (play13 l k).1.T.length ≤ k ∧ (play13 l k).2.length = 80 ∧ NetB (play13 l k).2 k
  | 0 => ⟨HW.empty.mono (by omega), by simp [play13, AHeap.empty], by simp [play13], fun j => by
      have : (play13 l 0).2 = List.replicate 80 0 := rfl
      rw [this]
      simp only [List.getD, List.getElem?_replicate]
      split <;> simp⟩
  | k + 1 => by
    obtain ⟨h1, h2, h3, h4⟩ := play13_hw l k
    cases h : l[k]? with
    | none =>
      have e : play13 l (k + 1) = play13 l k := by unfold play13; rw [List.take_add_one, h]; simp
      rw [e]
      exact ⟨h1.mono (by omega), by omega, h3, fun j => by have := h4 j; omega⟩
    | some x =>
      rw [play13_succ h]
      refine ⟨?_, ?_, ?_, ?_⟩
      · exact (h1.act (by omega) x).mono (by omega)
      · have := actA_T (play13 l k).1 x
        show (actA _ _).T.length ≤ _
        omega
      · show (actN _ _ _).length = 80
        rw [actN_len]; exact h3
      · have := actN_b (A := (play13 l k).1) h4 (by omega) x
        exact this
section
variable {w0 w : World} {F : HP} {nb nc : Nat} {net : List Int}
theorem netAt (h : Sat w0 w (slc 3 1 (some ⟨nb, 0, none⟩) 80 nc (net.map ival) * F)) (hl : net.length = 80) {j : Nat} (hj : j < 80) : w.cell? ⟨nb, j, none⟩ = some (.int .i64 (net.getD j 0)) ∧ w.frozen? ⟨nb, j, none⟩ = false := by
  have hx : net[j]? = some (net[j]'(by omega)) := List.getElem?_eq_getElem _
  obtain ⟨g, off, e, c0, f0⟩ := intCells h hx
  cases e
  rw [Nat.zero_add] at c0 f0
  have : net.getD j 0 = net[j]'(by omega) := by simp [List.getD, hx]
  rw [this]
  exact ⟨c0, f0⟩
theorem netSet (h : Sat w0 w (slc 3 1 (some ⟨nb, 0, none⟩) 80 nc (net.map ival) * F)) {j : Nat} (hj : j < 80) (z : Int) : Sat w0 (w.setCell ⟨nb, j, none⟩ (.int .i64 z)) (slc 3 1 (some ⟨nb, 0, none⟩) 80 nc ((net.set j z).map ival) * F) := by
  have := h.slcStore (j := j) (by omega) (ival z)
  rw [Nat.zero_add] at this
  rw [List.map_set]; exact this
end
end Go.Proofs.Ytkpcngcegipalaa.Tw
namespace Go.Proofs.Ytkpcngcegipalaa.Tw
set_option linter.unusedVariables false
set_option linter.unusedSimpArgs false
open Go Go.RowKit Go.MapKept

def AlikeO (a b : AObj) : Prop := a.kind = b.kind ∧ a.count = b.count ∧ a.mark = b.mark ∧ a.slots = b.slots
instance (a b : AObj) : Decidable (AlikeO a b) := by unfold AlikeO; infer_instance
theorem AlikeO.refl (a : AObj) : AlikeO a a := ⟨rfl, rfl, rfl, rfl⟩
def Shape1 (A B : AHeap) (n : Int) : Prop := B.touched = (A.touched || decide (n ∈ A.watch)) ∧ ∀ m, m ≠ n → B.objs m = A.objs m
def ActLaw (A B : AHeap) (q : Prop) : Prop := (B.touched = A.touched ∧ ∀ m, B.objs m = A.objs m) ∨ ∃ n, Shape1 A B n ∧ (q → ¬ AlikeO (A.obj n) (B.obj n))
theorem ActLaw.same (A : AHeap) (q : Prop) : ActLaw A A q := .inl ⟨rfl, fun _ => rfl⟩
theorem aupd_self (A : AHeap) (n : Int) (o : AObj) : (A.upd n o).objs n = some o := if_pos rfl
theorem aupd_ne (A : AHeap) {n m : Int} (o : AObj) (h : m ≠ n) : (A.upd n o).objs m = A.objs m := if_neg h
theorem law_keep (A : AHeap) (v : AVal) (q : Prop) : ActLaw A (A.keep v) q := by
  unfold AHeap.keep
  cases h : cntO A v with
  | none => exact ActLaw.same A q
  | some o =>
    refine .inr ⟨v.n, ⟨rfl, fun m hm => aupd_ne _ _ hm⟩, fun _ hal => ?_⟩
    have h1 := cntO_some h
    unfold AHeap.obj at hal
    rw [h1, show ((A.touch v.n).upd v.n { o with count := o.count + 1 }).objs v.n = some _ from aupd_self _ _ _] at hal
    have := hal.2.1
    simp only [Option.getD_some] at this
    omega
theorem law_drop (A : AHeap) (v : AVal) (q : Prop) : ActLaw A (A.drop v) q := by
  unfold AHeap.drop
  cases h : cntO A v with
  | none => exact ActLaw.same A q
  | some o =>
    have h1 := cntO_some h
    have key : ∀ B : AHeap, B.touched = (A.drop1 v.n o).touched → B.objs = (A.drop1 v.n o).objs → ActLaw A B q := fun B e1 e2 => by
      refine .inr ⟨v.n, ⟨e1, fun m hm => by rw [e2]; exact aupd_ne _ _ hm⟩, fun _ hal => ?_⟩
      unfold AHeap.obj at hal
      rw [e2, h1, show (A.drop1 v.n o).objs v.n = some _ from aupd_self _ _ _] at hal
      have := hal.2.1
      simp only [Option.getD_some] at this
      omega
    dsimp only
    split
    · exact key _ rfl rfl
    · split
      · exact key _ rfl rfl
      · exact key _ rfl rfl
theorem law_free {A : AHeap} {K : Int} (H : HW A K) (n : Int) (q : Prop) : ActLaw A (A.freeF n) q := by
  unfold AHeap.freeF
  split
  · rename_i hb
    unfold AHeap.freeB at hb
    simp only [Bool.and_eq_true, decide_eq_true_eq] at hb
    have hq : n ∈ A.queue := List.mem_of_mem_head? (by rw [hb.1]; rfl)
    obtain ⟨o, ho, hc⟩ := H.q1 n hq
    refine .inr ⟨n, ⟨rfl, fun m hm => if_neg hm⟩, fun _ hal => ?_⟩
    unfold AHeap.obj at hal
    rw [ho, show (A.free n).objs n = none from if_pos rfl] at hal
    have h1 := hal.1
    have h2 := (H.c n o ho).2.2.2
    simp only [Option.getD_some, Option.getD_none, AObj.none] at h1
    omega
  · exact ActLaw.same A q
theorem law_mark {A : AHeap} {K : Int} (H : HW A K) (n : Int) (q : Prop) : ActLaw A (A.mark n) q := by
  unfold AHeap.mark
  cases ho : A.objs n with
  | none => exact ActLaw.same A q
  | some o =>
    dsimp only
    split
    · rename_i hm
      refine .inr ⟨n, ⟨rfl, fun m hm => aupd_ne _ _ hm⟩, fun _ hal => ?_⟩
      unfold AHeap.obj at hal
      rw [ho, show ((AHeap.upd { A with marks := A.marks + 1 } n { o with mark := A.marks + 1 }).touch n).objs n = some _ from aupd_self _ _ _] at hal
      have h1 := hal.2.2.1
      have h2 := H.m
      simp only [Option.getD_some] at h1
      omega
    · exact ActLaw.same A q
theorem law_fin (A : AHeap) (n : Int) (q : Prop) : ActLaw A (A.finF n) q := by
  unfold AHeap.finF
  cases ho : A.objs n with
  | none => exact ActLaw.same A q
  | some o =>
    dsimp only
    split
    · refine .inr ⟨n, ⟨rfl, fun m hm => aupd_ne _ _ hm⟩, fun _ hal => ?_⟩
      unfold AHeap.obj at hal
      rw [ho, show (A.fin n o).objs n = some _ from aupd_self _ _ _] at hal
      have h1 := hal.2.1
      simp only [Option.getD_some] at h1
      omega
    · exact ActLaw.same A q
theorem law_push (A : AHeap) (n : Int) (v : AVal) : ActLaw A (A.pushF n v) False := by
  unfold AHeap.pushF
  cases ho : A.objs n with
  | none => exact ActLaw.same A _
  | some o =>
    dsimp only
    split
    · exact .inr ⟨n, ⟨rfl, fun m hm => aupd_ne _ _ hm⟩, fun h => h.elim⟩
    · exact ActLaw.same A _
theorem law_pop (A : AHeap) (n : Int) : ActLaw A (A.popF n) False := by
  unfold AHeap.popF
  cases ho : A.objs n with
  | none => exact ActLaw.same A _
  | some o =>
    dsimp only
    split
    · exact ActLaw.same A _
    · exact .inr ⟨n, ⟨rfl, fun m hm => aupd_ne _ _ hm⟩, fun h => h.elim⟩
theorem law_swap (A : AHeap) (n i : Int) (v : AVal) : ActLaw A (A.swapF n i v) False := by
  unfold AHeap.swapF
  repeat' split
  all_goals first
    | exact ActLaw.same A _
    | exact .inr ⟨n, ⟨rfl, fun m hm => aupd_ne _ _ hm⟩, fun h => h.elim⟩
theorem law_lay (A : AHeap) (n : Int) (l : List AVal) : ActLaw A (A.layF n l) False := by
  unfold AHeap.layF
  repeat' split
  all_goals first
    | exact ActLaw.same A _
    | exact .inr ⟨n, ⟨rfl, fun m hm => aupd_ne _ _ hm⟩, fun h => h.elim⟩

/-- one act, that neither makes an object nor watches -/
theorem act_law {A : AHeap} {K : Int} (H : HW A K) (x : Act13) (h0 : ¬ (x.what = 0 ∨ x.what = 1)) (h13 : x.what ≠ 13) : ActLaw A (actA A x) (0 ≤ x.what ∧ x.what < 14) := by
  have weak : ∀ B, ¬ (0 ≤ x.what ∧ x.what < 14) → ActLaw A B False → ActLaw A B (0 ≤ x.what ∧ x.what < 14) := fun B hn h => h.imp id fun ⟨n, h1, h2⟩ => ⟨n, h1, fun c => (hn c).elim⟩
  unfold actA
  rw [if_neg h0]
  by_cases h1 : x.what = 2 ∨ x.what = 3
  · rw [if_pos h1]; exact law_keep _ _ _
  rw [if_neg h1]
  by_cases h2 : x.what = 4 ∨ x.what = 5 ∨ x.what = 6
  · rw [if_pos h2]; exact law_drop _ _ _
  rw [if_neg h2]
  by_cases h3 : x.what = 7
  · rw [if_pos h3]; exact law_free H _ _
  rw [if_neg h3]
  by_cases h4 : x.what = 8
  · rw [if_pos h4]; exact law_mark H _ _
  rw [if_neg h4]
  by_cases h5 : x.what = 9
  · rw [if_pos h5]; exact law_fin _ _ _
  rw [if_neg h5]
  by_cases h6 : x.what = 10
  · rw [if_pos h6]; exact .inl ⟨rfl, fun _ => rfl⟩
  rw [if_neg h6]
  by_cases h7 : x.what = 11
  · rw [if_pos h7]; exact .inl ⟨rfl, fun _ => rfl⟩
  rw [if_neg h7]
  by_cases h8 : x.what = 12
  · rw [if_pos h8]
    refine .inl ?_
    unfold AHeap.suspF
    split <;> exact ⟨rfl, fun _ => rfl⟩
  rw [if_neg h8, if_neg h13]
  refine weak _ (by omega) ?_
  by_cases h14 : x.what = 14
  · rw [if_pos h14]; exact law_push _ _ _
  rw [if_neg h14]
  by_cases h15 : x.what = 15
  · rw [if_pos h15]; exact law_pop _ _
  rw [if_neg h15]
  by_cases h16 : x.what = 16
  · rw [if_pos h16]; exact law_swap _ _ _ _
  rw [if_neg h16]; exact law_lay _ _ _
/-- what CellsWatch says of the act behind the watch -/
theorem watch_law {A : AHeap} {K : Int} (H : HW A K) (x : Act13) (a b : Int) (h0 : ¬ (x.what = 0 ∨ x.what = 1)) (h13 : x.what ≠ 13) :
    (AlikeO (A.obj a) ((actA (A.watchF [a, b]) x).obj a) ∧ AlikeO (A.obj b) ((actA (A.watchF [a, b]) x).obj b) ∨ (actA (A.watchF [a, b]) x).touched = true) ∧
    (0 ≤ x.what ∧ x.what < 14 → AlikeO (A.obj a) ((actA (A.watchF [a, b]) x).obj a) → AlikeO (A.obj b) ((actA (A.watchF [a, b]) x).obj b) → (actA (A.watchF [a, b]) x).touched = false) := by
  have H' : HW (A.watchF [a, b]) K := ⟨H.q1, H.q2, H.qn, H.b1, H.bn, H.f1, H.fn, H.c, H.t, H.ht, H.m⟩
  have hobj : ∀ n, (A.watchF [a, b]).obj n = A.obj n := fun _ => rfl
  rcases act_law H' x h0 h13 with ⟨ht, ho⟩ | ⟨n, ⟨ht, ho⟩, hq⟩
  · have e : ∀ m, (actA (A.watchF [a, b]) x).obj m = A.obj m := fun m => by unfold AHeap.obj; rw [ho m]; rfl
    refine ⟨.inl ⟨by rw [e]; exact AlikeO.refl _, by rw [e]; exact AlikeO.refl _⟩, fun _ _ _ => by rw [ht]; rfl⟩
  · have e : ∀ m, m ≠ n → (actA (A.watchF [a, b]) x).obj m = A.obj m := fun m hm => by unfold AHeap.obj; rw [ho m hm]; rfl
    have ht' : (actA (A.watchF [a, b]) x).touched = decide (n ∈ [a, b]) := by rw [ht]; exact Bool.false_or _
    by_cases hn : n = a ∨ n = b
    · refine ⟨.inr (by rw [ht']; simpa using hn), fun hw ha hb => ?_⟩
      have := hq hw
      rw [hobj] at this
      rcases hn with rfl | rfl
      · exact absurd ha this
      · exact absurd hb this
    · refine ⟨.inl ⟨?_, ?_⟩, fun _ _ _ => by rw [ht']; simpa using hn⟩
      · rw [e a (fun c => hn (.inl c.symm))]; exact AlikeO.refl _
      · rw [e b (fun c => hn (.inr c.symm))]; exact AlikeO.refl _
theorem make_touched (A : AHeap) (k : Int) (tx : ByteArray) : (A.makeF k tx).touched = A.touched := by unfold AHeap.makeF; split <;> rfl
end Go.Proofs.Ytkpcngcegipalaa.Tw
namespace Go.Proofs.Ytkpcngcegipalaa.Tw
set_option linter.unusedVariables false
set_option linter.unusedSimpArgs false
open Go Go.RowKit Go.MapKept

theorem heap_Copy_nil (w : World) : Calls Try.prog 26 #[.pointer none] w fun e w' => e = .returned (.pointer none) ∧ w = w' := by
  go_enter Try.func26, Try.ntmps26
  go_wp2
  go_ret
  exact ⟨rfl, rfl⟩

structure CopyInv (A : AHeap) (O : List (Int × Nat × AObj)) (R : List (Int × Value)) (O2 : List (Int × Nat × AObj)) : Prop where
  perm : ((O2.map (·.1)) ++ (R.map (·.1))).Perm (O.map (·.1))
  objs : ∀ x ∈ O2, A.objs x.1 = some x.2.2
theorem CopyInv.start (A : AHeap) (O : List (Int × Nat × AObj)) : CopyInv A O (omap O) [] := ⟨by simp [omap, Function.comp_def], by simp⟩
theorem CopyInv.mem {A : AHeap} {O : List (Int × Nat × AObj)} {R : List (Int × Value)} {O2 : List (Int × Nat × AObj)} (I : CopyInv A O R O2) {j : Nat} {n : Int} {v : Value} (h : R[j]? = some (n, v)) : n ∈ O.map (·.1) :=
  I.perm.mem_iff.1 (List.mem_append_right _ (List.mem_map.2 ⟨(n, v), List.mem_of_getElem? h, rfl⟩))
theorem CopyInv.new {A : AHeap} {O : List (Int × Nat × AObj)} {R : List (Int × Value)} {O2 : List (Int × Nat × AObj)} (I : CopyInv A O R O2) (hn : (O.map (·.1)).Nodup) {j : Nat} {n : Int} {v : Value} (h : R[j]? = some (n, v)) : n ∉ O2.map (·.1) := by
  have := I.perm.nodup_iff.2 hn
  rw [List.nodup_append] at this
  intro hm
  exact this.2.2 n hm n (List.mem_map.2 ⟨(n, v), List.mem_of_getElem? h, rfl⟩) rfl
theorem perm_erase {α : Type} {R : List α} {j : Nat} {x : α} (h : R[j]? = some x) : R.Perm (x :: R.eraseIdx j) := by
  induction R generalizing j with
  | nil => simp at h
  | cons y R ih =>
    cases j with
    | zero => simp at h; subst h; exact List.Perm.refl _
    | succ j =>
      simp at h
      exact ((ih h).cons y).trans (List.Perm.swap _ _ _)
theorem CopyInv.step {A : AHeap} {O : List (Int × Nat × AObj)} {R : List (Int × Value)} {O2 : List (Int × Nat × AObj)} (I : CopyInv A O R O2) {j : Nat} {n : Int} {v : Value} (h : R[j]? = some (n, v)) (b : Nat) {o : AObj} (ho : A.objs n = some o) : CopyInv A O (R.eraseIdx j) (O2 ++ [(n, b, o)]) := by
  refine ⟨?_, ?_⟩
  · refine List.Perm.trans ?_ I.perm
    rw [List.map_append, List.append_assoc]
    refine List.Perm.append_left _ ?_
    have := (perm_erase h).map (·.1)
    exact this.symm
  · intro x hx
    rcases List.mem_append.1 hx with hx | hx
    · exact I.objs x hx
    · simp at hx; subst hx; exact ho
theorem oget_mem {O : List (Int × Nat × AObj)} {n : Int} (h : n ∈ O.map (·.1)) : ∃ b o, oget O n = some (b, o) ∧ (n, b, o) ∈ O := by
  induction O with
  | nil => simp at h
  | cons x O ih =>
    obtain ⟨k, b, o⟩ := x
    by_cases e : k = n
    · subst e; exact ⟨b, o, by simp [oget], by simp⟩
    · simp at h
      rcases h with h | h
      · exact absurd h.symm e
      · obtain ⟨b', o', h1, h2⟩ := ih (by simpa using h)
        exact ⟨b', o', by simpa [oget, e] using h1, List.mem_cons_of_mem _ h2⟩
theorem oget_none {O : List (Int × Nat × AObj)} {n : Int} (h : n ∉ O.map (·.1)) : oget O n = none := by
  unfold oget
  rw [List.find?_eq_none.2 fun x hx => by
    have : x.1 ≠ n := fun e => h (e ▸ List.mem_map_of_mem hx)
    simpa using this]
  rfl
theorem CopyInv.done {A : AHeap} {O O2 : List (Int × Nat × AObj)} (I : CopyInv A O [] O2) (ho : ∀ n, (oget O n).map (·.2) = A.objs n) (n : Int) : (oget O2 n).map (·.2) = A.objs n := by
  have hp := I.perm
  rw [List.map_nil, List.append_nil] at hp
  by_cases h : n ∈ O2.map (·.1)
  · obtain ⟨b, o, h1, h2⟩ := oget_mem h
    rw [h1]
    exact (I.objs _ h2).symm
  · rw [oget_none h, ← ho n, oget_none (fun q => h (hp.mem_iff.2 q))]
theorem mset_new {O2 : List (Int × Nat × AObj)} {n : Int} (h : n ∉ O2.map (·.1)) (b : Nat) (o : AObj) : mset (omap O2) n (.pointer (some ⟨b, 0, none⟩)) = omap (O2 ++ [(n, b, o)]) := by
  unfold mset
  rw [mget_omap, oget_none h]
  simp [omap]

theorem watch_func {m : Hp} {fv : Value} {W : List Int} (h : watchOK m fv W) : ∃ f lb, fv = .func (.func f) #[] lb := by
  rcases h with ⟨rfl, _⟩ | h
  · exact ⟨_, _, rfl⟩
  · rcases h with h | ⟨wb, g, off, c, cur, rfl, _⟩
    · exact h.elim
    · exact ⟨_, _, rfl⟩
set_option maxRecDepth 100000 in
set_option maxHeartbeats 4000000 in
theorem heap_Copy {w0 w : World} {m : Hp} {p : Nat} {A : AHeap} {F : HP} (h : Sat w0 w (heapR m p A * F)) (hT : A.T.length < 1000000000) (hS : ∀ n o, A.objs n = some o → o.slots.length ≤ 1000000000) (hq : A.queue.length ≤ 1000000000) (hb : A.buf.length ≤ 1000000000) (hf : A.fins.length ≤ 1000000000) :
    Calls Try.prog 26 #[.pointer (some ⟨p, 0, none⟩)] w fun e w' => ∃ q, e = .returned (.pointer (some ⟨q, 0, none⟩)) ∧ Sat w0 w' (heapR m q A * (heapR m p A * F)) := by
  obtain ⟨pb, mb, O, qa, qc, ba, bc, fa, fc, fv, op⟩ := h.openHeap
  obtain ⟨ff, lb, rfl⟩ := watch_func op.hw
  have HS := Lib.hid hS
  clear hS
  have c0 : w.cell? ⟨p, 0, none⟩ = some (.pointer (some ⟨pb, 0, none⟩)) := op.hs.cell 0 rfl
  have c1 : w.cell? ⟨p, 1, none⟩ = some (.map (some mb)) := op.hs.cell 1 rfl
  have c2 : w.cell? ⟨p, 2, none⟩ = some (.slice qa A.queue.length qc) := op.hs.cell 2 rfl
  have c3 : w.cell? ⟨p, 3, none⟩ = some (.slice ba A.buf.length bc) := op.hs.cell 3 rfl
  have c4 : w.cell? ⟨p, 4, none⟩ = some (.slice fa A.fins.length fc) := op.hs.cell 4 rfl
  have c5 : w.cell? ⟨p, 5, none⟩ = some (.int .i64 A.marks) := op.hs.cell 5 rfl
  have c6 : w.cell? ⟨p, 6, none⟩ = some (.func (.func ff) #[] lb) := op.hs.cell 6 rfl
  have c7 : w.cell? ⟨p, 7, none⟩ = some (.bool A.touched) := op.hs.cell 7 rfl
  have op1 := op.alloc (.cells #[.pointer (some ⟨pb, 0, none⟩), .map (some mb), .slice qa A.queue.length qc, .slice ba A.buf.length bc, .slice fa A.fins.length fc, .int .i64 A.marks, .func (.func ff) #[] lb, .bool A.touched] 90)
  have d0 : (w.alloc (.cells #[.pointer (some ⟨pb, 0, none⟩), .map (some mb), .slice qa A.queue.length qc, .slice ba A.buf.length bc, .slice fa A.fins.length fc, .int .i64 A.marks, .func (.func ff) #[] lb, .bool A.touched] 90)).cell? ⟨p, 0, none⟩ = some (.pointer (some ⟨pb, 0, none⟩)) := op1.hs.cell 0 rfl
  generalize hob : w.heap.size = ob at *
  have HP := Lib.hid (pool_Copy op1.hs.p2 hT)
  have hss := @run_store_fn Try.prog
  have hmm := @run_makeMap Try.prog
  go_enter Try.func26, Try.ntmps26
  try rw [hob]
  go_wp2_with fail
  refine HP.out.mono ?_
  rintro e w1 ⟨pq, rfl, h1⟩
  have h2 := (h1.cast (show _ = row ob 90 #[.pointer (some ⟨pb, 0, none⟩), .map (some mb), .slice qa A.queue.length qc, .slice ba A.buf.length bc, .slice fa A.fins.length fc, .int .i64 A.marks, .func (.func ff) #[] lb, .bool A.touched] * (poolR pq A.T * (openR p A pb mb O qa qc ba bc fa fc (.func (.func ff) #[] lb) * F)) by unfold openR; simp only [mul_assoc]; unfold row; ac_rfl))
  have k0 : w1.cell? ⟨ob, 0, none⟩ = some (.pointer (some ⟨pb, 0, none⟩)) := h2.cell 0 rfl
  have kf0 := h2.free 0
  have h3 := h2.store (i := 0) (.pointer (some ⟨pq, 0, none⟩))
  simp only [List.setIfInBounds_toArray, List.set_cons_zero] at h3
  have h4 := h3.newMap (κ := Int) (d := .int .i64) (kv := Value.int .i64)
  have k1 : ((w1.setCell ⟨ob, 0, none⟩ (.pointer (some ⟨pq, 0, none⟩))).alloc (.map #[] 0)).cell? ⟨ob, 1, none⟩ = some (.map (some mb)) := h4.p2.cell 1 rfl
  have kf1 := h4.p2.free 1
  have hsz : (w1.setCell ⟨ob, 0, none⟩ (.pointer (some ⟨pq, 0, none⟩))).heap.size = w1.heap.size := by simp
  rw [hsz] at h4
  have h5 := h4.p2.store (i := 1) (.map (some w1.heap.size))
  simp only [List.setIfInBounds_toArray, List.set_cons_zero, List.set_cons_succ] at h5
  generalize hmq : w1.heap.size = mq at *
  have op6 := op.opens h5.p4
  have c61 : ((((w1.setCell ⟨ob, 0, none⟩ (.pointer (some ⟨pq, 0, none⟩))).alloc (.map #[] 0)).setCell ⟨ob, 1, none⟩ (.map (some mq)))).cell? ⟨p, 1, none⟩ = some (.map (some mb)) := op6.hs.cell 1 rfl
  clear h1 h2 h3 h4
  go_wp2_with (at_range; refine wpList_range rfl _ 86 rfl Try.underlying86 mb rfl op6.hs.p3 ?_; intro it w8 hs8)
  have hnd := (op6.hs.p3.openMap).1
  have HND : Hid ((O.map (·.1)).Nodup) := Lib.hid (by simpa [omap, Function.comp_def] using hnd)
  have hs9 := ((hs8.p9.p9).cast (show _ = iterR (.int .i64) (Value.int .i64) mb it (omap O) (omap O) none * (row p 90 (heapCells pb mb A qa qc ba bc fa fc (.func (.func ff) #[] lb)) * (poolR pb A.T * (objsR O * (slc 3 1 qa A.queue.length qc (A.queue.map ival) * (slc 3 1 ba A.buf.length bc (A.buf.map ival) * (slc 135 2 fa A.fins.length fc (finCells A.fins) * (row ob 90 #[.pointer (some ⟨pq, 0, none⟩), .map (some mq), .slice qa A.queue.length qc, .slice ba A.buf.length bc, .slice fa A.fins.length fc, .int .i64 A.marks, .func (.func ff) #[] lb, .bool A.touched] * (mapR (.int .i64) (Value.int .i64) mq (omap []) * (poolR pq A.T * (objsR [] * F)))))))))) by rw [objsR, one_mul]; simp only [omap, List.map_nil]; ac_rfl))
  clear hs8 hnd h5 op6 HP op1
  go_frame
  go_loopg [4] O.length (fun gk v wr => ∃ (R : List (Int × Value)) (cur : Option (Int × Value)) (O2 : List (Int × Nat × AObj)), R.length = gk ∧ Hid (CopyInv A O R O2) ∧
    Sat w0 wr (iterR (.int .i64) (Value.int .i64) mb it (omap O) R cur * (row p 90 (heapCells pb mb A qa qc ba bc fa fc (.func (.func ff) #[] lb)) * (poolR pb A.T * (objsR O * (slc 3 1 qa A.queue.length qc (A.queue.map ival) * (slc 3 1 ba A.buf.length bc (A.buf.map ival) * (slc 135 2 fa A.fins.length fc (finCells A.fins) * (row ob 90 #[.pointer (some ⟨pq, 0, none⟩), .map (some mq), .slice qa A.queue.length qc, .slice ba A.buf.length bc, .slice fa A.fins.length fc, .int .i64 A.marks, .func (.func ff) #[] lb, .bool A.touched] * (mapR (.int .i64) (Value.int .i64) mq (omap O2) * (poolR pq A.T * (objsR O2 * F))))))))))))
  case atStart => exact ⟨omap O, none, [], by simp [omap], Lib.hid (CopyInv.start A O), hs9⟩
  case round =>
    obtain ⟨R, cur, O2, hR, HI, hs⟩ := hrel
    by_cases hR0 : R = []
    · subst hR0
      clear hR
      go_wp2_with (at_next; refine wpList_next_end rfl _ rfl it rfl hs ?_; intro w2 hs2)
      have hd := HI.out.done op.ho
      have HD := Lib.hid hd
      have h3 := hs2.iterMap
      have p2 : w2.cell? ⟨p, 2, none⟩ = some (.slice qa A.queue.length qc) := h3.p2.cell 2 rfl
      have p3 : w2.cell? ⟨p, 3, none⟩ = some (.slice ba A.buf.length bc) := h3.p2.cell 3 rfl
      have p4 : w2.cell? ⟨p, 4, none⟩ = some (.slice fa A.fins.length fc) := h3.p2.cell 4 rfl
      have hne : p ≠ ob := Sat.ne (b := p) (c := ob) h3.p8.p3
      have hne2 : ob ≠ p := fun q => hne q.symm
      have h10 := h3.drew.p5
      clear hd hs hs2
      go_region_held3 (fun w' => w'.cell? ⟨p, 2, none⟩ = some (.slice qa A.queue.length qc) ∧ w'.cell? ⟨p, 3, none⟩ = some (.slice ba A.buf.length bc) ∧ w'.cell? ⟨p, 4, none⟩ = some (.slice fa A.fins.length fc)) (go_keep) (first
        | (go_at_call 84; first
          | (refine (slices_clone (xs := A.buf.map ival) h11.p7 (by omega) (oneCell_ivals _)).mono ?_; rintro e w12 ⟨b', bc', rfl, _, h12⟩; have u2 : w12.cell? ⟨p, 2, none⟩ = some (.slice qa A.queue.length qc) := h12.p6.cell 2 rfl; have u3 : w12.cell? ⟨p, 3, none⟩ = some (.slice ba A.buf.length bc) := h12.p6.cell 3 rfl; have u4 : w12.cell? ⟨p, 4, none⟩ = some (.slice fa A.fins.length fc) := h12.p6.cell 4 rfl)
          | (refine (slices_clone (xs := A.queue.map ival) h10 (by omega) (oneCell_ivals _)).mono ?_; rintro e w11 ⟨q', qc', rfl, _, h11⟩; have t2 : w11.cell? ⟨p, 2, none⟩ = some (.slice qa A.queue.length qc) := h11.p4.cell 2 rfl; have t3 : w11.cell? ⟨p, 3, none⟩ = some (.slice ba A.buf.length bc) := h11.p4.cell 3 rfl; have t4 : w11.cell? ⟨p, 4, none⟩ = some (.slice fa A.fins.length fc) := h11.p4.cell 4 rfl))
        | (go_at_call 85; refine (clone_fins (xs := finCells A.fins) h12.p9 (by omega) (oneCell_finCells _)).mono ?_; rintro e w13 ⟨f', fc', rfl, h13⟩; have v2 : w13.cell? ⟨p, 2, none⟩ = some (.slice qa A.queue.length qc) := h13.p8.cell 2 rfl; have v3 : w13.cell? ⟨p, 3, none⟩ = some (.slice ba A.buf.length bc) := h13.p8.cell 3 rfl; have v4 : w13.cell? ⟨p, 4, none⟩ = some (.slice fa A.fins.length fc) := h13.p8.cell 4 rfl; have h14 := h13.cast (show _ = row ob 90 #[.pointer (some ⟨pq, 0, none⟩), .map (some mq), .slice qa A.queue.length qc, .slice ba A.buf.length bc, .slice fa A.fins.length fc, .int .i64 A.marks, .func (.func ff) #[] lb, .bool A.touched] * (mapR (.int .i64) (Value.int .i64) mq (omap O2) * (poolR pq A.T * (objsR O2 * (slc 3 1 q' A.queue.length qc' (A.queue.map ival) * (slc 3 1 b' A.buf.length bc' (A.buf.map ival) * (slc 135 2 f' A.fins.length fc' (finCells A.fins) * (openR p A pb mb O qa qc ba bc fa fc (.func (.func ff) #[] lb) * F))))))) by unfold openR; simp only [mul_assoc]; ac_rfl); have x2 : w13.cell? ⟨ob, 2, none⟩ = some (.slice qa A.queue.length qc) := h14.cell 2 rfl; have x3 : w13.cell? ⟨ob, 3, none⟩ = some (.slice ba A.buf.length bc) := h14.cell 3 rfl; have x4 : w13.cell? ⟨ob, 4, none⟩ = some (.slice fa A.fins.length fc) := h14.cell 4 rfl; have xf2 := h14.free 2; have xf3 := h14.free 3; have xf4 := h14.free 4))
      have h15 := ((h14.store (i := 2) (.slice q' A.queue.length qc')).store (i := 3) (.slice b' A.buf.length bc')).store (i := 4) (.slice f' A.fins.length fc')
      simp only [List.setIfInBounds_toArray, List.set_cons_zero, List.set_cons_succ] at h15
      go_wp2_with fail
      go_ret
      refine ⟨ob, rfl, ?_⟩
      have op15 := op.opens (G := row ob 90 (heapCells pq mq A q' qc' b' bc' f' fc' (.func (.func ff) #[] lb)) * (poolR pq A.T * (mapR (.int .i64) (Value.int .i64) mq (omap O2) * (objsR O2 * (slc 3 1 q' A.queue.length qc' (A.queue.map ival) * (slc 3 1 b' A.buf.length bc' (A.buf.map ival) * (slc 135 2 f' A.fins.length fc' (finCells A.fins) * F))))))) (h15.cast (by unfold heapCells; ac_rfl))
      have opN : Opened w0 _ m ob A (heapR m p A * F) pq mq O2 q' qc' b' bc' f' fc' (.func (.func ff) #[] lb) := ⟨HD.out, op.ht, op.hw, op15.shut.cast (by ac_rfl)⟩
      exact opN.shut
    · have HR := Lib.hid hR
      clear hR
      go_wp2_with (first
        | (at_next; refine wpList_next_some rfl _ rfl it rfl hs hR0 ?_; intro j n v w2 hj hs2; have Hj := Lib.hid hj; clear hj)
        | (refine wpList_entry rfl _ rfl it rfl hs2 ?_))
      have hnO := HI.out.mem Hj.out
      have hnew := HI.out.new HND.out Hj.out
      obtain ⟨b, o, e3, _⟩ := oget_mem hnO
      have ho : A.objs n = some o := by rw [← op.ho, e3]; rfl
      obtain ⟨l, r, eO, _⟩ := oget_split e3
      have hz := hs2.alloc (.cells #[.int .i64 0, .int .i64 0, .slice none 0 0, .string (ByteArray.mk #[]), .int .i64 0] 39)
      have opz : Opened w0 (w2.alloc (.cells #[.int .i64 0, .int .i64 0, .slice none 0 0, .string (ByteArray.mk #[]), .int .i64 0] 39)) m p A _ pb mb O qa qc ba bc fa fc (.func (.func ff) #[] lb) := op.to (hz.drop.iterMap.q3)
      have hlk := opz.look n
      rw [e3] at hlk
      obtain ⟨sa, sc, hTk⟩ := opz.takeObj eO
      have hsrc := hTk.p2.slcSrc
      have hO := heap_Obj_U (w := w2) (p := p) (b := b) (mb := mb) (n := n) (x := (o, sa, sc)) (opz.hs.cell 1 rfl) hlk (fun j v hv => hTk.cell j (by rw [← hv]; simp [xcells])) hsrc (by have := HS.out n o ho; simp; omega)
      have HO := Lib.hid hO
      have HIS := Lib.hid (fun b' => HI.out.step Hj.out b' ho)
      have HMS := Lib.hid (fun b' => mset_new hnew b' o)
      clear hO hTk hsrc opz hz eO e3 ho hlk hnew hnO
      unfold objV at HO
      refine HO.out.mono ?_
      rintro e w3 ⟨oa, oc, rfl, h3⟩
      have h4 := (h3.lift hs2).alloc (.cells #[.int .i64 o.kind, .int .i64 o.count, .slice oa o.slots.length oc, .string o.text, .int .i64 o.mark] 39)
      have k1 : (w3.alloc (.cells #[.int .i64 o.kind, .int .i64 o.count, .slice oa o.slots.length oc, .string o.text, .int .i64 o.mark] 39)).cell? ⟨ob, 1, none⟩ = some (.map (some mq)) := h4.drop.drop.p8.cell 1 rfl
      clear h3 HO
      go_wp2_with (at_mapUpdate; refine wpList_mapUpdate rfl _ _ _ _ rfl (keys_int .i64) Try.underlying86 Try.underlying3 mq (omap O2) rfl (h4.cast (show _ = mapR (.int .i64) (Value.int .i64) mq (omap O2) * (pt w3.heap.size (.cells #[.int .i64 o.kind, .int .i64 o.count, .slice oa o.slots.length oc, .string o.text, .int .i64 o.mark] 39 (0, 0)) * (slc 28 2 oa o.slots.length oc (avcells o.slots) * (iterR (.int .i64) (Value.int .i64) mb it (omap O) (R.eraseIdx j) (some (n, v)) * (row p 90 (heapCells pb mb A qa qc ba bc fa fc (.func (.func ff) #[] lb)) * (poolR pb A.T * (objsR O * (slc 3 1 qa A.queue.length qc (A.queue.map ival) * (slc 3 1 ba A.buf.length bc (A.buf.map ival) * (slc 135 2 fa A.fins.length fc (finCells A.fins) * (row ob 90 #[.pointer (some ⟨pq, 0, none⟩), .map (some mq), .slice qa A.queue.length qc, .slice ba A.buf.length bc, .slice fa A.fins.length fc, .int .i64 A.marks, .func (.func ff) #[] lb, .bool A.touched] * (poolR pq A.T * (objsR O2 * F)))))))))))) by ac_rfl)) n rfl (.pointer (some ⟨w3.heap.size, 0, none⟩)) rfl ?_; intro w4 h5)
      rw [HMS.out w3.heap.size] at h5
      have h6 := Sat.shutObj (b := w3.heap.size) (o := o) (a := oa) (c := oc) h5.q3
      have eOO : objsR (O2 ++ [(n, w3.heap.size, o)]) = objR w3.heap.size o * objsR O2 := by rw [objsR_split O2 [] (n, w3.heap.size, o), List.append_nil]
      have hlen : (R.eraseIdx j).length = R.length - 1 := by
        have := (List.getElem?_eq_some_iff.1 Hj.out).1
        rw [List.length_eraseIdx]; simp [this]
      go_roundg (R.length - 1)
      case measure => have := HR.out; have : 0 < R.length := List.length_pos_iff.2 hR0; omega
      case rel =>
        refine ⟨R.eraseIdx j, some (n, v), O2 ++ [(n, w3.heap.size, o)], hlen, Lib.hid (HIS.out _), ?_⟩
        rw [eOO]
        exact h6.cast (by ac_rfl)
end Go.Proofs.Ytkpcngcegipalaa.Tw
