/- The acts of the laws of cells, plainly. No condition. -/
import Derived.Test.YtkpcngcegipalaaTot2
namespace Go.Proofs.Ytkpcngcegipalaa.Tw
set_option linter.unusedVariables false
set_option linter.unusedSimpArgs false
open Go Go.RowKit Go.MapKept

structure Act13 where
  what : Int
  n : Int
  i : Int
  v : AVal
  l : List AVal
  tx : ByteArray
def clampI (x : Int) : Int := max 0 (min x 79)
def txc (t : ByteArray) (k : Nat) : ByteArray := t.extract 0 (min t.size k)
def incN (net : List Int) (k : Int) (d : Int) : List Int := net.set k.toNat (net.getD k.toNat 0 + d)
def actA (A : AHeap) (x : Act13) : AHeap :=
  if x.what = 0 ∨ x.what = 1 then A.makeF x.i (txc x.tx 100)
  else if x.what = 2 ∨ x.what = 3 then A.keep x.v
  else if x.what = 4 ∨ x.what = 5 ∨ x.what = 6 then A.drop x.v
  else if x.what = 7 then A.freeF x.n
  else if x.what = 8 then A.mark x.n
  else if x.what = 9 then A.finF x.n
  else if x.what = 10 then A.nextF
  else if x.what = 11 then { A with buf := [] }
  else if x.what = 12 then A.suspF x.n
  else if x.what = 13 then A.watchF [x.n, x.i]
  else if x.what = 14 then A.pushF x.n x.v
  else if x.what = 15 then A.popF x.n
  else if x.what = 16 then A.swapF x.n x.i x.v
  else A.layF x.n (x.l.take 20)
def actN (A : AHeap) (net : List Int) (x : Act13) : List Int :=
  if x.what = 0 ∨ x.what = 1 then (if 0 < (A.makeV x.i (txc x.tx 100)).n ∧ (A.makeV x.i (txc x.tx 100)).n < 80 then net.set (A.makeV x.i (txc x.tx 100)).n.toNat 1 else net)
  else if x.what = 2 ∨ x.what = 3 then (if cntE A x.v = 0 ∧ refV x.v = true then incN net (clampI x.v.n) 1 else net)
  else if x.what = 4 ∨ x.what = 5 ∨ x.what = 6 then (if cntE A x.v = 0 ∧ refV x.v = true then incN net (clampI x.v.n) (-1) else net)
  else if x.what = 7 then (if A.freeE x.n = 0 then net.set (clampI x.n).toNat 0 else net)
  else if x.what = 9 then (if A.finE x.n = 0 then incN net (clampI x.n) 1 else net)
  else net
def act1 (s : AHeap × List Int) (x : Act13) : AHeap × List Int := (actA s.1 x, actN s.1 s.2 x)
def play13 (l : List Act13) (k : Nat) : AHeap × List Int := (l.take k).foldl act1 (AHeap.empty, List.replicate 80 0)
theorem play13_succ {l : List Act13} {k : Nat} {x : Act13} (h : l[k]? = some x) : play13 l (k + 1) = act1 (play13 l k) x := by
  unfold play13
  rw [List.take_add_one, h, List.foldl_append]; rfl
theorem clampI_rng (x : Int) : 0 ≤ clampI x ∧ clampI x ≤ 79 := by unfold clampI; omega
theorem actN_len (A : AHeap) (net : List Int) (x : Act13) : (actN A net x).length = net.length := by
  unfold actN incN
  repeat' split
  all_goals simp
theorem makeF_T (A : AHeap) (k : Int) (tx : ByteArray) : (A.makeF k tx).T.length ≤ A.T.length + 1 := by
  unfold AHeap.makeF
  split
  · show (takeT A.T).length ≤ _
    rw [takeT_length]
    have := firstFree_le A.T
    omega
  · omega
theorem keep_T (A : AHeap) (v : AVal) : (A.keep v).T = A.T := by unfold AHeap.keep; split <;> rfl
theorem drop_T (A : AHeap) (v : AVal) : (A.drop v).T = A.T := by
  unfold AHeap.drop
  split
  · rfl
  · dsimp only
    repeat' split
    all_goals rfl
theorem free_T (A : AHeap) (n : Int) : (A.freeF n).T.length = A.T.length := by
  unfold AHeap.freeF
  split
  · exact giveT_length _ _
  · rfl
theorem mark_T (A : AHeap) (n : Int) : (A.mark n).T = A.T := by
  unfold AHeap.mark
  cases A.objs n with
  | none => rfl
  | some o =>
    dsimp only
    split <;> rfl
theorem actA_T (A : AHeap) (x : Act13) : (actA A x).T.length ≤ A.T.length + 1 := by
  unfold actA
  by_cases h0 : x.what = 0 ∨ x.what = 1
  · rw [if_pos h0]
    exact makeF_T _ _ _
  rw [if_neg h0]
  by_cases h1 : x.what = 2 ∨ x.what = 3
  · rw [if_pos h1]
    rw [keep_T]; omega
  rw [if_neg h1]
  by_cases h2 : x.what = 4 ∨ x.what = 5 ∨ x.what = 6
  · rw [if_pos h2]
    rw [drop_T]; omega
  rw [if_neg h2]
  by_cases h3 : x.what = 7
  · rw [if_pos h3]
    rw [free_T]; omega
  rw [if_neg h3]
  by_cases h4 : x.what = 8
  · rw [if_pos h4]
    rw [mark_T]; omega
  rw [if_neg h4]
  by_cases h5 : x.what = 9
  · rw [if_pos h5]
    unfold AHeap.finF; repeat' split
    all_goals (show A.T.length ≤ _; omega)
  rw [if_neg h5]
  by_cases h6 : x.what = 10
  · rw [if_pos h6]
    show A.T.length ≤ _; omega
  rw [if_neg h6]
  by_cases h7 : x.what = 11
  · rw [if_pos h7]
    show A.T.length ≤ _; omega
  rw [if_neg h7]
  by_cases h8 : x.what = 12
  · rw [if_pos h8]
    unfold AHeap.suspF; split <;> (show A.T.length ≤ _; omega)
  rw [if_neg h8]
  by_cases h9 : x.what = 13
  · rw [if_pos h9]
    show A.T.length ≤ _; omega
  rw [if_neg h9]
  by_cases h10 : x.what = 14
  · rw [if_pos h10]
    unfold AHeap.pushF; repeat' split
    all_goals (show A.T.length ≤ _; omega)
  rw [if_neg h10]
  by_cases h11 : x.what = 15
  · rw [if_pos h11]
    unfold AHeap.popF; repeat' split
    all_goals (show A.T.length ≤ _; omega)
  rw [if_neg h11]
  by_cases h12 : x.what = 16
  · rw [if_pos h12]
    unfold AHeap.swapF; repeat' split
    all_goals (show A.T.length ≤ _; omega)
  rw [if_neg h12]
  unfold AHeap.layF; repeat' split
  all_goals (show A.T.length ≤ _; omega)
theorem HW.act {A : AHeap} {B : Int} (h : HW A B) (hB : 20 ≤ B) (x : Act13) : HW (actA A x) (B + 1) := by
  unfold actA
  by_cases h0 : x.what = 0 ∨ x.what = 1
  · rw [if_pos h0]
    exact h.make (by omega) _ _
  rw [if_neg h0]
  by_cases h1 : x.what = 2 ∨ x.what = 3
  · rw [if_pos h1]
    exact h.keep _
  rw [if_neg h1]
  by_cases h2 : x.what = 4 ∨ x.what = 5 ∨ x.what = 6
  · rw [if_pos h2]
    exact (h.drop _).mono (by omega)
  rw [if_neg h2]
  by_cases h3 : x.what = 7
  · rw [if_pos h3]
    exact (h.free _).mono (by omega)
  rw [if_neg h3]
  by_cases h4 : x.what = 8
  · rw [if_pos h4]
    exact h.mark _
  rw [if_neg h4]
  by_cases h5 : x.what = 9
  · rw [if_pos h5]
    exact (h.fin _).mono (by omega)
  rw [if_neg h5]
  by_cases h6 : x.what = 10
  · rw [if_pos h6]
    exact h.next.mono (by omega)
  rw [if_neg h6]
  by_cases h7 : x.what = 11
  · rw [if_pos h7]
    exact h.take.mono (by omega)
  rw [if_neg h7]
  by_cases h8 : x.what = 12
  · rw [if_pos h8]
    exact (h.susp _).mono (by omega)
  rw [if_neg h8]
  by_cases h9 : x.what = 13
  · rw [if_pos h9]
    exact (h.watch _).mono (by omega)
  rw [if_neg h9]
  by_cases h10 : x.what = 14
  · rw [if_pos h10]
    exact h.push _ _
  rw [if_neg h10]
  by_cases h11 : x.what = 15
  · rw [if_pos h11]
    exact (h.pop _).mono (by omega)
  rw [if_neg h11]
  by_cases h12 : x.what = 16
  · rw [if_pos h12]
    exact (h.swap _ _ _).mono (by omega)
  rw [if_neg h12]
  exact (h.lay _ _ (by rw [List.length_take]; omega)).mono (by omega)
/-- numbers of a net, bounded -/
def NetB (net : List Int) (k : Int) : Prop := ∀ j, -k ≤ net.getD j 0 ∧ net.getD j 0 ≤ k + 1
theorem netB_set {net : List Int} {k : Int} (h : NetB net k) (i : Nat) (z : Int) (hz : -(k + 1) ≤ z ∧ z ≤ k + 2) : NetB (net.set i z) (k + 1) := by
  intro j
  have := h j
  simp only [List.getD, List.getElem?_set] at this ⊢
  split
  · split
    · simp; omega
    · have h0 := h net.length
      simp [List.getD] at h0
      simp; omega
  · omega
theorem actN_b {A : AHeap} {net : List Int} {k : Int} (h : NetB net k) (hk : 0 ≤ k) (x : Act13) : NetB (actN A net x) (k + 1) := by
  have hm : NetB net (k + 1) := fun j => by have := h j; omega
  unfold actN incN
  by_cases h0 : x.what = 0 ∨ x.what = 1
  · rw [if_pos h0]
    split
    · exact netB_set h _ _ (by omega)
    · exact hm
  rw [if_neg h0]
  by_cases h1 : x.what = 2 ∨ x.what = 3
  · rw [if_pos h1]
    split
    · have := h (clampI x.v.n).toNat
      exact netB_set h _ _ (by omega)
    · exact hm
  rw [if_neg h1]
  by_cases h2 : x.what = 4 ∨ x.what = 5 ∨ x.what = 6
  · rw [if_pos h2]
    split
    · have := h (clampI x.v.n).toNat
      exact netB_set h _ _ (by omega)
    · exact hm
  rw [if_neg h2]
  by_cases h3 : x.what = 7
  · rw [if_pos h3]
    split
    · exact netB_set h _ _ (by omega)
    · exact hm
  rw [if_neg h3]
  by_cases h4 : x.what = 9
  · rw [if_pos h4]
    split
    · have := h (clampI x.n).toNat
      exact netB_set h _ _ (by omega)
    · exact hm
  rw [if_neg h4]
  exact hm
theorem play13_hw (l : List Act13) : ∀ k, HW (play13 l k).1 (20 + k) ∧ (play13 l k).1.T.length ≤ k ∧ (play13 l k).2.length = 80 ∧ NetB (play13 l k).2 k
  | 0 => ⟨HW.empty.mono (by omega), by simp [play13, AHeap.empty], by simp [play13], fun j => by
      have : (play13 l 0).2 = List.replicate 80 0 := rfl
      rw [this]
      simp only [List.getD, List.getElem?_replicate]
      split <;> simp⟩
  | k + 1 => by
    obtain ⟨h1, h2, h3, h4⟩ := play13_hw l k
    cases h : l[k]? with
    | none =>
      have e : play13 l (k + 1) = play13 l k := by unfold play13; rw [List.take_add_one, h]; simp
      rw [e]
      exact ⟨h1.mono (by omega), by omega, h3, fun j => by have := h4 j; omega⟩
    | some x =>
      rw [play13_succ h]
      refine ⟨?_, ?_, ?_, ?_⟩
      · exact (h1.act (by omega) x).mono (by omega)
      · have := actA_T (play13 l k).1 x
        show (actA _ _).T.length ≤ _
        omega
      · show (actN _ _ _).length = 80
        rw [actN_len]; exact h3
      · have := actN_b (A := (play13 l k).1) h4 (by omega) x
        exact this
section
variable {w0 w : World} {F : HP} {nb nc : Nat} {net : List Int}
theorem netAt (h : Sat w0 w (slc 3 1 (some ⟨nb, 0, none⟩) 80 nc (net.map ival) * F)) (hl : net.length = 80) {j : Nat} (hj : j < 80) : w.cell? ⟨nb, j, none⟩ = some (.int .i64 (net.getD j 0)) ∧ w.frozen? ⟨nb, j, none⟩ = false := by
  have hx : net[j]? = some (net[j]'(by omega)) := List.getElem?_eq_getElem _
  obtain ⟨g, off, e, c0, f0⟩ := intCells h hx
  cases e
  rw [Nat.zero_add] at c0 f0
  have : net.getD j 0 = net[j]'(by omega) := by simp [List.getD, hx]
  rw [this]
  exact ⟨c0, f0⟩
theorem netSet (h : Sat w0 w (slc 3 1 (some ⟨nb, 0, none⟩) 80 nc (net.map ival) * F)) {j : Nat} (hj : j < 80) (z : Int) : Sat w0 (w.setCell ⟨nb, j, none⟩ (.int .i64 z)) (slc 3 1 (some ⟨nb, 0, none⟩) 80 nc ((net.set j z).map ival) * F) := by
  have := h.slcStore (j := j) (by omega) (ival z)
  rw [Nat.zero_add] at this
  rw [List.map_set]; exact this
end
end Go.Proofs.Ytkpcngcegipalaa.Tw
