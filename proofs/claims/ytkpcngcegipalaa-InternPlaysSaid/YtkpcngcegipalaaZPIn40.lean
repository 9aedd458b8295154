/- CellsPlay's acts, plainly. No condition. -/
import Derived.Test.YtkpcngcegipalaaZPIn20
import Derived.Test.YtkpcngcegipalaaZPIn37
import Derived.Test.YtkpcngcegipalaaZPIn39
import Derived.Test.YtkpcngcegipalaaZPIn38
import Derived.ProofKit
import Derived.OpenShut
import Derived.ChangeOld
import Derived.Test.YtkpcngcegipalaaZPIn27
namespace Go.Proofs.Ytkpcngcegipalaa.Tw
set_option linter.unusedVariables false
set_option linter.unusedSimpArgs false
open Go Go.RowKit Go.MapKept

def slotP (A : AHeap) (x : Act13) : AHeap :=
  if x.what.tmod 5 = 0 then A.pushF x.n x.v
  else if x.what.tmod 5 = 1 then A.popF x.n
  else if x.what.tmod 5 = 2 then A
  else if x.what.tmod 5 = 3 then A.swapF x.n x.i x.v
  else A.layF x.n (x.l.take 20)
def actPl (A : AHeap) (x : Act13) : AHeap :=
  if x.what = 0 ∨ x.what = 1 then A.makeF x.i (txc x.tx 5000)
  else if 2 ≤ x.what ∧ x.what ≤ 13 then actA A x
  else slotP A x
def playPl (l : List Act13) (k : Nat) : AHeap := (l.take k).foldl actPl AHeap.empty
theorem playPl_succ {l : List Act13} {k : Nat} {x : Act13} (h : l[k]? = some x) : playPl l (k + 1) = actPl (playPl l k) x := by
  unfold playPl
  rw [List.take_add_one, h, List.foldl_append]; rfl
theorem HW.slotP {A : AHeap} {B : Int} (h : HW A B) (hB : 20 ≤ B) (x : Act13) : HW (slotP A x) (B + 1) := by
  unfold Tw.slotP
  by_cases h0 : x.what.tmod 5 = 0
  · rw [if_pos h0]; exact h.push _ _
  rw [if_neg h0]
  by_cases h1 : x.what.tmod 5 = 1
  · rw [if_pos h1]; exact (h.pop _).mono (by omega)
  rw [if_neg h1]
  by_cases h2 : x.what.tmod 5 = 2
  · rw [if_pos h2]; exact h.mono (by omega)
  rw [if_neg h2]
  by_cases h3 : x.what.tmod 5 = 3
  · rw [if_pos h3]; exact (h.swap _ _ _).mono (by omega)
  rw [if_neg h3]
  exact (h.lay _ _ (by rw [List.length_take]; omega)).mono (by omega)
theorem HW.actPl {A : AHeap} {B : Int} (h : HW A B) (hB : 20 ≤ B) (x : Act13) : HW (actPl A x) (B + 1) := by
  unfold Tw.actPl
  by_cases h0 : x.what = 0 ∨ x.what = 1
  · rw [if_pos h0]; exact h.make (by omega) _ _
  rw [if_neg h0]
  by_cases h1 : 2 ≤ x.what ∧ x.what ≤ 13
  · rw [if_pos h1]; exact h.act hB x
  rw [if_neg h1]
  exact h.slotP hB x
/-! the watch stays, but where it is laid anew -/
theorem keep_watch (A : AHeap) (v : AVal) : (A.keep v).watch = A.watch := by unfold AHeap.keep; split <;> rfl
theorem drop_watch (A : AHeap) (v : AVal) : (A.drop v).watch = A.watch := by
  unfold AHeap.drop
  split
  · rfl
  · dsimp only
    repeat' split
    all_goals rfl
theorem mark_watch (A : AHeap) (n : Int) : (A.mark n).watch = A.watch := by
  unfold AHeap.mark
  cases A.objs n with
  | none => rfl
  | some o => dsimp only; split <;> rfl
theorem pop_watch (A : AHeap) (n : Int) : (A.popF n).watch = A.watch := by unfold AHeap.popF; repeat' split
                                                                           all_goals rfl
theorem push_watch (A : AHeap) (n : Int) (v : AVal) : (A.pushF n v).watch = A.watch := by unfold AHeap.pushF; repeat' split
                                                                                          all_goals rfl
theorem swap_watch (A : AHeap) (n i : Int) (v : AVal) : (A.swapF n i v).watch = A.watch := by unfold AHeap.swapF; repeat' split
                                                                                              all_goals rfl
theorem lay_watch (A : AHeap) (n : Int) (s : List AVal) : (A.layF n s).watch = A.watch := by unfold AHeap.layF; repeat' split
                                                                                             all_goals rfl
theorem fin_watch (A : AHeap) (n : Int) : (A.finF n).watch = A.watch := by unfold AHeap.finF; repeat' split
                                                                           all_goals rfl
theorem free_watch (A : AHeap) (n : Int) : (A.freeF n).watch = A.watch := by unfold AHeap.freeF; split <;> rfl
theorem make_watch (A : AHeap) (k : Int) (tx : ByteArray) : (A.makeF k tx).watch = A.watch := by unfold AHeap.makeF; split <;> rfl
theorem susp_watch (A : AHeap) (n : Int) : (A.suspF n).watch = A.watch := by unfold AHeap.suspF; split <;> rfl
theorem actA_watch (A : AHeap) (x : Act13) (h : A.watch.length ≤ 2) : (actA A x).watch.length ≤ 2 := by
  unfold actA
  by_cases h0 : x.what = 0 ∨ x.what = 1
  · rw [if_pos h0]; rw [make_watch]; exact h
  rw [if_neg h0]
  by_cases h1 : x.what = 2 ∨ x.what = 3
  · rw [if_pos h1]; rw [keep_watch]; exact h
  rw [if_neg h1]
  by_cases h2 : x.what = 4 ∨ x.what = 5 ∨ x.what = 6
  · rw [if_pos h2]; rw [drop_watch]; exact h
  rw [if_neg h2]
  by_cases h3 : x.what = 7
  · rw [if_pos h3]; rw [free_watch]; exact h
  rw [if_neg h3]
  by_cases h4 : x.what = 8
  · rw [if_pos h4]; rw [mark_watch]; exact h
  rw [if_neg h4]
  by_cases h5 : x.what = 9
  · rw [if_pos h5]; rw [fin_watch]; exact h
  rw [if_neg h5]
  by_cases h6 : x.what = 10
  · rw [if_pos h6]; exact h
  rw [if_neg h6]
  by_cases h7 : x.what = 11
  · rw [if_pos h7]; exact h
  rw [if_neg h7]
  by_cases h8 : x.what = 12
  · rw [if_pos h8]; rw [susp_watch]; exact h
  rw [if_neg h8]
  by_cases h9 : x.what = 13
  · rw [if_pos h9]; exact Nat.le_refl _
  rw [if_neg h9]
  by_cases h10 : x.what = 14
  · rw [if_pos h10]; rw [push_watch]; exact h
  rw [if_neg h10]
  by_cases h11 : x.what = 15
  · rw [if_pos h11]; rw [pop_watch]; exact h
  rw [if_neg h11]
  by_cases h12 : x.what = 16
  · rw [if_pos h12]; rw [swap_watch]; exact h
  rw [if_neg h12]
  rw [lay_watch]; exact h
theorem slotP_watch (A : AHeap) (x : Act13) (h : A.watch.length ≤ 2) : (slotP A x).watch.length ≤ 2 := by
  unfold slotP
  by_cases h0 : x.what.tmod 5 = 0
  · rw [if_pos h0]; rw [push_watch]; exact h
  rw [if_neg h0]
  by_cases h1 : x.what.tmod 5 = 1
  · rw [if_pos h1]; rw [pop_watch]; exact h
  rw [if_neg h1]
  by_cases h2 : x.what.tmod 5 = 2
  · rw [if_pos h2]; exact h
  rw [if_neg h2]
  by_cases h3 : x.what.tmod 5 = 3
  · rw [if_pos h3]; rw [swap_watch]; exact h
  rw [if_neg h3]
  rw [lay_watch]; exact h
theorem actPl_watch (A : AHeap) (x : Act13) (h : A.watch.length ≤ 2) : (actPl A x).watch.length ≤ 2 := by
  unfold actPl
  by_cases h0 : x.what = 0 ∨ x.what = 1
  · rw [if_pos h0, make_watch]; exact h
  rw [if_neg h0]
  by_cases h1 : 2 ≤ x.what ∧ x.what ≤ 13
  · rw [if_pos h1]; exact actA_watch A x h
  rw [if_neg h1]
  exact slotP_watch A x h
theorem playPl_ok (l : List Act13) : ∀ k, HW (playPl l k) (20 + k) ∧ (playPl l k).watch.length ≤ 2
  | 0 => ⟨HW.empty.mono (by omega), by simp [playPl, AHeap.empty]⟩
  | k + 1 => by
    obtain ⟨h1, h2⟩ := playPl_ok l k
    cases h : l[k]? with
    | none =>
      have e : playPl l (k + 1) = playPl l k := by unfold playPl; rw [List.take_add_one, h]; simp
      rw [e]
      exact ⟨h1.mono (by omega), h2⟩
    | some x =>
      rw [playPl_succ h]
      exact ⟨(h1.actPl (by omega) x).mono (by omega), actPl_watch _ x h2⟩
end Go.Proofs.Ytkpcngcegipalaa.Tw
namespace Go.Proofs.Ytkpcngcegipalaa.Tw
set_option linter.unusedVariables false
set_option linter.unusedSimpArgs false
open Go Go.RowKit Go.MapKept

structure Act17 where
  what : Int
  tx : ByteArray
  v : AVal
abbrev St17 := AHeap × (ByteArray → Option Int)
def act17 (s : St17) (x : Act17) : St17 :=
  if 0 ≤ x.what ∧ x.what ≤ 3 then (s.1.of s.2 (txc x.tx 5000), ofM s.1 s.2 (txc x.tx 5000))
  else if x.what = 5 ∨ x.what = 6 then (s.1.drop x.v, s.2)
  else if x.what = 7 then (s.1.freeF (free17 s.1 x.v.n), s.2)
  else if x.what = 8 then (s.1.makeF x.v.kind (txc x.tx 5000), s.2)
  else if x.what = 9 then (s.1.of s.2 cpy, ofM s.1 s.2 cpy)
  else s
def play17 (l : List Act17) (k : Nat) : St17 := (l.take k).foldl act17 (AHeap.empty, fun _ => none)
theorem play17_succ {l : List Act17} {k : Nat} {x : Act17} (h : l[k]? = some x) : play17 l (k + 1) = act17 (play17 l k) x := by
  unfold play17
  rw [List.take_add_one, h, List.foldl_append]; rfl
/-- what holds of the heap -/
structure IA (A : AHeap) (B : Int) : Prop where
  H : HW A B
  W : A.watch.length ≤ 2
  tx : ∀ n o, A.objs n = some o → o.kind ≠ 5 → o.text = ByteArray.mk #[]
theorem IA.mono {A : AHeap} {B C : Int} (a : IA A B) (h : B ≤ C) : IA A C := ⟨a.H.mono h, a.W, a.tx⟩
theorem IA.keep {A : AHeap} {B : Int} (a : IA A B) (v : AVal) : IA (A.keep v) (B + 1) := by
  refine ⟨a.H.keep v, by rw [keep_watch]; exact a.W, ?_⟩
  unfold AHeap.keep
  cases hc : cntO A v with
  | none => exact a.tx
  | some o => exact tx_upd (o' := { o with count := o.count + 1 }) a.tx (cntO_some hc) rfl rfl rfl
theorem IA.drop {A : AHeap} {B : Int} (a : IA A B) (v : AVal) : IA (A.drop v) B := by
  refine ⟨a.H.drop v, by rw [drop_watch]; exact a.W, ?_⟩
  unfold AHeap.drop
  cases hc : cntO A v with
  | none => exact a.tx
  | some o =>
    dsimp only
    have key := tx_upd (A' := A.drop1 v.n o) (o' := { o with count := o.count - 1 }) a.tx (cntO_some hc) rfl rfl rfl
    repeat' split
    all_goals exact key
theorem IA.free {A : AHeap} {B : Int} (a : IA A B) (n : Int) : IA (A.freeF n) B := by
  refine ⟨a.H.free n, by rw [free_watch]; exact a.W, ?_⟩
  unfold AHeap.freeF
  split
  · intro j o hj
    unfold AHeap.free at hj
    dsimp only at hj
    by_cases e : j = n
    · simp [e] at hj
    · simp [e] at hj; exact a.tx j o hj
  · exact a.tx
theorem IA.make {A : AHeap} {B : Int} (a : IA A B) (hB : 1 ≤ B) (k : Int) (t : ByteArray) : IA (A.makeF k t) (B + 1) := by
  refine ⟨a.H.make hB k t, by rw [make_watch]; exact a.W, ?_⟩
  unfold AHeap.makeF
  split
  · intro j o hj hk
    unfold AHeap.make at hj
    dsimp only at hj
    by_cases e : j = A.fresh
    · simp [e] at hj
      subst hj
      dsimp only at hk ⊢
      rw [if_neg hk]
    · simp [e] at hj; exact a.tx j o hj hk
  · exact a.tx
theorem IA.of {A : AHeap} {B : Int} (a : IA A B) (hB : 1 ≤ B) (M : ByteArray → Option Int) (t : ByteArray) : IA (A.of M t) (B + 1) := by
  unfold AHeap.of
  split
  · exact a.keep _
  · rename_i h1
    have := a.make hB 5 t
    unfold AHeap.makeF at this
    exact this
theorem IA.act {A : AHeap} {M : ByteArray → Option Int} {B : Int} (a : IA A B) (hB : 1 ≤ B) (x : Act17) : IA (act17 (A, M) x).1 (B + 1) := by
  unfold act17
  by_cases h0 : 0 ≤ x.what ∧ x.what ≤ 3
  · rw [if_pos h0]; exact a.of hB _ _
  rw [if_neg h0]
  by_cases h1 : x.what = 5 ∨ x.what = 6
  · rw [if_pos h1]; exact (a.drop _).mono (by omega)
  rw [if_neg h1]
  by_cases h2 : x.what = 7
  · rw [if_pos h2]; exact (a.free _).mono (by omega)
  rw [if_neg h2]
  by_cases h3 : x.what = 8
  · rw [if_pos h3]; exact a.make hB _ _
  rw [if_neg h3]
  by_cases h4 : x.what = 9
  · rw [if_pos h4]; exact a.of hB _ _
  rw [if_neg h4]
  exact a.mono (by omega)
theorem play17_ok (l : List Act17) : ∀ k, IA (play17 l k).1 (1 + k)
  | 0 => ⟨HW.empty.mono (by omega), by simp [play17, AHeap.empty], fun n o h => by simp [play17, AHeap.empty] at h⟩
  | k + 1 => by
    have ih := play17_ok l k
    cases h : l[k]? with
    | none =>
      have e : play17 l (k + 1) = play17 l k := by unfold play17; rw [List.take_add_one, h]; simp
      rw [e]; exact ih.mono (by omega)
    | some x =>
      rw [play17_succ h]
      exact (ih.act (M := (play17 l k).2) (by omega) x).mono (by omega)
/-- what holds of the rows -/
structure RO (R : List ARow) (M : ByteArray → Option Int) (N : Nat) : Prop where
  m : rowM R = M
  l : R.length ≤ N
  x : ∀ x ∈ R, 0 ≤ x.2 ∧ x.2 ≤ 1000000
theorem RO.ic {A : AHeap} {R : List ARow} {M : ByteArray → Option Int} {B : Int} {N : Nat} (r : RO R M N) (a : IA A B) (hB : B ≤ 1000000) (hN : N ≤ 1000) : IC A M R B N := ⟨a.H, hB, a.W, r.m, ⟨r.l, hN⟩, r.x, a.tx⟩
theorem RO.mono {R : List ARow} {M : ByteArray → Option Int} {N N' : Nat} (r : RO R M N) (h : N ≤ N') : RO R M N' := ⟨r.m, by have := r.l; omega, r.x⟩
theorem RO.of {A : AHeap} {R : List ARow} {M : ByteArray → Option Int} {B : Int} {N : Nat} (r : RO R M N) (a : IA A B) (hB : B ≤ 1000) (hN : N ≤ 1000) (t : ByteArray) : RO (rofR A R t) (ofM A M t) (N + 1) := by
  have hT := a.H.t
  refine ⟨((r.ic a (by omega) hN).of t).2.1, ?_, ?_⟩
  · have := r.l
    unfold rofR rowSet
    repeat' split
    all_goals (simp; omega)
  · have hf := firstFree_le A.T
    unfold rofR rowSet
    split
    · exact r.x
    · split
      · split
        · intro x hx
          rcases List.mem_or_eq_of_mem_set hx with h | rfl
          · exact r.x x h
          · unfold AHeap.fresh; dsimp only; omega
        · intro x hx
          rcases List.mem_append.1 hx with h | h
          · exact r.x x h
          · simp at h; subst h; unfold AHeap.fresh; dsimp only; omega
      · exact r.x
/-- the law's two heaps and their strings: the places x, the rows hidden -/
def inX (bb : Nat) (A : AHeap) (M : ByteArray → Option Int) (N : Nat) (x : Nat × Nat × Nat × Nat) : HP := fun h => ∃ R, RO R M N ∧ (row bb 58 #[.pointer (some ⟨x.1, 0, none⟩), .pointer (some ⟨x.2.1, 0, none⟩), .pointer (some ⟨x.2.2.1, 0, none⟩), .pointer (some ⟨x.2.2.2, 0, none⟩)] * (heapR mN x.1 A * (strR x.2.1 x.1 M * (refR13 x.2.2.1 A * refS x.2.2.2 x.2.2.1 R)))) h
section
variable {w0 w : World} {F : HP} {bb : Nat} {A : AHeap} {M : ByteArray → Option Int} {R : List ARow} {B : Int} {N : Nat} {x : Nat × Nat × Nat × Nat}
theorem Sat.openIn (h : Sat w0 w (inX bb A M N x * F)) : ∃ R, RO R M N ∧ Sat w0 w ((row bb 58 #[.pointer (some ⟨x.1, 0, none⟩), .pointer (some ⟨x.2.1, 0, none⟩), .pointer (some ⟨x.2.2.1, 0, none⟩), .pointer (some ⟨x.2.2.2, 0, none⟩)] * (heapR mN x.1 A * (strR x.2.1 x.1 M * (refR13 x.2.2.1 A * refS x.2.2.2 x.2.2.1 R)))) * F) := by
  obtain ⟨h1, y, ⟨u, z, dj, rfl, ⟨R, k, hp⟩, hq⟩, r⟩ := h
  have h2 : Sat w0 w ((row bb 58 #[.pointer (some ⟨x.1, 0, none⟩), .pointer (some ⟨x.2.1, 0, none⟩), .pointer (some ⟨x.2.2.1, 0, none⟩), .pointer (some ⟨x.2.2.2, 0, none⟩)] * (heapR mN x.1 A * (strR x.2.1 x.1 M * (refR13 x.2.2.1 A * refS x.2.2.2 x.2.2.1 R)))) * F) := ⟨h1, _, ⟨u, z, dj, rfl, hp, hq⟩, r⟩
  exact ⟨R, k, h2⟩
theorem Sat.shutIn (k : RO R M N) (h : Sat w0 w ((row bb 58 #[.pointer (some ⟨x.1, 0, none⟩), .pointer (some ⟨x.2.1, 0, none⟩), .pointer (some ⟨x.2.2.1, 0, none⟩), .pointer (some ⟨x.2.2.2, 0, none⟩)] * (heapR mN x.1 A * (strR x.2.1 x.1 M * (refR13 x.2.2.1 A * refS x.2.2.2 x.2.2.1 R)))) * F)) : Sat w0 w (inX bb A M N x * F) := h.mono_l fun _ hq => ⟨R, k, hq⟩
theorem it_do (a : IA A B) (hB : B ≤ 900) (hN : N ≤ 900) (h : Sat w0 w (inX bb A M N x * F)) (what : Int) (tx : ByteArray) (vk vn : Int) :
    Calls Try.prog 28 #[.pointer (some ⟨bb, 0, none⟩), .agg #[.int .i64 what, .string tx, .int .i64 vk, .int .i64 vn]] w fun e w' => e = .returned (.bool true) ∧ ∃ y, Sat w0 w' (inX bb (act17 (A, M) ⟨what, tx, ⟨vk, vn⟩⟩).1 (act17 (A, M) ⟨what, tx, ⟨vk, vn⟩⟩).2 (N + 1) y * F) := by
  obtain ⟨R, k, h2⟩ := h.openIn
  have c := k.ic a (by omega) (by omega)
  have k1 := k.mono (show N ≤ N + 1 by omega)
  by_cases hn : what < 0 ∨ 9 < what
  · have e : act17 (A, M) ⟨what, tx, ⟨vk, vn⟩⟩ = (A, M) := by unfold act17; dsimp only; rw [if_neg (by omega), if_neg (by omega), if_neg (by omega), if_neg (by omega), if_neg (by omega)]
    rw [e]
    refine (i_do_10 c h2 tx vk vn what hn).mono ?_
    rintro e w1 ⟨rfl, h3⟩
    exact ⟨rfl, x, Sat.shutIn k1 h3⟩
  have hr : what = 0 ∨ what = 1 ∨ what = 2 ∨ what = 3 ∨ what = 4 ∨ what = 5 ∨ what = 6 ∨ what = 7 ∨ what = 8 ∨ what = 9 := by omega
  clear hn
  rcases hr with rfl | rfl | rfl | rfl | rfl | rfl | rfl | rfl | rfl | rfl
  · have e : act17 (A, M) ⟨0, tx, ⟨vk, vn⟩⟩ = (A.of M (txc tx 5000), ofM A M (txc tx 5000)) := by simp [act17]
    rw [e]
    refine (i_do_0 c h2 tx vk vn).mono ?_
    rintro e w1 ⟨rfl, h3⟩
    exact ⟨rfl, x, Sat.shutIn (k.of a (by omega) (by omega) _) h3⟩
  · have e : act17 (A, M) ⟨1, tx, ⟨vk, vn⟩⟩ = (A.of M (txc tx 5000), ofM A M (txc tx 5000)) := by simp [act17]
    rw [e]
    refine (i_do_1 c h2 tx vk vn).mono ?_
    rintro e w1 ⟨rfl, h3⟩
    exact ⟨rfl, x, Sat.shutIn (k.of a (by omega) (by omega) _) h3⟩
  · have e : act17 (A, M) ⟨2, tx, ⟨vk, vn⟩⟩ = (A.of M (txc tx 5000), ofM A M (txc tx 5000)) := by simp [act17]
    rw [e]
    refine (i_do_2 c h2 tx vk vn).mono ?_
    rintro e w1 ⟨rfl, h3⟩
    exact ⟨rfl, x, Sat.shutIn (k.of a (by omega) (by omega) _) h3⟩
  · have e : act17 (A, M) ⟨3, tx, ⟨vk, vn⟩⟩ = (A.of M (txc tx 5000), ofM A M (txc tx 5000)) := by simp [act17]
    rw [e]
    refine (i_do_3 c h2 tx vk vn).mono ?_
    rintro e w1 ⟨rfl, h3⟩
    exact ⟨rfl, x, Sat.shutIn (k.of a (by omega) (by omega) _) h3⟩
  · have e : act17 (A, M) ⟨4, tx, ⟨vk, vn⟩⟩ = (A, M) := by simp [act17]
    rw [e]
    refine (i_do_4 c h2 tx vk vn).mono ?_
    rintro e w1 ⟨rfl, h3⟩
    exact ⟨rfl, x, Sat.shutIn (k1) h3⟩
  · have e : act17 (A, M) ⟨5, tx, ⟨vk, vn⟩⟩ = (A.drop ⟨vk, vn⟩, M) := by simp [act17]
    rw [e]
    refine (i_do_5 c h2 tx vk vn).mono ?_
    rintro e w1 ⟨rfl, h3⟩
    exact ⟨rfl, x, Sat.shutIn (k1) h3⟩
  · have e : act17 (A, M) ⟨6, tx, ⟨vk, vn⟩⟩ = (A.drop ⟨vk, vn⟩, M) := by simp [act17]
    rw [e]
    refine (i_do_6 c h2 tx vk vn).mono ?_
    rintro e w1 ⟨rfl, h3⟩
    exact ⟨rfl, x, Sat.shutIn (k1) h3⟩
  · have e : act17 (A, M) ⟨7, tx, ⟨vk, vn⟩⟩ = (A.freeF (free17 A vn), M) := by simp [act17]
    rw [e]
    refine (i_do_7 c h2 tx vk vn).mono ?_
    rintro e w1 ⟨rfl, h3⟩
    exact ⟨rfl, x, Sat.shutIn (k1) h3⟩
  · have e : act17 (A, M) ⟨8, tx, ⟨vk, vn⟩⟩ = (A.makeF vk (txc tx 5000), M) := by simp [act17]
    rw [e]
    refine (i_do_8 c h2 tx vk vn).mono ?_
    rintro e w1 ⟨rfl, h3⟩
    exact ⟨rfl, x, Sat.shutIn (k1) h3⟩
  · have e : act17 (A, M) ⟨9, tx, ⟨vk, vn⟩⟩ = (A.of M cpy, ofM A M cpy) := by simp [act17]
    rw [e]
    refine (i_do_9 c h2 tx vk vn).mono ?_
    rintro e w1 ⟨rfl, a1, a2, a3, a4, h3⟩
    exact ⟨rfl, (a1, a2, a3, a4), Sat.shutIn (x := (a1, a2, a3, a4)) (k.of a (by omega) (by omega) _) h3⟩
theorem it_Graph (a : IA A B) (hB : B ≤ 900) (h : Sat w0 w (inX bb A M N x * F)) {n : Nat} {L : List AObj} (hN : lastT A.T = n) (hL : graphL A n = L) :
    Calls Try.prog 30 #[.pointer (some ⟨x.1, 0, none⟩)] w fun e w' => ∃ ga gc, e = .returned (.agg #[.slice ga n gc]) ∧ Sat w0 w' (objsV ga n gc L * (inX bb A M N x * F)) := by
  obtain ⟨R, k, h2⟩ := h.openIn
  refine (x_Graph a.H (by omega) (h2.cast (show _ = heapR mN x.1 A * (row bb 58 #[.pointer (some ⟨x.1, 0, none⟩), .pointer (some ⟨x.2.1, 0, none⟩), .pointer (some ⟨x.2.2.1, 0, none⟩), .pointer (some ⟨x.2.2.2, 0, none⟩)] * (strR x.2.1 x.1 M * (refR13 x.2.2.1 A * (refS x.2.2.2 x.2.2.1 R * F)))) by ac_rfl)) hN hL).mono ?_
  rintro e w1 ⟨ga, gc, rfl, h3⟩
  exact ⟨ga, gc, rfl, (Sat.shutIn k (h3.cast (show _ = (row bb 58 #[.pointer (some ⟨x.1, 0, none⟩), .pointer (some ⟨x.2.1, 0, none⟩), .pointer (some ⟨x.2.2.1, 0, none⟩), .pointer (some ⟨x.2.2.2, 0, none⟩)] * (heapR mN x.1 A * (strR x.2.1 x.1 M * (refR13 x.2.2.1 A * refS x.2.2.2 x.2.2.1 R)))) * (objsV ga n gc L * F) by ac_rfl))).p2⟩
theorem it_rGraph (a : IA A B) (hB : B ≤ 900) (h : Sat w0 w (inX bb A M N x * F)) {n : Nat} {L : List AObj} (hN : lastT A.T = n) (hL : graphL A n = L) :
    Calls Try.prog 31 #[.pointer (some ⟨x.2.2.1, 0, none⟩)] w fun e w' => ∃ ga gc, e = .returned (.agg #[.slice ga n gc]) ∧ Sat w0 w' (objsV ga n gc L * (inX bb A M N x * F)) := by
  obtain ⟨R, k, h2⟩ := h.openIn
  refine (r_Graph a.H (by omega) (h2.cast (show _ = refR13 x.2.2.1 A * (row bb 58 #[.pointer (some ⟨x.1, 0, none⟩), .pointer (some ⟨x.2.1, 0, none⟩), .pointer (some ⟨x.2.2.1, 0, none⟩), .pointer (some ⟨x.2.2.2, 0, none⟩)] * (heapR mN x.1 A * (strR x.2.1 x.1 M * (refS x.2.2.2 x.2.2.1 R * F)))) by ac_rfl)) hN hL).mono ?_
  rintro e w1 ⟨ga, gc, rfl, h3⟩
  exact ⟨ga, gc, rfl, (Sat.shutIn k (h3.cast (show _ = (row bb 58 #[.pointer (some ⟨x.1, 0, none⟩), .pointer (some ⟨x.2.1, 0, none⟩), .pointer (some ⟨x.2.2.1, 0, none⟩), .pointer (some ⟨x.2.2.2, 0, none⟩)] * (heapR mN x.1 A * (strR x.2.1 x.1 M * (refR13 x.2.2.1 A * refS x.2.2.2 x.2.2.1 R)))) * (objsV ga n gc L * F) by ac_rfl))).p2⟩
theorem it_cell (h : Sat w0 w (inX bb A M N x * F)) : w.cell? ⟨bb, 0, none⟩ = some (.pointer (some ⟨x.1, 0, none⟩)) ∧ w.cell? ⟨bb, 1, none⟩ = some (.pointer (some ⟨x.2.1, 0, none⟩)) ∧ w.cell? ⟨bb, 2, none⟩ = some (.pointer (some ⟨x.2.2.1, 0, none⟩)) := by
  obtain ⟨R, k, h2⟩ := h.openIn
  have h3 := h2.cast (show _ = row bb 58 #[.pointer (some ⟨x.1, 0, none⟩), .pointer (some ⟨x.2.1, 0, none⟩), .pointer (some ⟨x.2.2.1, 0, none⟩), .pointer (some ⟨x.2.2.2, 0, none⟩)] * ((heapR mN x.1 A * (strR x.2.1 x.1 M * (refR13 x.2.2.1 A * refS x.2.2.2 x.2.2.1 R))) * F) by ac_rfl)
  exact ⟨h3.cell 0 rfl, h3.cell 1 rfl, h3.cell 2 rfl⟩
end
end Go.Proofs.Ytkpcngcegipalaa.Tw
namespace Go.Proofs.Ytkpcngcegipalaa.Tw
set_option linter.unusedVariables false
set_option linter.unusedSimpArgs false
open Go Go.RowKit Go.MapKept

theorem empty_ref {w0 w : World} {F : HP} {q : Nat} (h : Sat w0 w (pt q (.cells #[.slice none 0 0, .slice none 0 0, .slice none 0 0, .slice none 0 0, .int .i64 0, .slice none 0 0, .bool false] 51 (0, 0)) * F)) : Sat w0 w (refR13 q AHeap.empty * F) := by
  have h1 := h.nilSlc (T := 3) (sz := 1)
  have h2 := h1.nilSlc (T := 3) (sz := 1)
  have h3 := h2.nilSlc (T := 176) (sz := 2)
  have h4 := h3.nilSlc (T := 3) (sz := 1)
  have h5 := h4.nilSlc (T := 39) (sz := 5)
  refine ROpen.shut (X := []) (oa := none) (oc := 0) (qa := none) (qc := 0) (ba := none) (bc := 0) (fa := none) (fc := 0) (sa := none) (sc := 0) ⟨rfl, h5.cast ?_⟩
  unfold rrest rcellsH AHeap.empty xslotsR xscells row
  simp only [List.length_nil, List.map_nil, List.flatMap_nil, finCells, one_mul]
  ac_rfl
end Go.Proofs.Ytkpcngcegipalaa.Tw
namespace Go.Proofs.Ytkpcngcegipalaa.Tw
set_option linter.unusedVariables false
set_option linter.unusedSimpArgs false
open Go Go.RowKit Go.MapKept

/-- an act as it lies: its values' slice -/
structure RAct where
  x : Act13
  la : Option Addr
  lc : Nat
def rcells (r : RAct) : List Value := [.int .i64 r.x.what, .int .i64 r.x.n, .int .i64 r.x.i, .int .i64 r.x.v.kind, .int .i64 r.x.v.n, .slice r.la r.x.l.length r.lc, .string r.x.tx]
def racells (rs : List RAct) : List Value := (rs.map rcells).flatten
theorem racells_get : ∀ {rs : List RAct} {k : Nat} {r : RAct}, rs[k]? = some r → ∀ j v, (rcells r)[j]? = some v → (racells rs)[k * 7 + j]? = some v
  | [], k, r, h, _, _, _ => by simp at h
  | y :: rs, 0, r, h, j, v, hj => by
    simp at h; subst h
    show (rcells y ++ racells rs)[0 * 7 + j]? = _
    rw [List.getElem?_append_left (by have := (List.getElem?_eq_some_iff.1 hj).1; omega), Nat.zero_mul, Nat.zero_add]; exact hj
  | y :: rs, k + 1, r, h, j, v, hj => by
    simp at h
    have := racells_get h j v hj
    show (rcells y ++ racells rs)[(k + 1) * 7 + j]? = _
    rw [List.getElem?_append_right (by show 7 ≤ _; omega)]
    show (racells rs)[(k + 1) * 7 + j - 7]? = _
    rw [show (k + 1) * 7 + j - 7 = k * 7 + j by omega]; exact this
section
variable {w0 w : World} {F CR : HP}
theorem srcV_take {SR : HP} {a : Option Addr} {n c k : Nat} {l : List AVal} (h : SrcV w0 SR a n c l) (hk : k ≤ l.length) : SrcV w0 SR a k c (l.take k) := by
  obtain ⟨h1, h2, h3, h4, h5⟩ := h
  refine ⟨fun w' G hs j x hx => h1 w' G hs j x ?_, by rw [List.length_take]; omega, fun e => ?_, by omega, h5⟩
  · rw [List.getElem?_take] at hx
    split at hx
    · exact hx
    · cases hx
  · have := h3 e; omega
end
end Go.Proofs.Ytkpcngcegipalaa.Tw
namespace Go.Proofs.Ytkpcngcegipalaa.Tw
set_option linter.unusedVariables false
set_option linter.unusedSimpArgs false
open Go Go.RowKit Go.MapKept Go.ChangeShapes Go.WideShapes Go.Deep

section
variable {H : Type} {enc : TypeId × Value → H} {w : World} {base : Nat} {held : Bool} {fuel : Nat} {cs : List Value} {x : DataW H × List MemPlace}
theorem open_recs_nil {P : Program} {T e : TypeId} (hT : P.underlying T = some (.slice e)) {spare : Nat → Bool} {len cap : Nat}
    (h : DataW.trod enc P w base spare held fuel T [.slice none len cap] = some x) : len = 0 ∧ cap = 0 := by
  rcases open_slice hT h with ⟨hcs, _⟩ | ⟨ad, l, c, m, n, D, Pl, hcs, _⟩
  · simp at hcs; exact hcs
  · simp at hcs
theorem val_cells {spare : Nat → Bool} (h : DataW.trod enc Try.prog w base spare held fuel 28 cs = some x) : ∃ v : AVal, cs = v.cells := by
  obtain ⟨y0, y1, n, _, hl, g0, g1⟩ := trod_struct2 Try.underlying28 h
  have h2 : Try.prog.cellsOf 28 = 2 := by kernel_rfl
  have k0 : Try.prog.cellsOf 3 = 1 := by kernel_rfl
  have k1 : Try.prog.cellsOf 2 = 1 := by kernel_rfl
  rw [h2] at hl
  obtain ⟨v0, v1, rfl⟩ : ∃ v0 v1, cs = [v0, v1] := by
    rcases cs with _ | ⟨v0, _ | ⟨v1, _ | ⟨v2, r⟩⟩⟩
    · simp at hl
    · simp at hl
    · exact ⟨v0, v1, rfl⟩
    · simp at hl
  simp only [k0, k1, List.drop_zero, List.drop_succ_cons, List.take_succ_cons, List.take_zero] at g0 g1
  obtain ⟨p, e0, _, _⟩ := DataW.trod_int Try.underlying3 g0
  obtain ⟨q, e1, _, _⟩ := DataW.trod_int Try.underlying2 g1
  simp at e0 e1
  exact ⟨⟨p, q⟩, by rw [e0, e1]; rfl⟩
/-- an argument that is a slice of values -/
theorem open_vals {a : Option Addr} {len cap : Nat} (h : DataW.trod enc Try.prog w base (fun _ => true) held fuel 37 [.slice a len cap] = some x) : ∃ l : List AVal, SrcV w (Old w) a len cap l := by
  obtain ⟨h1, h2, css, h3, h4, h5⟩ := open_recs Try.underlying37 (show Try.prog.cellsOf 28 = 2 by kernel_rfl) (by omega) (E := fun cs => ∃ v : AVal, True ∧ cs = v.cells) (fun _ _ _ hh => by obtain ⟨v, e⟩ := val_cells hh; exact ⟨v, trivial, e⟩) h
  obtain ⟨l, rfl, _⟩ := of_forall_ex (f := AVal.cells) (R := fun _ => True) css h4
  rw [List.length_map] at h3
  have e : (l.map AVal.cells).flatten = avcells l := by unfold avcells; rw [List.flatMap_def]
  rw [e] at h5
  refine ⟨l, fun w' G hs k y hk => ?_, h3, fun ea => ?_, h1, h2⟩
  · obtain ⟨e0, e1⟩ := avcells_get l k y hk
    obtain ⟨g, off, ea, c0⟩ := h5 w' G _ _ hs e0
    obtain ⟨g1, off1, ea1, c1⟩ := h5 w' G _ _ hs e1
    rw [ea] at ea1; cases ea1
    exact ⟨g, off, ea, c0, by rw [Nat.add_assoc]; exact c1⟩
  · subst ea
    exact open_recs_nil Try.underlying37 h
theorem act_cells (h : DataW.trod enc Try.prog w base (fun _ => true) held fuel 100 cs = some x) : ∃ r : RAct, SrcV w (Old w) r.la r.x.l.length r.lc r.x.l ∧ cs = rcells r := by
  obtain ⟨xs, n, _, rfl, hl, hlen, hf⟩ := DataW.trod_struct Try.underlying100 h
  have h7 : Try.prog.cellsOf 100 = 7 := by kernel_rfl
  have k0 : Try.prog.cellsOf 3 = 1 := by kernel_rfl
  have k3 : Try.prog.cellsOf 28 = 2 := by kernel_rfl
  have k4 : Try.prog.cellsOf 37 = 1 := by kernel_rfl
  have k5 : Try.prog.cellsOf 9 = 1 := by kernel_rfl
  rw [h7] at hl
  obtain ⟨v0, v1, v2, v3, v4, v5, v6, rfl⟩ : ∃ v0 v1 v2 v3 v4 v5 v6, cs = [v0, v1, v2, v3, v4, v5, v6] := by
    rcases cs with _ | ⟨v0, _ | ⟨v1, _ | ⟨v2, _ | ⟨v3, _ | ⟨v4, _ | ⟨v5, _ | ⟨v6, _ | ⟨v7, r⟩⟩⟩⟩⟩⟩⟩⟩ <;> simp at hl
    exact ⟨v0, v1, v2, v3, v4, v5, v6, rfl⟩
  obtain ⟨y0, y1, y2, y3, y4, y5, rfl⟩ : ∃ y0 y1 y2 y3 y4 y5, xs = [y0, y1, y2, y3, y4, y5] := by
    match xs, hlen with
    | [y0, y1, y2, y3, y4, y5], _ => exact ⟨y0, y1, y2, y3, y4, y5, rfl⟩
  have f0 : DataW.trod enc Try.prog w base (fun _ => true) held n 3 ([v0, v1, v2, v3, v4, v5, v6].drop 0 |>.take (Try.prog.cellsOf 3)) = some y0 := hf 0 _ rfl
  rw [k0] at f0
  replace f0 : DataW.trod enc Try.prog w base (fun _ => true) held n 3 [v0] = some y0 := f0
  have f1 : DataW.trod enc Try.prog w base (fun _ => true) held n 3 ([v0, v1, v2, v3, v4, v5, v6].drop 1 |>.take (Try.prog.cellsOf 3)) = some y1 := hf 1 _ rfl
  rw [k0] at f1
  replace f1 : DataW.trod enc Try.prog w base (fun _ => true) held n 3 [v1] = some y1 := f1
  have f2 : DataW.trod enc Try.prog w base (fun _ => true) held n 3 ([v0, v1, v2, v3, v4, v5, v6].drop 2 |>.take (Try.prog.cellsOf 3)) = some y2 := hf 2 _ rfl
  rw [k0] at f2
  replace f2 : DataW.trod enc Try.prog w base (fun _ => true) held n 3 [v2] = some y2 := f2
  have f3 : DataW.trod enc Try.prog w base (fun _ => true) held n 28 ([v0, v1, v2, v3, v4, v5, v6].drop 3 |>.take (Try.prog.cellsOf 28)) = some y3 := hf 3 _ rfl
  rw [k3] at f3
  replace f3 : DataW.trod enc Try.prog w base (fun _ => true) held n 28 [v3, v4] = some y3 := f3
  have f4 : DataW.trod enc Try.prog w base (fun _ => true) held n 37 ([v0, v1, v2, v3, v4, v5, v6].drop 5 |>.take (Try.prog.cellsOf 37)) = some y4 := hf 4 _ rfl
  rw [k4] at f4
  replace f4 : DataW.trod enc Try.prog w base (fun _ => true) held n 37 [v5] = some y4 := f4
  have f5 : DataW.trod enc Try.prog w base (fun _ => true) held n 9 ([v0, v1, v2, v3, v4, v5, v6].drop 6 |>.take (Try.prog.cellsOf 9)) = some y5 := hf 5 _ rfl
  rw [k5] at f5
  replace f5 : DataW.trod enc Try.prog w base (fun _ => true) held n 9 [v6] = some y5 := f5
  obtain ⟨p0, e0, _, _⟩ := DataW.trod_int Try.underlying3 f0
  obtain ⟨p1, e1, _, _⟩ := DataW.trod_int Try.underlying3 f1
  obtain ⟨p2, e2, _, _⟩ := DataW.trod_int Try.underlying3 f2
  obtain ⟨v, e3⟩ := val_cells f3
  obtain ⟨s, e5, _, _⟩ := DataW.trod_string Try.underlying9 f5
  obtain ⟨a, ln, c, rfl⟩ : ∃ a ln c, v5 = .slice a ln c := by
    rcases open_slice Try.underlying37 f4 with ⟨hcs, _⟩ | ⟨ad, l, c, m, n, D, Pl, hcs, _⟩
    · simp at hcs; exact ⟨_, _, _, hcs⟩
    · simp at hcs; exact ⟨_, _, _, hcs⟩
  obtain ⟨l, hS⟩ := open_vals f4
  have hln : l.length = ln := hS.2.1
  subst hln
  simp [AVal.cells] at e0 e1 e2 e3 e5
  refine ⟨⟨⟨p0, p1, p2, v, l, s⟩, a, c⟩, hS, ?_⟩
  rw [e0, e1, e2, e3.1, e3.2, e5]; rfl
/-- an argument: acts in a slice -/
def IsActs13 (w : World) (a : Option Addr) (len cap : Nat) (rs : List RAct) : Prop :=
  rs.length = len ∧ len ≤ cap ∧ cap ≤ maxLen ∧ (∀ r ∈ rs, SrcV w (Old w) r.la r.x.l.length r.lc r.x.l) ∧ ArgAt w (Old w) a (racells rs)
theorem open_acts13 {a : Option Addr} {len cap : Nat} (h : DataW.trod enc Try.prog w base (fun _ => true) held fuel 98 [.slice a len cap] = some x) : ∃ rs, IsActs13 w a len cap rs := by
  obtain ⟨h1, h2, css, h3, h4, h5⟩ := open_recs Try.underlying98 (show Try.prog.cellsOf 100 = 7 by kernel_rfl) (by omega) (fun _ _ _ hh => act_cells hh) h
  obtain ⟨rs, rfl, hr⟩ := of_forall_ex (f := rcells) (R := fun r => SrcV w (Old w) r.la r.x.l.length r.lc r.x.l) css h4
  rw [List.length_map] at h3
  exact ⟨rs, h3, h1, h2, hr, h5⟩
end
end Go.Proofs.Ytkpcngcegipalaa.Tw
