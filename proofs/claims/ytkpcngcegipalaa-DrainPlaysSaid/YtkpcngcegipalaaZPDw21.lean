/- The heap's methods, whatever they are asked: At, Swap, Lay; and all at known answers. No condition. -/
import Derived.Test.YtkpcngcegipalaaZPDw20
namespace Go.Proofs.Ytkpcngcegipalaa.Tw
set_option linter.unusedVariables false
set_option linter.unusedSimpArgs false
open Go Go.RowKit Go.MapKept

def AHeap.atVV (A : AHeap) (n i : Int) : AVal := (atV A n i).getD ⟨0, 0⟩
def AHeap.atE (A : AHeap) (n i : Int) : Int := match atV A n i with | none => 5 | some _ => 0
def AHeap.swapF (A : AHeap) (n i : Int) (v : AVal) : AHeap := match atV A n i, A.objs n with
  | some _, some o => if thereV A v then A.swap n o i.toNat v else A
  | _, _ => A
def AHeap.swapV (A : AHeap) (n i : Int) (v : AVal) : AVal := match atV A n i with
  | none => ⟨0, 0⟩
  | some u => if thereV A v then u else ⟨0, 0⟩
def AHeap.swapE (A : AHeap) (n i : Int) (v : AVal) : Int := match atV A n i with
  | none => 5
  | some _ => if thereV A v then 0 else 2
def AHeap.layF (A : AHeap) (n : Int) (s : List AVal) : AHeap := match A.objs n with
  | none => A
  | some o => if layB A o s then A.lay n o s else A
def AHeap.layE (A : AHeap) (n : Int) (s : List AVal) : Int := match A.objs n with
  | none => 5
  | some o => if layB A o s then 0 else 2
def AHeap.watchF (A : AHeap) (l : List Int) : AHeap := { A with watch := l, touched := false }
theorem atV_some {A : AHeap} {n i : Int} {u : AVal} (h : atV A n i = some u) : ∃ o, A.objs n = some o ∧ 0 ≤ i ∧ o.slots[i.toNat]? = some u := by
  unfold atV at h
  cases ho : A.objs n with
  | none => rw [ho] at h; cases h
  | some o =>
    rw [ho] at h
    dsimp only at h
    split at h
    · rename_i hi; exact ⟨o, rfl, hi, h⟩
    · cases h
theorem HW.swap {A : AHeap} {B : Int} (h : HW A B) (n i : Int) (v : AVal) : HW (A.swapF n i v) B := by
  unfold AHeap.swapF
  cases ha : atV A n i with
  | none => exact h
  | some u =>
    obtain ⟨o, ho, _, _⟩ := atV_some ha
    rw [ho]
    dsimp only
    split
    · have hc := h.c n o ho
      refine h.same (Int.le_refl _) ho (o' := { o with slots := o.slots.set i.toNat v }) rfl rfl h.m rfl ?_ Iff.rfl (fun e => e) rfl rfl rfl
      dsimp only
      rw [List.length_set]
      exact ⟨hc.1, hc.2.1, hc.2.2.1⟩
    · exact h
theorem HW.lay {A : AHeap} {B : Int} (h : HW A B) (n : Int) (s : List AVal) (hs : (s.length : Int) ≤ B) : HW (A.layF n s) B := by
  unfold AHeap.layF
  cases ho : A.objs n with
  | none => exact h
  | some o =>
    dsimp only
    split
    · have hc := h.c n o ho
      exact h.same (Int.le_refl _) ho (o' := { o with slots := s }) rfl rfl h.m rfl ⟨hc.1, hc.2.1, hs⟩ Iff.rfl (fun e => e) rfl rfl rfl
    · exact h
theorem HW.watch {A : AHeap} {B : Int} (h : HW A B) (l : List Int) : HW (A.watchF l) B :=
  ⟨h.q1, h.q2, h.qn, h.b1, h.bn, h.f1, h.fn, h.c, h.t, h.ht, h.m⟩
section
variable {w0 w : World} {m : Hp} {p : Nat} {A : AHeap} {F : HP} {B : Int}
theorem HW.slotsN {A : AHeap} {B : Int} (H : HW A B) (hB : B ≤ 1000000) : ∀ n o, A.objs n = some o → o.slots.length ≤ 1000000000 := fun n o ho => by have := H.c n o ho; omega
theorem t_At (H : HW A B) (hB : B ≤ 1000000) (h : Sat w0 w (heapR m p A * F)) (n i : Int) :
    Calls Try.prog 68 #[.pointer (some ⟨p, 0, none⟩), .int .i64 n, .int .i64 i] w fun e w' => e = .returned (.tuple #[.agg #[.int .i64 (A.atVV n i).kind, .int .i64 (A.atVV n i).n], .int .i64 (A.atE n i)]) ∧ Sat w0 w' (heapR m p A * F) := by
  unfold AHeap.atVV AHeap.atE
  cases ha : atV A n i with
  | none => exact heap_At_none h n i ha (H.slotsN hB n)
  | some v => exact heap_At h n i ha (H.slotsN hB n)
theorem t_Swap (H : HW A B) (hB : B ≤ 1000000) (K : Knows m F) (h : Sat w0 w (heapR m p A * F)) (n i : Int) (v : AVal) :
    Calls Try.prog 67 #[.pointer (some ⟨p, 0, none⟩), .int .i64 n, .int .i64 i, .agg #[.int .i64 v.kind, .int .i64 v.n]] w fun e w' => e = .returned (.tuple #[.agg #[.int .i64 (A.swapV n i v).kind, .int .i64 (A.swapV n i v).n], .int .i64 (A.swapE n i v)]) ∧ Sat w0 w' (heapR m p (A.swapF n i v) * F) := by
  unfold AHeap.swapV AHeap.swapE AHeap.swapF
  cases ha : atV A n i with
  | none => exact heap_Swap_none h n i v ha (H.slotsN hB n)
  | some u =>
    obtain ⟨o, ho, hi, hu⟩ := atV_some ha
    rw [ho]
    dsimp only
    cases ht : thereV A v with
    | false => exact heap_Swap_no h n i v ha (H.slotsN hB n) ht
    | true =>
      have := heap_Swap h K n i.toNat v ho hu (H.slotsN hB n o ho) ht
      rw [Int.toNat_of_nonneg hi] at this
      exact this
theorem t_Lay {SR : HP} (H : HW A B) (hB : B ≤ 1000000) (K : Knows m F) (n : Int) {a : Option Addr} {sn c : Nat} {s : List AVal} (h : Sat w0 w (heapR m p A * (SR * F))) (hS : SrcV w0 SR a sn c s) (hn : sn ≤ 1000000) :
    Calls Try.prog 66 #[.pointer (some ⟨p, 0, none⟩), .int .i64 n, .slice a sn c] w fun e w' => e = .returned (.int .i64 (A.layE n s)) ∧ Sat w0 w' (heapR m p (A.layF n s) * (SR * F)) := by
  unfold AHeap.layE AHeap.layF
  cases ho : A.objs n with
  | none => exact heap_Lay_none h n a sn c ho
  | some o =>
    dsimp only
    cases hb : layB A o s with
    | false => exact heap_LayS_no n h hS (by omega) ho hb
    | true => exact heap_LayS n h K hS (by omega) ho hb
end
section
variable {w0 w : World} {m : Hp} {p : Nat} {A : AHeap} {F : HP} {B : Int}
theorem Sat.litI {b n : Nat} {L : List Int} (h : Sat w0 w (pt b (.cells (L.map ival).toArray 3 (0, 0)) * F)) (hl : L.length = n) (hn : n ≤ 1000000) : Sat w0 w (slc 3 1 (some ⟨b, 0, none⟩) n n (L.map ival) * F) := by
  subst hl
  exact Sat.shutSlc h (Nat.le_refl _) (by unfold maxLen; omega) (by simp) (by simp only [List.drop_zero, Nat.mul_one]; exact List.take_of_length_le (by simp))
/-- an owned slice is a source -/
theorem srcV_slc {a : Option Addr} {n c : Nat} {l : List AVal} (hl : l.length = n) (hc : n ≤ c ∧ c ≤ maxLen) (hnil : a = none → n = 0 ∧ c = 0) : SrcV w0 (slc 28 2 a n c (avcells l)) a n c l := by
  refine ⟨fun w' G h k x hx => ?_, hl, hnil, hc⟩
  obtain ⟨g, off, e, c0, c1, _, _⟩ := valAt h hx
  exact ⟨g, off, e, c0, c1⟩
theorem Sat.srcV {a : Option Addr} {n c : Nat} {l : List AVal} (h : Sat w0 w (slc 28 2 a n c (avcells l) * F)) (hl : l.length = n) : SrcV w0 (slc 28 2 a n c (avcells l)) a n c l :=
  srcV_slc hl h.slcCap fun e => by
    subst e
    rcases h.openSlc.2 with ⟨_, e1, e2, _⟩ | ⟨g, off, cur, e, _⟩
    · exact ⟨e1, e2⟩
    · cases e
end
end Go.Proofs.Ytkpcngcegipalaa.Tw
