/- The heap's methods at known answers. No condition. -/
import Derived.Test.YtkpcngcegipalaaTot2
import Derived.Test.YtkpcngcegipalaaCell16
namespace Go.Proofs.Ytkpcngcegipalaa.Tw
set_option linter.unusedVariables false
set_option linter.unusedSimpArgs false
open Go Go.RowKit Go.MapKept

section
variable {w0 w : World} {m : Hp} {p : Nat} {A : AHeap} {F : HP} {B : Int}
theorem x_Make (H : HW A B) (hB : B ≤ 1000000) (h : Sat w0 w (heapR m p A * F)) (k : Int) (tx : ByteArray) {v : AVal} (hv : A.makeV k tx = v) :
    Calls Try.prog 25 #[.pointer (some ⟨p, 0, none⟩), .int .i64 k, .string tx] w fun e w' => e = .returned (.agg #[.int .i64 v.kind, .int .i64 v.n]) ∧ Sat w0 w' (heapR m p (A.makeF k tx) * F) := hv ▸ t_Make H hB h k tx
theorem x_Keep (H : HW A B) (hB : B ≤ 1000000) (K : Knows m F) (h : Sat w0 w (heapR m p A * F)) (k n : Int) {e0 : Int} (he : cntE A ⟨k, n⟩ = e0) :
    Calls Try.prog 59 #[.pointer (some ⟨p, 0, none⟩), .agg #[.int .i64 k, .int .i64 n]] w fun e w' => e = .returned (.int .i64 e0) ∧ Sat w0 w' (heapR m p (A.keep ⟨k, n⟩) * F) := by
  subst he; exact t_Keep H hB K h ⟨k, n⟩
theorem x_Drop (H : HW A B) (hB : B ≤ 1000000) (K : Knows m F) (h : Sat w0 w (heapR m p A * F)) (k n : Int) {e0 : Int} (he : cntE A ⟨k, n⟩ = e0) :
    Calls Try.prog 19 #[.pointer (some ⟨p, 0, none⟩), .agg #[.int .i64 k, .int .i64 n]] w fun e w' => e = .returned (.int .i64 e0) ∧ Sat w0 w' (heapR m p (A.drop ⟨k, n⟩) * F) := by
  subst he; exact t_Drop H hB K h ⟨k, n⟩
theorem x_Free (H : HW A B) (hB : B ≤ 1000000) (K : Knows m F) (h : Sat w0 w (heapR m p A * F)) (n : Int) {e0 : Int} (he : A.freeE n = e0) :
    Calls Try.prog 21 #[.pointer (some ⟨p, 0, none⟩), .int .i64 n] w fun e w' => e = .returned (.int .i64 e0) ∧ Sat w0 w' (heapR m p (A.freeF n) * F) := by
  subst he; exact t_Free H hB K h n
theorem x_Mark (H : HW A B) (hB : B ≤ 1000000) (K : Knows m F) (h : Sat w0 w (heapR m p A * F)) (n : Int) {e0 : Int} (he : A.markN n = e0) :
    Calls Try.prog 62 #[.pointer (some ⟨p, 0, none⟩), .int .i64 n] w fun e w' => e = .returned (.int .i64 e0) ∧ Sat w0 w' (heapR m p (A.mark n) * F) := by
  subst he; exact t_Mark H hB K h n
theorem x_Fin (H : HW A B) (hB : B ≤ 1000000) (K : Knows m F) (h : Sat w0 w (heapR m p A * F)) (n : Int) {e0 : Int} (he : A.finE n = e0) :
    Calls Try.prog 63 #[.pointer (some ⟨p, 0, none⟩), .int .i64 n] w fun e w' => e = .returned (.int .i64 e0) ∧ Sat w0 w' (heapR m p (A.finF n) * F) := by
  subst he; exact t_Fin H hB K h n
theorem x_Next (H : HW A B) (hB : B ≤ 1000000) (h : Sat w0 w (heapR m p A * F)) {k n mk : Int} {b : Bool} (hv : A.nextV = ⟨k, n⟩) (hk : A.nextM = mk) (hb : (!A.fins.isEmpty) = b) :
    Calls Try.prog 42 #[.pointer (some ⟨p, 0, none⟩)] w fun e w' => e = .returned (.tuple #[.agg #[.int .i64 k, .int .i64 n], .int .i64 mk, .bool b]) ∧ Sat w0 w' (heapR m p A.nextF * F) := by
  subst hk hb
  have := t_Next H hB h
  rw [hv] at this
  exact this
theorem x_Susp (H : HW A B) (hB : B ≤ 1000000) (h : Sat w0 w (heapR m p A * F)) (n : Int) {e0 : Int} (he : (if suspB A n then (0 : Int) else 2) = e0) :
    Calls Try.prog 64 #[.pointer (some ⟨p, 0, none⟩), .int .i64 n] w fun e w' => e = .returned (.int .i64 e0) ∧ Sat w0 w' (heapR m p (A.suspF n) * F) := by
  subst he; exact t_Susp H hB h n
theorem x_Push (H : HW A B) (hB : B ≤ 1000000) (K : Knows m F) (h : Sat w0 w (heapR m p A * F)) (n k x : Int) {e0 : Int} (he : A.pushE n ⟨k, x⟩ = e0) :
    Calls Try.prog 33 #[.pointer (some ⟨p, 0, none⟩), .int .i64 n, .agg #[.int .i64 k, .int .i64 x]] w fun e w' => e = .returned (.int .i64 e0) ∧ Sat w0 w' (heapR m p (A.pushF n ⟨k, x⟩) * F) := by
  subst he; exact t_Push H hB K h n ⟨k, x⟩
theorem x_Pop (H : HW A B) (hB : B ≤ 1000000) (K : Knows m F) (h : Sat w0 w (heapR m p A * F)) (n : Int) {k x e0 : Int} (hv : A.popV n = ⟨k, x⟩) (he : A.popE n = e0) :
    Calls Try.prog 61 #[.pointer (some ⟨p, 0, none⟩), .int .i64 n] w fun e w' => e = .returned (.tuple #[.agg #[.int .i64 k, .int .i64 x], .int .i64 e0]) ∧ Sat w0 w' (heapR m p (A.popF n) * F) := by
  subst he
  have := t_Pop H hB K h n
  rw [hv] at this
  exact this
theorem x_At (H : HW A B) (hB : B ≤ 1000000) (h : Sat w0 w (heapR m p A * F)) (n i : Int) {k x e0 : Int} (hv : A.atVV n i = ⟨k, x⟩) (he : A.atE n i = e0) :
    Calls Try.prog 68 #[.pointer (some ⟨p, 0, none⟩), .int .i64 n, .int .i64 i] w fun e w' => e = .returned (.tuple #[.agg #[.int .i64 k, .int .i64 x], .int .i64 e0]) ∧ Sat w0 w' (heapR m p A * F) := by
  subst he
  have := t_At H hB h n i
  rw [hv] at this
  exact this
theorem x_Swap (H : HW A B) (hB : B ≤ 1000000) (K : Knows m F) (h : Sat w0 w (heapR m p A * F)) (n i k x : Int) {k2 x2 e0 : Int} (hv : A.swapV n i ⟨k, x⟩ = ⟨k2, x2⟩) (he : A.swapE n i ⟨k, x⟩ = e0) :
    Calls Try.prog 67 #[.pointer (some ⟨p, 0, none⟩), .int .i64 n, .int .i64 i, .agg #[.int .i64 k, .int .i64 x]] w fun e w' => e = .returned (.tuple #[.agg #[.int .i64 k2, .int .i64 x2], .int .i64 e0]) ∧ Sat w0 w' (heapR m p (A.swapF n i ⟨k, x⟩) * F) := by
  subst he
  have := t_Swap H hB K h n i ⟨k, x⟩
  rw [hv] at this
  exact this
theorem x_Lay {SR : HP} (H : HW A B) (hB : B ≤ 1000000) (K : Knows m F) (n : Int) {a : Option Addr} {sn c : Nat} {s : List AVal} (h : Sat w0 w (heapR m p A * (SR * F))) (hS : SrcV w0 SR a sn c s) (hn : sn ≤ 1000000) {e0 : Int} (he : A.layE n s = e0) :
    Calls Try.prog 66 #[.pointer (some ⟨p, 0, none⟩), .int .i64 n, .slice a sn c] w fun e w' => e = .returned (.int .i64 e0) ∧ Sat w0 w' (heapR m p (A.layF n s) * (SR * F)) := by
  subst he; exact t_Lay H hB K n h hS hn
theorem x_Obj (H : HW A B) (hB : B ≤ 1000000) (h : Sat w0 w (heapR m p A * F)) (n : Int) {k c mk : Int} {sl : List AVal} {tx : ByteArray} {sn : Nat} (ho : A.obj n = ⟨k, c, sl, tx, mk⟩) (hsn : sl.length = sn) :
    Calls Try.prog 23 #[.pointer (some ⟨p, 0, none⟩), .int .i64 n] w fun e w' => ∃ a cc, e = .returned (.agg #[.int .i64 k, .int .i64 c, .slice a sn cc, .string tx, .int .i64 mk]) ∧ Sat w0 w' (slc 28 2 a sn cc (avcells sl) * (heapR m p A * F)) := by
  have hs : (A.obj n).slots.length ≤ 1000000 := by
    unfold AHeap.obj
    cases hh : A.objs n with
    | none => simp [AObj.none]
    | some o => have := H.c n o hh; show o.slots.length ≤ _; omega
  have hO := heap_Obj h n (by omega)
  rw [ho] at hO
  subst hsn
  refine hO.mono ?_
  rintro e w' ⟨a, c2, rfl, h2⟩
  exact ⟨a, c2, rfl, h2.p2⟩
theorem x_Queue (H : HW A B) (hB : B ≤ 1000000) (h : Sat w0 w (heapR m p A * F)) {L : List Int} {n : Nat} (hL : A.queue = L) (hn : L.length = n) :
    Calls Try.prog 35 #[.pointer (some ⟨p, 0, none⟩)] w fun e w' => ∃ a c, e = .returned (.slice a n c) ∧ Sat w0 w' (slc 3 1 a n c (L.map ival) * (heapR m p A * F)) := by
  have hq := H.ql
  subst hL hn
  exact heap_Queue h (by omega)
theorem x_Buf (H : HW A B) (hB : B ≤ 1000000) (h : Sat w0 w (heapR m p A * F)) {L : List Int} {n : Nat} (hL : A.buf = L) (hn : L.length = n) :
    Calls Try.prog 51 #[.pointer (some ⟨p, 0, none⟩)] w fun e w' => ∃ a c, e = .returned (.slice a n c) ∧ Sat w0 w' (slc 3 1 a n c (L.map ival) * (heapR m p A * F)) := by
  have hq := H.bl
  subst hL hn
  exact heap_Buffer h (by omega)
theorem x_Take (H : HW A B) (hB : B ≤ 1000000) (h : Sat w0 w (heapR m p A * F)) {L : List Int} {n : Nat} (hL : A.buf = L) (hn : L.length = n) :
    Calls Try.prog 65 #[.pointer (some ⟨p, 0, none⟩)] w fun e w' => ∃ a c, e = .returned (.slice a n c) ∧ Sat w0 w' (slc 3 1 a n c (L.map ival) * (heapR m p { A with buf := [] } * F)) := by
  have hq := H.bl
  subst hn hL
  exact heap_TakeBuffer h (by omega)
theorem x_Fins (H : HW A B) (hB : B ≤ 1000000) (h : Sat w0 w (heapR m p A * F)) {L : List Int} {n : Nat} (hL : A.fins.map (·.1) = L) (hn : L.length = n) :
    Calls Try.prog 40 #[.pointer (some ⟨p, 0, none⟩)] w fun e w' => ∃ a c, e = .returned (.slice a n c) ∧ Sat w0 w' (slc 3 1 a n c (L.map ival) * (heapR m p A * F)) := by
  have hfl := H.fl
  have e2 : A.fins.length = n := by rw [← hn, ← hL, List.length_map]
  refine (heap_Fins h (by omega)).mono ?_
  rintro e w' ⟨a, c, rfl, h2⟩
  rw [hL, e2] at h2
  exact ⟨a, c, by rw [e2], h2⟩
theorem x_Graph (H : HW A B) (hB : B ≤ 1000000) (h : Sat w0 w (heapR m p A * F)) {N : Nat} {L : List AObj} (hN : lastT A.T = N) (hL : graphL A N = L) :
    Calls Try.prog 30 #[.pointer (some ⟨p, 0, none⟩)] w fun e w' => ∃ ga gc, e = .returned (.agg #[.slice ga N gc]) ∧ Sat w0 w' (objsV ga N gc L * (heapR m p A * F)) := by
  subst hN hL
  have hT := H.t
  exact heap_Graph h (by omega) fun n o ho => by have := H.c n o ho; omega
theorem x_Touched (h : Sat w0 w (heapR m p A * F)) {b : Bool} (hb : A.touched = b) :
    Calls Try.prog 48 #[.pointer (some ⟨p, 0, none⟩)] w fun e w' => e = .returned (.bool b) ∧ Sat w0 w' (heapR m p A * F) := by
  subst hb
  refine (heap_Touched h).mono ?_
  rintro e w' ⟨rfl, rfl⟩
  exact ⟨rfl, h⟩
theorem x_Copy (H : HW A B) (hB : B ≤ 1000000) (h : Sat w0 w (heapR m p A * F)) :
    Calls Try.prog 26 #[.pointer (some ⟨p, 0, none⟩)] w fun e w' => ∃ q, e = .returned (.pointer (some ⟨q, 0, none⟩)) ∧ Sat w0 w' (heapR m q A * (heapR m p A * F)) := by
  have hT := H.t
  have hq := H.ql
  have hb := H.bl
  have hf := H.fl
  exact heap_Copy h (by omega) (fun n o ho => by have := H.c n o ho; omega) (by omega) (by omega) (by omega)
end
/-! cells of two, kept through an alloc -/
theorem cell_alloc {w : World} {a : Addr} {v : Value} {o : Obj} (h : w.cell? a = some v) : (w.alloc o).cell? a = some v := by
  have hb := World.block_lt_of_cell? w a h
  refine (World.cell?_of_block ?_).trans h
  show (w.heap.push o)[a.block]? = _
  rw [Array.getElem?_push, if_neg (by omega)]
theorem two_alloc {w : World} {a a2 : Addr} {v v2 : Value} {o : Obj} (h : w.cell? a = some v ∧ w.cell? a2 = some v2) : (w.alloc o).cell? a = some v ∧ (w.alloc o).cell? a2 = some v2 := ⟨cell_alloc h.1, cell_alloc h.2⟩
end Go.Proofs.Ytkpcngcegipalaa.Tw
