/- InternKnown: contracts at known states. No condition. -/
import Derived.Test.YtkpcngcegipalaaInt4
import Derived.Test.YtkpcngcegipalaaTot
import Derived.Laws.IdiomStrings
namespace Go.Proofs.Ytkpcngcegipalaa.Tw
set_option linter.unusedVariables false
set_option linter.unusedSimpArgs false
open Go Go.RowKit Go.MapKept

theorem HW.of {A : AHeap} {B : Int} (h : HW A B) (hB : 1 ≤ B) (M : ByteArray → Option Int) (t : ByteArray) : HW (A.of M t) (B + 1) := by
  unfold AHeap.of
  split
  · exact h.keep _
  · rename_i hf
    have := h.make hB 5 t
    unfold AHeap.makeF at this
    split
    · rename_i hk; rw [if_pos hk] at this; exact this
    · exact h.mono (by omega)
theorem strO_slots {A : AHeap} {B : Int} (H : HW A B) (hB : B ≤ 1000000) (v : AVal) : (strO A v).slots.length ≤ 2000000000 := by
  unfold strO
  split
  · unfold AHeap.obj
    cases ho : A.objs v.n with
    | none => simp [AObj.none]
    | some o => have := H.c _ o ho; show o.slots.length ≤ _; omega
  · simp [AObj.none]
section
variable {w0 w : World} {m : Hp} {p s : Nat} {A : AHeap} {F : HP} {B : Int} {M : ByteArray → Option Int}
theorem u_Of (H : HW A B) (hB : B ≤ 1000000) (K : Knows m F) (h : Sat w0 w (heapR m p A * (strR s p M * F))) (t : ByteArray) {v : AVal} (hv : ofV A M t = v) :
    Calls Try.prog 18 #[.pointer (some ⟨s, 0, none⟩), .string t] w fun e w' => e = .returned (.agg #[.int .i64 v.kind, .int .i64 v.n]) ∧ Sat w0 w' (heapR m p (A.of M t) * (strR s p (ofM A M t) * F)) := by
  subst hv
  have hT := H.t
  exact str_Of t K h (strO_slots H hB _) (by omega) fun o ho => by have := cnt_rng H ho; exact wrap_small (by omega) (by omega)
theorem u_FindY (H : HW A B) (hB : B ≤ 1000000) (h : Sat w0 w (heapR m p A * (strR s p M * F))) (t : ByteArray) {n : Int} (hn : findN M t = n) (hb : findOk A M t = true) :
    Calls Try.prog 20 #[.pointer (some ⟨s, 0, none⟩), .string t] w fun e w' => e = .returned (.tuple #[.agg #[.int .i64 5, .int .i64 n], .bool true]) ∧ Sat w0 w' (heapR m p A * (strR s p M * F)) := by
  have := str_Find t h (strO_slots H hB _)
  rw [hn, hb] at this
  exact this
theorem u_FindN (H : HW A B) (hB : B ≤ 1000000) (h : Sat w0 w (heapR m p A * (strR s p M * F))) (t : ByteArray) (hb : findOk A M t = false) :
    Calls Try.prog 20 #[.pointer (some ⟨s, 0, none⟩), .string t] w fun e w' => e = .returned (.tuple #[.agg #[.int .i64 0, .int .i64 0], .bool false]) ∧ Sat w0 w' (heapR m p A * (strR s p M * F)) := by
  have := str_Find t h (strO_slots H hB _)
  rw [hb] at this
  exact this
theorem u_Text (H : HW A B) (hB : B ≤ 1000000) (h : Sat w0 w (heapR m p A * (strR s p M * F))) (k n : Int) {b : Bool} {t : ByteArray} (hb : strIs A ⟨k, n⟩ = b) (ht : (if strIs A ⟨k, n⟩ then (strO A ⟨k, n⟩).text else ByteArray.mk #[]) = t) :
    Calls Try.prog 22 #[.pointer (some ⟨s, 0, none⟩), .agg #[.int .i64 k, .int .i64 n]] w fun e w' => e = .returned (.tuple #[.string t, .bool b]) ∧ Sat w0 w' (heapR m p A * (strR s p M * F)) := by
  subst hb ht
  exact str_Text ⟨k, n⟩ h (strO_slots H hB _)
theorem u_Make (H : HW A B) (hB : B ≤ 1000000) (h : Sat w0 w (heapR m p A * F)) (k : Int) (tx : ByteArray) {v : AVal} (hv : A.makeV k tx = v) :
    Calls Try.prog 25 #[.pointer (some ⟨p, 0, none⟩), .int .i64 k, .string tx] w fun e w' => e = .returned (.agg #[.int .i64 v.kind, .int .i64 v.n]) ∧ Sat w0 w' (heapR m p (A.makeF k tx) * F) := hv ▸ t_Make H hB h k tx
theorem u_Drop (H : HW A B) (hB : B ≤ 1000000) (K : Knows m F) (h : Sat w0 w (heapR m p A * F)) (k n : Int) {e0 : Int} (he : cntE A ⟨k, n⟩ = e0) :
    Calls Try.prog 19 #[.pointer (some ⟨p, 0, none⟩), .agg #[.int .i64 k, .int .i64 n]] w fun e w' => e = .returned (.int .i64 e0) ∧ Sat w0 w' (heapR m p (A.drop ⟨k, n⟩) * F) := by
  subst he; exact t_Drop H hB K h ⟨k, n⟩
theorem u_Free (H : HW A B) (hB : B ≤ 1000000) (K : Knows m F) (h : Sat w0 w (heapR m p A * F)) (n : Int) {e0 : Int} (he : A.freeE n = e0) :
    Calls Try.prog 21 #[.pointer (some ⟨p, 0, none⟩), .int .i64 n] w fun e w' => e = .returned (.int .i64 e0) ∧ Sat w0 w' (heapR m p (A.freeF n) * F) := by
  subst he; exact t_Free H hB K h n
theorem u_Obj (H : HW A B) (hB : B ≤ 1000000) (h : Sat w0 w (heapR m p A * F)) (n : Int) {k c mk : Int} {tx : ByteArray} (ho : A.obj n = ⟨k, c, [], tx, mk⟩) :
    Calls Try.prog 23 #[.pointer (some ⟨p, 0, none⟩), .int .i64 n] w fun e w' => ∃ a cc, e = .returned (.agg #[.int .i64 k, .int .i64 c, .slice a 0 cc, .string tx, .int .i64 mk]) ∧ Sat w0 w' (heapR m p A * F) := by
  refine (heap_Obj h n (by rw [ho]; simp)).mono ?_
  rw [ho]
  rintro e w' ⟨a, c2, rfl, h2⟩
  exact ⟨a, c2, rfl, h2.drop2⟩
theorem u_Copy (H : HW A B) (hB : B ≤ 1000000) (h : Sat w0 w (heapR m p A * F)) :
    Calls Try.prog 26 #[.pointer (some ⟨p, 0, none⟩)] w fun e w' => ∃ q, e = .returned (.pointer (some ⟨q, 0, none⟩)) ∧ Sat w0 w' (heapR m q A * (heapR m p A * F)) := by
  have hT := H.t
  have hq := H.ql
  have hb := H.bl
  have hf := H.fl
  exact heap_Copy h (by omega) (fun n o ho => by have := H.c n o ho; omega) (by omega) (by omega) (by omega)
end
theorem run_field_val0 (k n : Int) (w : World) : (Instr.field 28 (Value.agg #[.int .i64 k, .int .i64 n]) 0).run Try.prog w = .ok (.int .i64 k) w := by kernel_rfl
namespace IK
def mI : Hp := fun _ => none
theorem knowsI (F : HP) : Knows mI F := Knows.none F
def ts (l : List UInt8) : ByteArray := ⟨l.toArray⟩
def tA : ByteArray := ByteArray.mk #[97]
def tB : ByteArray := ByteArray.mk #[98]
def tC : ByteArray := ByteArray.mk #[99]
def tZ : ByteArray := ByteArray.mk #[122]
def tE : ByteArray := ByteArray.mk #[]
def tO : ByteArray := ByteArray.mk #[111, 119, 110]
def tL : ByteArray := ⟨(List.replicate 4097 0).toArray⟩
def tL1 : ByteArray := ⟨(List.replicate 4096 0).toArray⟩
def E : AHeap := AHeap.empty
def M0 : ByteArray → Option Int := fun _ => none
def A1 : AHeap := E.of M0 tA
def M1 := ofM E M0 tA
def A2 : AHeap := A1.of M1 tB
def M2 := ofM A1 M1 tB
def A3 : AHeap := A2.of M2 tA
def M3 := ofM A2 M2 tA
def A4 : AHeap := A3.drop ⟨5, 2⟩
def A5 : AHeap := A4.of M3 tB
def M5 := ofM A4 M3 tB
def A6 : AHeap := A5.freeF 2
def A7 : AHeap := A6.makeF 6 tE
def A8 : AHeap := A7.makeF 5 tO
def A9 : AHeap := A8.of M5 tO
def M9 := ofM A8 M5 tO
def A10 : AHeap := A9.of M9 tL1
def M10 := ofM A9 M9 tL1
def A11 : AHeap := A10.of M10 tE
def M11 := ofM A10 M10 tE
def C1 : AHeap := A11.of M11 tZ
def N1 := ofM A11 M11 tZ
def A12 : AHeap := A11.makeF 5 tZ
def C2 : AHeap := C1.of N1 tA
theorem hE : HW E 1 := HW.empty.mono (by omega)
theorem h1 : HW A1 2 := hE.of (by omega) _ _
theorem h2 : HW A2 3 := h1.of (by omega) _ _
theorem h3 : HW A3 4 := h2.of (by omega) _ _
theorem h4 : HW A4 4 := h3.drop _
theorem h5 : HW A5 5 := h4.of (by omega) _ _
theorem h6 : HW A6 5 := h5.free _
theorem h7 : HW A7 6 := h6.make (by omega) _ _
theorem h8 : HW A8 7 := h7.make (by omega) _ _
theorem h9 : HW A9 8 := h8.of (by omega) _ _
theorem h10 : HW A10 9 := h9.of (by omega) _ _
theorem h11 : HW A11 10 := h10.of (by omega) _ _
theorem hC1 : HW C1 11 := h11.of (by omega) _ _
theorem h12 : HW A12 11 := h11.make (by omega) _ _
theorem hC2 : HW C2 12 := hC1.of (by omega) _ _
theorem v1 : ofV E M0 tA = ⟨5, 1⟩ := by decide +kernel
theorem v2 : ofV A1 M1 tB = ⟨5, 2⟩ := by decide +kernel
theorem v3 : ofV A2 M2 tA = ⟨5, 1⟩ := by decide +kernel
theorem v5 : ofV A4 M3 tB = ⟨5, 3⟩ := by decide +kernel
theorem v9 : ofV A8 M5 tO = ⟨5, 5⟩ := by decide +kernel
theorem vL : ofV A9 M9 tL = ⟨0, 0⟩ := by decide +kernel
theorem v10 : ofV A9 M9 tL1 = ⟨5, 6⟩ := by decide +kernel
theorem v11 : ofV A10 M10 tE = ⟨5, 7⟩ := by decide +kernel
theorem vC1 : ofV A11 M11 tZ = ⟨5, 8⟩ := by decide +kernel
theorem vC2 : ofV C1 N1 tA = ⟨5, 1⟩ := by decide +kernel
theorem fL : findOk A9 M9 tL = false := by decide +kernel
theorem ofL : A9.of M9 tL = A9 := by
  unfold AHeap.of
  rw [fL, if_neg (by decide), if_neg (by decide +kernel)]
theorem ofML : ofM A9 M9 tL = M9 := by
  unfold ofM
  rw [fL, if_neg (by decide), if_neg (by decide +kernel)]
theorem o1 : ∃ tx, A12.obj 1 = ⟨5, 2, [], tx, 0⟩ := ⟨(A12.obj 1).text, by
  have h1 : (A12.obj 1).kind = 5 := by decide +kernel
  have h2 : (A12.obj 1).count = 2 := by decide +kernel
  have h3 : (A12.obj 1).slots = [] := by decide +kernel
  have h4 : (A12.obj 1).mark = 0 := by decide +kernel
  generalize A12.obj 1 = o at *
  obtain ⟨a, b, c, d, e⟩ := o
  subst h1 h2 h3 h4; rfl⟩
theorem o2 : ∃ tx, C2.obj 1 = ⟨5, 3, [], tx, 0⟩ := ⟨(C2.obj 1).text, by
  have h1 : (C2.obj 1).kind = 5 := by decide +kernel
  have h2 : (C2.obj 1).count = 3 := by decide +kernel
  have h3 : (C2.obj 1).slots = [] := by decide +kernel
  have h4 : (C2.obj 1).mark = 0 := by decide +kernel
  generalize C2.obj 1 = o at *
  obtain ⟨a, b, c, d, e⟩ := o
  subst h1 h2 h3 h4; rfl⟩
theorem info_u8 : (Try.prog.info? 5).map (fun i => (i.zero, i.size, i.bytes)) = some (some (.int .u8 0), 1, 1) := by kernel_rfl
theorem made_u8 (n : Nat) {j : Nat} (hj : j < n) : (madeCells #[.int .u8 0] n)[j]? = some (.int .u8 0) := by
  unfold madeCells
  rw [Array.getElem?_map]
  have : (Array.range n)[j]? = some j := by simp [hj]
  rw [this]
  show some (#[Value.int .u8 0][j % 1]!) = _
  rw [Nat.mod_one]; rfl
theorem ik_long {w0 w : World} {m : Hp} {p s : Nat} {F : HP} (h : Sat w0 w (heapR m p (A9.of M9 tL) * (strR s p (ofM A9 M9 tL) * F))) : Sat w0 w (heapR m p A9 * (strR s p M9 * F)) := by
  rw [ofL, ofML] at h; exact h
def tR (n : Nat) : ByteArray := ⟨(List.replicate n 0).toArray⟩
/-- string(make([]byte, n)) -/
theorem long_n (w : World) (N : Nat) (hN : N ≤ 10000) : ∃ zc, (Instr.makeSlice 44 (.int .i64 (N : Int)) (.int .i64 (N : Int))).run Try.prog w = .ok (.slice (some ⟨w.heap.size, 0, none⟩) N N) (w.alloc zc) ∧
    (convert 44 9 (.slice (some ⟨w.heap.size, 0, none⟩) N N)).run Try.prog (w.alloc zc) = .ok (.string (tR N)) (w.alloc zc) := by
  obtain ⟨i0, hi, hz0, hz1, hz2⟩ := info_parts info_u8
  have hmk := run_makeSlice (P := Try.prog) (w := w) 44 5 i0 _ Try.underlying44 hi hz0 .i64 .i64 (N : Int) (N : Int) (by omega) (by omega) (by rw [hz1]; omega) (by rw [hz2]; omega) (by omega)
  rw [hz1, Int.toNat_natCast, Nat.mul_one] at hmk
  refine ⟨_, hmk, ?_⟩
  have hc := run_convert_bytes_back (P := Try.prog) (w.alloc (.cells (madeCells #[.int .u8 0] N) 5)) 44 9 5 ⟨w.heap.size, 0, none⟩ N (List.replicate N 0) Try.underlying44 Try.underlying5 Try.underlying9 (fun j hj => by
    rw [List.length_replicate] at hj
    rw [addr_add, Nat.zero_add]
    have h2 : (w.alloc (.cells (madeCells #[.int .u8 0] N) 5)).heap[w.heap.size]? = some (.cells (madeCells #[.int .u8 0] N) 5 (0, 0)) := by
      show (w.heap.push _)[w.heap.size]? = _
      simp
    rw [List.getElem_replicate]
    unfold World.cell?
    dsimp only
    rw [h2]
    exact made_u8 N hj)
  rw [List.length_replicate] at hc
  exact hc
theorem tR_size (n : Nat) : (tR n).size = n := by
  show (List.replicate n (0 : UInt8)).toArray.size = n
  simp
theorem tR_tail (n : Nat) : (tR (n + 1)).extract 1 (n + 1) = tR n := by
  have h : ((tR (n + 1)).extract 1 (n + 1)).data = (tR n).data := by
    rw [ByteArray.data_extract]
    show (List.replicate (n + 1) (0 : UInt8)).toArray.extract 1 (n + 1) = (List.replicate n 0).toArray
    simp [List.extract_toArray, List.extract]
  cases h1 : (tR (n + 1)).extract 1 (n + 1)
  rw [h1] at h
  cases h; rfl
theorem tL_size : tL.size = 4097 := tR_size 4097
theorem tL_tail : tL.extract 1 4097 = tL1 := tR_tail 4096
end IK
end Go.Proofs.Ytkpcngcegipalaa.Tw
