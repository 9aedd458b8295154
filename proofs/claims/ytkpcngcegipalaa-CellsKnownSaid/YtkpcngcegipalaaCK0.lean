/- CellsKnown: its heaps, plainly; contracts of no heap. No condition. -/
import Derived.Test.YtkpcngcegipalaaXc
import Derived.Laws.IdiomStrings
namespace Go.Proofs.Ytkpcngcegipalaa.Tw
set_option linter.unusedVariables false
set_option linter.unusedSimpArgs false
open Go Go.RowKit Go.MapKept

section
variable {w0 w : World} {F : HP}
theorem n_Touched (h : Sat w0 w F) : Calls Try.prog 48 #[.pointer none] w fun e w' => e = .returned (.bool false) ∧ Sat w0 w' F := (heap_Touched_nil w).mono fun _ _ ⟨e, q⟩ => ⟨e, q ▸ h⟩
theorem n_Queue (h : Sat w0 w F) : Calls Try.prog 35 #[.pointer none] w fun e w' => e = .returned (.slice none 0 0) ∧ Sat w0 w' F := (heap_Queue_nil w).mono fun _ _ ⟨e, q⟩ => ⟨e, q ▸ h⟩
theorem n_Buffer (h : Sat w0 w F) : Calls Try.prog 51 #[.pointer none] w fun e w' => e = .returned (.slice none 0 0) ∧ Sat w0 w' F := (heap_Buffer_nil w).mono fun _ _ ⟨e, q⟩ => ⟨e, q ▸ h⟩
theorem n_Take (h : Sat w0 w F) : Calls Try.prog 65 #[.pointer none] w fun e w' => e = .returned (.slice none 0 0) ∧ Sat w0 w' F := (heap_TakeBuffer_nil w).mono fun _ _ ⟨e, q⟩ => ⟨e, q ▸ h⟩
theorem n_Fins (h : Sat w0 w F) : Calls Try.prog 40 #[.pointer none] w fun e w' => e = .returned (.slice none 0 0) ∧ Sat w0 w' F := (heap_Fins_nil w).mono fun _ _ ⟨e, q⟩ => ⟨e, q ▸ h⟩
theorem n_Watch (h : Sat w0 w F) (a : Option Addr) (n c : Nat) : Calls Try.prog 47 #[.pointer none, .slice a n c] w fun e w' => e = .returned (.tuple #[]) ∧ Sat w0 w' F := (heap_Watch_nil w a n c).mono fun _ _ ⟨e, q⟩ => ⟨e, q ▸ h⟩
theorem n_Copy (h : Sat w0 w F) : Calls Try.prog 26 #[.pointer none] w fun e w' => e = .returned (.pointer none) ∧ Sat w0 w' F := (heap_Copy_nil w).mono fun _ _ ⟨e, q⟩ => ⟨e, q ▸ h⟩
theorem n_Make (h : Sat w0 w F) (k : Int) (tx : ByteArray) : Calls Try.prog 25 #[.pointer none, .int .i64 k, .string tx] w fun e w' => e = .returned (.agg #[.int .i64 0, .int .i64 0]) ∧ Sat w0 w' F :=
  heap_Make_no h none k tx (.inl rfl)
end
namespace CK
def tX : ByteArray := ByteArray.mk #[120]
def tE : ByteArray := ByteArray.mk #[]
def tL : ByteArray := ⟨(List.replicate 4097 0).toArray⟩
def E : AHeap := AHeap.empty
theorem hE : HW E 1 := HW.empty.mono (by omega)
def S1 : AHeap := E.makeF 6 tX
theorem hS1 : HW S1 2 := hE.make (by omega) _ _
def S2 : AHeap := S1.makeF 5 tX
theorem hS2 : HW S2 3 := hS1.make (by omega) _ _
def S3 : AHeap := S2.makeF 3 tE
theorem hS3 : HW S3 4 := hS2.make (by omega) _ _
def S4 : AHeap := S3.pushF 1 ⟨5, 2⟩
theorem hS4 : HW S4 5 := hS3.push _ _
def S5 : AHeap := S4.keep ⟨5, 2⟩
theorem hS5 : HW S5 6 := hS4.keep _
def S6 : AHeap := S5.drop ⟨5, 2⟩
theorem hS6 : HW S6 6 := hS5.drop _
def S7 : AHeap := S6.drop ⟨5, 2⟩
theorem hS7 : HW S7 6 := hS6.drop _
def S8 : AHeap := S7.drop ⟨5, 2⟩
theorem hS8 : HW S8 6 := hS7.drop _
def S9 : AHeap := S8.keep ⟨5, 2⟩
theorem hS9 : HW S9 7 := hS8.keep _
def S10 : AHeap := S9.pushF 2 ⟨1, 0⟩
theorem hS10 : HW S10 8 := hS9.push _ _
def S11 : AHeap := S10.pushF 1 ⟨9, 1⟩
theorem hS11 : HW S11 9 := hS10.push _ _
def S12 : AHeap := S11.pushF 1 ⟨0, 0⟩
theorem hS12 : HW S12 10 := hS11.push _ _
def S13 : AHeap := S12.pushF 3 ⟨6, 1⟩
theorem hS13 : HW S13 11 := hS12.push _ _
def S14 : AHeap := S13.keep ⟨6, 1⟩
theorem hS14 : HW S14 12 := hS13.keep _
def S15 : AHeap := S14.drop ⟨6, 1⟩
theorem hS15 : HW S15 12 := hS14.drop _
def S16 : AHeap := S15.drop ⟨6, 1⟩
theorem hS16 : HW S16 12 := hS15.drop _
def S17 : AHeap := S16.freeF 1
theorem hS17 : HW S17 12 := hS16.free _
def S18 : AHeap := S17.freeF 2
theorem hS18 : HW S18 12 := hS17.free _
def S19 : AHeap := S18.freeF 1
theorem hS19 : HW S19 12 := hS18.free _
def S20 : AHeap := S19.popF 1
theorem hS20 : HW S20 12 := hS19.pop _
def S21 : AHeap := S20.popF 1
theorem hS21 : HW S21 12 := hS20.pop _
def S22 : AHeap := S21.freeF 1
theorem hS22 : HW S22 12 := hS21.free _
def S23 : AHeap := S22.makeF 9 tE
theorem hS23 : HW S23 13 := hS22.make (by omega) _ _
def S24 : AHeap := S23.watchF [1]
theorem hS24 : HW S24 13 := hS23.watch _
def S25 : AHeap := S24.keep ⟨3, 1⟩
theorem hS25 : HW S25 14 := hS24.keep _
def S26 : AHeap := S25.drop ⟨6, 1⟩
theorem hS26 : HW S26 14 := hS25.drop _
def S27 : AHeap := S26.mark 1
theorem hS27 : HW S27 15 := hS26.mark _
def S28 : AHeap := S27.mark 1
theorem hS28 : HW S28 16 := hS27.mark _
def S29 : AHeap := S28.mark 2
theorem hS29 : HW S29 17 := hS28.mark _
def S30 : AHeap := S29.makeF 6 tE
theorem hS30 : HW S30 18 := hS29.make (by omega) _ _
def S31 : AHeap := S30.mark 2
theorem hS31 : HW S31 19 := hS30.mark _
def S32 : AHeap := S31.drop ⟨9, 1⟩
theorem hS32 : HW S32 19 := hS31.drop _
def S33 : AHeap := S32.finF 1
theorem hS33 : HW S33 19 := hS32.fin _
def S34 : AHeap := S33.finF 1
theorem hS34 : HW S34 19 := hS33.fin _
def S35 : AHeap := S34.mark 1
theorem hS35 : HW S35 20 := hS34.mark _
def S36 : AHeap := S35.finF 2
theorem hS36 : HW S36 20 := hS35.fin _
def S37 : AHeap := S36.nextF
theorem hS37 : HW S37 20 := hS36.next
def S38 : AHeap := S37.nextF
theorem hS38 : HW S38 20 := hS37.next
def S39 : AHeap := S38.nextF
theorem hS39 : HW S39 20 := hS38.next
def S40 : AHeap := S39.suspF 1
theorem hS40 : HW S40 20 := hS39.susp _
def S41 : AHeap := S40.suspF 1
theorem hS41 : HW S41 20 := hS40.susp _
def S42 : AHeap := S41.suspF 3
theorem hS42 : HW S42 20 := hS41.susp _
def S43 : AHeap := { S42 with buf := [] }
theorem hS43 : HW S43 20 := hS42.take
def S44 : AHeap := S43.layF 2 [⟨9, 1⟩, ⟨1, 0⟩]
theorem hS44 : HW S44 20 := hS43.lay _ _ (by decide)
def S45 : AHeap := S44.layF 2 [⟨9, 1⟩, ⟨0, 0⟩]
theorem hS45 : HW S45 20 := hS44.lay _ _ (by decide)
def S46 : AHeap := S45.layF 9 []
theorem hS46 : HW S46 20 := hS45.lay _ _ (by decide)
def S47 : AHeap := S46.swapF 2 1 ⟨6, 2⟩
theorem hS47 : HW S47 20 := hS46.swap _ _ _
def S48 : AHeap := S47.swapF 2 2 ⟨6, 2⟩
theorem hS48 : HW S48 20 := hS47.swap _ _ _
def S49 : AHeap := S48.swapF 2 0 ⟨5, 1⟩
theorem hS49 : HW S49 20 := hS48.swap _ _ _
def Z1 : AHeap := E.makeF 6 tE
theorem hZ1 : HW Z1 2 := hE.make (by omega) _ _
def Z2 : AHeap := Z1.mark 1
theorem hZ2 : HW Z2 3 := hZ1.mark _
def Z3 : AHeap := Z2.finF 1
theorem hZ3 : HW Z3 3 := hZ2.fin _
def Z4 : AHeap := Z3.drop ⟨6, 1⟩
theorem hZ4 : HW Z4 3 := hZ3.drop _
def Z5 : AHeap := Z4.drop ⟨6, 1⟩
theorem hZ5 : HW Z5 3 := hZ4.drop _
def Z6 : AHeap := Z5.freeF 1
theorem hZ6 : HW Z6 3 := hZ5.free _
def Z7 : AHeap := Z6.nextF
theorem hZ7 : HW Z7 3 := hZ6.next
theorem r1 : E.makeV 6 tX = ⟨6, 1⟩ := by decide +kernel
theorem r2 : S1.makeV 5 tX = ⟨5, 2⟩ := by decide +kernel
theorem r3 : S2.makeV 3 tE = ⟨0, 0⟩ := by decide +kernel
theorem o4 : ∃ k c m, ∃ sl : List AVal, S3.obj 1 = ⟨k, c, sl, (ByteArray.mk #[]), m⟩ := ⟨(S3.obj 1).kind, (S3.obj 1).count, (S3.obj 1).mark, (S3.obj 1).slots, by
  have qtext : (S3.obj 1).text = (ByteArray.mk #[]) := by decide +kernel
  generalize S3.obj 1 = o at *
  obtain ⟨a, b, c, d, e⟩ := o
  subst qtext; rfl⟩
theorem o5 : ∃ k c m, ∃ sl : List AVal, S3.obj 2 = ⟨k, c, sl, (ByteArray.mk #[120]), m⟩ := ⟨(S3.obj 2).kind, (S3.obj 2).count, (S3.obj 2).mark, (S3.obj 2).slots, by
  have qtext : (S3.obj 2).text = (ByteArray.mk #[120]) := by decide +kernel
  generalize S3.obj 2 = o at *
  obtain ⟨a, b, c, d, e⟩ := o
  subst qtext; rfl⟩
theorem r6 : S3.makeV 5 tL = ⟨0, 0⟩ := by decide +kernel
theorem mkL : S3.makeF 5 tL = S3 := by unfold AHeap.makeF; rw [if_neg (by decide +kernel)]
theorem r8 : S3.pushE 1 ⟨5, 2⟩ = 0 := by decide +kernel
theorem r9 : cntE S4 ⟨5, 2⟩ = 0 := by decide +kernel
theorem r10 : cntE S5 ⟨5, 2⟩ = 0 := by decide +kernel
theorem r11 : cntE S6 ⟨5, 2⟩ = 0 := by decide +kernel
theorem r12 : S7.queue = [2] := by decide +kernel
theorem r13 : S7.buf = [] := by decide +kernel
theorem r14 : cntE S7 ⟨5, 2⟩ = 5 := by decide +kernel
theorem r15 : cntE S8 ⟨5, 2⟩ = 5 := by decide +kernel
theorem r16 : S9.pushE 2 ⟨1, 0⟩ = 2 := by decide +kernel
theorem r17 : S10.pushE 1 ⟨9, 1⟩ = 2 := by decide +kernel
theorem r18 : S11.pushE 1 ⟨0, 0⟩ = 2 := by decide +kernel
theorem r19 : S12.pushE 3 ⟨6, 1⟩ = 5 := by decide +kernel
theorem r20 : cntE S13 ⟨6, 1⟩ = 0 := by decide +kernel
theorem r21 : cntE S14 ⟨6, 1⟩ = 0 := by decide +kernel
theorem r22 : S15.buf = [1] := by decide +kernel
theorem r23 : cntE S15 ⟨6, 1⟩ = 0 := by decide +kernel
theorem r24 : S16.queue = [2, 1] := by decide +kernel
theorem r25 : S16.buf = [] := by decide +kernel
theorem r26 : S16.freeE 1 = 2 := by decide +kernel
theorem r27 : S17.freeE 2 = 0 := by decide +kernel
theorem r28 : S18.freeE 1 = 2 := by decide +kernel
theorem r29 : S19.popV 1 = ⟨5, 2⟩ := by decide +kernel
theorem r30 : S19.popE 1 = 0 := by decide +kernel
theorem r31 : S20.popV 1 = ⟨0, 0⟩ := by decide +kernel
theorem r32 : S20.popE 1 = 5 := by decide +kernel
theorem r33 : S21.freeE 1 = 0 := by decide +kernel
theorem r34 : S22.makeV 9 tE = ⟨9, 1⟩ := by decide +kernel
theorem tOf : lastT S23.T = 1 := by decide +kernel
theorem r36 : S24.touched = false := by decide +kernel
theorem r37 : cntE S24 ⟨3, 1⟩ = 0 := by decide +kernel
theorem r38 : cntE S25 ⟨6, 1⟩ = 5 := by decide +kernel
theorem r39 : S26.touched = false := by decide +kernel
theorem r40 : S26.markN 1 = 1 := by decide +kernel
theorem r41 : S27.touched = true := by decide +kernel
theorem r42 : S27.markN 1 = 0 := by decide +kernel
theorem r43 : S28.markN 2 = 0 := by decide +kernel
theorem r44 : S29.makeV 6 tE = ⟨6, 2⟩ := by decide +kernel
theorem r45 : S30.markN 2 = 2 := by decide +kernel
theorem r46 : cntE S31 ⟨9, 1⟩ = 0 := by decide +kernel
theorem r47 : S32.queue = [1] := by decide +kernel
theorem r48 : S32.finE 1 = 0 := by decide +kernel
theorem r49 : S33.queue = [] := by decide +kernel
theorem r50 : S33.fins.map (·.1) = [1] := by decide +kernel
theorem o51 : ∃ k t m, ∃ sl : List AVal, S33.obj 1 = ⟨k, 1, sl, t, m⟩ := ⟨(S33.obj 1).kind, (S33.obj 1).text, (S33.obj 1).mark, (S33.obj 1).slots, by
  have qcount : (S33.obj 1).count = 1 := by decide +kernel
  generalize S33.obj 1 = o at *
  obtain ⟨a, b, c, d, e⟩ := o
  subst qcount; rfl⟩
theorem o52 : ∃ k c t, ∃ sl : List AVal, S33.obj 1 = ⟨k, c, sl, t, -1⟩ := ⟨(S33.obj 1).kind, (S33.obj 1).count, (S33.obj 1).text, (S33.obj 1).slots, by
  have qmark : (S33.obj 1).mark = -1 := by decide +kernel
  generalize S33.obj 1 = o at *
  obtain ⟨a, b, c, d, e⟩ := o
  subst qmark; rfl⟩
theorem r53 : S33.finE 1 = 2 := by decide +kernel
theorem r54 : S34.markN 1 = 0 := by decide +kernel
theorem r55 : S35.finE 2 = 0 := by decide +kernel
theorem o56 : ∃ k t m, ∃ sl : List AVal, S36.obj 2 = ⟨k, 2, sl, t, m⟩ := ⟨(S36.obj 2).kind, (S36.obj 2).text, (S36.obj 2).mark, (S36.obj 2).slots, by
  have qcount : (S36.obj 2).count = 2 := by decide +kernel
  generalize S36.obj 2 = o at *
  obtain ⟨a, b, c, d, e⟩ := o
  subst qcount; rfl⟩
theorem r57 : S36.nextV = ⟨9, 1⟩ := by decide +kernel
theorem r58 : S36.nextM = 1 := by decide +kernel
theorem r59 : (!S36.fins.isEmpty) = true := by decide +kernel
theorem r60 : S37.nextV = ⟨6, 2⟩ := by decide +kernel
theorem r61 : S37.nextM = 2 := by decide +kernel
theorem r62 : (!S37.fins.isEmpty) = true := by decide +kernel
theorem r63 : S38.nextV = ⟨0, 0⟩ := by decide +kernel
theorem r64 : S38.nextM = 0 := by decide +kernel
theorem r65 : (!S38.fins.isEmpty) = false := by decide +kernel
theorem o66 : ∃ k t m, ∃ sl : List AVal, S39.obj 1 = ⟨k, 1, sl, t, m⟩ := ⟨(S39.obj 1).kind, (S39.obj 1).text, (S39.obj 1).mark, (S39.obj 1).slots, by
  have qcount : (S39.obj 1).count = 1 := by decide +kernel
  generalize S39.obj 1 = o at *
  obtain ⟨a, b, c, d, e⟩ := o
  subst qcount; rfl⟩
theorem r67 : (if suspB S39 1 then (0 : Int) else 2) = 0 := by decide +kernel
theorem r68 : (if suspB S40 1 then (0 : Int) else 2) = 2 := by decide +kernel
theorem r69 : (if suspB S41 3 then (0 : Int) else 2) = 2 := by decide +kernel
theorem r70 : S42.buf = [1] := by decide +kernel
theorem r71 : S43.buf = [] := by decide +kernel
theorem r72 : S43.layE 2 [⟨9, 1⟩, ⟨1, 0⟩] = 0 := by decide +kernel
theorem r73 : S44.layE 2 [⟨9, 1⟩, ⟨0, 0⟩] = 2 := by decide +kernel
theorem r74 : S45.layE 9 [] = 5 := by decide +kernel
theorem r75 : S46.swapV 2 1 ⟨6, 2⟩ = ⟨1, 0⟩ := by decide +kernel
theorem r76 : S46.swapE 2 1 ⟨6, 2⟩ = 0 := by decide +kernel
theorem r77 : S47.swapV 2 2 ⟨6, 2⟩ = ⟨0, 0⟩ := by decide +kernel
theorem r78 : S47.swapE 2 2 ⟨6, 2⟩ = 5 := by decide +kernel
theorem r79 : S48.swapV 2 0 ⟨5, 1⟩ = ⟨0, 0⟩ := by decide +kernel
theorem r80 : S48.swapE 2 0 ⟨5, 1⟩ = 2 := by decide +kernel
theorem r81 : S49.atVV 2 (1) = ⟨6, 2⟩ := by decide +kernel
theorem r82 : S49.atE 2 (1) = 0 := by decide +kernel
theorem r83 : S49.atVV 2 (-1) = ⟨0, 0⟩ := by decide +kernel
theorem r84 : S49.atE 2 (-1) = 5 := by decide +kernel
theorem r85 : E.makeV 6 tE = ⟨6, 1⟩ := by decide +kernel
theorem r86 : Z1.markN 1 = 1 := by decide +kernel
theorem r87 : Z2.finE 1 = 0 := by decide +kernel
theorem r88 : cntE Z3 ⟨6, 1⟩ = 0 := by decide +kernel
theorem r89 : cntE Z4 ⟨6, 1⟩ = 0 := by decide +kernel
theorem r90 : Z5.freeE 1 = 0 := by decide +kernel
theorem r91 : Z6.fins.map (·.1) = [] := by decide +kernel
theorem r92 : Z6.nextV = ⟨0, 0⟩ := by decide +kernel
theorem r93 : Z6.nextM = 0 := by decide +kernel
theorem r94 : (!Z6.fins.isEmpty) = false := by decide +kernel
theorem info_u8 : (Try.prog.info? 5).map (fun i => (i.zero, i.size, i.bytes)) = some (some (.int .u8 0), 1, 1) := by kernel_rfl
theorem made_u8 (n : Nat) {j : Nat} (hj : j < n) : (madeCells #[.int .u8 0] n)[j]? = some (.int .u8 0) := by
  unfold madeCells
  rw [Array.getElem?_map]
  have : (Array.range n)[j]? = some j := by simp [hj]
  rw [this]
  show some (#[Value.int .u8 0][j % 1]!) = _
  rw [Nat.mod_one]; rfl
def tR (n : Nat) : ByteArray := ⟨(List.replicate n 0).toArray⟩
/-- string(make([]byte, n)) -/
theorem long_n (w : World) (N : Nat) (hN : N ≤ 10000) : ∃ zc, (Instr.makeSlice 44 (.int .i64 (N : Int)) (.int .i64 (N : Int))).run Try.prog w = .ok (.slice (some ⟨w.heap.size, 0, none⟩) N N) (w.alloc zc) ∧
    (convert 44 9 (.slice (some ⟨w.heap.size, 0, none⟩) N N)).run Try.prog (w.alloc zc) = .ok (.string (tR N)) (w.alloc zc) := by
  obtain ⟨i0, hi, hz0, hz1, hz2⟩ := info_parts info_u8
  have hmk := run_makeSlice (P := Try.prog) (w := w) 44 5 i0 _ Try.underlying44 hi hz0 .i64 .i64 (N : Int) (N : Int) (by omega) (by omega) (by rw [hz1]; omega) (by rw [hz2]; omega) (by omega)
  rw [hz1, Int.toNat_natCast, Nat.mul_one] at hmk
  refine ⟨_, hmk, ?_⟩
  have hc := run_convert_bytes_back (P := Try.prog) (w.alloc (.cells (madeCells #[.int .u8 0] N) 5)) 44 9 5 ⟨w.heap.size, 0, none⟩ N (List.replicate N 0) Try.underlying44 Try.underlying5 Try.underlying9 (fun j hj => by
    rw [List.length_replicate] at hj
    rw [addr_add, Nat.zero_add]
    have h2 : (w.alloc (.cells (madeCells #[.int .u8 0] N) 5)).heap[w.heap.size]? = some (.cells (madeCells #[.int .u8 0] N) 5 (0, 0)) := by
      show (w.heap.push _)[w.heap.size]? = _
      simp
    rw [List.getElem_replicate]
    unfold World.cell?
    dsimp only
    rw [h2]
    exact made_u8 N hj)
  rw [List.length_replicate] at hc
  exact hc
theorem tR_size (n : Nat) : (tR n).size = n := by
  show (List.replicate n (0 : UInt8)).toArray.size = n
  simp
theorem run_objs13 (w : World) (v0 : Value) : (Instr.field 64 (.agg #[v0]) 0).run Try.prog w = .ok v0 w := by kernel_rfl
theorem run_mark13 (w : World) (v0 v1 v2 v3 v4 : Value) : (Instr.field 39 (.agg #[v0, v1, v2, v3, v4]) 4).run Try.prog w = .ok v4 w := by kernel_rfl
theorem run_kind13 (w : World) (v0 v1 v2 v3 v4 : Value) : (Instr.field 39 (.agg #[v0, v1, v2, v3, v4]) 0).run Try.prog w = .ok v0 w := by kernel_rfl
theorem run_text13 (w : World) (v0 v1 v2 v3 v4 : Value) : (Instr.field 39 (.agg #[v0, v1, v2, v3, v4]) 3).run Try.prog w = .ok v3 w := by kernel_rfl
theorem tLR : tL = tR 4097 := rfl
theorem mkOk : makeOk 5 (tR 4097) = false := by decide +kernel

end CK
end Go.Proofs.Ytkpcngcegipalaa.Tw
