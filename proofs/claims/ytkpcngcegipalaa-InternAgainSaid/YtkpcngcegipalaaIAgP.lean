/- InternAgain: the plain states. No condition. -/
import Derived.Test.YtkpcngcegipalaaIOne1
import Derived.Test.YtkpcngcegipalaaITo
namespace Go.Proofs.Ytkpcngcegipalaa.Tw
set_option linter.unusedVariables false
set_option linter.unusedSimpArgs false
open Go Go.RowKit Go.MapKept

section
variable (a b : ByteArray)
def Ag.A1 : AHeap := AHeap.empty.make 5 a
def Ag.M1 : ByteArray → Option Int := fun u => if u = a then some 1 else none
def Ag.A2 : AHeap := (Ag.A1 a).make 5 b
def Ag.M2 : ByteArray → Option Int := fun u => if u = b then some 2 else Ag.M1 a u
def Ag.A3 : AHeap := (Ag.A2 a b).drop ⟨5, 1⟩
def Ag.A4 (f : Bool) : AHeap := if f then (Ag.A3 a b).free 1 else Ag.A3 a b
def Ag.z (f : Bool) : Int := if f then 1 else 3
def Ag.A5 (f : Bool) : AHeap := (Ag.A4 a b f).make 5 a
def Ag.M5 (f : Bool) : ByteArray → Option Int := fun u => if u = a then some (Ag.z f) else Ag.M2 a b u
open Ag
theorem makeOk_of {t : ByteArray} (h : t.size ≤ 4096) : makeOk 5 t = true := by unfold makeOk; simp; omega
variable {a b} (ha : a.size ≤ 4096) (hb : b.size ≤ 4096) (hab : ¬ a = b)
include ha in
theorem Ag.of1 : AHeap.empty.of (fun _ => Option.none) a = A1 a ∧ ofM AHeap.empty (fun _ => Option.none) a = M1 a ∧ ofV AHeap.empty (fun _ => Option.none) a = ⟨5, 1⟩ := by
  have hf : findOk AHeap.empty (fun _ => Option.none) a = false := rfl
  have hm := makeOk_of ha
  refine ⟨?_, ?_, ?_⟩
  · unfold AHeap.of; rw [hf, hm]; rfl
  · unfold ofM; rw [hf, hm]; rfl
  · unfold ofV; rw [hf, hm]; rfl
include hb hab in
theorem Ag.of2 : (A1 a).of (M1 a) b = A2 a b ∧ ofM (A1 a) (M1 a) b = M2 a b ∧ ofV (A1 a) (M1 a) b = ⟨5, 2⟩ := by
  have hM : M1 a b = none := by unfold M1; rw [if_neg fun e => hab e.symm]
  have hf : findOk (A1 a) (M1 a) b = false := by unfold findOk findB; rw [hM]; rfl
  have hm := makeOk_of hb
  refine ⟨?_, ?_, ?_⟩
  · unfold AHeap.of; rw [hf, hm]; rfl
  · unfold ofM; rw [hf, hm]; rfl
  · unfold ofV; rw [hf, hm]; rfl
theorem Ag.cnt : cntO (A2 a b) ⟨5, 1⟩ = some ⟨5, 1, [], a, 0⟩ ∧ cntE (A2 a b) ⟨5, 1⟩ = 0 := ⟨rfl, rfl⟩
theorem Ag.a3 : (A3 a b).queue = [1] ∧ (A3 a b).objs 1 = some ⟨5, 0, [], a, 0⟩ ∧ (A3 a b).objs 2 = some ⟨5, 1, [], b, 0⟩ ∧ (A3 a b).T = [true, true] ∧ (A3 a b).fins = [] ∧ (A3 a b).buf = [] := ⟨rfl, rfl, rfl, rfl, rfl, rfl⟩
include hab in
theorem Ag.m2a : M2 a b a = some 1 := by unfold M2 M1; rw [if_neg hab, if_pos rfl]
theorem Ag.m2b : M2 a b b = some 2 := by unfold M2; rw [if_pos rfl]
include hab in
theorem Ag.find3 : findOk (A3 a b) (M2 a b) a = false ∧ findN (M2 a b) a = 1 := by
  have hM := m2a (a := a) (b := b) hab
  refine ⟨?_, by unfold findN; rw [hM]; rfl⟩
  unfold findOk findB findN
  rw [hM]
  have : (strO (A3 a b) ⟨5, (some (1 : Int)).getD 0⟩).count = 0 := rfl
  rw [this]; simp
include ha hab in
theorem Ag.of4 (f : Bool) : (A4 a b f).of (M2 a b) a = A5 a b f ∧ ofM (A4 a b f) (M2 a b) a = M5 a b f ∧ ofV (A4 a b f) (M2 a b) a = ⟨5, z f⟩ := by
  have hM := m2a (a := a) (b := b) hab
  have hf : findOk (A4 a b f) (M2 a b) a = false := by
    unfold findOk findB findN
    rw [hM]
    have : (strO (A4 a b f) ⟨5, (some (1 : Int)).getD 0⟩).count = 0 := by cases f <;> rfl
    rw [this]; simp
  have hm := makeOk_of ha
  refine ⟨?_, ?_, ?_⟩
  · unfold AHeap.of; rw [hf, hm]; rfl
  · unfold ofM; rw [hf, hm]; cases f <;> rfl
  · unfold ofV; rw [hf, hm]; cases f <;> rfl
theorem Ag.obj5 (f : Bool) : strO (A5 a b f) ⟨5, z f⟩ = ⟨5, 1, [], a, 0⟩ ∧ (A5 a b f).obj (z f) = ⟨5, 1, [], a, 0⟩ ∧ strO (A5 a b f) ⟨5, 2⟩ = ⟨5, 1, [], b, 0⟩ ∧ (A5 a b f).obj 2 = ⟨5, 1, [], b, 0⟩ := by
  cases f <;> exact ⟨rfl, rfl, rfl, rfl⟩
theorem Ag.find5a (f : Bool) : findOk (A5 a b f) (M5 a b f) a = true ∧ findN (M5 a b f) a = z f := by
  have hM : M5 a b f a = some (z f) := by unfold M5; rw [if_pos rfl]
  refine ⟨?_, by unfold findN; rw [hM]; rfl⟩
  unfold findOk findB findN strIs
  rw [hM, show (some (z f)).getD 0 = z f from rfl, (obj5 f).1]
  simp
include hab in
theorem Ag.find5b (f : Bool) : findOk (A5 a b f) (M5 a b f) b = true ∧ findN (M5 a b f) b = 2 := by
  have hM : M5 a b f b = some 2 := by unfold M5; rw [if_neg fun e => hab e.symm, m2b]
  refine ⟨?_, by unfold findN; rw [hM]; rfl⟩
  unfold findOk findB findN strIs
  rw [hM, show (some (2 : Int)).getD 0 = 2 from rfl, (obj5 f).2.2.1]
  simp
theorem Ag.lens (f : Bool) : (A4 a b f).T.length = 2 ∧ (A1 a).T.length = 1 ∧ (A2 a b).queue = [] ∧ (A2 a b).buf = [] := by cases f <;> exact ⟨rfl, rfl, rfl, rfl⟩
theorem Ag.slots1 (n : Int) : (strO AHeap.empty ⟨5, n⟩).slots = [] := by unfold strO; split <;> rfl
include hab in
theorem Ag.no2 : findOk (A1 a) (M1 a) b = false := by
  have hM : M1 a b = none := by unfold M1; rw [if_neg fun e => hab e.symm]
  unfold findOk findB; rw [hM]; rfl
include hab in
theorem Ag.slots2 : (strO (A1 a) ⟨5, findN (M1 a) b⟩).slots = [] := by
  have hM : M1 a b = none := by unfold M1; rw [if_neg fun e => hab e.symm]
  unfold findN; rw [hM]; rfl
include hab in
theorem Ag.no4 (f : Bool) : findOk (A4 a b f) (M2 a b) a = false := by
  have hM := m2a (a := a) (b := b) hab
  unfold findOk findB findN
  rw [hM]
  have : (strO (A4 a b f) ⟨5, (some (1 : Int)).getD 0⟩).count = 0 := by cases f <;> rfl
  rw [this]; simp
include hab in
theorem Ag.slots4 (f : Bool) : (strO (A4 a b f) ⟨5, findN (M2 a b) a⟩).slots = [] := by
  have hM := m2a (a := a) (b := b) hab
  unfold findN; rw [hM]; cases f <;> rfl
theorem Ag.wr {o : AObj} (h : o.count = 1) : IntKind.i64.wrap (o.count - 1) = o.count - 1 := by rw [h]; rfl
end
end Go.Proofs.Ytkpcngcegipalaa.Tw
