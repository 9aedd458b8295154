/- The strings: Find. No condition. -/
import Derived.Test.YtkpcngcegipalaaInt1
import Derived.Laws.Strings
namespace Go.Proofs.Ytkpcngcegipalaa.Tw
set_option linter.unusedVariables false
set_option linter.unusedSimpArgs false
open Go Go.RowKit Go.MapKept

theorem bytes_eq (a b : ByteArray) : (a.toList == b.toList) = decide (a = b) := by
  rw [Bool.eq_iff_iff]
  simp only [beq_iff_eq, decide_eq_true_eq]
  constructor
  · intro h
    rw [ByteArray.toList_eq, ByteArray.toList_eq] at h
    exact ByteArray.ext (Array.ext' h)
  · rintro rfl; rfl
def findB (A : AHeap) (t : ByteArray) (n : Int) (is : Bool) : Bool := is && (strIs A ⟨5, n⟩ && (decide ((strO A ⟨5, n⟩).text = t) && !decide ((strO A ⟨5, n⟩).count = 0)))
def foundV (n : Int) (b : Bool) : Value := if b then .agg #[.int .i64 5, .int .i64 n] else .agg #[.int .i64 0, .int .i64 0]
def fnLook (s : Nat) : Value := .func (.func 74) #[.pointer (some ⟨s, 0, none⟩)] #[]

theorem sH1 (X Y L T H S F : HP) : X * (Y * (L * (T * (H * (S * F))))) = H * (S * (X * (Y * (L * (T * F))))) := by ac_rfl
theorem sH2 (H S C X Y L T F : HP) : H * (S * (C * (X * (Y * (L * (T * F)))))) = X * (Y * (L * (T * (H * (S * (C * F)))))) := by ac_rfl
theorem sH3 (X Y R : HP) : X * (Y * R) = Y * (X * R) := by ac_rfl
theorem sH4 (X Y L R : HP) : X * (Y * (L * R)) = L * (X * (Y * R)) := by ac_rfl
theorem sH5 (X Y L T R : HP) : X * (Y * (L * (T * R))) = T * (X * (Y * (L * R))) := by ac_rfl
theorem sH7 (H S C F : HP) : H * (S * (C * F)) = C * (H * (S * F)) := by ac_rfl
theorem sH6 (N X Y R : HP) : N * (X * (Y * R)) = Y * (N * (X * R)) := by ac_rfl
set_option maxRecDepth 100000 in
set_option maxHeartbeats 2000000 in
theorem str_held {w0 w : World} {m : Hp} {s p : Nat} {A : AHeap} {M : ByteArray → Option Int} {F : HP} (lk tb : Nat) (t : ByteArray) (n : Int) (is : Bool)
    (h : Sat w0 w (pt lk (.cells #[fnLook s] 128) * (pt tb (.cells #[.string t] 9) * (heapR m p A * (strR s p M * F))))) (hB : (strO A ⟨5, n⟩).slots.length ≤ 2000000000) :
    Calls Try.prog 75 #[.int .i64 n, .bool is, .pointer (some ⟨lk, 0, none⟩), .pointer (some ⟨tb, 0, none⟩)] w fun e w' => e = .returned (.tuple #[foundV n (findB A t n is), .bool (findB A t n is)]) ∧
      Sat w0 w' (heapR m p A * (strR s p M * F)) := by
  have h1 := (h.alloc (.cells #[.int .i64 0, .int .i64 0] 28)).alloc (.cells #[.int .i64 5, .int .i64 n] 28)
  rw [size_alloc] at h1
  generalize hbx : w.heap.size = bx at *
  have d0 : ((w.alloc (.cells #[.int .i64 0, .int .i64 0] 28)).alloc (.cells #[.int .i64 5, .int .i64 n] 28)).cell? ⟨bx + 1, 0, none⟩ = some (.int .i64 5) := Sat.cell (T := 28) (cs := #[.int .i64 5, .int .i64 n]) h1 0 rfl
  have d1 : ((w.alloc (.cells #[.int .i64 0, .int .i64 0] 28)).alloc (.cells #[.int .i64 5, .int .i64 n] 28)).cell? ⟨bx + 1, 1, none⟩ = some (.int .i64 n) := Sat.cell (T := 28) (cs := #[.int .i64 5, .int .i64 n]) h1 1 rfl
  have l0 : ((w.alloc (.cells #[.int .i64 0, .int .i64 0] 28)).alloc (.cells #[.int .i64 5, .int .i64 n] 28)).cell? ⟨lk, 0, none⟩ = some (.func (.func 74) #[.pointer (some ⟨s, 0, none⟩)] #[]) := Sat.cell (T := 128) (cs := #[fnLook s]) (h1.cast (sH4 _ _ _ _)) 0 rfl
  have hS := str_string (h1.cast (sH1 _ _ _ _ _ _ _)) ⟨5, n⟩ hB
  have HS := Lib.hid hS
  clear hS
  go_enter Try.func75, Try.ntmps75
  try rw [hbx]
  go_wp2_with fail
  refine HS.out.mono ?_
  unfold objV
  rintro e w2 ⟨a, c, rfl, h2⟩
  have h3 := h2.cast (sH2 _ _ _ _ _ _ _ _)
  generalize hO : strO A ⟨5, n⟩ = o at *
  have h4 := h3.alloc (.cells #[.int .i64 o.kind, .int .i64 o.count, .slice a o.slots.length c, .string o.text, .int .i64 o.mark] 39)
  generalize hob : w2.heap.size = ob at *
  have o1 : (w2.alloc (.cells #[.int .i64 o.kind, .int .i64 o.count, .slice a o.slots.length c, .string o.text, .int .i64 o.mark] 39)).cell? ⟨ob, 1, none⟩ = some (.int .i64 o.count) := Sat.cell (T := 39) (cs := #[.int .i64 o.kind, .int .i64 o.count, .slice a o.slots.length c, .string o.text, .int .i64 o.mark]) h4 1 rfl
  have o3 : (w2.alloc (.cells #[.int .i64 o.kind, .int .i64 o.count, .slice a o.slots.length c, .string o.text, .int .i64 o.mark] 39)).cell? ⟨ob, 3, none⟩ = some (.string o.text) := Sat.cell (T := 39) (cs := #[.int .i64 o.kind, .int .i64 o.count, .slice a o.slots.length c, .string o.text, .int .i64 o.mark]) h4 3 rfl
  have hX := h4.cast (sH3 _ _ _)
  have x0 : (w2.alloc (.cells #[.int .i64 o.kind, .int .i64 o.count, .slice a o.slots.length c, .string o.text, .int .i64 o.mark] 39)).cell? ⟨bx + 1, 0, none⟩ = some (.int .i64 5) := Sat.cell (T := 28) (cs := #[.int .i64 5, .int .i64 n]) hX 0 rfl
  have x1 : (w2.alloc (.cells #[.int .i64 o.kind, .int .i64 o.count, .slice a o.slots.length c, .string o.text, .int .i64 o.mark] 39)).cell? ⟨bx + 1, 1, none⟩ = some (.int .i64 n) := Sat.cell (T := 28) (cs := #[.int .i64 5, .int .i64 n]) hX 1 rfl
  have hY := h4.cast (sH6 _ _ _ _)
  have y0 : (w2.alloc (.cells #[.int .i64 o.kind, .int .i64 o.count, .slice a o.slots.length c, .string o.text, .int .i64 o.mark] 39)).cell? ⟨bx, 0, none⟩ = some (.int .i64 0) := Sat.cell (T := 28) (cs := #[.int .i64 0, .int .i64 0]) hY 0 rfl
  have y1 : (w2.alloc (.cells #[.int .i64 o.kind, .int .i64 o.count, .slice a o.slots.length c, .string o.text, .int .i64 o.mark] 39)).cell? ⟨bx, 1, none⟩ = some (.int .i64 0) := Sat.cell (T := 28) (cs := #[.int .i64 0, .int .i64 0]) hY 1 rfl
  have yf0 : (w2.alloc (.cells #[.int .i64 o.kind, .int .i64 o.count, .slice a o.slots.length c, .string o.text, .int .i64 o.mark] 39)).frozen? ⟨bx, 0, none⟩ = false := Sat.free (T := 28) (cs := #[.int .i64 0, .int .i64 0]) hY 0
  have yf1 : (w2.alloc (.cells #[.int .i64 o.kind, .int .i64 o.count, .slice a o.slots.length c, .string o.text, .int .i64 o.mark] 39)).frozen? ⟨bx, 1, none⟩ = false := Sat.free (T := 28) (cs := #[.int .i64 0, .int .i64 0]) hY 1
  have hT := h4.drop.cast (sH5 _ _ _ _ _)
  have t0 : (w2.alloc (.cells #[.int .i64 o.kind, .int .i64 o.count, .slice a o.slots.length c, .string o.text, .int .i64 o.mark] 39)).cell? ⟨tb, 0, none⟩ = some (.string t) := Sat.cell (T := 9) (cs := #[.string t]) hT 0 rfl
  have hne := hY.ne
  have z0 := (hY.store (T := 28) (cs := #[.int .i64 0, .int .i64 0]) (i := 0) (.int .i64 0)).store (i := 1) (.int .i64 0)
  have z1 := (hY.store (T := 28) (cs := #[.int .i64 0, .int .i64 0]) (i := 0) (.int .i64 5)).store (i := 1) (.int .i64 n)
  simp only [List.setIfInBounds_toArray, List.set_cons_zero, List.set_cons_succ] at z0 z1
  have Z0 := Lib.hid z0
  have Z1 := Lib.hid z1
  have hsi : strIs A ⟨5, n⟩ = decide (o.kind = 5) := by unfold strIs; rw [hO]
  rw [hsi]
  have HO := Lib.hid hO
  clear d0 d1 l0 h h1 h2 h3 h4 hX hT HS hB z0 z1 hsi hO
  cases is with
  | false =>
    have e : findB A t n false = false := rfl
    go_wp2_with fail
    refine bodyPost_cell_tmp rfl rfl (x := .bool false) rfl (load_val Z0.out) rfl ⟨by rw [e]; rfl, ?_⟩
    exact (Z0.out.drop.drop.drop.drop.drop.cast (sH7 _ _ _ _)).drop
  | true =>
    by_cases k5 : o.kind = 5
    · have e5 : decide (o.kind = 5) = true := by simpa using k5
      rw [e5]
      by_cases et : o.text = t
      · by_cases ez : o.count = 0
        · have e : findB A t n true = false := by unfold findB; rw [HO.out, ez]; simp
          have HE := Lib.hid e
          have ez' : (o.count == 0) = true := by simpa using ez
          have et' : (o.text.toList == t.toList) = true := by rw [bytes_eq]; simpa using et
          clear et ez k5 e e5
          go_wp2_with fail
          refine bodyPost_cell_tmp rfl rfl (x := .bool false) rfl (load_val Z0.out) rfl ⟨by rw [HE.out]; rfl, ?_⟩
          exact (Z0.out.drop.drop.drop.drop.drop.cast (sH7 _ _ _ _)).drop
        · have e : findB A t n true = true := by unfold findB strIs; rw [HO.out]; simp [k5, et, ez]
          have HE := Lib.hid e
          have ez' : (o.count == 0) = false := by simpa using ez
          have et' : (o.text.toList == t.toList) = true := by rw [bytes_eq]; simpa using et
          clear et ez k5 e e5
          go_wp2_with fail
          refine bodyPost_cell_tmp rfl rfl (x := .bool true) rfl (load_val Z1.out) rfl ⟨by rw [HE.out]; rfl, ?_⟩
          exact (Z1.out.drop.drop.drop.drop.drop.cast (sH7 _ _ _ _)).drop
      · have e : findB A t n true = false := by unfold findB; rw [HO.out]; simp [et]
        have HE := Lib.hid e
        have et' : (o.text.toList == t.toList) = false := by rw [bytes_eq]; simpa using et
        clear et k5 e e5
        go_wp2_with fail
        refine bodyPost_cell_tmp rfl rfl (x := .bool false) rfl (load_val Z0.out) rfl ⟨by rw [HE.out]; rfl, ?_⟩
        exact (Z0.out.drop.drop.drop.drop.drop.cast (sH7 _ _ _ _)).drop
    · have e5 : decide (o.kind = 5) = false := by simpa using k5
      have e : findB A t n true = false := by unfold findB strIs; rw [HO.out, e5]; simp
      have HE := Lib.hid e
      rw [e5]
      clear k5 e e5
      go_wp2_with fail
      refine bodyPost_cell_tmp rfl rfl (x := .bool false) rfl (load_val Z0.out) rfl ⟨by rw [HE.out]; rfl, ?_⟩
      exact (Z0.out.drop.drop.drop.drop.drop.cast (sH7 _ _ _ _)).drop

/-- the number found for a text, and whether -/
def findN (M : ByteArray → Option Int) (t : ByteArray) : Int := (M t).getD 0
def findOk (A : AHeap) (M : ByteArray → Option Int) (t : ByteArray) : Bool := findB A t (findN M t) (M t).isSome
theorem sF1 (L Y T H S F : HP) : L * (Y * (T * (H * (S * F)))) = S * (L * (Y * (T * (H * F)))) := by ac_rfl
theorem sF2 (L Y T H S F : HP) : L * (Y * (T * (H * (S * F)))) = L * (T * (H * (S * (Y * F)))) := by ac_rfl
theorem sF3 (L Y T R : HP) : L * (Y * (T * R)) = T * (L * (Y * R)) := by ac_rfl
theorem sF4 (H S Y F : HP) : H * (S * (Y * F)) = Y * (H * (S * F)) := by ac_rfl
theorem zero_int (w : World) : (zeroValue 3).run Try.prog w = .ok (.int .i64 0) w := by kernel_rfl
theorem run_store_func {P : Program} (w : World) (ad : Addr) (f : Fn) (b r : Array Value) : (store ad (.func f b r)).run P w = stored P w ad (.func f b r) .plain := run_store P w ad _ _ rfl
theorem foundV_agg (n : Int) (b : Bool) : foundV n b = .agg #[.int .i64 (if b then 5 else 0), .int .i64 (if b then n else 0)] := by cases b <;> rfl
theorem mget_find {M : ByteArray → Option Int} {L : List (ByteArray × Value)} (hL : ∀ t, mget L t = (M t).map (Value.int .i64)) (t : ByteArray) : (mget L t).getD (.int .i64 0) = .int .i64 (findN M t) ∧ (mget L t).isSome = (M t).isSome := by
  rw [hL]; unfold findN; cases M t <;> exact ⟨rfl, rfl⟩
set_option maxRecDepth 100000 in
set_option maxHeartbeats 2000000 in
theorem str_Find {w0 w : World} {m : Hp} {s p : Nat} {A : AHeap} {M : ByteArray → Option Int} {F : HP} (t : ByteArray)
    (h : Sat w0 w (heapR m p A * (strR s p M * F))) (hB : (strO A ⟨5, findN M t⟩).slots.length ≤ 2000000000) :
    Calls Try.prog 20 #[.pointer (some ⟨s, 0, none⟩), .string t] w fun e w' => e = .returned (.tuple #[foundV (findN M t) (findOk A M t), .bool (findOk A M t)]) ∧
      Sat w0 w' (heapR m p A * (strR s p M * F)) := by
  have h1 := ((h.alloc (.cells #[.string t] 9)).alloc (.cells #[.int .i64 0, .int .i64 0] 28)).alloc (.cells #[.func (.func 74) #[.pointer (some ⟨s, 0, none⟩)] #[]] 128)
  rw [size_alloc, size_alloc] at h1
  generalize hbx : w.heap.size = bx at *
  have t0 : (((w.alloc (.cells #[.string t] 9)).alloc (.cells #[.int .i64 0, .int .i64 0] 28)).alloc (.cells #[.func (.func 74) #[.pointer (some ⟨s, 0, none⟩)] #[]] 128)).cell? ⟨bx, 0, none⟩ = some (.string t) := Sat.cell (T := 9) (cs := #[.string t]) (h1.cast (sF3 _ _ _ _)) 0 rfl
  obtain ⟨mb, L, hL, h2⟩ := (h1.cast (sF1 _ _ _ _ _ _)).openStr
  have s1 : (((w.alloc (.cells #[.string t] 9)).alloc (.cells #[.int .i64 0, .int .i64 0] 28)).alloc (.cells #[.func (.func 74) #[.pointer (some ⟨s, 0, none⟩)] #[]] 128)).cell? ⟨s, 1, none⟩ = some (.map (some mb)) := h2.cell 1 rfl
  have hl := run_lookup_ok keys_string ((h2.cast (mul_left_comm _ _ _)).drew) Try.underlying121 Try.underlying9 (zero_int _) t
  obtain ⟨e1, e2⟩ := mget_find hL t
  rw [e1, e2] at hl
  have hH := str_held (bx + 1 + 1) bx t (findN M t) (M t).isSome ((h1.cast (sF2 _ _ _ _ _ _)).drew) hB
  have HH := Lib.hid hH
  clear hH e1 e2 hL h1 h2 h hB
  have hsf := @run_store_func Try.prog
  go_enter Try.func20, Try.ntmps20
  try rw [hbx]
  go_wp2_with fail
  go_region
  go_wp2_with fail
  refine HH.out.mono ?_
  rintro e w2 ⟨rfl, h3⟩
  rw [foundV_agg]
  have h4 := h3.cast (sF4 _ _ _ _)
  have y0 : w2.cell? ⟨bx + 1, 0, none⟩ = some (.int .i64 0) := Sat.cell (T := 28) (cs := #[.int .i64 0, .int .i64 0]) h4 0 rfl
  have y1 : w2.cell? ⟨bx + 1, 1, none⟩ = some (.int .i64 0) := Sat.cell (T := 28) (cs := #[.int .i64 0, .int .i64 0]) h4 1 rfl
  have yf0 : w2.frozen? ⟨bx + 1, 0, none⟩ = false := Sat.free (T := 28) (cs := #[.int .i64 0, .int .i64 0]) h4 0
  have yf1 : w2.frozen? ⟨bx + 1, 1, none⟩ = false := Sat.free (T := 28) (cs := #[.int .i64 0, .int .i64 0]) h4 1
  have h5 := (h4.store (T := 28) (cs := #[.int .i64 0, .int .i64 0]) (i := 0) (.int .i64 (if findB A t (findN M t) (M t).isSome then 5 else 0))).store (i := 1) (.int .i64 (if findB A t (findN M t) (M t).isSome then findN M t else 0))
  simp only [List.setIfInBounds_toArray, List.set_cons_zero, List.set_cons_succ] at h5
  have hfo : findOk A M t = findB A t (findN M t) (M t).isSome := rfl
  have HFO := Lib.hid hfo
  clear hfo
  generalize hfb : findB A t (findN M t) (M t).isSome = fb at *
  have HFB := Lib.hid hfb
  clear hfb
  generalize hq0 : (if fb = true then (5 : Int) else 0) = q0 at *
  generalize hq1 : (if fb = true then findN M t else 0) = q1 at *
  have HQ0 := Lib.hid hq0
  have HQ1 := Lib.hid hq1
  clear hq0 hq1
  go_wp2_with fail
  refine bodyPost_cell_tmp rfl rfl (x := .bool fb) rfl (load_val h5) rfl ⟨?_, h5.drop⟩
  rw [HFO.out, foundV_agg, HQ0.out, HQ1.out]
theorem str_Find_nil (w : World) (t : ByteArray) {w0 : World} {F : HP} (h : Sat w0 w F) :
    Calls Try.prog 20 #[.pointer none, .string t] w fun e w' => e = .returned (.tuple #[.agg #[.int .i64 0, .int .i64 0], .bool false]) ∧ Sat w0 w' F := by
  have h1 := (h.alloc (.cells #[.string t] 9)).alloc (.cells #[.int .i64 0, .int .i64 0] 28)
  rw [size_alloc] at h1
  generalize hbx : w.heap.size = bx at *
  go_enter Try.func20, Try.ntmps20
  try rw [hbx]
  go_wp2_with fail
  refine bodyPost_cell_tmp rfl rfl (x := .bool false) rfl (load_val h1) rfl ⟨rfl, h1.drop.drop⟩
end Go.Proofs.Ytkpcngcegipalaa.Tw
