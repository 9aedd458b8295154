/- The strings: Find. No condition. -/
import Derived.Test.YtkpcngcegipalaaZPIn29
import Derived.Laws.Strings
import Derived.Test.YtkpcngcegipalaaZPIn4
namespace Go.Proofs.Ytkpcngcegipalaa.Tw
set_option linter.unusedVariables false
set_option linter.unusedSimpArgs false
open Go Go.RowKit Go.MapKept

theorem bytes_eq (a b : ByteArray) : (a.toList == b.toList) = decide (a = b) := by
  rw [Bool.eq_iff_iff]
  simp only [beq_iff_eq, decide_eq_true_eq]
  constructor
  · intro h
    rw [ByteArray.toList_eq, ByteArray.toList_eq] at h
    exact ByteArray.ext (Array.ext' h)
  · rintro rfl; rfl
def findB (A : AHeap) (t : ByteArray) (n : Int) (is : Bool) : Bool := is && (strIs A ⟨5, n⟩ && (decide ((strO A ⟨5, n⟩).text = t) && !decide ((strO A ⟨5, n⟩).count = 0)))
def foundV (n : Int) (b : Bool) : Value := if b then .agg #[.int .i64 5, .int .i64 n] else .agg #[.int .i64 0, .int .i64 0]
def fnLook (s : Nat) : Value := .func (.func 74) #[.pointer (some ⟨s, 0, none⟩)] #[]

theorem sH1 (X Y L T H S F : HP) : X * (Y * (L * (T * (H * (S * F))))) = H * (S * (X * (Y * (L * (T * F))))) := by ac_rfl
theorem sH2 (H S C X Y L T F : HP) : H * (S * (C * (X * (Y * (L * (T * F)))))) = X * (Y * (L * (T * (H * (S * (C * F)))))) := by ac_rfl
theorem sH3 (X Y R : HP) : X * (Y * R) = Y * (X * R) := by ac_rfl
theorem sH4 (X Y L R : HP) : X * (Y * (L * R)) = L * (X * (Y * R)) := by ac_rfl
theorem sH5 (X Y L T R : HP) : X * (Y * (L * (T * R))) = T * (X * (Y * (L * R))) := by ac_rfl
theorem sH7 (H S C F : HP) : H * (S * (C * F)) = C * (H * (S * F)) := by ac_rfl
theorem sH6 (N X Y R : HP) : N * (X * (Y * R)) = Y * (N * (X * R)) := by ac_rfl
set_option maxRecDepth 100000 in
set_option maxHeartbeats 2000000 in
theorem str_held {w0 w : World} {m : Hp} {s p : Nat} {A : AHeap} {M : ByteArray → Option Int} {F : HP} (lk tb : Nat) (t : ByteArray) (n : Int) (is : Bool)
    (h : Sat w0 w (pt lk (.cells #[fnLook s] 128) * (pt tb (.cells #[.string t] 9) * (heapR m p A * (strR s p M * F))))) (hB : (strO A ⟨5, n⟩).slots.length ≤ 2000000000) :
    Calls Try.prog 75 #[.int .i64 n, .bool is, .pointer (some ⟨lk, 0, none⟩), .pointer (some ⟨tb, 0, none⟩)] w fun e w' => e = .returned (.tuple #[foundV n (findB A t n is), .bool (findB A t n is)]) ∧
      Sat w0 w' (heapR m p A * (strR s p M * F)) := by
  have h1 := (h.alloc (.cells #[.int .i64 0, .int .i64 0] 28)).alloc (.cells #[.int .i64 5, .int .i64 n] 28)
  rw [size_alloc] at h1
  generalize hbx : w.heap.size = bx at *
  have d0 : ((w.alloc (.cells #[.int .i64 0, .int .i64 0] 28)).alloc (.cells #[.int .i64 5, .int .i64 n] 28)).cell? ⟨bx + 1, 0, none⟩ = some (.int .i64 5) := Sat.cell (T := 28) (cs := #[.int .i64 5, .int .i64 n]) h1 0 rfl
  have d1 : ((w.alloc (.cells #[.int .i64 0, .int .i64 0] 28)).alloc (.cells #[.int .i64 5, .int .i64 n] 28)).cell? ⟨bx + 1, 1, none⟩ = some (.int .i64 n) := Sat.cell (T := 28) (cs := #[.int .i64 5, .int .i64 n]) h1 1 rfl
  have l0 : ((w.alloc (.cells #[.int .i64 0, .int .i64 0] 28)).alloc (.cells #[.int .i64 5, .int .i64 n] 28)).cell? ⟨lk, 0, none⟩ = some (.func (.func 74) #[.pointer (some ⟨s, 0, none⟩)] #[]) := Sat.cell (T := 128) (cs := #[fnLook s]) (h1.cast (sH4 _ _ _ _)) 0 rfl
  have hS := str_string (h1.cast (sH1 _ _ _ _ _ _ _)) ⟨5, n⟩ hB
  have HS := Lib.hid hS
  clear hS
  go_enter Try.func75, Try.ntmps75
  try rw [hbx]
  go_wp2_with fail
  refine HS.out.mono ?_
  unfold objV
  rintro e w2 ⟨a, c, rfl, h2⟩
  have h3 := h2.cast (sH2 _ _ _ _ _ _ _ _)
  generalize hO : strO A ⟨5, n⟩ = o at *
  have h4 := h3.alloc (.cells #[.int .i64 o.kind, .int .i64 o.count, .slice a o.slots.length c, .string o.text, .int .i64 o.mark] 39)
  generalize hob : w2.heap.size = ob at *
  have o1 : (w2.alloc (.cells #[.int .i64 o.kind, .int .i64 o.count, .slice a o.slots.length c, .string o.text, .int .i64 o.mark] 39)).cell? ⟨ob, 1, none⟩ = some (.int .i64 o.count) := Sat.cell (T := 39) (cs := #[.int .i64 o.kind, .int .i64 o.count, .slice a o.slots.length c, .string o.text, .int .i64 o.mark]) h4 1 rfl
  have o3 : (w2.alloc (.cells #[.int .i64 o.kind, .int .i64 o.count, .slice a o.slots.length c, .string o.text, .int .i64 o.mark] 39)).cell? ⟨ob, 3, none⟩ = some (.string o.text) := Sat.cell (T := 39) (cs := #[.int .i64 o.kind, .int .i64 o.count, .slice a o.slots.length c, .string o.text, .int .i64 o.mark]) h4 3 rfl
  have hX := h4.cast (sH3 _ _ _)
  have x0 : (w2.alloc (.cells #[.int .i64 o.kind, .int .i64 o.count, .slice a o.slots.length c, .string o.text, .int .i64 o.mark] 39)).cell? ⟨bx + 1, 0, none⟩ = some (.int .i64 5) := Sat.cell (T := 28) (cs := #[.int .i64 5, .int .i64 n]) hX 0 rfl
  have x1 : (w2.alloc (.cells #[.int .i64 o.kind, .int .i64 o.count, .slice a o.slots.length c, .string o.text, .int .i64 o.mark] 39)).cell? ⟨bx + 1, 1, none⟩ = some (.int .i64 n) := Sat.cell (T := 28) (cs := #[.int .i64 5, .int .i64 n]) hX 1 rfl
  have hY := h4.cast (sH6 _ _ _ _)
  have y0 : (w2.alloc (.cells #[.int .i64 o.kind, .int .i64 o.count, .slice a o.slots.length c, .string o.text, .int .i64 o.mark] 39)).cell? ⟨bx, 0, none⟩ = some (.int .i64 0) := Sat.cell (T := 28) (cs := #[.int .i64 0, .int .i64 0]) hY 0 rfl
  have y1 : (w2.alloc (.cells #[.int .i64 o.kind, .int .i64 o.count, .slice a o.slots.length c, .string o.text, .int .i64 o.mark] 39)).cell? ⟨bx, 1, none⟩ = some (.int .i64 0) := Sat.cell (T := 28) (cs := #[.int .i64 0, .int .i64 0]) hY 1 rfl
  have yf0 : (w2.alloc (.cells #[.int .i64 o.kind, .int .i64 o.count, .slice a o.slots.length c, .string o.text, .int .i64 o.mark] 39)).frozen? ⟨bx, 0, none⟩ = false := Sat.free (T := 28) (cs := #[.int .i64 0, .int .i64 0]) hY 0
  have yf1 : (w2.alloc (.cells #[.int .i64 o.kind, .int .i64 o.count, .slice a o.slots.length c, .string o.text, .int .i64 o.mark] 39)).frozen? ⟨bx, 1, none⟩ = false := Sat.free (T := 28) (cs := #[.int .i64 0, .int .i64 0]) hY 1
  have hT := h4.drop.cast (sH5 _ _ _ _ _)
  have t0 : (w2.alloc (.cells #[.int .i64 o.kind, .int .i64 o.count, .slice a o.slots.length c, .string o.text, .int .i64 o.mark] 39)).cell? ⟨tb, 0, none⟩ = some (.string t) := Sat.cell (T := 9) (cs := #[.string t]) hT 0 rfl
  have hne := hY.ne
  have z0 := (hY.store (T := 28) (cs := #[.int .i64 0, .int .i64 0]) (i := 0) (.int .i64 0)).store (i := 1) (.int .i64 0)
  have z1 := (hY.store (T := 28) (cs := #[.int .i64 0, .int .i64 0]) (i := 0) (.int .i64 5)).store (i := 1) (.int .i64 n)
  simp only [List.setIfInBounds_toArray, List.set_cons_zero, List.set_cons_succ] at z0 z1
  have Z0 := Lib.hid z0
  have Z1 := Lib.hid z1
  have hsi : strIs A ⟨5, n⟩ = decide (o.kind = 5) := by unfold strIs; rw [hO]
  rw [hsi]
  have HO := Lib.hid hO
  clear d0 d1 l0 h h1 h2 h3 h4 hX hT HS hB z0 z1 hsi hO
  cases is with
  | false =>
    have e : findB A t n false = false := rfl
    go_wp2_with fail
    refine bodyPost_cell_tmp rfl rfl (x := .bool false) rfl (load_val Z0.out) rfl ⟨by rw [e]; rfl, ?_⟩
    exact (Z0.out.drop.drop.drop.drop.drop.cast (sH7 _ _ _ _)).drop
  | true =>
    by_cases k5 : o.kind = 5
    · have e5 : decide (o.kind = 5) = true := by simpa using k5
      rw [e5]
      by_cases et : o.text = t
      · by_cases ez : o.count = 0
        · have e : findB A t n true = false := by unfold findB; rw [HO.out, ez]; simp
          have HE := Lib.hid e
          have ez' : (o.count == 0) = true := by simpa using ez
          have et' : (o.text.toList == t.toList) = true := by rw [bytes_eq]; simpa using et
          clear et ez k5 e e5
          go_wp2_with fail
          refine bodyPost_cell_tmp rfl rfl (x := .bool false) rfl (load_val Z0.out) rfl ⟨by rw [HE.out]; rfl, ?_⟩
          exact (Z0.out.drop.drop.drop.drop.drop.cast (sH7 _ _ _ _)).drop
        · have e : findB A t n true = true := by unfold findB strIs; rw [HO.out]; simp [k5, et, ez]
          have HE := Lib.hid e
          have ez' : (o.count == 0) = false := by simpa using ez
          have et' : (o.text.toList == t.toList) = true := by rw [bytes_eq]; simpa using et
          clear et ez k5 e e5
          go_wp2_with fail
          refine bodyPost_cell_tmp rfl rfl (x := .bool true) rfl (load_val Z1.out) rfl ⟨by rw [HE.out]; rfl, ?_⟩
          exact (Z1.out.drop.drop.drop.drop.drop.cast (sH7 _ _ _ _)).drop
      · have e : findB A t n true = false := by unfold findB; rw [HO.out]; simp [et]
        have HE := Lib.hid e
        have et' : (o.text.toList == t.toList) = false := by rw [bytes_eq]; simpa using et
        clear et k5 e e5
        go_wp2_with fail
        refine bodyPost_cell_tmp rfl rfl (x := .bool false) rfl (load_val Z0.out) rfl ⟨by rw [HE.out]; rfl, ?_⟩
        exact (Z0.out.drop.drop.drop.drop.drop.cast (sH7 _ _ _ _)).drop
    · have e5 : decide (o.kind = 5) = false := by simpa using k5
      have e : findB A t n true = false := by unfold findB strIs; rw [HO.out, e5]; simp
      have HE := Lib.hid e
      rw [e5]
      clear k5 e e5
      go_wp2_with fail
      refine bodyPost_cell_tmp rfl rfl (x := .bool false) rfl (load_val Z0.out) rfl ⟨by rw [HE.out]; rfl, ?_⟩
      exact (Z0.out.drop.drop.drop.drop.drop.cast (sH7 _ _ _ _)).drop

/-- the number found for a text, and whether -/
def findN (M : ByteArray → Option Int) (t : ByteArray) : Int := (M t).getD 0
def findOk (A : AHeap) (M : ByteArray → Option Int) (t : ByteArray) : Bool := findB A t (findN M t) (M t).isSome
theorem sF1 (L Y T H S F : HP) : L * (Y * (T * (H * (S * F)))) = S * (L * (Y * (T * (H * F)))) := by ac_rfl
theorem sF2 (L Y T H S F : HP) : L * (Y * (T * (H * (S * F)))) = L * (T * (H * (S * (Y * F)))) := by ac_rfl
theorem sF3 (L Y T R : HP) : L * (Y * (T * R)) = T * (L * (Y * R)) := by ac_rfl
theorem sF4 (H S Y F : HP) : H * (S * (Y * F)) = Y * (H * (S * F)) := by ac_rfl
theorem zero_int (w : World) : (zeroValue 3).run Try.prog w = .ok (.int .i64 0) w := by kernel_rfl
theorem run_store_func {P : Program} (w : World) (ad : Addr) (f : Fn) (b r : Array Value) : (store ad (.func f b r)).run P w = stored P w ad (.func f b r) .plain := run_store P w ad _ _ rfl
theorem foundV_agg (n : Int) (b : Bool) : foundV n b = .agg #[.int .i64 (if b then 5 else 0), .int .i64 (if b then n else 0)] := by cases b <;> rfl
theorem mget_find {M : ByteArray → Option Int} {L : List (ByteArray × Value)} (hL : ∀ t, mget L t = (M t).map (Value.int .i64)) (t : ByteArray) : (mget L t).getD (.int .i64 0) = .int .i64 (findN M t) ∧ (mget L t).isSome = (M t).isSome := by
  rw [hL]; unfold findN; cases M t <;> exact ⟨rfl, rfl⟩
set_option maxRecDepth 100000 in
set_option maxHeartbeats 2000000 in
theorem str_Find {w0 w : World} {m : Hp} {s p : Nat} {A : AHeap} {M : ByteArray → Option Int} {F : HP} (t : ByteArray)
    (h : Sat w0 w (heapR m p A * (strR s p M * F))) (hB : (strO A ⟨5, findN M t⟩).slots.length ≤ 2000000000) :
    Calls Try.prog 20 #[.pointer (some ⟨s, 0, none⟩), .string t] w fun e w' => e = .returned (.tuple #[foundV (findN M t) (findOk A M t), .bool (findOk A M t)]) ∧
      Sat w0 w' (heapR m p A * (strR s p M * F)) := by
  have h1 := ((h.alloc (.cells #[.string t] 9)).alloc (.cells #[.int .i64 0, .int .i64 0] 28)).alloc (.cells #[.func (.func 74) #[.pointer (some ⟨s, 0, none⟩)] #[]] 128)
  rw [size_alloc, size_alloc] at h1
  generalize hbx : w.heap.size = bx at *
  have t0 : (((w.alloc (.cells #[.string t] 9)).alloc (.cells #[.int .i64 0, .int .i64 0] 28)).alloc (.cells #[.func (.func 74) #[.pointer (some ⟨s, 0, none⟩)] #[]] 128)).cell? ⟨bx, 0, none⟩ = some (.string t) := Sat.cell (T := 9) (cs := #[.string t]) (h1.cast (sF3 _ _ _ _)) 0 rfl
  obtain ⟨mb, L, hL, h2⟩ := (h1.cast (sF1 _ _ _ _ _ _)).openStr
  have s1 : (((w.alloc (.cells #[.string t] 9)).alloc (.cells #[.int .i64 0, .int .i64 0] 28)).alloc (.cells #[.func (.func 74) #[.pointer (some ⟨s, 0, none⟩)] #[]] 128)).cell? ⟨s, 1, none⟩ = some (.map (some mb)) := h2.cell 1 rfl
  have hl := run_lookup_ok keys_string ((h2.cast (mul_left_comm _ _ _)).drew) Try.underlying121 Try.underlying9 (zero_int _) t
  obtain ⟨e1, e2⟩ := mget_find hL t
  rw [e1, e2] at hl
  have hH := str_held (bx + 1 + 1) bx t (findN M t) (M t).isSome ((h1.cast (sF2 _ _ _ _ _ _)).drew) hB
  have HH := Lib.hid hH
  clear hH e1 e2 hL h1 h2 h hB
  have hsf := @run_store_func Try.prog
  go_enter Try.func20, Try.ntmps20
  try rw [hbx]
  go_wp2_with fail
  go_region
  go_wp2_with fail
  refine HH.out.mono ?_
  rintro e w2 ⟨rfl, h3⟩
  rw [foundV_agg]
  have h4 := h3.cast (sF4 _ _ _ _)
  have y0 : w2.cell? ⟨bx + 1, 0, none⟩ = some (.int .i64 0) := Sat.cell (T := 28) (cs := #[.int .i64 0, .int .i64 0]) h4 0 rfl
  have y1 : w2.cell? ⟨bx + 1, 1, none⟩ = some (.int .i64 0) := Sat.cell (T := 28) (cs := #[.int .i64 0, .int .i64 0]) h4 1 rfl
  have yf0 : w2.frozen? ⟨bx + 1, 0, none⟩ = false := Sat.free (T := 28) (cs := #[.int .i64 0, .int .i64 0]) h4 0
  have yf1 : w2.frozen? ⟨bx + 1, 1, none⟩ = false := Sat.free (T := 28) (cs := #[.int .i64 0, .int .i64 0]) h4 1
  have h5 := (h4.store (T := 28) (cs := #[.int .i64 0, .int .i64 0]) (i := 0) (.int .i64 (if findB A t (findN M t) (M t).isSome then 5 else 0))).store (i := 1) (.int .i64 (if findB A t (findN M t) (M t).isSome then findN M t else 0))
  simp only [List.setIfInBounds_toArray, List.set_cons_zero, List.set_cons_succ] at h5
  have hfo : findOk A M t = findB A t (findN M t) (M t).isSome := rfl
  have HFO := Lib.hid hfo
  clear hfo
  generalize hfb : findB A t (findN M t) (M t).isSome = fb at *
  have HFB := Lib.hid hfb
  clear hfb
  generalize hq0 : (if fb = true then (5 : Int) else 0) = q0 at *
  generalize hq1 : (if fb = true then findN M t else 0) = q1 at *
  have HQ0 := Lib.hid hq0
  have HQ1 := Lib.hid hq1
  clear hq0 hq1
  go_wp2_with fail
  refine bodyPost_cell_tmp rfl rfl (x := .bool fb) rfl (load_val h5) rfl ⟨?_, h5.drop⟩
  rw [HFO.out, foundV_agg, HQ0.out, HQ1.out]
theorem str_Find_nil (w : World) (t : ByteArray) {w0 : World} {F : HP} (h : Sat w0 w F) :
    Calls Try.prog 20 #[.pointer none, .string t] w fun e w' => e = .returned (.tuple #[.agg #[.int .i64 0, .int .i64 0], .bool false]) ∧ Sat w0 w' F := by
  have h1 := (h.alloc (.cells #[.string t] 9)).alloc (.cells #[.int .i64 0, .int .i64 0] 28)
  rw [size_alloc] at h1
  generalize hbx : w.heap.size = bx at *
  go_enter Try.func20, Try.ntmps20
  try rw [hbx]
  go_wp2_with fail
  refine bodyPost_cell_tmp rfl rfl (x := .bool false) rfl (load_val h1) rfl ⟨rfl, h1.drop.drop⟩
end Go.Proofs.Ytkpcngcegipalaa.Tw
namespace Go.Proofs.Ytkpcngcegipalaa.Tw
set_option linter.unusedVariables false
set_option linter.unusedSimpArgs false
open Go Go.RowKit Go.MapKept

theorem sT1 (V H S F : HP) : V * (H * (S * F)) = H * (S * (V * F)) := by ac_rfl
theorem sT2 (N H S C V F : HP) : N * (H * (S * (C * (V * F)))) = C * (V * (N * (H * (S * F)))) := by ac_rfl
theorem str_Text {w0 w : World} {m : Hp} {s p : Nat} {A : AHeap} {M : ByteArray → Option Int} {F : HP} (v : AVal)
    (h : Sat w0 w (heapR m p A * (strR s p M * F))) (hB : (strO A v).slots.length ≤ 2000000000) :
    Calls Try.prog 22 #[.pointer (some ⟨s, 0, none⟩), .agg #[.int .i64 v.kind, .int .i64 v.n]] w fun e w' => e = .returned (.tuple #[.string (if strIs A v then (strO A v).text else ByteArray.mk #[]), .bool (strIs A v)]) ∧
      Sat w0 w' (heapR m p A * (strR s p M * F)) := by
  obtain ⟨k, n⟩ := v
  have h1 := h.alloc (.cells #[.int .i64 k, .int .i64 n] 28)
  generalize hbx : w.heap.size = bx at *
  have d0 : (w.alloc (.cells #[.int .i64 k, .int .i64 n] 28)).cell? ⟨bx, 0, none⟩ = some (.int .i64 k) := Sat.cell (T := 28) (cs := #[.int .i64 k, .int .i64 n]) h1 0 rfl
  have d1 : (w.alloc (.cells #[.int .i64 k, .int .i64 n] 28)).cell? ⟨bx, 1, none⟩ = some (.int .i64 n) := Sat.cell (T := 28) (cs := #[.int .i64 k, .int .i64 n]) h1 1 rfl
  have hS := str_string (h1.cast (sT1 _ _ _ _)) ⟨k, n⟩ hB
  have HS := Lib.hid hS
  generalize hO : strO A ⟨k, n⟩ = o at *
  generalize hI : strIs A ⟨k, n⟩ = b at *
  generalize hr : (if b = true then o.text else ByteArray.mk #[]) = res
  have HR := Lib.hid hr
  clear hS hB h1 hO hI hr
  go_enter Try.func22, Try.ntmps22
  try rw [hbx]
  go_wp2_with fail
  refine HS.out.mono ?_
  unfold objV
  rintro e w2 ⟨a, c, rfl, h2⟩
  clear HS
  have h4 := h2.alloc (.cells #[.int .i64 o.kind, .int .i64 o.count, .slice a o.slots.length c, .string o.text, .int .i64 o.mark] 39)
  generalize hob : w2.heap.size = ob at *
  have o3 : (w2.alloc (.cells #[.int .i64 o.kind, .int .i64 o.count, .slice a o.slots.length c, .string o.text, .int .i64 o.mark] 39)).cell? ⟨ob, 3, none⟩ = some (.string o.text) := Sat.cell (T := 39) (cs := #[.int .i64 o.kind, .int .i64 o.count, .slice a o.slots.length c, .string o.text, .int .i64 o.mark]) h4 3 rfl
  have hfin := (h4.cast (sT2 _ _ _ _ _ _)).drop.drop.drop
  clear h h2 h4
  cases b with
  | false =>
    go_wp2_with fail
    go_ret2
    exact ⟨by rw [← HR.out]; rfl, hfin⟩
  | true =>
    go_wp2_with fail
    go_ret2
    exact ⟨by rw [← HR.out]; rfl, hfin⟩

/-- a text's string, held once more: found; made; none -/
def AHeap.of (A : AHeap) (M : ByteArray → Option Int) (t : ByteArray) : AHeap := if findOk A M t then A.keep ⟨5, findN M t⟩ else if makeOk 5 t then A.make 5 t else A
def ofM (A : AHeap) (M : ByteArray → Option Int) (t : ByteArray) : ByteArray → Option Int := if findOk A M t then M else if makeOk 5 t then fun u => if u = t then some A.fresh else M u else M
def ofV (A : AHeap) (M : ByteArray → Option Int) (t : ByteArray) : AVal := if findOk A M t then ⟨5, findN M t⟩ else if makeOk 5 t then ⟨5, A.fresh⟩ else ⟨0, 0⟩

theorem sU1 (U V H S F : HP) : U * (V * (H * (S * F))) = H * (U * (V * (S * F))) := by ac_rfl
theorem sU2 (V H S F : HP) : V * (H * (S * F)) = H * (S * (V * F)) := by ac_rfl
theorem sU3 (H S V F : HP) : H * (S * (V * F)) = V * (H * (S * F)) := by ac_rfl
theorem sU4 (U V H S F : HP) : U * (V * (H * (S * F))) = V * (U * (H * (S * F))) := by ac_rfl
theorem sU5 (U V H S F : HP) : U * (V * (H * (S * F))) = S * (U * (V * (H * F))) := by ac_rfl
theorem sU6 (H U V S F : HP) : H * (U * (V * (S * F))) = U * (V * (H * (S * F))) := by ac_rfl
set_option maxRecDepth 100000 in
set_option maxHeartbeats 2000000 in
theorem str_Of_found {w0 w : World} {m : Hp} {s p : Nat} {A : AHeap} {M : ByteArray → Option Int} {F : HP} (t : ByteArray) (K : Knows m F)
    (h : Sat w0 w (heapR m p A * (strR s p M * F))) (hB : (strO A ⟨5, findN M t⟩).slots.length ≤ 2000000000) (hf : findOk A M t = true) (hW : ∀ o, cntO A ⟨5, findN M t⟩ = some o → IntKind.i64.wrap (o.count + 1) = o.count + 1) :
    Calls Try.prog 18 #[.pointer (some ⟨s, 0, none⟩), .string t] w fun e w' => e = .returned (.agg #[.int .i64 5, .int .i64 (findN M t)]) ∧
      Sat w0 w' (heapR m p (A.keep ⟨5, findN M t⟩) * (strR s p M * F)) := by
  have h1 := h.alloc (.cells #[.int .i64 0, .int .i64 0] 28)
  have hF := str_Find t (h1.cast (sU2 _ _ _ _)) hB
  rw [hf] at hF
  have hfv : foundV (findN M t) true = .agg #[.int .i64 5, .int .i64 (findN M t)] := rfl
  rw [hfv] at hF
  have HF := Lib.hid hF
  have HW := Lib.hid hW
  generalize hbx : w.heap.size = bx at *
  generalize findN M t = n at *
  clear hF h h1 hf hB hW hfv
  go_enter Try.func18, Try.ntmps18
  try rw [hbx]
  go_wp2_with fail
  refine HF.out.mono ?_
  rintro e w2 ⟨rfl, h2⟩
  have h3 := (h2.cast (sU3 _ _ _ _)).alloc (.cells #[.int .i64 5, .int .i64 n] 28)
  generalize hob : w2.heap.size = ob at *
  have u0 : (w2.alloc (.cells #[.int .i64 5, .int .i64 n] 28)).cell? ⟨ob, 0, none⟩ = some (.int .i64 5) := Sat.cell (T := 28) (cs := #[.int .i64 5, .int .i64 n]) h3 0 rfl
  have u1 : (w2.alloc (.cells #[.int .i64 5, .int .i64 n] 28)).cell? ⟨ob, 1, none⟩ = some (.int .i64 n) := Sat.cell (T := 28) (cs := #[.int .i64 5, .int .i64 n]) h3 1 rfl
  obtain ⟨mb, L, hL, hs⟩ := (h3.cast (sU5 _ _ _ _ _)).openStr
  have s0 : (w2.alloc (.cells #[.int .i64 5, .int .i64 n] 28)).cell? ⟨s, 0, none⟩ = some (.pointer (some ⟨p, 0, none⟩)) := hs.cell 0 rfl
  have hK := heap_Keep (h3.cast (sU1 _ _ _ _ _)).drew K.left.left.left ⟨5, n⟩ HW.out
  have HK := Lib.hid hK
  clear hs hL hK h3 h2
  go_wp2_with fail
  refine wp_region_tail 5 (by kernel_rfl) (by kernel_rfl) ?_
  simp only [List.take_succ_cons, List.take_zero, List.drop_succ_cons, List.drop_zero]
  iterate 5 still_step
  refine wpStill_nil ?_
  go_wp2_with fail
  refine HK.out.mono ?_
  rintro e w3 ⟨rfl, h4⟩
  have h5 := h4.cast (sU6 _ _ _ _ _)
  have x0 : w3.cell? ⟨ob, 0, none⟩ = some (.int .i64 5) := Sat.cell (T := 28) (cs := #[.int .i64 5, .int .i64 n]) h5 0 rfl
  have x1 : w3.cell? ⟨ob, 1, none⟩ = some (.int .i64 n) := Sat.cell (T := 28) (cs := #[.int .i64 5, .int .i64 n]) h5 1 rfl
  have h6 := h5.cast (sU4 _ _ _ _ _)
  have y0 : w3.cell? ⟨bx, 0, none⟩ = some (.int .i64 0) := Sat.cell (T := 28) (cs := #[.int .i64 0, .int .i64 0]) h6 0 rfl
  have y1 : w3.cell? ⟨bx, 1, none⟩ = some (.int .i64 0) := Sat.cell (T := 28) (cs := #[.int .i64 0, .int .i64 0]) h6 1 rfl
  have yf0 : w3.frozen? ⟨bx, 0, none⟩ = false := Sat.free (T := 28) (cs := #[.int .i64 0, .int .i64 0]) h6 0
  have yf1 : w3.frozen? ⟨bx, 1, none⟩ = false := Sat.free (T := 28) (cs := #[.int .i64 0, .int .i64 0]) h6 1
  have h7 := (h6.store (T := 28) (cs := #[.int .i64 0, .int .i64 0]) (i := 0) (.int .i64 5)).store (i := 1) (.int .i64 n)
  simp only [List.setIfInBounds_toArray, List.set_cons_zero, List.set_cons_succ] at h7
  clear HK h4 h5 u0 u1 s0
  go_wp2_with fail
  refine bodyPost_cell rfl rfl (load_val h7) rfl ⟨rfl, h7.drop.drop⟩

theorem sU7 (H U V S F : HP) : H * (U * (V * (S * F))) = U * (V * (S * (H * F))) := by ac_rfl
theorem sU8 (Z U V S H F : HP) : Z * (U * (V * (S * (H * F)))) = S * (Z * (U * (V * (H * F)))) := by ac_rfl
theorem sU9 (mp rw Z U V R : HP) : mp * (rw * (Z * (U * (V * R)))) = V * (Z * (rw * (mp * (U * R)))) := by ac_rfl
theorem sU10 (mp rw Z R : HP) : mp * (rw * (Z * R)) = Z * (mp * (rw * R)) := by ac_rfl
theorem sU12 (H rw mp F : HP) : H * (rw * (mp * F)) = rw * (mp * (H * F)) := by ac_rfl
theorem sU11 (rw mp U H F : HP) : rw * (mp * (U * (H * F))) = U * (H * (rw * (mp * F))) := by ac_rfl
set_option maxRecDepth 100000 in
set_option maxHeartbeats 2000000 in
theorem str_Of_made {w0 w : World} {m : Hp} {s p : Nat} {A : AHeap} {M : ByteArray → Option Int} {F : HP} (t : ByteArray)
    (h : Sat w0 w (heapR m p A * (strR s p M * F))) (hB : (strO A ⟨5, findN M t⟩).slots.length ≤ 2000000000) (hf : findOk A M t = false) (hT : A.T.length < 1000000000) (hok : makeOk 5 t = true) :
    Calls Try.prog 18 #[.pointer (some ⟨s, 0, none⟩), .string t] w fun e w' => e = .returned (.agg #[.int .i64 5, .int .i64 A.fresh]) ∧
      Sat w0 w' (heapR m p (A.make 5 t) * (strR s p (fun u => if u = t then some A.fresh else M u) * F)) := by
  have h1 := h.alloc (.cells #[.int .i64 0, .int .i64 0] 28)
  have hF := str_Find t (h1.cast (sU2 _ _ _ _)) hB
  rw [hf] at hF
  have hfv : foundV (findN M t) false = .agg #[.int .i64 0, .int .i64 0] := rfl
  rw [hfv] at hF
  have HF := Lib.hid hF
  have HT := Lib.hid hT
  have HOK := Lib.hid hok
  generalize hbx : w.heap.size = bx at *
  clear hF h h1 hf hB hT hfv hok
  go_enter Try.func18, Try.ntmps18
  try rw [hbx]
  go_wp2_with fail
  refine HF.out.mono ?_
  rintro e w2 ⟨rfl, h2⟩
  have h3 := (h2.cast (sU3 _ _ _ _)).alloc (.cells #[.int .i64 0, .int .i64 0] 28)
  generalize hob : w2.heap.size = ob at *
  obtain ⟨mb, L, hL, hs⟩ := (h3.cast (sU5 _ _ _ _ _)).openStr
  have s0 : (w2.alloc (.cells #[.int .i64 0, .int .i64 0] 28)).cell? ⟨s, 0, none⟩ = some (.pointer (some ⟨p, 0, none⟩)) := hs.cell 0 rfl
  have hM := heap_Make (h3.cast (sU1 _ _ _ _ _)) HT.out 5 t HOK.out
  have HM := Lib.hid hM
  clear hs hL hM h3 h2
  go_wp2_with fail
  refine HM.out.mono ?_
  rintro e w3 ⟨rfl, h4⟩
  clear HM s0
  have h5 := (h4.cast (sU7 _ _ _ _ _)).alloc (.cells #[.int .i64 5, .int .i64 A.fresh] 28)
  generalize hoc : w3.heap.size = oc at *
  obtain ⟨mb, L, hL, hs⟩ := (h5.cast (sU8 _ _ _ _ _ _)).openStr
  have s1 : (w3.alloc (.cells #[.int .i64 5, .int .i64 A.fresh] 28)).cell? ⟨s, 1, none⟩ = some (.map (some mb)) := hs.cell 1 rfl
  have z0 : (w3.alloc (.cells #[.int .i64 5, .int .i64 A.fresh] 28)).cell? ⟨oc, 0, none⟩ = some (.int .i64 5) := Sat.cell (T := 28) (cs := #[.int .i64 5, .int .i64 A.fresh]) h5 0 rfl
  have z1 : (w3.alloc (.cells #[.int .i64 5, .int .i64 A.fresh] 28)).cell? ⟨oc, 1, none⟩ = some (.int .i64 A.fresh) := Sat.cell (T := 28) (cs := #[.int .i64 5, .int .i64 A.fresh]) h5 1 rfl
  have h6 := (hs.cast (mul_left_comm _ _ _)).drew
  have HL := Lib.hid hL
  clear hL hs h5 h4
  go_wp2_with fail
  refine wp_region_tail 7 (by kernel_rfl) (by kernel_rfl) ?_
  simp only [List.take_succ_cons, List.take_zero, List.drop_succ_cons, List.drop_zero]
  iterate 7 still_step
  refine wpStill_nil ?_
  go_wp2_with (at_mapUpdate; refine wpList_mapUpdate rfl _ _ _ _ rfl keys_string Try.underlying121 Try.underlying9 mb L rfl h6 _ rfl (.int .i64 A.fresh) rfl ?_; intro w4 h7; have hz := h7.cast (sU10 _ _ _ _); have x0 : w4.cell? ⟨oc, 0, none⟩ = some (.int .i64 5) := (Sat.cell (T := 28) (cs := #[.int .i64 5, .int .i64 A.fresh]) hz 0 rfl); have x1 : w4.cell? ⟨oc, 1, none⟩ = some (.int .i64 A.fresh) := (Sat.cell (T := 28) (cs := #[.int .i64 5, .int .i64 A.fresh]) hz 1 rfl); have hy := h7.cast (sU9 _ _ _ _ _ _); have y0 : w4.cell? ⟨bx, 0, none⟩ = some (.int .i64 0) := (Sat.cell (T := 28) (cs := #[.int .i64 0, .int .i64 0]) hy 0 rfl); have y1 : w4.cell? ⟨bx, 1, none⟩ = some (.int .i64 0) := (Sat.cell (T := 28) (cs := #[.int .i64 0, .int .i64 0]) hy 1 rfl); have yf0 : w4.frozen? ⟨bx, 0, none⟩ = false := Sat.free (T := 28) (cs := #[.int .i64 0, .int .i64 0]) hy 0; have yf1 : w4.frozen? ⟨bx, 1, none⟩ = false := Sat.free (T := 28) (cs := #[.int .i64 0, .int .i64 0]) hy 1)
  have h8 := (hy.store (T := 28) (cs := #[.int .i64 0, .int .i64 0]) (i := 0) (.int .i64 5)).store (i := 1) (.int .i64 A.fresh)
  simp only [List.setIfInBounds_toArray, List.set_cons_zero, List.set_cons_succ] at h8
  refine bodyPost_cell rfl rfl (load_val h8) rfl ⟨rfl, ?_⟩
  have h9 := (h8.drop.drop.cast (sU11 _ _ _ _ _)).drop
  refine Sat.cast (Sat.shutStr (M := fun u => if u = t then some A.fresh else M u) (mb := mb) (L := mset L t (.int .i64 A.fresh)) ?_ (h9.cast (sU12 _ _ _ _))) (mul_left_comm _ _ _)
  intro u
  rw [mget_mset, HL.out]
  by_cases e : u = t <;> simp [e]
set_option maxRecDepth 100000 in
set_option maxHeartbeats 2000000 in
theorem str_Of_no {w0 w : World} {m : Hp} {s p : Nat} {A : AHeap} {M : ByteArray → Option Int} {F : HP} (t : ByteArray)
    (h : Sat w0 w (heapR m p A * (strR s p M * F))) (hB : (strO A ⟨5, findN M t⟩).slots.length ≤ 2000000000) (hf : findOk A M t = false) (hok : makeOk 5 t = false) :
    Calls Try.prog 18 #[.pointer (some ⟨s, 0, none⟩), .string t] w fun e w' => e = .returned (.agg #[.int .i64 0, .int .i64 0]) ∧
      Sat w0 w' (heapR m p A * (strR s p M * F)) := by
  have h1 := h.alloc (.cells #[.int .i64 0, .int .i64 0] 28)
  have hF := str_Find t (h1.cast (sU2 _ _ _ _)) hB
  rw [hf] at hF
  have hfv : foundV (findN M t) false = .agg #[.int .i64 0, .int .i64 0] := rfl
  rw [hfv] at hF
  have HF := Lib.hid hF
  have HOK := Lib.hid hok
  generalize hbx : w.heap.size = bx at *
  clear hF h h1 hf hB hfv hok
  go_enter Try.func18, Try.ntmps18
  try rw [hbx]
  go_wp2_with fail
  refine HF.out.mono ?_
  rintro e w2 ⟨rfl, h2⟩
  have h3 := (h2.cast (sU3 _ _ _ _)).alloc (.cells #[.int .i64 0, .int .i64 0] 28)
  generalize hob : w2.heap.size = ob at *
  obtain ⟨mb, L, hL, hs⟩ := (h3.cast (sU5 _ _ _ _ _)).openStr
  have s0 : (w2.alloc (.cells #[.int .i64 0, .int .i64 0] 28)).cell? ⟨s, 0, none⟩ = some (.pointer (some ⟨p, 0, none⟩)) := hs.cell 0 rfl
  have hM := heap_Make_no h3 (some ⟨p, 0, none⟩) 5 t (.inr HOK.out)
  have HM := Lib.hid hM
  clear hs hL hM h3 h2
  go_wp2_with fail
  refine HM.out.mono ?_
  rintro e w3 ⟨rfl, h4⟩
  clear HM s0
  have h5 := (h4.cast (sU4 _ _ _ _ _)).alloc (.cells #[.int .i64 0, .int .i64 0] 28)
  generalize hoc : w3.heap.size = oc at *
  have W3Z0 : (w3.alloc (.cells #[.int .i64 0, .int .i64 0] 28)).cell? ⟨oc, 0, none⟩ = some (.int .i64 0) := Sat.cell (T := 28) (cs := #[.int .i64 0, .int .i64 0]) h5 0 rfl
  have W3Z1 : (w3.alloc (.cells #[.int .i64 0, .int .i64 0] 28)).cell? ⟨oc, 1, none⟩ = some (.int .i64 0) := Sat.cell (T := 28) (cs := #[.int .i64 0, .int .i64 0]) h5 1 rfl
  have hy := h5.cast (mul_left_comm _ _ _)
  have y0 : (w3.alloc (.cells #[.int .i64 0, .int .i64 0] 28)).cell? ⟨bx, 0, none⟩ = some (.int .i64 0) := (Sat.cell (T := 28) (cs := #[.int .i64 0, .int .i64 0]) hy 0 rfl)
  have y1 : (w3.alloc (.cells #[.int .i64 0, .int .i64 0] 28)).cell? ⟨bx, 1, none⟩ = some (.int .i64 0) := (Sat.cell (T := 28) (cs := #[.int .i64 0, .int .i64 0]) hy 1 rfl)
  have yf0 : (w3.alloc (.cells #[.int .i64 0, .int .i64 0] 28)).frozen? ⟨bx, 0, none⟩ = false := Sat.free (T := 28) (cs := #[.int .i64 0, .int .i64 0]) hy 0
  have yf1 : (w3.alloc (.cells #[.int .i64 0, .int .i64 0] 28)).frozen? ⟨bx, 1, none⟩ = false := Sat.free (T := 28) (cs := #[.int .i64 0, .int .i64 0]) hy 1
  have h8 := (hy.store (T := 28) (cs := #[.int .i64 0, .int .i64 0]) (i := 0) (.int .i64 0)).store (i := 1) (.int .i64 0)
  simp only [List.setIfInBounds_toArray, List.set_cons_zero, List.set_cons_succ] at h8
  go_wp2_with fail
  refine bodyPost_cell rfl rfl (load_val h8) rfl ⟨rfl, h8.drop.drop.drop⟩

theorem str_Of {w0 w : World} {m : Hp} {s p : Nat} {A : AHeap} {M : ByteArray → Option Int} {F : HP} (t : ByteArray) (K : Knows m F)
    (h : Sat w0 w (heapR m p A * (strR s p M * F))) (hB : (strO A ⟨5, findN M t⟩).slots.length ≤ 2000000000) (hT : A.T.length < 1000000000) (hW : ∀ o, cntO A ⟨5, findN M t⟩ = some o → IntKind.i64.wrap (o.count + 1) = o.count + 1) :
    Calls Try.prog 18 #[.pointer (some ⟨s, 0, none⟩), .string t] w fun e w' => e = .returned (.agg #[.int .i64 (ofV A M t).kind, .int .i64 (ofV A M t).n]) ∧
      Sat w0 w' (heapR m p (A.of M t) * (strR s p (ofM A M t) * F)) := by
  unfold ofV AHeap.of ofM
  cases hf : findOk A M t with
  | true => exact str_Of_found t K h hB hf hW
  | false =>
    cases hk : makeOk 5 t with
    | true => exact str_Of_made t h hB hf hT hk
    | false => exact str_Of_no t h hB hf hk
end Go.Proofs.Ytkpcngcegipalaa.Tw
namespace Go.Proofs.Ytkpcngcegipalaa.Tw
set_option linter.unusedVariables false
set_option linter.unusedSimpArgs false

theorem firstFree_eq {T : List Bool} {k : Nat} (h1 : ∀ j, j < k → T[j]? = some true) (h2 : T[k]? = some false) : firstFree T = k := by
  induction T generalizing k with
  | nil => simp at h2
  | cons b r ih =>
    cases k with
    | zero => simp at h2; subst h2; rfl
    | succ k =>
      have h0 := h1 0 (by omega)
      simp at h0; subst h0
      simp only [firstFree, if_true]
      rw [ih (k := k) (fun j hj => by simpa using h1 (j + 1) (by omega)) (by simpa using h2)]
theorem firstFree_all {T : List Bool} (h : ∀ b ∈ T, b = true) : firstFree T = T.length := by
  induction T with
  | nil => rfl
  | cons b r ih =>
    have := h b (by simp); subst this
    simp only [firstFree, if_true, List.length_cons]
    rw [ih fun b hb => h b (by simp [hb])]
theorem takeT_replicate (k : Nat) : takeT (List.replicate k true) = List.replicate (k + 1) true := by
  unfold takeT
  rw [firstFree_all (by intro b hb; exact (List.mem_replicate.1 hb).2), if_neg (by omega), List.replicate_succ']
def T2 (b : Nat → Bool) (j : Int) : List Bool := (List.range 16).map fun q => !(b q && decide (j < (q : Int)))
theorem T2_get (b : Nat → Bool) (j : Int) (q : Nat) : (T2 b j)[q]? = if q < 16 then some (!(b q && decide (j < (q : Int)))) else none := by
  unfold T2
  rw [List.getElem?_map]
  by_cases h : q < 16
  · rw [if_pos h, List.getElem?_eq_getElem (by simpa using h)]; simp
  · rw [if_neg h, List.getElem?_eq_none (by simp; omega)]; rfl
theorem T2_length (b : Nat → Bool) (j : Int) : (T2 b j).length = 16 := by simp [T2]
theorem T2_start (b : Nat → Bool) : T2 b 15 = List.replicate 16 true := by
  apply List.ext_getElem?
  intro q
  rw [T2_get, List.getElem?_replicate]
  split
  · have : ¬ ((15 : Int) < (q : Int)) := by omega
    simp [this]
  · rfl
theorem T2_no {b : Nat → Bool} {q : Nat} (h : b q = false) : T2 b q = T2 b ((q : Int) - 1) := by
  apply List.ext_getElem?
  intro i
  rw [T2_get, T2_get]
  split
  · by_cases e : i = q
    · subst e; simp [h]
    · have : ((q : Int) < i) ↔ ((q : Int) - 1 < i) := by omega
      simp [this]
  · rfl
theorem T2_tk {b : Nat → Bool} {q : Nat} (hq : q < 16) : tk (T2 b q) ((q : Int) + 1) = true := by
  unfold tk
  have : ((q : Int) + 1 - 1).toNat = q := by omega
  rw [this, T2_get, if_pos hq]
  simp
  omega
theorem T2_yes {b : Nat → Bool} {q : Nat} (hq : q < 16) (h : b q = true) : giveT (T2 b q) ((q : Int) + 1) = T2 b ((q : Int) - 1) := by
  unfold giveT
  rw [if_pos (T2_tk hq)]
  have : ((q : Int) + 1 - 1).toNat = q := by omega
  rw [this]
  apply List.ext_getElem?
  intro i
  rw [List.getElem?_set, T2_get, T2_get, T2_length]
  by_cases e : q = i
  · subst e
    have : ((q : Int) - 1 < (q : Int)) := by omega
    simp [hq, h, this]
  · rw [if_neg e]
    split
    · have : ((q : Int) < i) ↔ ((q : Int) - 1 < i) := by omega
      simp [this]
    · rfl
def T3 (b : Nat → Bool) (i : Nat) : List Bool := T2 b ((i : Int) - 1)
theorem T3_no {b : Nat → Bool} {i : Nat} (h : b i = false) : T3 b i = T3 b (i + 1) := by
  unfold T3
  rw [← T2_no h]
  congr 1
  omega
theorem T3_first {b : Nat → Bool} {i : Nat} (hi : i < 16) (h : b i = true) : firstFree (T3 b i) = i := by
  unfold T3
  apply firstFree_eq
  · intro j hj
    rw [T2_get, if_pos (by omega)]
    have : ¬ ((i : Int) - 1 < (j : Int)) := by omega
    simp [this]
  · rw [T2_get, if_pos hi]
    have : (i : Int) - 1 < (i : Int) := by omega
    simp [h, this]
theorem T3_take {b : Nat → Bool} {i : Nat} (hi : i < 16) (h : b i = true) : takeT (T3 b i) = T3 b (i + 1) := by
  have hf := T3_first hi h
  unfold takeT
  rw [hf]
  unfold T3
  rw [T2_length, if_pos hi]
  apply List.ext_getElem?
  intro j
  rw [List.getElem?_set, T2_get, T2_get, T2_length]
  by_cases e : i = j
  · subst e
    have : ¬ (((i + 1 : Nat) : Int) - 1 < (i : Int)) := by omega
    rw [if_pos rfl, if_pos hi, if_pos hi]; simp [this]
  · rw [if_neg e]
    split
    · have : ((i : Int) - 1 < j) ↔ (((i + 1 : Nat) : Int) - 1 < j) := by omega
      simp [this]
    · rfl
theorem T3_end (b : Nat → Bool) : T3 b 16 = List.replicate 16 true := T2_start b
end Go.Proofs.Ytkpcngcegipalaa.Tw
