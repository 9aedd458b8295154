/- The strings, each text once: New, string. No condition. -/
import Derived.Test.YtkpcngcegipalaaZPIn12
namespace Go.Proofs.Ytkpcngcegipalaa.Tw
set_option linter.unusedVariables false
set_option linter.unusedSimpArgs false
open Go Go.RowKit Go.MapKept

/-- the strings at s, of the heap at p, with the map M -/
def strR (s p : Nat) (M : ByteArray → Option Int) : HP := fun h => ∃ mb L, (∀ t, mget L t = (M t).map (Value.int .i64)) ∧
  (row s 123 #[.pointer (some ⟨p, 0, none⟩), .map (some mb)] * mapR .string Value.string mb L) h
theorem Sat.openStr {w0 w : World} {F : HP} {s p : Nat} {M : ByteArray → Option Int} (h : Sat w0 w (strR s p M * F)) : ∃ mb L, (∀ t, mget L t = (M t).map (Value.int .i64)) ∧
    Sat w0 w (row s 123 #[.pointer (some ⟨p, 0, none⟩), .map (some mb)] * (mapR .string Value.string mb L * F)) := by
  obtain ⟨h1, x, ⟨y, z, dj, rfl, ⟨mb, L, hL, hp⟩, hq⟩, r⟩ := h
  exact ⟨mb, L, hL, Sat.cast ⟨h1, _, ⟨y, z, dj, rfl, hp, hq⟩, r⟩ (mul_assoc _ _ _)⟩
theorem Sat.shutStr {w0 w : World} {F : HP} {s p : Nat} {M : ByteArray → Option Int} {mb : Nat} {L : List (ByteArray × Value)} (hL : ∀ t, mget L t = (M t).map (Value.int .i64))
    (h : Sat w0 w (row s 123 #[.pointer (some ⟨p, 0, none⟩), .map (some mb)] * (mapR .string Value.string mb L * F))) : Sat w0 w (strR s p M * F) := by
  rw [← mul_assoc] at h
  exact h.mono_l fun _ hq => ⟨mb, L, hL, hq⟩

theorem str_New {w0 w : World} {F : HP} (h : Sat w0 w F) (p : Nat) :
    Calls Try.prog 16 #[.pointer (some ⟨p, 0, none⟩)] w fun e w' => ∃ s, e = .returned (.pointer (some ⟨s, 0, none⟩)) ∧ Sat w0 w' (strR s p (fun _ => none) * F) := by
  have hmm := @run_makeMap Try.prog
  have h2 := (h.newMap (d := .string) (kv := Value.string)).alloc (.cells #[.pointer (some ⟨p, 0, none⟩), .map (some w.heap.size)] 123)
  go_enter Try.func16, Try.ntmps16
  go_wp2
  go_ret
  exact ⟨_, rfl, Sat.shutStr (L := []) (fun t => rfl) (by rw [size_alloc] at h2; exact h2)⟩
theorem str_New_nil (w : World) : Calls Try.prog 16 #[.pointer none] w fun e w' => e = .returned (.pointer none) ∧ w = w' := by
  go_enter Try.func16, Try.ntmps16
  go_wp2
  go_ret
  exact ⟨rfl, rfl⟩

theorem sS1 (X Y H S F : HP) : X * (Y * (H * (S * F))) = S * (X * (Y * (H * F))) := by ac_rfl
theorem sS2 (X Y H S F : HP) : X * (Y * (H * (S * F))) = H * (X * (Y * (S * F))) := by ac_rfl
theorem sS3 (H S F : HP) : H * (S * F) = S * (H * F) := by ac_rfl
theorem sS4 (C H S F : HP) : C * (S * (H * F)) = H * (S * (C * F)) := by ac_rfl
theorem sS5 (A B C R : HP) : A * (B * (C * R)) = A * ((B * C) * R) := by ac_rfl
theorem sS6 (A B C R : HP) : A * (B * (C * R)) = C * (A * (B * R)) := by ac_rfl
def zobj : Array Value := #[.int .i64 0, .int .i64 0, .slice none 0 0, .string (ByteArray.mk #[]), .int .i64 0]
theorem sS7 (N H C X R : HP) : N * (H * (C * (X * R))) = X * (N * (H * (C * R))) := by ac_rfl
theorem sS8 (N H C Y S F : HP) : N * (H * (C * (Y * (S * F)))) = Y * (N * (H * (S * (C * F)))) := by ac_rfl
theorem wrap32_in (n : Int) : -2147483648 ≤ IntKind.i32.wrap n ∧ IntKind.i32.wrap n < 2147483648 := by
  unfold IntKind.wrap
  simp [IntKind.bits, IntKind.signed]
  split <;> omega
theorem wrap64_32 (n : Int) : wrap64 (IntKind.i32.wrap n) = IntKind.i32.wrap n := by
  have := wrap32_in n
  generalize IntKind.i32.wrap n = x at *
  unfold wrap64; omega
theorem wrap32_of {n : Int} (h1 : -2147483648 ≤ n) (h2 : n < 2147483648) : IntKind.i32.wrap n = n := by
  unfold IntKind.wrap
  simp [IntKind.bits, IntKind.signed]
  split <;> omega
/-- the object that a value names as a string -/
def strO (A : AHeap) (v : AVal) : AObj := if v.kind = 5 ∧ IntKind.i32.wrap v.n = v.n then A.obj v.n else AObj.none
def strIs (A : AHeap) (v : AVal) : Bool := decide ((strO A v).kind = 5)
set_option maxRecDepth 100000 in
set_option maxHeartbeats 2000000 in
theorem str_string {w0 w : World} {m : Hp} {s p : Nat} {A : AHeap} {M : ByteArray → Option Int} {F : HP} (h : Sat w0 w (heapR m p A * (strR s p M * F))) (v : AVal) (hB : (strO A v).slots.length ≤ 2000000000) :
    Calls Try.prog 74 #[.pointer (some ⟨s, 0, none⟩), .agg #[.int .i64 v.kind, .int .i64 v.n]] w fun e w' => ∃ a c, e = .returned (.tuple #[objV (strO A v) a c, .bool (strIs A v)]) ∧
      Sat w0 w' (heapR m p A * (strR s p M * (slc 28 2 a (strO A v).slots.length c (avcells (strO A v).slots) * F))) := by
  obtain ⟨k, n⟩ := v
  have h1 := (h.alloc (.cells #[.int .i64 k, .int .i64 n] 28)).alloc (.cells #[.int .i64 0, .int .i64 0, .slice none 0 0, .string (ByteArray.mk #[]), .int .i64 0] 39)
  have h2 := h1.cast (mul_left_comm _ _ _)
  rw [size_alloc] at h1 h2
  have d0 : ((w.alloc (.cells #[.int .i64 k, .int .i64 n] 28)).alloc (.cells #[.int .i64 0, .int .i64 0, .slice none 0 0, .string (ByteArray.mk #[]), .int .i64 0] 39)).cell? ⟨w.heap.size, 0, none⟩ = some (.int .i64 k) := Sat.cell (T := 28) (cs := #[.int .i64 k, .int .i64 n]) h2 0 rfl
  have d1 : ((w.alloc (.cells #[.int .i64 k, .int .i64 n] 28)).alloc (.cells #[.int .i64 0, .int .i64 0, .slice none 0 0, .string (ByteArray.mk #[]), .int .i64 0] 39)).cell? ⟨w.heap.size, 1, none⟩ = some (.int .i64 n) := Sat.cell (T := 28) (cs := #[.int .i64 k, .int .i64 n]) h2 1 rfl
  generalize hbx : w.heap.size = bx at *
  by_cases k5 : k = 5
  · have hk5 : (k == 5) = true := by simpa using k5
    by_cases hn : IntKind.i32.wrap n = n
    · have eo : strO A ⟨k, n⟩ = A.obj n := by unfold strO; rw [if_pos ⟨k5, hn⟩]
      rw [eo] at hB
      unfold strIs
      rw [eo]
      subst k5
      have hn' : (n != n) = false := by simp
      have hw64 : wrap64 n = n := by have := wrap64_32 n; rwa [hn] at this
      obtain ⟨mb, L, hL, h3⟩ := ((h1.cast (sS1 _ _ _ _ _))).openStr
      have s0 : ((w.alloc (.cells #[.int .i64 5, .int .i64 n] 28)).alloc (.cells #[.int .i64 0, .int .i64 0, .slice none 0 0, .string (ByteArray.mk #[]), .int .i64 0] 39)).cell? ⟨s, 0, none⟩ = some (.pointer (some ⟨p, 0, none⟩)) := h3.cell 0 rfl
      clear h3 hL
      have h4 := h1.cast (sS2 _ _ _ _ _)
      have HO := Lib.hid hB
      clear hB eo
      go_enter Try.func74, Try.ntmps74
      try rw [hbx]
      go_wp2_with fail
      have hS : ∀ {w' : World} {X : HP}, Sat w0 w' (heapR m p A * (X * (pt (bx + 1) (.cells #[.int .i64 0, .int .i64 0, .slice none 0 0, .string (ByteArray.mk #[]), .int .i64 0] 39) * (pt bx (.cells #[.int .i64 5, .int .i64 n] 28) * (strR s p M * F))))) → w'.cell? ⟨s, 0, none⟩ = some (.pointer (some ⟨p, 0, none⟩)) ∧ w'.cell? ⟨bx, 1, none⟩ = some (.int .i64 n) := by
        intro w' X hx
        obtain ⟨mb, L, hL, h3⟩ := (hx.drop.drop.drop.drop).openStr
        exact ⟨h3.cell 0 rfl, Sat.cell (T := 28) (cs := #[.int .i64 5, .int .i64 n]) hx.drop.drop.drop 1 rfl⟩
      have s1 := s0
      have d2 := d1
      have HS := @hS
      clear hS
      have hsz : ((w.alloc (.cells #[.int .i64 5, .int .i64 n] 28)).alloc (.cells #[.int .i64 0, .int .i64 0, .slice none 0 0, .string (ByteArray.mk #[]), .int .i64 0] 39)).drew.heap.size = bx + 1 + 1 := by
        show ((w.alloc _).alloc _).heap.size = _
        rw [size_alloc, size_alloc, hbx]
      have HSZ := Lib.hid hsz
      have hne2 : ¬ (bx + 1 + 1 = bx) := by omega
      have hne : ¬ (bx + 1 + 1 = s) := by
        have h9 := World.block_lt_of_cell? _ _ s0
        have h10 : s < bx + 1 + 1 := by rw [← hsz]; exact h9
        omega
      clear hsz
      go_region_held3 (fun w' => w'.cell? ⟨s, 0, none⟩ = some (.pointer (some ⟨p, 0, none⟩)) ∧ w'.cell? ⟨bx, 1, none⟩ = some (.int .i64 n)) (go_keep) (first
        | (go_at_call 23; refine (heap_Obj h4.drew n HO.out).mono ?_; unfold objV; rintro e w2 ⟨a, c, rfl, h5⟩; have g5 := HS h5)
        | (go_at_call 23; refine (heap_Obj (((h4.drew.alloc _).cast (mul_left_comm _ _ _))) n HO.out).mono ?_; unfold objV; rintro e w2 ⟨a, c, rfl, h5⟩; rw [HSZ.out] at h5; have g5 := HS (h5.cast (sS5 _ _ _ _)); have h6 := h5.cast (sS6 _ _ _ _); have q0 : w2.cell? ⟨bx + 1 + 1, 0, none⟩ = some (.int .i64 0) := Sat.cell (T := 39) (cs := zobj) h6 0 rfl; have q1 : w2.cell? ⟨bx + 1 + 1, 1, none⟩ = some (.int .i64 0) := Sat.cell (T := 39) (cs := zobj) h6 1 rfl; have q2 : w2.cell? ⟨bx + 1 + 1, 2, none⟩ = some (.slice none 0 0) := Sat.cell (T := 39) (cs := zobj) h6 2 rfl; have q3 : w2.cell? ⟨bx + 1 + 1, 3, none⟩ = some (.string (ByteArray.mk #[])) := Sat.cell (T := 39) (cs := zobj) h6 3 rfl; have q4 : w2.cell? ⟨bx + 1 + 1, 4, none⟩ = some (.int .i64 0) := Sat.cell (T := 39) (cs := zobj) h6 4 rfl; have r0 := Sat.free (T := 39) (cs := zobj) h6 0; have r1 := Sat.free (T := 39) (cs := zobj) h6 1; have r2 := Sat.free (T := 39) (cs := zobj) h6 2; have r3 := Sat.free (T := 39) (cs := zobj) h6 3; have r4 := Sat.free (T := 39) (cs := zobj) h6 4))
      · have hk : Sat w0 (w2.alloc (.cells #[.int .i64 (A.obj n).kind, .int .i64 (A.obj n).count, .slice a (A.obj n).slots.length c, .string (A.obj n).text, .int .i64 (A.obj n).mark] 39)) (row w2.heap.size 39 #[.int .i64 (A.obj n).kind, .int .i64 (A.obj n).count, .slice a (A.obj n).slots.length c, .string (A.obj n).text, .int .i64 (A.obj n).mark] * (heapR m p A * (slc 28 2 a (A.obj n).slots.length c (avcells (A.obj n).slots) * (pt (bx + 1) (.cells #[.int .i64 0, .int .i64 0, .slice none 0 0, .string (ByteArray.mk #[]), .int .i64 0] 39) * (pt bx (.cells #[.int .i64 5, .int .i64 n] 28) * (strR s p M * F)))))) := h5.alloc _
        have k0 : (w2.alloc (.cells #[.int .i64 (A.obj n).kind, .int .i64 (A.obj n).count, .slice a (A.obj n).slots.length c, .string (A.obj n).text, .int .i64 (A.obj n).mark] 39)).cell? ⟨w2.heap.size, 0, none⟩ = some (.int .i64 (A.obj n).kind) := hk.cell 0 rfl
        have k1 : (w2.alloc (.cells #[.int .i64 (A.obj n).kind, .int .i64 (A.obj n).count, .slice a (A.obj n).slots.length c, .string (A.obj n).text, .int .i64 (A.obj n).mark] 39)).cell? ⟨w2.heap.size, 1, none⟩ = some (.int .i64 (A.obj n).count) := hk.cell 1 rfl
        have k2 : (w2.alloc (.cells #[.int .i64 (A.obj n).kind, .int .i64 (A.obj n).count, .slice a (A.obj n).slots.length c, .string (A.obj n).text, .int .i64 (A.obj n).mark] 39)).cell? ⟨w2.heap.size, 2, none⟩ = some (.slice a (A.obj n).slots.length c) := hk.cell 2 rfl
        have k3 : (w2.alloc (.cells #[.int .i64 (A.obj n).kind, .int .i64 (A.obj n).count, .slice a (A.obj n).slots.length c, .string (A.obj n).text, .int .i64 (A.obj n).mark] 39)).cell? ⟨w2.heap.size, 3, none⟩ = some (.string (A.obj n).text) := hk.cell 3 rfl
        have k4 : (w2.alloc (.cells #[.int .i64 (A.obj n).kind, .int .i64 (A.obj n).count, .slice a (A.obj n).slots.length c, .string (A.obj n).text, .int .i64 (A.obj n).mark] 39)).cell? ⟨w2.heap.size, 4, none⟩ = some (.int .i64 (A.obj n).mark) := hk.cell 4 rfl
        have hz := hk.cast (sS7 _ _ _ _ _)
        have hza := hz.ne
        have hzb := Ne.symm hz.ne
        have z0 : (w2.alloc (.cells #[.int .i64 (A.obj n).kind, .int .i64 (A.obj n).count, .slice a (A.obj n).slots.length c, .string (A.obj n).text, .int .i64 (A.obj n).mark] 39)).cell? ⟨bx + 1, 0, none⟩ = some (.int .i64 0) := Sat.cell (T := 39) (cs := zobj) hz 0 rfl
        have y0 : (w2.alloc (.cells #[.int .i64 (A.obj n).kind, .int .i64 (A.obj n).count, .slice a (A.obj n).slots.length c, .string (A.obj n).text, .int .i64 (A.obj n).mark] 39)).frozen? ⟨bx + 1, 0, none⟩ = false := Sat.free (T := 39) (cs := zobj) hz 0
        have z1 : (w2.alloc (.cells #[.int .i64 (A.obj n).kind, .int .i64 (A.obj n).count, .slice a (A.obj n).slots.length c, .string (A.obj n).text, .int .i64 (A.obj n).mark] 39)).cell? ⟨bx + 1, 1, none⟩ = some (.int .i64 0) := Sat.cell (T := 39) (cs := zobj) hz 1 rfl
        have y1 : (w2.alloc (.cells #[.int .i64 (A.obj n).kind, .int .i64 (A.obj n).count, .slice a (A.obj n).slots.length c, .string (A.obj n).text, .int .i64 (A.obj n).mark] 39)).frozen? ⟨bx + 1, 1, none⟩ = false := Sat.free (T := 39) (cs := zobj) hz 1
        have z2 : (w2.alloc (.cells #[.int .i64 (A.obj n).kind, .int .i64 (A.obj n).count, .slice a (A.obj n).slots.length c, .string (A.obj n).text, .int .i64 (A.obj n).mark] 39)).cell? ⟨bx + 1, 2, none⟩ = some (.slice none 0 0) := Sat.cell (T := 39) (cs := zobj) hz 2 rfl
        have y2 : (w2.alloc (.cells #[.int .i64 (A.obj n).kind, .int .i64 (A.obj n).count, .slice a (A.obj n).slots.length c, .string (A.obj n).text, .int .i64 (A.obj n).mark] 39)).frozen? ⟨bx + 1, 2, none⟩ = false := Sat.free (T := 39) (cs := zobj) hz 2
        have z3 : (w2.alloc (.cells #[.int .i64 (A.obj n).kind, .int .i64 (A.obj n).count, .slice a (A.obj n).slots.length c, .string (A.obj n).text, .int .i64 (A.obj n).mark] 39)).cell? ⟨bx + 1, 3, none⟩ = some (.string (ByteArray.mk #[])) := Sat.cell (T := 39) (cs := zobj) hz 3 rfl
        have y3 : (w2.alloc (.cells #[.int .i64 (A.obj n).kind, .int .i64 (A.obj n).count, .slice a (A.obj n).slots.length c, .string (A.obj n).text, .int .i64 (A.obj n).mark] 39)).frozen? ⟨bx + 1, 3, none⟩ = false := Sat.free (T := 39) (cs := zobj) hz 3
        have z4 : (w2.alloc (.cells #[.int .i64 (A.obj n).kind, .int .i64 (A.obj n).count, .slice a (A.obj n).slots.length c, .string (A.obj n).text, .int .i64 (A.obj n).mark] 39)).cell? ⟨bx + 1, 4, none⟩ = some (.int .i64 0) := Sat.cell (T := 39) (cs := zobj) hz 4 rfl
        have y4 : (w2.alloc (.cells #[.int .i64 (A.obj n).kind, .int .i64 (A.obj n).count, .slice a (A.obj n).slots.length c, .string (A.obj n).text, .int .i64 (A.obj n).mark] 39)).frozen? ⟨bx + 1, 4, none⟩ = false := Sat.free (T := 39) (cs := zobj) hz 4
        clear d0 d1 s0 s1 d2 hw64 hn hn' h4 h1 h2 h HS
        generalize (w2.alloc (.cells #[.int .i64 (A.obj n).kind, .int .i64 (A.obj n).count, .slice a (A.obj n).slots.length c, .string (A.obj n).text, .int .i64 (A.obj n).mark] 39)) = wz at *
        go_wp2_with fail
        go_region
        go_wp2_with fail
        have hw := (hz.store (T := 39) (cs := zobj) (i := 0) (.int .i64 (A.obj n).kind) |>.store (i := 1) (.int .i64 (A.obj n).count) |>.store (i := 2) (.slice a (A.obj n).slots.length c) |>.store (i := 3) (.string (A.obj n).text) |>.store (i := 4) (.int .i64 (A.obj n).mark)).drew
        simp only [zobj, List.setIfInBounds_toArray, List.set_cons_zero, List.set_cons_succ] at hw
        refine bodyPost_cell_tmp rfl rfl (x := .bool (decide ((A.obj n).kind = 5))) rfl (load_obj hw) rfl ⟨a, c, rfl, ?_⟩
        · exact (hw.drop.cast (sS8 _ _ _ _ _ _)).drop.drop
      · have hk : Sat w0 (((((w2.setCell ⟨bx + 1 + 1, 0, none⟩ (.int .i64 (A.obj n).kind)).setCell ⟨bx + 1 + 1, 1, none⟩ (.int .i64 (A.obj n).count)).setCell ⟨bx + 1 + 1, 2, none⟩ (.slice a (A.obj n).slots.length c)).setCell ⟨bx + 1 + 1, 3, none⟩ (.string (A.obj n).text)).setCell ⟨bx + 1 + 1, 4, none⟩ (.int .i64 (A.obj n).mark)) (row (bx + 1 + 1) 39 #[.int .i64 (A.obj n).kind, .int .i64 (A.obj n).count, .slice a (A.obj n).slots.length c, .string (A.obj n).text, .int .i64 (A.obj n).mark] * (heapR m p A * (slc 28 2 a (A.obj n).slots.length c (avcells (A.obj n).slots) * (pt (bx + 1) (.cells #[.int .i64 0, .int .i64 0, .slice none 0 0, .string (ByteArray.mk #[]), .int .i64 0] 39) * (pt bx (.cells #[.int .i64 5, .int .i64 n] 28) * (strR s p M * F)))))) := by
          have h7 := h6.store (T := 39) (cs := zobj) (i := 0) (.int .i64 (A.obj n).kind) |>.store (i := 1) (.int .i64 (A.obj n).count) |>.store (i := 2) (.slice a (A.obj n).slots.length c) |>.store (i := 3) (.string (A.obj n).text) |>.store (i := 4) (.int .i64 (A.obj n).mark)
          simp only [zobj, List.setIfInBounds_toArray, List.set_cons_zero, List.set_cons_succ] at h7
          exact h7
        have k0 : (((((w2.setCell ⟨bx + 1 + 1, 0, none⟩ (.int .i64 (A.obj n).kind)).setCell ⟨bx + 1 + 1, 1, none⟩ (.int .i64 (A.obj n).count)).setCell ⟨bx + 1 + 1, 2, none⟩ (.slice a (A.obj n).slots.length c)).setCell ⟨bx + 1 + 1, 3, none⟩ (.string (A.obj n).text)).setCell ⟨bx + 1 + 1, 4, none⟩ (.int .i64 (A.obj n).mark)).cell? ⟨(bx + 1 + 1), 0, none⟩ = some (.int .i64 (A.obj n).kind) := hk.cell 0 rfl
        have k1 : (((((w2.setCell ⟨bx + 1 + 1, 0, none⟩ (.int .i64 (A.obj n).kind)).setCell ⟨bx + 1 + 1, 1, none⟩ (.int .i64 (A.obj n).count)).setCell ⟨bx + 1 + 1, 2, none⟩ (.slice a (A.obj n).slots.length c)).setCell ⟨bx + 1 + 1, 3, none⟩ (.string (A.obj n).text)).setCell ⟨bx + 1 + 1, 4, none⟩ (.int .i64 (A.obj n).mark)).cell? ⟨(bx + 1 + 1), 1, none⟩ = some (.int .i64 (A.obj n).count) := hk.cell 1 rfl
        have k2 : (((((w2.setCell ⟨bx + 1 + 1, 0, none⟩ (.int .i64 (A.obj n).kind)).setCell ⟨bx + 1 + 1, 1, none⟩ (.int .i64 (A.obj n).count)).setCell ⟨bx + 1 + 1, 2, none⟩ (.slice a (A.obj n).slots.length c)).setCell ⟨bx + 1 + 1, 3, none⟩ (.string (A.obj n).text)).setCell ⟨bx + 1 + 1, 4, none⟩ (.int .i64 (A.obj n).mark)).cell? ⟨(bx + 1 + 1), 2, none⟩ = some (.slice a (A.obj n).slots.length c) := hk.cell 2 rfl
        have k3 : (((((w2.setCell ⟨bx + 1 + 1, 0, none⟩ (.int .i64 (A.obj n).kind)).setCell ⟨bx + 1 + 1, 1, none⟩ (.int .i64 (A.obj n).count)).setCell ⟨bx + 1 + 1, 2, none⟩ (.slice a (A.obj n).slots.length c)).setCell ⟨bx + 1 + 1, 3, none⟩ (.string (A.obj n).text)).setCell ⟨bx + 1 + 1, 4, none⟩ (.int .i64 (A.obj n).mark)).cell? ⟨(bx + 1 + 1), 3, none⟩ = some (.string (A.obj n).text) := hk.cell 3 rfl
        have k4 : (((((w2.setCell ⟨bx + 1 + 1, 0, none⟩ (.int .i64 (A.obj n).kind)).setCell ⟨bx + 1 + 1, 1, none⟩ (.int .i64 (A.obj n).count)).setCell ⟨bx + 1 + 1, 2, none⟩ (.slice a (A.obj n).slots.length c)).setCell ⟨bx + 1 + 1, 3, none⟩ (.string (A.obj n).text)).setCell ⟨bx + 1 + 1, 4, none⟩ (.int .i64 (A.obj n).mark)).cell? ⟨(bx + 1 + 1), 4, none⟩ = some (.int .i64 (A.obj n).mark) := hk.cell 4 rfl
        have hz := hk.cast (sS7 _ _ _ _ _)
        have hza := hz.ne
        have hzb := Ne.symm hz.ne
        have z0 : (((((w2.setCell ⟨bx + 1 + 1, 0, none⟩ (.int .i64 (A.obj n).kind)).setCell ⟨bx + 1 + 1, 1, none⟩ (.int .i64 (A.obj n).count)).setCell ⟨bx + 1 + 1, 2, none⟩ (.slice a (A.obj n).slots.length c)).setCell ⟨bx + 1 + 1, 3, none⟩ (.string (A.obj n).text)).setCell ⟨bx + 1 + 1, 4, none⟩ (.int .i64 (A.obj n).mark)).cell? ⟨bx + 1, 0, none⟩ = some (.int .i64 0) := Sat.cell (T := 39) (cs := zobj) hz 0 rfl
        have y0 : (((((w2.setCell ⟨bx + 1 + 1, 0, none⟩ (.int .i64 (A.obj n).kind)).setCell ⟨bx + 1 + 1, 1, none⟩ (.int .i64 (A.obj n).count)).setCell ⟨bx + 1 + 1, 2, none⟩ (.slice a (A.obj n).slots.length c)).setCell ⟨bx + 1 + 1, 3, none⟩ (.string (A.obj n).text)).setCell ⟨bx + 1 + 1, 4, none⟩ (.int .i64 (A.obj n).mark)).frozen? ⟨bx + 1, 0, none⟩ = false := Sat.free (T := 39) (cs := zobj) hz 0
        have z1 : (((((w2.setCell ⟨bx + 1 + 1, 0, none⟩ (.int .i64 (A.obj n).kind)).setCell ⟨bx + 1 + 1, 1, none⟩ (.int .i64 (A.obj n).count)).setCell ⟨bx + 1 + 1, 2, none⟩ (.slice a (A.obj n).slots.length c)).setCell ⟨bx + 1 + 1, 3, none⟩ (.string (A.obj n).text)).setCell ⟨bx + 1 + 1, 4, none⟩ (.int .i64 (A.obj n).mark)).cell? ⟨bx + 1, 1, none⟩ = some (.int .i64 0) := Sat.cell (T := 39) (cs := zobj) hz 1 rfl
        have y1 : (((((w2.setCell ⟨bx + 1 + 1, 0, none⟩ (.int .i64 (A.obj n).kind)).setCell ⟨bx + 1 + 1, 1, none⟩ (.int .i64 (A.obj n).count)).setCell ⟨bx + 1 + 1, 2, none⟩ (.slice a (A.obj n).slots.length c)).setCell ⟨bx + 1 + 1, 3, none⟩ (.string (A.obj n).text)).setCell ⟨bx + 1 + 1, 4, none⟩ (.int .i64 (A.obj n).mark)).frozen? ⟨bx + 1, 1, none⟩ = false := Sat.free (T := 39) (cs := zobj) hz 1
        have z2 : (((((w2.setCell ⟨bx + 1 + 1, 0, none⟩ (.int .i64 (A.obj n).kind)).setCell ⟨bx + 1 + 1, 1, none⟩ (.int .i64 (A.obj n).count)).setCell ⟨bx + 1 + 1, 2, none⟩ (.slice a (A.obj n).slots.length c)).setCell ⟨bx + 1 + 1, 3, none⟩ (.string (A.obj n).text)).setCell ⟨bx + 1 + 1, 4, none⟩ (.int .i64 (A.obj n).mark)).cell? ⟨bx + 1, 2, none⟩ = some (.slice none 0 0) := Sat.cell (T := 39) (cs := zobj) hz 2 rfl
        have y2 : (((((w2.setCell ⟨bx + 1 + 1, 0, none⟩ (.int .i64 (A.obj n).kind)).setCell ⟨bx + 1 + 1, 1, none⟩ (.int .i64 (A.obj n).count)).setCell ⟨bx + 1 + 1, 2, none⟩ (.slice a (A.obj n).slots.length c)).setCell ⟨bx + 1 + 1, 3, none⟩ (.string (A.obj n).text)).setCell ⟨bx + 1 + 1, 4, none⟩ (.int .i64 (A.obj n).mark)).frozen? ⟨bx + 1, 2, none⟩ = false := Sat.free (T := 39) (cs := zobj) hz 2
        have z3 : (((((w2.setCell ⟨bx + 1 + 1, 0, none⟩ (.int .i64 (A.obj n).kind)).setCell ⟨bx + 1 + 1, 1, none⟩ (.int .i64 (A.obj n).count)).setCell ⟨bx + 1 + 1, 2, none⟩ (.slice a (A.obj n).slots.length c)).setCell ⟨bx + 1 + 1, 3, none⟩ (.string (A.obj n).text)).setCell ⟨bx + 1 + 1, 4, none⟩ (.int .i64 (A.obj n).mark)).cell? ⟨bx + 1, 3, none⟩ = some (.string (ByteArray.mk #[])) := Sat.cell (T := 39) (cs := zobj) hz 3 rfl
        have y3 : (((((w2.setCell ⟨bx + 1 + 1, 0, none⟩ (.int .i64 (A.obj n).kind)).setCell ⟨bx + 1 + 1, 1, none⟩ (.int .i64 (A.obj n).count)).setCell ⟨bx + 1 + 1, 2, none⟩ (.slice a (A.obj n).slots.length c)).setCell ⟨bx + 1 + 1, 3, none⟩ (.string (A.obj n).text)).setCell ⟨bx + 1 + 1, 4, none⟩ (.int .i64 (A.obj n).mark)).frozen? ⟨bx + 1, 3, none⟩ = false := Sat.free (T := 39) (cs := zobj) hz 3
        have z4 : (((((w2.setCell ⟨bx + 1 + 1, 0, none⟩ (.int .i64 (A.obj n).kind)).setCell ⟨bx + 1 + 1, 1, none⟩ (.int .i64 (A.obj n).count)).setCell ⟨bx + 1 + 1, 2, none⟩ (.slice a (A.obj n).slots.length c)).setCell ⟨bx + 1 + 1, 3, none⟩ (.string (A.obj n).text)).setCell ⟨bx + 1 + 1, 4, none⟩ (.int .i64 (A.obj n).mark)).cell? ⟨bx + 1, 4, none⟩ = some (.int .i64 0) := Sat.cell (T := 39) (cs := zobj) hz 4 rfl
        have y4 : (((((w2.setCell ⟨bx + 1 + 1, 0, none⟩ (.int .i64 (A.obj n).kind)).setCell ⟨bx + 1 + 1, 1, none⟩ (.int .i64 (A.obj n).count)).setCell ⟨bx + 1 + 1, 2, none⟩ (.slice a (A.obj n).slots.length c)).setCell ⟨bx + 1 + 1, 3, none⟩ (.string (A.obj n).text)).setCell ⟨bx + 1 + 1, 4, none⟩ (.int .i64 (A.obj n).mark)).frozen? ⟨bx + 1, 4, none⟩ = false := Sat.free (T := 39) (cs := zobj) hz 4
        clear d0 d1 s0 s1 d2 hw64 hn hn' h4 h1 h2 h HS
        generalize (((((w2.setCell ⟨bx + 1 + 1, 0, none⟩ (.int .i64 (A.obj n).kind)).setCell ⟨bx + 1 + 1, 1, none⟩ (.int .i64 (A.obj n).count)).setCell ⟨bx + 1 + 1, 2, none⟩ (.slice a (A.obj n).slots.length c)).setCell ⟨bx + 1 + 1, 3, none⟩ (.string (A.obj n).text)).setCell ⟨bx + 1 + 1, 4, none⟩ (.int .i64 (A.obj n).mark)) = wz at *
        go_wp2_with fail
        go_region
        go_wp2_with fail
        have hw := (hz.store (T := 39) (cs := zobj) (i := 0) (.int .i64 (A.obj n).kind) |>.store (i := 1) (.int .i64 (A.obj n).count) |>.store (i := 2) (.slice a (A.obj n).slots.length c) |>.store (i := 3) (.string (A.obj n).text) |>.store (i := 4) (.int .i64 (A.obj n).mark)).drew
        simp only [zobj, List.setIfInBounds_toArray, List.set_cons_zero, List.set_cons_succ] at hw
        refine bodyPost_cell_tmp rfl rfl (x := .bool (decide ((A.obj n).kind = 5))) rfl (load_obj hw) rfl ⟨a, c, rfl, ?_⟩
        · exact (hw.drop.cast (sS8 _ _ _ _ _ _)).drop.drop
    · subst k5
      have hw64 : wrap64 (wrap32 n) = wrap32 n := by unfold wrap64 wrap32; omega
      have hn' : (n != wrap32 n) = true := by
        have : wrap32 n = IntKind.i32.wrap n := by rw [IntKind.wrap_i32]; unfold wrap32; omega
        rw [this]; simpa using fun e => hn e.symm
      have eo : strO A ⟨5, n⟩ = AObj.none := by unfold strO; rw [if_neg (fun x => hn x.2)]
      have ei : strIs A ⟨5, n⟩ = false := by unfold strIs; rw [eo]; rfl
      rw [eo, ei]
      go_enter Try.func74, Try.ntmps74
      try rw [hbx]
      go_wp2_with fail
      refine bodyPost_cell_tmp rfl rfl rfl (load_obj h1) rfl ⟨none, 0, rfl, ?_⟩
      exact (h1.drop.drop.cast (sS3 _ _ _)).nilSlc.cast (sS4 _ _ _ _)
  · have hk5 : (k == 5) = false := by simpa using k5
    have eo : strO A ⟨k, n⟩ = AObj.none := by unfold strO; rw [if_neg (fun x => k5 x.1)]
    have ei : strIs A ⟨k, n⟩ = false := by unfold strIs; rw [eo]; rfl
    rw [eo, ei]
    go_enter Try.func74, Try.ntmps74
    try rw [hbx]
    go_wp2_with fail
    refine bodyPost_cell_tmp rfl rfl rfl (load_obj h1) rfl ⟨none, 0, rfl, ?_⟩
    exact (h1.drop.drop.cast (sS3 _ _ _)).nilSlc.cast (sS4 _ _ _ _)
end Go.Proofs.Ytkpcngcegipalaa.Tw
