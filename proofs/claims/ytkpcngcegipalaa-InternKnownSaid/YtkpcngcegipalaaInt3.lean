/- The strings: Text, Of. No condition. -/
import Derived.Test.YtkpcngcegipalaaInt2
namespace Go.Proofs.Ytkpcngcegipalaa.Tw
set_option linter.unusedVariables false
set_option linter.unusedSimpArgs false
open Go Go.RowKit Go.MapKept

theorem sT1 (V H S F : HP) : V * (H * (S * F)) = H * (S * (V * F)) := by ac_rfl
theorem sT2 (N H S C V F : HP) : N * (H * (S * (C * (V * F)))) = C * (V * (N * (H * (S * F)))) := by ac_rfl
theorem str_Text {w0 w : World} {m : Hp} {s p : Nat} {A : AHeap} {M : ByteArray → Option Int} {F : HP} (v : AVal)
    (h : Sat w0 w (heapR m p A * (strR s p M * F))) (hB : (strO A v).slots.length ≤ 2000000000) :
    Calls Try.prog 22 #[.pointer (some ⟨s, 0, none⟩), .agg #[.int .i64 v.kind, .int .i64 v.n]] w fun e w' => e = .returned (.tuple #[.string (if strIs A v then (strO A v).text else ByteArray.mk #[]), .bool (strIs A v)]) ∧
      Sat w0 w' (heapR m p A * (strR s p M * F)) := by
  obtain ⟨k, n⟩ := v
  have h1 := h.alloc (.cells #[.int .i64 k, .int .i64 n] 28)
  generalize hbx : w.heap.size = bx at *
  have d0 : (w.alloc (.cells #[.int .i64 k, .int .i64 n] 28)).cell? ⟨bx, 0, none⟩ = some (.int .i64 k) := Sat.cell (T := 28) (cs := #[.int .i64 k, .int .i64 n]) h1 0 rfl
  have d1 : (w.alloc (.cells #[.int .i64 k, .int .i64 n] 28)).cell? ⟨bx, 1, none⟩ = some (.int .i64 n) := Sat.cell (T := 28) (cs := #[.int .i64 k, .int .i64 n]) h1 1 rfl
  have hS := str_string (h1.cast (sT1 _ _ _ _)) ⟨k, n⟩ hB
  have HS := Lib.hid hS
  generalize hO : strO A ⟨k, n⟩ = o at *
  generalize hI : strIs A ⟨k, n⟩ = b at *
  generalize hr : (if b = true then o.text else ByteArray.mk #[]) = res
  have HR := Lib.hid hr
  clear hS hB h1 hO hI hr
  go_enter Try.func22, Try.ntmps22
  try rw [hbx]
  go_wp2_with fail
  refine HS.out.mono ?_
  unfold objV
  rintro e w2 ⟨a, c, rfl, h2⟩
  clear HS
  have h4 := h2.alloc (.cells #[.int .i64 o.kind, .int .i64 o.count, .slice a o.slots.length c, .string o.text, .int .i64 o.mark] 39)
  generalize hob : w2.heap.size = ob at *
  have o3 : (w2.alloc (.cells #[.int .i64 o.kind, .int .i64 o.count, .slice a o.slots.length c, .string o.text, .int .i64 o.mark] 39)).cell? ⟨ob, 3, none⟩ = some (.string o.text) := Sat.cell (T := 39) (cs := #[.int .i64 o.kind, .int .i64 o.count, .slice a o.slots.length c, .string o.text, .int .i64 o.mark]) h4 3 rfl
  have hfin := (h4.cast (sT2 _ _ _ _ _ _)).drop.drop.drop
  clear h h2 h4
  cases b with
  | false =>
    go_wp2_with fail
    go_ret2
    exact ⟨by rw [← HR.out]; rfl, hfin⟩
  | true =>
    go_wp2_with fail
    go_ret2
    exact ⟨by rw [← HR.out]; rfl, hfin⟩

/-- a text's string, held once more: found; made; none -/
def AHeap.of (A : AHeap) (M : ByteArray → Option Int) (t : ByteArray) : AHeap := if findOk A M t then A.keep ⟨5, findN M t⟩ else if makeOk 5 t then A.make 5 t else A
def ofM (A : AHeap) (M : ByteArray → Option Int) (t : ByteArray) : ByteArray → Option Int := if findOk A M t then M else if makeOk 5 t then fun u => if u = t then some A.fresh else M u else M
def ofV (A : AHeap) (M : ByteArray → Option Int) (t : ByteArray) : AVal := if findOk A M t then ⟨5, findN M t⟩ else if makeOk 5 t then ⟨5, A.fresh⟩ else ⟨0, 0⟩

theorem sU1 (U V H S F : HP) : U * (V * (H * (S * F))) = H * (U * (V * (S * F))) := by ac_rfl
theorem sU2 (V H S F : HP) : V * (H * (S * F)) = H * (S * (V * F)) := by ac_rfl
theorem sU3 (H S V F : HP) : H * (S * (V * F)) = V * (H * (S * F)) := by ac_rfl
theorem sU4 (U V H S F : HP) : U * (V * (H * (S * F))) = V * (U * (H * (S * F))) := by ac_rfl
theorem sU5 (U V H S F : HP) : U * (V * (H * (S * F))) = S * (U * (V * (H * F))) := by ac_rfl
theorem sU6 (H U V S F : HP) : H * (U * (V * (S * F))) = U * (V * (H * (S * F))) := by ac_rfl
set_option maxRecDepth 100000 in
set_option maxHeartbeats 2000000 in
theorem str_Of_found {w0 w : World} {m : Hp} {s p : Nat} {A : AHeap} {M : ByteArray → Option Int} {F : HP} (t : ByteArray) (K : Knows m F)
    (h : Sat w0 w (heapR m p A * (strR s p M * F))) (hB : (strO A ⟨5, findN M t⟩).slots.length ≤ 2000000000) (hf : findOk A M t = true) (hW : ∀ o, cntO A ⟨5, findN M t⟩ = some o → IntKind.i64.wrap (o.count + 1) = o.count + 1) :
    Calls Try.prog 18 #[.pointer (some ⟨s, 0, none⟩), .string t] w fun e w' => e = .returned (.agg #[.int .i64 5, .int .i64 (findN M t)]) ∧
      Sat w0 w' (heapR m p (A.keep ⟨5, findN M t⟩) * (strR s p M * F)) := by
  have h1 := h.alloc (.cells #[.int .i64 0, .int .i64 0] 28)
  have hF := str_Find t (h1.cast (sU2 _ _ _ _)) hB
  rw [hf] at hF
  have hfv : foundV (findN M t) true = .agg #[.int .i64 5, .int .i64 (findN M t)] := rfl
  rw [hfv] at hF
  have HF := Lib.hid hF
  have HW := Lib.hid hW
  generalize hbx : w.heap.size = bx at *
  generalize findN M t = n at *
  clear hF h h1 hf hB hW hfv
  go_enter Try.func18, Try.ntmps18
  try rw [hbx]
  go_wp2_with fail
  refine HF.out.mono ?_
  rintro e w2 ⟨rfl, h2⟩
  have h3 := (h2.cast (sU3 _ _ _ _)).alloc (.cells #[.int .i64 5, .int .i64 n] 28)
  generalize hob : w2.heap.size = ob at *
  have u0 : (w2.alloc (.cells #[.int .i64 5, .int .i64 n] 28)).cell? ⟨ob, 0, none⟩ = some (.int .i64 5) := Sat.cell (T := 28) (cs := #[.int .i64 5, .int .i64 n]) h3 0 rfl
  have u1 : (w2.alloc (.cells #[.int .i64 5, .int .i64 n] 28)).cell? ⟨ob, 1, none⟩ = some (.int .i64 n) := Sat.cell (T := 28) (cs := #[.int .i64 5, .int .i64 n]) h3 1 rfl
  obtain ⟨mb, L, hL, hs⟩ := (h3.cast (sU5 _ _ _ _ _)).openStr
  have s0 : (w2.alloc (.cells #[.int .i64 5, .int .i64 n] 28)).cell? ⟨s, 0, none⟩ = some (.pointer (some ⟨p, 0, none⟩)) := hs.cell 0 rfl
  have hK := heap_Keep (h3.cast (sU1 _ _ _ _ _)).drew K.left.left.left ⟨5, n⟩ HW.out
  have HK := Lib.hid hK
  clear hs hL hK h3 h2
  go_wp2_with fail
  refine wp_region_tail 5 (by kernel_rfl) (by kernel_rfl) ?_
  simp only [List.take_succ_cons, List.take_zero, List.drop_succ_cons, List.drop_zero]
  iterate 5 still_step
  refine wpStill_nil ?_
  go_wp2_with fail
  refine HK.out.mono ?_
  rintro e w3 ⟨rfl, h4⟩
  have h5 := h4.cast (sU6 _ _ _ _ _)
  have x0 : w3.cell? ⟨ob, 0, none⟩ = some (.int .i64 5) := Sat.cell (T := 28) (cs := #[.int .i64 5, .int .i64 n]) h5 0 rfl
  have x1 : w3.cell? ⟨ob, 1, none⟩ = some (.int .i64 n) := Sat.cell (T := 28) (cs := #[.int .i64 5, .int .i64 n]) h5 1 rfl
  have h6 := h5.cast (sU4 _ _ _ _ _)
  have y0 : w3.cell? ⟨bx, 0, none⟩ = some (.int .i64 0) := Sat.cell (T := 28) (cs := #[.int .i64 0, .int .i64 0]) h6 0 rfl
  have y1 : w3.cell? ⟨bx, 1, none⟩ = some (.int .i64 0) := Sat.cell (T := 28) (cs := #[.int .i64 0, .int .i64 0]) h6 1 rfl
  have yf0 : w3.frozen? ⟨bx, 0, none⟩ = false := Sat.free (T := 28) (cs := #[.int .i64 0, .int .i64 0]) h6 0
  have yf1 : w3.frozen? ⟨bx, 1, none⟩ = false := Sat.free (T := 28) (cs := #[.int .i64 0, .int .i64 0]) h6 1
  have h7 := (h6.store (T := 28) (cs := #[.int .i64 0, .int .i64 0]) (i := 0) (.int .i64 5)).store (i := 1) (.int .i64 n)
  simp only [List.setIfInBounds_toArray, List.set_cons_zero, List.set_cons_succ] at h7
  clear HK h4 h5 u0 u1 s0
  go_wp2_with fail
  refine bodyPost_cell rfl rfl (load_val h7) rfl ⟨rfl, h7.drop.drop⟩

theorem sU7 (H U V S F : HP) : H * (U * (V * (S * F))) = U * (V * (S * (H * F))) := by ac_rfl
theorem sU8 (Z U V S H F : HP) : Z * (U * (V * (S * (H * F)))) = S * (Z * (U * (V * (H * F)))) := by ac_rfl
theorem sU9 (mp rw Z U V R : HP) : mp * (rw * (Z * (U * (V * R)))) = V * (Z * (rw * (mp * (U * R)))) := by ac_rfl
theorem sU10 (mp rw Z R : HP) : mp * (rw * (Z * R)) = Z * (mp * (rw * R)) := by ac_rfl
theorem sU12 (H rw mp F : HP) : H * (rw * (mp * F)) = rw * (mp * (H * F)) := by ac_rfl
theorem sU11 (rw mp U H F : HP) : rw * (mp * (U * (H * F))) = U * (H * (rw * (mp * F))) := by ac_rfl
set_option maxRecDepth 100000 in
set_option maxHeartbeats 2000000 in
theorem str_Of_made {w0 w : World} {m : Hp} {s p : Nat} {A : AHeap} {M : ByteArray → Option Int} {F : HP} (t : ByteArray)
    (h : Sat w0 w (heapR m p A * (strR s p M * F))) (hB : (strO A ⟨5, findN M t⟩).slots.length ≤ 2000000000) (hf : findOk A M t = false) (hT : A.T.length < 1000000000) (hok : makeOk 5 t = true) :
    Calls Try.prog 18 #[.pointer (some ⟨s, 0, none⟩), .string t] w fun e w' => e = .returned (.agg #[.int .i64 5, .int .i64 A.fresh]) ∧
      Sat w0 w' (heapR m p (A.make 5 t) * (strR s p (fun u => if u = t then some A.fresh else M u) * F)) := by
  have h1 := h.alloc (.cells #[.int .i64 0, .int .i64 0] 28)
  have hF := str_Find t (h1.cast (sU2 _ _ _ _)) hB
  rw [hf] at hF
  have hfv : foundV (findN M t) false = .agg #[.int .i64 0, .int .i64 0] := rfl
  rw [hfv] at hF
  have HF := Lib.hid hF
  have HT := Lib.hid hT
  have HOK := Lib.hid hok
  generalize hbx : w.heap.size = bx at *
  clear hF h h1 hf hB hT hfv hok
  go_enter Try.func18, Try.ntmps18
  try rw [hbx]
  go_wp2_with fail
  refine HF.out.mono ?_
  rintro e w2 ⟨rfl, h2⟩
  have h3 := (h2.cast (sU3 _ _ _ _)).alloc (.cells #[.int .i64 0, .int .i64 0] 28)
  generalize hob : w2.heap.size = ob at *
  obtain ⟨mb, L, hL, hs⟩ := (h3.cast (sU5 _ _ _ _ _)).openStr
  have s0 : (w2.alloc (.cells #[.int .i64 0, .int .i64 0] 28)).cell? ⟨s, 0, none⟩ = some (.pointer (some ⟨p, 0, none⟩)) := hs.cell 0 rfl
  have hM := heap_Make (h3.cast (sU1 _ _ _ _ _)) HT.out 5 t HOK.out
  have HM := Lib.hid hM
  clear hs hL hM h3 h2
  go_wp2_with fail
  refine HM.out.mono ?_
  rintro e w3 ⟨rfl, h4⟩
  clear HM s0
  have h5 := (h4.cast (sU7 _ _ _ _ _)).alloc (.cells #[.int .i64 5, .int .i64 A.fresh] 28)
  generalize hoc : w3.heap.size = oc at *
  obtain ⟨mb, L, hL, hs⟩ := (h5.cast (sU8 _ _ _ _ _ _)).openStr
  have s1 : (w3.alloc (.cells #[.int .i64 5, .int .i64 A.fresh] 28)).cell? ⟨s, 1, none⟩ = some (.map (some mb)) := hs.cell 1 rfl
  have z0 : (w3.alloc (.cells #[.int .i64 5, .int .i64 A.fresh] 28)).cell? ⟨oc, 0, none⟩ = some (.int .i64 5) := Sat.cell (T := 28) (cs := #[.int .i64 5, .int .i64 A.fresh]) h5 0 rfl
  have z1 : (w3.alloc (.cells #[.int .i64 5, .int .i64 A.fresh] 28)).cell? ⟨oc, 1, none⟩ = some (.int .i64 A.fresh) := Sat.cell (T := 28) (cs := #[.int .i64 5, .int .i64 A.fresh]) h5 1 rfl
  have h6 := (hs.cast (mul_left_comm _ _ _)).drew
  have HL := Lib.hid hL
  clear hL hs h5 h4
  go_wp2_with fail
  refine wp_region_tail 7 (by kernel_rfl) (by kernel_rfl) ?_
  simp only [List.take_succ_cons, List.take_zero, List.drop_succ_cons, List.drop_zero]
  iterate 7 still_step
  refine wpStill_nil ?_
  go_wp2_with (at_mapUpdate; refine wpList_mapUpdate rfl _ _ _ _ rfl keys_string Try.underlying121 Try.underlying9 mb L rfl h6 _ rfl (.int .i64 A.fresh) rfl ?_; intro w4 h7; have hz := h7.cast (sU10 _ _ _ _); have x0 : w4.cell? ⟨oc, 0, none⟩ = some (.int .i64 5) := (Sat.cell (T := 28) (cs := #[.int .i64 5, .int .i64 A.fresh]) hz 0 rfl); have x1 : w4.cell? ⟨oc, 1, none⟩ = some (.int .i64 A.fresh) := (Sat.cell (T := 28) (cs := #[.int .i64 5, .int .i64 A.fresh]) hz 1 rfl); have hy := h7.cast (sU9 _ _ _ _ _ _); have y0 : w4.cell? ⟨bx, 0, none⟩ = some (.int .i64 0) := (Sat.cell (T := 28) (cs := #[.int .i64 0, .int .i64 0]) hy 0 rfl); have y1 : w4.cell? ⟨bx, 1, none⟩ = some (.int .i64 0) := (Sat.cell (T := 28) (cs := #[.int .i64 0, .int .i64 0]) hy 1 rfl); have yf0 : w4.frozen? ⟨bx, 0, none⟩ = false := Sat.free (T := 28) (cs := #[.int .i64 0, .int .i64 0]) hy 0; have yf1 : w4.frozen? ⟨bx, 1, none⟩ = false := Sat.free (T := 28) (cs := #[.int .i64 0, .int .i64 0]) hy 1)
  have h8 := (hy.store (T := 28) (cs := #[.int .i64 0, .int .i64 0]) (i := 0) (.int .i64 5)).store (i := 1) (.int .i64 A.fresh)
  simp only [List.setIfInBounds_toArray, List.set_cons_zero, List.set_cons_succ] at h8
  refine bodyPost_cell rfl rfl (load_val h8) rfl ⟨rfl, ?_⟩
  have h9 := (h8.drop.drop.cast (sU11 _ _ _ _ _)).drop
  refine Sat.cast (Sat.shutStr (M := fun u => if u = t then some A.fresh else M u) (mb := mb) (L := mset L t (.int .i64 A.fresh)) ?_ (h9.cast (sU12 _ _ _ _))) (mul_left_comm _ _ _)
  intro u
  rw [mget_mset, HL.out]
  by_cases e : u = t <;> simp [e]
set_option maxRecDepth 100000 in
set_option maxHeartbeats 2000000 in
theorem str_Of_no {w0 w : World} {m : Hp} {s p : Nat} {A : AHeap} {M : ByteArray → Option Int} {F : HP} (t : ByteArray)
    (h : Sat w0 w (heapR m p A * (strR s p M * F))) (hB : (strO A ⟨5, findN M t⟩).slots.length ≤ 2000000000) (hf : findOk A M t = false) (hok : makeOk 5 t = false) :
    Calls Try.prog 18 #[.pointer (some ⟨s, 0, none⟩), .string t] w fun e w' => e = .returned (.agg #[.int .i64 0, .int .i64 0]) ∧
      Sat w0 w' (heapR m p A * (strR s p M * F)) := by
  have h1 := h.alloc (.cells #[.int .i64 0, .int .i64 0] 28)
  have hF := str_Find t (h1.cast (sU2 _ _ _ _)) hB
  rw [hf] at hF
  have hfv : foundV (findN M t) false = .agg #[.int .i64 0, .int .i64 0] := rfl
  rw [hfv] at hF
  have HF := Lib.hid hF
  have HOK := Lib.hid hok
  generalize hbx : w.heap.size = bx at *
  clear hF h h1 hf hB hfv hok
  go_enter Try.func18, Try.ntmps18
  try rw [hbx]
  go_wp2_with fail
  refine HF.out.mono ?_
  rintro e w2 ⟨rfl, h2⟩
  have h3 := (h2.cast (sU3 _ _ _ _)).alloc (.cells #[.int .i64 0, .int .i64 0] 28)
  generalize hob : w2.heap.size = ob at *
  obtain ⟨mb, L, hL, hs⟩ := (h3.cast (sU5 _ _ _ _ _)).openStr
  have s0 : (w2.alloc (.cells #[.int .i64 0, .int .i64 0] 28)).cell? ⟨s, 0, none⟩ = some (.pointer (some ⟨p, 0, none⟩)) := hs.cell 0 rfl
  have hM := heap_Make_no h3 (some ⟨p, 0, none⟩) 5 t (.inr HOK.out)
  have HM := Lib.hid hM
  clear hs hL hM h3 h2
  go_wp2_with fail
  refine HM.out.mono ?_
  rintro e w3 ⟨rfl, h4⟩
  clear HM s0
  have h5 := (h4.cast (sU4 _ _ _ _ _)).alloc (.cells #[.int .i64 0, .int .i64 0] 28)
  generalize hoc : w3.heap.size = oc at *
  have W3Z0 : (w3.alloc (.cells #[.int .i64 0, .int .i64 0] 28)).cell? ⟨oc, 0, none⟩ = some (.int .i64 0) := Sat.cell (T := 28) (cs := #[.int .i64 0, .int .i64 0]) h5 0 rfl
  have W3Z1 : (w3.alloc (.cells #[.int .i64 0, .int .i64 0] 28)).cell? ⟨oc, 1, none⟩ = some (.int .i64 0) := Sat.cell (T := 28) (cs := #[.int .i64 0, .int .i64 0]) h5 1 rfl
  have hy := h5.cast (mul_left_comm _ _ _)
  have y0 : (w3.alloc (.cells #[.int .i64 0, .int .i64 0] 28)).cell? ⟨bx, 0, none⟩ = some (.int .i64 0) := (Sat.cell (T := 28) (cs := #[.int .i64 0, .int .i64 0]) hy 0 rfl)
  have y1 : (w3.alloc (.cells #[.int .i64 0, .int .i64 0] 28)).cell? ⟨bx, 1, none⟩ = some (.int .i64 0) := (Sat.cell (T := 28) (cs := #[.int .i64 0, .int .i64 0]) hy 1 rfl)
  have yf0 : (w3.alloc (.cells #[.int .i64 0, .int .i64 0] 28)).frozen? ⟨bx, 0, none⟩ = false := Sat.free (T := 28) (cs := #[.int .i64 0, .int .i64 0]) hy 0
  have yf1 : (w3.alloc (.cells #[.int .i64 0, .int .i64 0] 28)).frozen? ⟨bx, 1, none⟩ = false := Sat.free (T := 28) (cs := #[.int .i64 0, .int .i64 0]) hy 1
  have h8 := (hy.store (T := 28) (cs := #[.int .i64 0, .int .i64 0]) (i := 0) (.int .i64 0)).store (i := 1) (.int .i64 0)
  simp only [List.setIfInBounds_toArray, List.set_cons_zero, List.set_cons_succ] at h8
  go_wp2_with fail
  refine bodyPost_cell rfl rfl (load_val h8) rfl ⟨rfl, h8.drop.drop.drop⟩

theorem str_Of {w0 w : World} {m : Hp} {s p : Nat} {A : AHeap} {M : ByteArray → Option Int} {F : HP} (t : ByteArray) (K : Knows m F)
    (h : Sat w0 w (heapR m p A * (strR s p M * F))) (hB : (strO A ⟨5, findN M t⟩).slots.length ≤ 2000000000) (hT : A.T.length < 1000000000) (hW : ∀ o, cntO A ⟨5, findN M t⟩ = some o → IntKind.i64.wrap (o.count + 1) = o.count + 1) :
    Calls Try.prog 18 #[.pointer (some ⟨s, 0, none⟩), .string t] w fun e w' => e = .returned (.agg #[.int .i64 (ofV A M t).kind, .int .i64 (ofV A M t).n]) ∧
      Sat w0 w' (heapR m p (A.of M t) * (strR s p (ofM A M t) * F)) := by
  unfold ofV AHeap.of ofM
  cases hf : findOk A M t with
  | true => exact str_Of_found t K h hB hf hW
  | false =>
    cases hk : makeOk 5 t with
    | true => exact str_Of_made t h hB hf hT hk
    | false => exact str_Of_no t h hB hf hk
end Go.Proofs.Ytkpcngcegipalaa.Tw
