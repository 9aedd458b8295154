/- InternOne: the law's small functions: str, works. No condition. -/
import Derived.Test.YtkpcngcegipalaaIOneP
namespace Go.Proofs.Ytkpcngcegipalaa.Tw
set_option linter.unusedVariables false
set_option linter.unusedSimpArgs false
open Go Go.RowKit Go.MapKept

theorem law_str {w0 w : World} {F : HP} (h : Sat w0 w F) (n : Int) :
    Calls Try.prog 24 #[.int .i64 n] w fun e w' => e = .returned (.agg #[.int .i64 5, .int .i64 n]) ∧ Sat w0 w' F := by
  have h1 := h.alloc (.cells #[.int .i64 5, .int .i64 n] 28)
  have h2 := h.alloc (.cells #[.int .i64 0, .int .i64 0] 28)
  have y0 : (w.alloc (.cells #[.int .i64 0, .int .i64 0] 28)).cell? ⟨w.heap.size, 0, none⟩ = some (.int .i64 0) := (Sat.cell (T := 28) (cs := #[.int .i64 0, .int .i64 0]) h2 0 rfl)
  have y1 : (w.alloc (.cells #[.int .i64 0, .int .i64 0] 28)).cell? ⟨w.heap.size, 1, none⟩ = some (.int .i64 0) := (Sat.cell (T := 28) (cs := #[.int .i64 0, .int .i64 0]) h2 1 rfl)
  have yf0 := h2.free 0
  have yf1 := h2.free 1
  go_enter Try.func24, Try.ntmps24
  go_wp2_with fail
  refine bodyPost_cell rfl rfl (v := .agg #[.int .i64 5, .int .i64 n]) ?_ rfl ⟨rfl, ?_⟩
  · first
      | exact load_val h1
      | exact load_val ((h2.store (i := 0) (.int .i64 5)).store (i := 1) (.int .i64 n))
  · first
      | exact h1.drop
      | exact ((h2.store (i := 0) (.int .i64 5)).store (i := 1) (.int .i64 n)).drop

theorem run_count (w : World) (v0 v1 v2 v3 v4 : Value) : (Instr.field 39 (.agg #[v0, v1, v2, v3, v4]) 1).run Try.prog w = .ok v1 w := by kernel_rfl
def ta : ByteArray := ByteArray.mk #[97]
def tb : ByteArray := ByteArray.mk #[98]
theorem sW1 (S H F : HP) : S * (H * F) = H * (S * F) := by ac_rfl
theorem sW2 (U V X H R : HP) : U * (V * (X * (H * R))) = H * (U * (V * (X * R))) := by ac_rfl
theorem sW3 (U V X R : HP) : U * (V * (X * R)) = V * (U * (X * R)) := by ac_rfl
theorem sW4 (U V X R : HP) : U * (V * (X * R)) = X * (U * (V * R)) := by ac_rfl
theorem sW5 (H C U V X R : HP) : H * (C * (U * (V * (X * R)))) = U * (V * (X * (H * (C * R)))) := by ac_rfl
set_option maxRecDepth 100000 in
set_option maxHeartbeats 4000000 in
theorem law_works {w0 w : World} {F : HP} (h : Sat w0 w F) :
    Calls Try.prog 17 #[] w fun e w' => e = .returned (.bool true) ∧ Sat w0 w' F := by
  obtain ⟨d1, n1, A1, v1, m1, k1⟩ := Asked.empty.step (by simp) (t := ta) (by decide)
  obtain ⟨d2, n2, A2, v2, m2, k2⟩ := A1.step (by simp) (t := tb) (by decide)
  obtain ⟨d3, n3, A3, v3, m3, k3⟩ := A2.step (by simp) (t := ta) (by decide)
  have e1 : n1 = 1 := by have := A1.hM _ _ m1; have := A1.hd; simp at this; omega
  subst e1
  have e2 : n2 = 2 := by
    have h1 := A2.hM _ _ m2; have h2 := A2.hd; simp at h2
    have h3 := A2.same m2 ((k2 ta (by simp)).trans m1)
    have h4 : decide (tb = ta) = false := by decide
    rw [h4] at h3; simp at h3
    omega
  subst e2
  have e3 : n3 = 1 := by
    have h1 := (k3 ta (by simp)).trans ((k2 ta (by simp)).trans m1)
    rw [m3] at h1; cases h1; rfl
  subst e3
  have o1 := (A3.objOf (by simp) m3).2
  rw [show (cntL ([] ++ [ta] ++ [tb] ++ [ta]) ta) = 2 by decide] at o1
  have K : Knows (fun _ => Option.none) F := Knows.none F
  have q0 : ∀ {w : World}, Sat w0 w (heapR (fun _ => Option.none) 0 AHeap.empty * F) → True := fun _ => trivial
  clear q0
  have V1 := Lib.hid v1
  have V2 := Lib.hid v2
  have V3 := Lib.hid v3
  have P0 := Lib.hid Asked.empty
  have P1 := Lib.hid A1
  have P2 := Lib.hid A2
  have O1 := Lib.hid o1
  clear v1 v2 v3 A1 A2 A3 m1 m2 m3 k1 k2 k3 o1
  go_enter Try.func17, Try.ntmps17
  go_wp2_with fail
  refine (heap_New h).mono ?_
  rintro e w1 ⟨p, rfl, h1⟩
  have h1 := h1 (fun _ => Option.none)
  go_wp2_with fail
  refine (str_New h1 p).mono ?_
  rintro e w2 ⟨s, rfl, h2⟩
  clear h1 h
  go_wp2_with fail
  refine (str_Of ta K (h2.cast (sW1 _ _ _)) (P0.out.slots (by simp) _) (by simp [AHeap.empty]) (P0.out.wraps (by simp) _)).mono ?_
  rw [V1.out]
  rintro e w3 ⟨rfl, h3⟩
  clear h2
  go_wp2_with fail
  refine (str_Of tb K h3 (P1.out.slots (by simp) _) (by rw [P1.out.hT, List.length_replicate]; have := P1.out.hd; simp at this; omega) (P1.out.wraps (by simp) _)).mono ?_
  rw [V2.out]
  rintro e w4 ⟨rfl, h4⟩
  clear h3
  go_wp2_with fail
  refine (str_Of ta K h4 (P2.out.slots (by simp) _) (by rw [P2.out.hT, List.length_replicate]; have := P2.out.hd; simp at this; omega) (P2.out.wraps (by simp) _)).mono ?_
  rw [V3.out]
  rintro e w5 ⟨rfl, h5⟩
  clear h4 P0 P1 P2 V1 V2 V3
  generalize ((AHeap.empty.of (fun _ => Option.none) ta).of (ofM AHeap.empty (fun _ => Option.none) ta) tb).of (ofM (AHeap.empty.of (fun _ => Option.none) ta) (ofM AHeap.empty (fun _ => Option.none) ta) tb) ta = A at *
  generalize ofM ((AHeap.empty.of (fun _ => Option.none) ta).of (ofM AHeap.empty (fun _ => Option.none) ta) tb) (ofM (AHeap.empty.of (fun _ => Option.none) ta) (ofM AHeap.empty (fun _ => Option.none) ta) tb) ta = M at *
  go_wp2_with fail
  have h6 := ((h5.alloc (.cells #[.int .i64 5, .int .i64 1] 28)).alloc (.cells #[.int .i64 5, .int .i64 2] 28)).alloc (.cells #[.int .i64 5, .int .i64 1] 28)
  rw [size_alloc, size_alloc] at h6
  generalize w5.heap.size = q at *
  have hPP : ∀ {w' : World}, Sat w0 w' (pt (q + 1 + 1) (.cells #[.int .i64 5, .int .i64 1] 28) * (pt (q + 1) (.cells #[.int .i64 5, .int .i64 2] 28) * (pt q (.cells #[.int .i64 5, .int .i64 1] 28) * (heapR (fun _ => Option.none) p A * (strR s p M * F))))) →
      w'.cell? ⟨q, 0, none⟩ = some (.int .i64 5) ∧ w'.cell? ⟨q, 1, none⟩ = some (.int .i64 1) ∧ w'.cell? ⟨q + 1, 0, none⟩ = some (.int .i64 5) ∧ w'.cell? ⟨q + 1, 1, none⟩ = some (.int .i64 2) ∧ w'.cell? ⟨q + 1 + 1, 0, none⟩ = some (.int .i64 5) ∧ w'.cell? ⟨q + 1 + 1, 1, none⟩ = some (.int .i64 1) := by
    intro w' hx
    have hy := hx.cast (sW3 _ _ _ _)
    have hz := hx.cast (sW4 _ _ _ _)
    exact ⟨Sat.cell (T := 28) (cs := #[.int .i64 5, .int .i64 1]) hz 0 rfl, Sat.cell (T := 28) (cs := #[.int .i64 5, .int .i64 1]) hz 1 rfl, Sat.cell (T := 28) (cs := #[.int .i64 5, .int .i64 2]) hy 0 rfl, Sat.cell (T := 28) (cs := #[.int .i64 5, .int .i64 2]) hy 1 rfl, Sat.cell (T := 28) (cs := #[.int .i64 5, .int .i64 1]) hx 0 rfl, Sat.cell (T := 28) (cs := #[.int .i64 5, .int .i64 1]) hx 1 rfl⟩
  have HPP := @hPP
  clear hPP h5
  have H6 := h6.drew
  have hrc := run_count
  have hcells := HPP H6
  go_region_held3 (fun w' => w'.cell? ⟨q, 0, none⟩ = some (.int .i64 5) ∧ w'.cell? ⟨q, 1, none⟩ = some (.int .i64 1) ∧ w'.cell? ⟨q + 1, 0, none⟩ = some (.int .i64 5) ∧ w'.cell? ⟨q + 1, 1, none⟩ = some (.int .i64 2) ∧ w'.cell? ⟨q + 1 + 1, 0, none⟩ = some (.int .i64 5) ∧ w'.cell? ⟨q + 1 + 1, 1, none⟩ = some (.int .i64 1)) (assumption) (first
    | (go_at_call 24; first | (refine (law_str hx _).mono ?_; rintro e w' ⟨rfl, hx⟩; have hcc := HPP hx) | (refine (law_str H6 _).mono ?_; rintro e w' ⟨rfl, hx⟩; have hcc := HPP hx))
    | (go_at_call 23; refine (heap_Obj (hx.cast (sW2 _ _ _ _ _)) 1 (by rw [O1.out]; simp)).mono ?_; unfold objV; rw [O1.out]; rintro e w' ⟨a, c, rfl, hv⟩; have hx := hv.drop2.cast (sW2 _ _ _ _ _).symm; have hcc := HPP hx))
  go_wp2_with fail
  go_ret
  exact ⟨rfl, hx.drop.drop.drop.drop.drop⟩
end Go.Proofs.Ytkpcngcegipalaa.Tw
