/- drain: where there is nothing to do. No condition. -/
import Derived.Test.YtkpcngcegipalaaDr7
namespace Go.Proofs.Ytkpcngcegipalaa.Tw
set_option linter.unusedVariables false
set_option linter.unusedSimpArgs false
open Go Go.RowKit Go.MapKept
attribute [local go_sem] Oper.semAt_some

/-- a heap (or none) whose queue is empty -/
def Idle (w0 : World) (ptr : Option Addr) (R : HP) : Prop :=
  ∀ W G, Sat w0 W (R * G) → Calls Try.prog 35 #[.pointer ptr] W fun e w' => ∃ a c, e = .returned (.slice a 0 c) ∧ Sat w0 w' (R * G)
def idR (ptr : Option Addr) (hb : Nat) (R : HP) : HP := pt hb (.cells #[.pointer ptr] 22 (0, 0)) * R
def IdInv (w0 : World) (ptr : Option Addr) (hb : Nat) (R : HP) (J : List (Int × Nat) → HP) (F : HP) (lid : Nat) (f : Nat) (a : Act) (W : World) : Prop :=
  ∃ (qa : Option Addr) (qc : Nat) (u4 u5 u6 u7 u8 u9 u10 u11 u12 u13 u14 u15 u16 u17 u18 u19 u20 u21 u22 u23 u24 u25 u26 u27 u28 u29 u30 u31 u32 u33 : Value),
    a = DIt (.func (.yield lid) #[] #[]) (.pointer (some ⟨hb, 0, none⟩)) (.slice qa 0 qc) u4 u5 u6 u7 u8 u9 u10 u11 u12 u13 u14 u15 u16 u17 u18 u19 u20 u21 u22 u23 u24 u25 u26 u27 u28 u29 u30 u31 u32 u33 ∧ Sat w0 W (J [] * (idR ptr hb R * F))
section
variable {w0 w : World} {ptr : Option Addr} {R F : HP}
set_option maxRecDepth 100000 in
set_option maxHeartbeats 4000000 in
theorem idle_seq {M : Nat} (hI : Idle w0 ptr R) (hb : Nat) :
    SeqS w0 (M + 2) Try.prog 134 #[.pointer (some ⟨hb, 0, none⟩)] stEnc (fun _ => idR ptr hb R) (fun _ _ => False) (fun xs => xs = []) (fun _ => True) := by
  intro lid J Jx W F hY hs
  show CallsIn Fence.wide (M + 2) Try.prog 134 #[.func (.yield lid) #[] #[], .pointer (some ⟨hb, 0, none⟩)] W (DPost w0 J Jx (fun _ => idR ptr hb R) F (fun xs => xs = []) (fun _ => True))
  have hs : Sat w0 W (J [] * (idR ptr hb R * F)) := hs
  have h' : Sat w0 W (pt hb (.cells #[.pointer ptr] 22 (0, 0)) * (R * (J [] * F))) := hs.cast (by unfold idR; ac_rfl)
  have c0 : W.cell? ⟨hb, 0, none⟩ = some (.pointer ptr) := Sat.cell (T := 22) (cs := #[.pointer ptr]) h' 0 rfl
  have HQ := Lib.hid (callsIn_wide (n := M + 1) |>.2 (hI W _ h'.p2))
  clear hY h' hs
  refine callsIn_of_wp Try.func134 rfl trivial ?_
  simp only [Try.ntmps134, List.size_toArray, List.length_cons, List.length_nil, Nat.reduceAdd, Nat.reduceSub, Array.replicate_succ, Array.replicate_zero, List.push_toArray, List.append_toArray, List.nil_append, List.cons_append]
  gi_wp2
  refine ⟨trivial, HQ.out.mono ?_⟩
  rintro e w1 ⟨qa, qc, rfl, h2⟩
  have h3 : Sat w0 w1 (J [] * (idR ptr hb R * F)) := h2.cast (by unfold idR; ac_rfl)
  clear HQ c0 h2
  gi_wp2
  refine wpIn_loop_ghost (IdInv w0 ptr hb R J F lid) (f := 0) ⟨qa, qc, _, _, _, _, _, _, _, _, _, _, _, _, _, _, _, _, _, _, _, _, _, _, _, _, _, _, _, _, _, _, rfl, h3⟩ ?_
  rintro f a W2 ⟨qa, qc, u4, u5, u6, u7, u8, u9, u10, u11, u12, u13, u14, u15, u16, u17, u18, u19, u20, u21, u22, u23, u24, u25, u26, u27, u28, u29, u30, u31, u32, u33, rfl, hs⟩
  unfold DIt
  gi_wp2
  go_end0
  exact ⟨⟨_, rfl⟩, .inl ⟨[], rfl, hs⟩⟩
set_option maxRecDepth 100000 in
set_option maxHeartbeats 4000000 in
theorem idle_Drain (hI : Idle w0 ptr R) (n : Int) (hn : 1 ≤ n) (h : Sat w0 w (R * F)) :
    Calls Try.prog 34 #[.pointer ptr, .int .i64 n] w fun e w' => e = .returned (.int .i64 0) ∧ Sat w0 w' (R * F) := by
  rw [← callsIn_wide (n := 6)]
  have h1 : 1 ≤ 6 := by omega
  have ha := ((h.alloc (.cells #[.pointer ptr] 22)).alloc (.cells #[.int .i64 n] 3)).alloc (.cells #[.int .i64 0] 3)
  simp only [World.size_alloc] at ha
  generalize hob : w.heap.size = ob at *
  have c0 : (((w.alloc (.cells #[.pointer ptr] 22)).alloc (.cells #[.int .i64 n] 3)).alloc (.cells #[.int .i64 0] 3)).cell? ⟨ob, 0, none⟩ = some (.pointer ptr) := Sat.cell (T := 22) (cs := #[.pointer ptr]) ha.p3 0 rfl
  have c1 : (((w.alloc (.cells #[.pointer ptr] 22)).alloc (.cells #[.int .i64 n] 3)).alloc (.cells #[.int .i64 0] 3)).cell? ⟨ob + 1, 0, none⟩ = some (.int .i64 n) := Sat.cell (T := 3) (cs := #[.int .i64 n]) ha.p2 0 rfl
  have HN := Lib.hid (callsIn_wide (n := 5) |>.2 (dr_steps ha ptr))
  clear ha h
  have q1 : decide (n < 1) = false := by simp; omega
  refine callsIn_of_wp_marks Try.func34 rfl trivial ?_
  simp only [Try.ntmps34, List.size_toArray, List.length_cons, List.length_nil, Nat.reduceAdd, Nat.reduceSub, Array.replicate_succ, Array.replicate_zero, List.push_toArray, List.append_toArray, List.nil_append, List.cons_append]
  try rw [hob]
  gi_wp2
  refine ⟨trivial, HN.out.mono ?_⟩
  rintro e w1 ⟨hb, rfl, h2⟩
  have h3 : Sat w0 w1 (pt (ob + 1 + 1) (.cells #[.int .i64 0] 3 (0, 0)) * (idR ptr hb R * (pt ob (.cells #[.pointer ptr] 22 (0, 0)) * (pt (ob + 1) (.cells #[.int .i64 n] 3 (0, 0)) * F)))) := h2.cast (by unfold idR; ac_rfl)
  clear h2
  gi_wp2
  refine wpIn_rangeFunc_sep (w0 := w0) (n := 6) h1 (gf := 134) (lb := #[.pointer (some ⟨hb, 0, none⟩)]) rfl (enters_of Try.func134 (by kernel_rfl) rfl)
    (idle_seq (M := 3) hI hb) (fun _ => rfl) (fun _ => pt (ob + 1 + 1) (.cells #[.int .i64 0] 3 (0, 0))) (fun c pre => wh False 1) h3
    (fun x => { tmps := #[.pointer ptr, .int .i64 n, .pointer (some ⟨ob, 0, none⟩), .pointer (some ⟨ob + 1, 0, none⟩), .int .i64 0, .pointer (some ⟨ob + 1 + 1, 0, none⟩), .int .i64 x.1, .func (.func (doId x.2)) #[] #[], .int .i64 n, .bool false, .pointer ptr, .func (.func 134) #[] #[.pointer (some ⟨hb, 0, none⟩)], .int .i64 x.1, .func (.func (doId x.2)) #[] #[], undef, undef, undef, undef, undef, undef, undef, undef, undef, undef], defers := [] }) ?assign ?body ?done ?stop
  case assign =>
    intro l x W K hK
    unfold stEnc
    gi_wp2
    exact hK
  case body =>
    intro lid pre x W G hs hok
    exact hok.elim
  case done =>
    intro D xs W hS hs
    have h5 : Sat w0 W (pt (ob + 1 + 1) (.cells #[.int .i64 0] 3 (0, 0)) * (pt D (.deferred (some [])) * (R * (pt ob (.cells #[.pointer ptr] 22 (0, 0)) * (pt (ob + 1) (.cells #[.int .i64 n] 3 (0, 0)) * (pt hb (.cells #[.pointer ptr] 22 (0, 0)) * F)))))) := hs.cast (by unfold idR; ac_rfl)
    have e1 : W.cell? ⟨ob + 1 + 1, 0, none⟩ = some (.int .i64 0) := Sat.cell (T := 3) (cs := #[.int .i64 0]) h5 0 rfl
    have hK := h5.p2.blk
    have H5 := Lib.hid h5
    clear h5 hs hS
    gi_wp2
    refine ⟨by simp, .inl ⟨_, _, rfl, run_takeDeferred hK, ?_⟩⟩
    refine ⟨_, results_tmp rfl _ _ _, ?_⟩
    have h6 := (H5.out.p2.putObj (.deferred none)).drop.drop
    exact ⟨rfl, h6.p2.drop.p2.drop.p2.drop⟩
  case stop =>
    intro D c2 pre W _ hs
    exact (hs.p2.elim_wh).1.elim
theorem idle_Step (hI : Idle w0 ptr R) (h : Sat w0 w (R * F)) :
    Calls Try.prog 38 #[.pointer ptr] w fun e w' => e = .returned (.bool false) ∧ Sat w0 w' (R * F) := by
  have HC := Lib.hid (idle_Drain hI 1 (by omega) h)
  go_enter Try.func38, Try.ntmps38
  go_wp2_with fail
  refine HC.out.mono ?_
  rintro e w' ⟨rfl, h2⟩
  go_wp2
  go_ret
  exact ⟨rfl, h2⟩
theorem idle_nil : Idle w0 none 1 := by
  intro W G h
  refine (heap_Queue_nil W).mono ?_
  rintro e w' ⟨rfl, rfl⟩
  exact ⟨none, 0, rfl, h⟩
/-- a heap's bare struct -/
def zeroH (p : Nat) : HP := row p 90 #[.pointer none, .map none, .slice none 0 0, .slice none 0 0, .slice none 0 0, .int .i64 0, .nilFunc, .bool false]
theorem zero_Queue {p : Nat} (h : Sat w0 w (zeroH p * F)) : Calls Try.prog 35 #[.pointer (some ⟨p, 0, none⟩)] w fun e w' => ∃ a c, e = .returned (.slice a 0 c) ∧ Sat w0 w' (zeroH p * F) := by
  have h' : Sat w0 w (row p 90 #[.pointer none, .map none, .slice none 0 0, .slice none 0 0, .slice none 0 0, .int .i64 0, .nilFunc, .bool false] * F) := h
  have c2 : w.cell? ⟨p, 2, none⟩ = some (.slice none 0 0) := h'.cell 2 rfl
  have HC := Lib.hid (slices_clone (xs := []) h.nilSlc (by omega) (fun v hv => by cases hv))
  clear h h'
  go_enter Try.func35, Try.ntmps35
  go_wp2_with fail
  refine HC.out.mono ?_
  rintro e w' ⟨a, c, rfl, _, h1⟩
  go_wp2_with fail
  go_ret
  exact ⟨a, c, rfl, h1.drop.drop⟩
theorem idle_zero (p : Nat) : Idle w0 (some ⟨p, 0, none⟩) (zeroH p) := fun W G h => zero_Queue h
theorem pool_Last_nil (h : Sat w0 w F) : Calls Try.prog 95 #[.pointer none] w fun e w' => e = .returned (.int .i64 0) ∧ Sat w0 w' F := by
  go_enter Try.func95, Try.ntmps95
  go_wp2_with fail
  refine (pool_none_nil w).mono ?_
  rintro e w' ⟨rfl, rfl⟩
  go_wp2
  go_ret
  exact ⟨rfl, h⟩
theorem zero_Graph {p : Nat} (h : Sat w0 w (zeroH p * F)) : Calls Try.prog 30 #[.pointer (some ⟨p, 0, none⟩)] w fun e w' => e = .returned (.agg #[.slice none 0 0]) ∧ Sat w0 w' (zeroH p * F) := by
  have h1 := h.alloc (.cells #[.slice none 0 0] 64)
  have h2 := h1.alloc (.cells #[.slice none 0 0] 64)
  rw [size_alloc] at h2
  have h' : Sat w0 _ (row p 90 #[.pointer none, .map none, .slice none 0 0, .slice none 0 0, .slice none 0 0, .int .i64 0, .nilFunc, .bool false] * _) := h2.p3
  have c0 : ((w.alloc (.cells #[.slice none 0 0] 64)).alloc (.cells #[.slice none 0 0] 64)).cell? ⟨p, 0, none⟩ = some (.pointer none) := h'.cell 0 rfl
  generalize hrb : w.heap.size = rb at *
  have HL := Lib.hid (pool_Last_nil h2)
  clear h h1 h2 h'
  go_enter Try.func30, Try.ntmps30
  try rw [hrb]
  go_wp2_with fail
  refine HL.out.mono ?_
  rintro e w1 ⟨rfl, h3⟩
  have r0 : w1.cell? ⟨rb, 0, none⟩ = some (.slice none 0 0) := Sat.cell (T := 64) (cs := #[.slice none 0 0]) h3.p2 0 rfl
  have rf : w1.frozen? ⟨rb, 0, none⟩ = false := Sat.free (T := 64) (cs := #[.slice none 0 0]) h3.p2 0
  have q0 : w1.cell? ⟨rb + 1, 0, none⟩ = some (.slice none 0 0) := Sat.cell (T := 64) (cs := #[.slice none 0 0]) h3 0 rfl
  go_wp2
  go_loopw [13] (fun iv wr => iv = .int .i64 0 ∧ wr = w1) (fun iv _ => 0)
  case atStart => exact ⟨rfl, rfl⟩
  case round =>
    obtain ⟨rfl, rfl⟩ := hrel
    have h7 := Sat.store (T := 64) (cs := #[.slice none 0 0]) h3.p2 (i := 0) (.slice none 0 0)
    go_wp2
    exact bodyPost_cell rfl rfl (load_graph (x := .slice none 0 0) rfl h7) rfl ⟨rfl, h7.drop.drop⟩
/-- Bound, where Graph gives nothing -/
theorem idle_Bound (hG : Calls Try.prog 30 #[.pointer ptr] w fun e w' => e = .returned (.agg #[.slice none 0 0]) ∧ Sat w0 w' F) :
    Calls Try.prog 37 #[.pointer ptr] w fun e w' => e = .returned (.int .i64 0) ∧ Sat w0 w' F := by
  have HC := Lib.hid hG
  clear hG
  go_enter Try.func37, Try.ntmps37
  go_wp2_with fail
  refine HC.out.mono ?_
  rintro e w1 ⟨rfl, h1⟩
  have hfg := run_field_graph none 0 0 w1
  go_wp2
  go_loopw [3, 10] (fun sv iv wr => sv = .int .i64 0 ∧ iv = .int .i64 0 ∧ wr = w1) (fun _ iv _ => 0)
  case atStart => exact ⟨rfl, rfl, rfl⟩
  case round =>
    obtain ⟨rfl, rfl, rfl⟩ := hrel
    go_wp2
    go_ret
    exact ⟨rfl, h1⟩
end
end Go.Proofs.Ytkpcngcegipalaa.Tw
