/- drain: Drain, Step. No condition. -/
import Derived.Test.YtkpcngcegipalaaZPIn34
import Derived.Test.YtkpcngcegipalaaZPIn13
namespace Go.Proofs.Ytkpcngcegipalaa.Tw
set_option linter.unusedVariables false
set_option linter.unusedSimpArgs false
open Go Go.RowKit Go.MapKept
attribute [local go_sem] Oper.semAt_some

section
variable {w0 w : World} {m : Hp} {p : Nat} {A : AHeap} {F X : HP} {B : Int}
theorem dr_steps (h : Sat w0 w F) (ptr : Option Addr) : Calls Try.prog 97 #[.pointer ptr] w fun e w' => ∃ hb, e = .returned (.func (.func 134) #[] #[.pointer (some ⟨hb, 0, none⟩)]) ∧ Sat w0 w' (pt hb (.cells #[.pointer ptr] 22 (0, 0)) * F) := by
  have h1 := h.alloc (.cells #[.pointer ptr] 22)
  go_enter Try.func97, Try.ntmps97
  go_wp2
  go_ret
  exact ⟨_, rfl, h1⟩
/-- a step, by its kind -/
theorem dr_do (H : HW A B) (hB : B ≤ 1000000) (K : Knows m F) (h : Sat w0 w (heapR m p A * F)) {n : Int} {q : List Int} (hq : A.queue = n :: q) :
    Calls Try.prog (doId (A.kind1 n)) #[.pointer (some ⟨p, 0, none⟩), .int .i64 n] w fun e w' => e = .returned (.tuple #[]) ∧ Sat w0 w' (heapR m p A.stepF * F) := by
  unfold AHeap.stepF
  rw [hq]
  dsimp only
  obtain ⟨o, ho, _⟩ := H.q1 n (by rw [hq]; simp)
  have hob : A.obj n = o := by unfold AHeap.obj; rw [ho]; rfl
  unfold AHeap.kind1
  rw [hob]
  by_cases hm : 0 < o.mark
  · rw [if_pos hm]
    exact dr_waits H hB K h n
  · rw [if_neg hm]
    by_cases hs : o.slots = []
    · rw [if_pos hs]
      exact dr_frees H hB K h n
    · rw [if_neg hs]
      exact dr_empties H hB K h n (by unfold AHeap.popE; rw [ho]; dsimp only; rw [if_neg hs])
def drB (hb2 nb db p : Nat) (n : Int) (k : Nat) : HP := pt hb2 (.cells #[.pointer (some ⟨p, 0, none⟩)] 22 (0, 0)) * (pt nb (.cells #[.int .i64 n] 3 (0, 0)) * pt db (.cells #[.int .i64 (k : Int)] 3 (0, 0)))
def drI (hb2 nb db p : Nat) (n : Int) (A : AHeap) (pre : List (Int × Nat)) : HP := wh ((pre.length : Int) < n ∧ ∀ i, i < pre.length → (stepN i A).queue ≠ []) (drB hb2 nb db p n pre.length)
def drX (hb2 nb db p : Nat) (n : Int) (A : AHeap) (c : Code) (pre : List (Int × Nat)) : HP := wh (c = .exit 0 ∧ (pre.length : Int) = n ∧ ∀ i, i < pre.length → (stepN i A).queue ≠ []) (drB hb2 nb db p n pre.length)
theorem dr_close {hb ob k L : Nat} {n : Int} {G : HP} {W : World} (h : Sat w0 W (pt (ob + 1 + 1) (.cells #[.int .i64 ((k : Int) + 1)] 3 (0, 0)) * (heapR m p (stepN k A).stepF * (X * (pt ob (.cells #[.pointer (some ⟨p, 0, none⟩)] 22 (0, 0)) * (pt (ob + 1) (.cells #[.int .i64 n] 3 (0, 0)) * (pt hb (.cells #[.pointer (some ⟨p, 0, none⟩)] 22 (0, 0)) * G))))))) (hL : L = k + 1) :
    Sat w0 W (drB ob (ob + 1) (ob + 1 + 1) p n L * (stR m p hb X A L * G)) := by
  subst hL
  refine h.cast ?_
  unfold drB stR
  rw [show ((k + 1 : Nat) : Int) = (k : Int) + 1 by omega]
  show _ = _ * (_ * (heapR m p (stepN k A).stepF * X) * G)
  ac_rfl
theorem nonempty_succ {k : Nat} {n : Int} {q : List Int} (h : ∀ i, i < k → (stepN i A).queue ≠ []) (hq : (stepN k A).queue = n :: q) {L : Nat} (hL : L = k + 1) : ∀ i, i < L → (stepN i A).queue ≠ [] := by
  intro i hi
  rcases Nat.lt_or_ge i k with h1 | h1
  · exact h i h1
  · obtain rfl : i = k := by omega
    rw [hq]; simp
set_option maxRecDepth 100000 in
set_option maxHeartbeats 4000000 in
theorem dr_Drain (H : HW A B) (hB : B ≤ 1000000) (hX : Knows m X) (n : Int) (hn : 1 ≤ n) (hn2 : n ≤ 9223372036854775807) (h : Sat w0 w (heapR m p A * (X * F))) :
    Calls Try.prog 34 #[.pointer (some ⟨p, 0, none⟩), .int .i64 n] w fun e w' => e = .returned (.int .i64 ((drainN n.toNat A).1 : Nat)) ∧ Sat w0 w' (heapR m p (drainN n.toNat A).2 * (X * F)) := by
  rw [← callsIn_wide (n := 6)]
  have h1 : 1 ≤ 6 := by omega
  have ha := ((h.alloc (.cells #[.pointer (some ⟨p, 0, none⟩)] 22)).alloc (.cells #[.int .i64 n] 3)).alloc (.cells #[.int .i64 0] 3)
  simp only [World.size_alloc] at ha
  generalize hob : w.heap.size = ob at *
  have HA := Lib.hid ha
  have c0 : (((w.alloc (.cells #[.pointer (some ⟨p, 0, none⟩)] 22)).alloc (.cells #[.int .i64 n] 3)).alloc (.cells #[.int .i64 0] 3)).cell? ⟨ob, 0, none⟩ = some (.pointer (some ⟨p, 0, none⟩)) := Sat.cell (T := 22) (cs := #[.pointer (some ⟨p, 0, none⟩)]) ha.p3 0 rfl
  have c1 : (((w.alloc (.cells #[.pointer (some ⟨p, 0, none⟩)] 22)).alloc (.cells #[.int .i64 n] 3)).alloc (.cells #[.int .i64 0] 3)).cell? ⟨ob + 1, 0, none⟩ = some (.int .i64 n) := Sat.cell (T := 3) (cs := #[.int .i64 n]) ha.p2 0 rfl
  have HN := Lib.hid (callsIn_wide (n := 5) |>.2 (dr_steps ha (some ⟨p, 0, none⟩)))
  clear ha h
  have q1 : decide (n < 1) = false := by simp; omega
  refine callsIn_of_wp_marks Try.func34 rfl trivial ?_
  simp only [Try.ntmps34, List.size_toArray, List.length_cons, List.length_nil, Nat.reduceAdd, Nat.reduceSub, Array.replicate_succ, Array.replicate_zero, List.push_toArray, List.append_toArray, List.nil_append, List.cons_append]
  try rw [hob]
  gi_wp2
  refine ⟨trivial, HN.out.mono ?_⟩
  rintro e w1 ⟨hb, rfl, h2⟩
  have h3 : Sat w0 w1 (drI ob (ob + 1) (ob + 1 + 1) p n A [] * (stR m p hb X A ([] : List (Int × Nat)).length * F)) := by
    refine Sat.intro_wh ⟨by show (0 : Int) < n; omega, fun i hi => by simp at hi⟩ ?_
    refine h2.cast ?_
    unfold drB stR
    show _ = _ * (_ * (heapR m p A * X) * F)
    simp only [List.length_nil, Int.ofNat_zero, Int.cast_ofNat_Int]
    ac_rfl
  clear h2
  gi_wp2
  refine wpIn_rangeFunc_sep (w0 := w0) (n := 6) h1 (gf := 134) (lb := #[.pointer (some ⟨hb, 0, none⟩)]) rfl (enters_of Try.func134 (by kernel_rfl) rfl)
    (steps_seq (M := 3) H hB hb) (fun _ => rfl) (fun pre => drI ob (ob + 1) (ob + 1 + 1) p n A pre) (fun c pre => drX ob (ob + 1) (ob + 1 + 1) p n A c pre) h3
    (fun x => { tmps := #[.pointer (some ⟨p, 0, none⟩), .int .i64 n, .pointer (some ⟨ob, 0, none⟩), .pointer (some ⟨ob + 1, 0, none⟩), .int .i64 0, .pointer (some ⟨ob + 1 + 1, 0, none⟩), .int .i64 x.1, .func (.func (doId x.2)) #[] #[], .int .i64 n, .bool false, .pointer (some ⟨p, 0, none⟩), .func (.func 134) #[] #[.pointer (some ⟨hb, 0, none⟩)], .int .i64 x.1, .func (.func (doId x.2)) #[] #[], undef, undef, undef, undef, undef, undef, undef, undef, undef, undef], defers := [] }) ?assign ?body ?done ?stop
  case assign =>
    intro l x W K hK
    unfold stEnc
    gi_wp2
    exact hK
  case body =>
    intro lid pre x W G hs hok
    obtain ⟨⟨hlt, hne⟩, h4⟩ := hs.elim_wh
    obtain ⟨⟨q, hq⟩, hx2⟩ := hok
    have hHk := H.steps pre.length
    have h5 : Sat w0 W (heapR m p (stepN pre.length A) * (X * (pt ob (.cells #[.pointer (some ⟨p, 0, none⟩)] 22 (0, 0)) * (pt (ob + 1) (.cells #[.int .i64 n] 3 (0, 0)) * (pt (ob + 1 + 1) (.cells #[.int .i64 (pre.length : Int)] 3 (0, 0)) * (pt hb (.cells #[.pointer (some ⟨p, 0, none⟩)] 22 (0, 0)) * G)))))) := h4.cast (by unfold drB stR; ac_rfl)
    have d0 : W.cell? ⟨ob, 0, none⟩ = some (.pointer (some ⟨p, 0, none⟩)) := Sat.cell (T := 22) (cs := #[.pointer (some ⟨p, 0, none⟩)]) h5.p3 0 rfl
    have HD := Lib.hid (CallsIn.inRound lid (callsIn_wide (n := 3) |>.2 (dr_do hHk hB hX.right h5 hq)))
    rw [← hx2] at HD
    obtain ⟨xn, xk⟩ := x
    have hk3 : xk = 0 ∨ xk = 1 ∨ xk = 2 := by
      dsimp only at hx2
      rw [hx2]
      unfold AHeap.kind1
      split
      · exact .inl rfl
      · split
        · exact .inr (.inr rfl)
        · exact .inr (.inl rfl)
    have hln : (pre ++ [(xn, xk)]).length = pre.length + 1 := by simp
    have HNE := Lib.hid hne
    have HQ := Lib.hid hq
    clear h4 h5 hs hq hx2 hne
    rcases hk3 with rfl | rfl | rfl
    all_goals
      dsimp only [doId] at HD ⊢
      gi_wp2
      refine ⟨trivial, HD.out.mono ?_⟩
      rintro e W2 ⟨rfl, h6⟩
      have e0 : W2.cell? ⟨ob + 1, 0, none⟩ = some (.int .i64 n) := Sat.cell (T := 3) (cs := #[.int .i64 n]) h6.p4 0 rfl
      have e1 : W2.cell? ⟨ob + 1 + 1, 0, none⟩ = some (.int .i64 (pre.length : Int)) := Sat.cell (T := 3) (cs := #[.int .i64 (pre.length : Int)]) h6.p5 0 rfl
      have e2 : W2.frozen? ⟨ob + 1 + 1, 0, none⟩ = false := Sat.free (T := 3) (cs := #[.int .i64 (pre.length : Int)]) h6.p5 0
      have h7 : Sat w0 (W2.setCell ⟨ob + 1 + 1, 0, none⟩ (.int .i64 ((pre.length : Int) + 1))) (pt (ob + 1 + 1) (.cells #[.int .i64 ((pre.length : Int) + 1)] 3 (0, 0)) * (heapR m p (stepN pre.length A).stepF * (X * (pt ob (.cells #[.pointer (some ⟨p, 0, none⟩)] 22 (0, 0)) * (pt (ob + 1) (.cells #[.int .i64 n] 3 (0, 0)) * (pt hb (.cells #[.pointer (some ⟨p, 0, none⟩)] 22 (0, 0)) * G)))))) := Sat.store (T := 3) (cs := #[.int .i64 (pre.length : Int)]) h6.p5 (i := 0) (.int .i64 ((pre.length : Int) + 1))
      have g0 : (W2.setCell ⟨ob + 1 + 1, 0, none⟩ (.int .i64 ((pre.length : Int) + 1))).cell? ⟨ob + 1, 0, none⟩ = some (.int .i64 n) := Sat.cell (T := 3) (cs := #[.int .i64 n]) h7.p5 0 rfl
      have g1 : (W2.setCell ⟨ob + 1 + 1, 0, none⟩ (.int .i64 ((pre.length : Int) + 1))).cell? ⟨ob + 1 + 1, 0, none⟩ = some (.int .i64 ((pre.length : Int) + 1)) := Sat.cell (T := 3) (cs := #[.int .i64 ((pre.length : Int) + 1)]) h7 0 rfl
      have H7 := Lib.hid h7
      clear h6 h7
      by_cases hlast : (pre.length : Int) + 1 = n
      · have f1 : ((pre.length : Int) + 1 == n) = true := by simp [hlast]
        have HLA := Lib.hid hlast
        clear hlast
        gi_wp2
        show Sat w0 _ (drX ob (ob + 1) (ob + 1 + 1) p n A (.exit 0) _ * (stR m p hb X A _ * G))
        exact Sat.intro_wh ⟨rfl, by rw [hln]; have := HLA.out; omega, nonempty_succ HNE.out HQ.out hln⟩ (dr_close H7.out hln)
      · have f1 : ((pre.length : Int) + 1 == n) = false := by simp [hlast]
        have HLA := Lib.hid hlast
        clear hlast
        gi_wp2
        show Sat w0 _ (drI ob (ob + 1) (ob + 1 + 1) p n A _ * (stR m p hb X A _ * G))
        exact Sat.intro_wh ⟨by rw [hln]; have := HLA.out; omega, nonempty_succ HNE.out HQ.out hln⟩ (dr_close H7.out hln)
  case done =>
    intro D xs W hS hs
    obtain ⟨⟨hlt, hne⟩, h4⟩ := hs.p2.elim_wh
    have hfin := drainN_of n.toNat xs.length A (by omega) hne (.inr hS)
    have h5 : Sat w0 W (pt (ob + 1 + 1) (.cells #[.int .i64 (xs.length : Int)] 3 (0, 0)) * (pt D (.deferred (some [])) * (heapR m p (stepN xs.length A) * (X * (pt ob (.cells #[.pointer (some ⟨p, 0, none⟩)] 22 (0, 0)) * (pt (ob + 1) (.cells #[.int .i64 n] 3 (0, 0)) * (pt hb (.cells #[.pointer (some ⟨p, 0, none⟩)] 22 (0, 0)) * F))))))) := h4.cast (by unfold drB stR; ac_rfl)
    have e1 : W.cell? ⟨ob + 1 + 1, 0, none⟩ = some (.int .i64 (xs.length : Int)) := Sat.cell (T := 3) (cs := #[.int .i64 (xs.length : Int)]) h5 0 rfl
    have hK := h5.p2.blk
    have HF := Lib.hid hfin
    have H5 := Lib.hid h5
    clear h4 h5 hs hS hfin hne
    gi_wp2
    refine ⟨by simp, .inl ⟨_, _, rfl, run_takeDeferred hK, ?_⟩⟩
    refine ⟨_, results_tmp rfl _ _ _, ?_⟩
    rw [HF.out]
    have h6 := (H5.out.p2.putObj (.deferred none)).drop.drop
    have h7 : Sat w0 (W.putObj D (.deferred none)) (pt ob (.cells #[.pointer (some ⟨p, 0, none⟩)] 22 (0, 0)) * (pt (ob + 1) (.cells #[.int .i64 n] 3 (0, 0)) * (pt hb (.cells #[.pointer (some ⟨p, 0, none⟩)] 22 (0, 0)) * (heapR m p (stepN xs.length A) * (X * F))))) := h6.cast (by ac_rfl)
    exact ⟨rfl, h7.drop.drop.drop⟩
  case stop =>
    intro D c2 pre W _ hs
    obtain ⟨⟨rfl, hlt, hne⟩, h4⟩ := hs.p2.elim_wh
    have hfin := drainN_of n.toNat pre.length A (by omega) hne (.inl (by omega))
    have h5 : Sat w0 W (pt (ob + 1 + 1) (.cells #[.int .i64 (pre.length : Int)] 3 (0, 0)) * (pt D (.deferred (some [])) * (heapR m p (stepN pre.length A) * (X * (pt ob (.cells #[.pointer (some ⟨p, 0, none⟩)] 22 (0, 0)) * (pt (ob + 1) (.cells #[.int .i64 n] 3 (0, 0)) * (pt hb (.cells #[.pointer (some ⟨p, 0, none⟩)] 22 (0, 0)) * F))))))) := h4.cast (by unfold drB stR; ac_rfl)
    have e1 : W.cell? ⟨ob + 1 + 1, 0, none⟩ = some (.int .i64 (pre.length : Int)) := Sat.cell (T := 3) (cs := #[.int .i64 (pre.length : Int)]) h5 0 rfl
    have hK := h5.p2.blk
    have HF := Lib.hid hfin
    have H5 := Lib.hid h5
    clear h4 h5 hs hfin hne hlt
    gi_wp2
    refine ⟨by simp, .inl ⟨_, _, rfl, run_takeDeferred hK, ?_⟩⟩
    refine ⟨_, results_tmp rfl _ _ _, ?_⟩
    rw [HF.out]
    have h6 := (H5.out.p2.putObj (.deferred none)).drop.drop
    have h7 : Sat w0 (W.putObj D (.deferred none)) (pt ob (.cells #[.pointer (some ⟨p, 0, none⟩)] 22 (0, 0)) * (pt (ob + 1) (.cells #[.int .i64 n] 3 (0, 0)) * (pt hb (.cells #[.pointer (some ⟨p, 0, none⟩)] 22 (0, 0)) * (heapR m p (stepN pre.length A) * (X * F))))) := h6.cast (by ac_rfl)
    exact ⟨rfl, h7.drop.drop.drop⟩
end
end Go.Proofs.Ytkpcngcegipalaa.Tw
namespace Go.Proofs.Ytkpcngcegipalaa.Tw
set_option linter.unusedVariables false
set_option linter.unusedSimpArgs false
open Go Go.RowKit Go.MapKept

def mN : Hp := fun _ => none
theorem knowsN (F : HP) : Knows mN F := Knows.none F
section
variable {w0 w : World} {p : Nat} {A : AHeap} {F : HP} {B : Int}
theorem w_Drain (H : HW A B) (hB : B ≤ 1000000) (n : Int) (hn : n ≤ 9223372036854775807) (h : Sat w0 w (heapR mN p A * F)) :
    Calls Try.prog 34 #[.pointer (some ⟨p, 0, none⟩), .int .i64 n] w fun e w' => e = .returned (.int .i64 ((drainN n.toNat A).1 : Nat)) ∧ Sat w0 w' (heapR mN p (drainN n.toNat A).2 * F) := by
  by_cases h1 : 1 ≤ n
  · refine (dr_Drain (X := 1) H hB (knowsN 1) n h1 hn (h.cast (by rw [one_mul]))).mono ?_
    rintro e w' ⟨rfl, h2⟩
    exact ⟨rfl, h2.cast (by rw [one_mul])⟩
  · have e : n.toNat = 0 := by omega
    rw [e]
    clear e
    have ha := ((h.alloc (.cells #[.pointer (some ⟨p, 0, none⟩)] 22)).alloc (.cells #[.int .i64 n] 3)).alloc (.cells #[.int .i64 0] 3)
    have hlt : n < 1 := by omega
    clear h1
    go_enter Try.func34, Try.ntmps34
    go_wp2
    go_ret
    exact ⟨rfl, ha.drop.drop.drop⟩
theorem w_Step (H : HW A B) (hB : B ≤ 1000000) (h : Sat w0 w (heapR mN p A * F)) :
    Calls Try.prog 38 #[.pointer (some ⟨p, 0, none⟩)] w fun e w' => e = .returned (.bool (!A.queue.isEmpty)) ∧ Sat w0 w' (heapR mN p A.stepF * F) := by
  have HC := Lib.hid (w_Drain H hB 1 (by omega) h)
  cases hq : A.queue with
  | nil =>
    have e1 : drainN (1 : Int).toNat A = (0, A) := by show (if A.queue = [] then (0, A) else _) = _; rw [if_pos hq]
    have e2 : A.stepF = A := by unfold AHeap.stepF; rw [hq]
    rw [e1] at HC
    rw [e2]
    go_enter Try.func38, Try.ntmps38
    go_wp2_with fail
    refine HC.out.mono ?_
    rintro e w' ⟨rfl, h2⟩
    go_wp2
    go_ret
    exact ⟨rfl, h2⟩
  | cons n q =>
    have e1 : drainN (1 : Int).toNat A = (1, A.stepF) := by show (if A.queue = [] then (0, A) else _) = _; rw [if_neg (by rw [hq]; simp)]; rfl
    rw [e1] at HC
    clear hq e1
    go_enter Try.func38, Try.ntmps38
    go_wp2_with fail
    refine HC.out.mono ?_
    rintro e w' ⟨rfl, h2⟩
    go_wp2
    go_ret
    exact ⟨rfl, h2⟩
theorem run_field_graph (a : Option Addr) (n c : Nat) (w : World) : (Instr.field 64 (Value.agg #[.slice a n c]) 0).run Try.prog w = .ok (.slice a n c) w := by
  unfold Instr.field
  simp [Sem.run_bind, run_underlying Try.underlying64, Result.andThen, asAgg, go_sem]
def boundO (o : AObj) : Nat := if o.kind = 0 then 0 else 2 + o.slots.length
def boundL (L : List AObj) : Nat := (L.map boundO).sum
def AHeap.boundF (A : AHeap) : Nat := boundL (graphL A (lastT A.T))
theorem boundL_snoc (L : List AObj) (o : AObj) : boundL (L ++ [o]) = boundL L + boundO o := by unfold boundL; simp
set_option maxRecDepth 100000 in
set_option maxHeartbeats 2000000 in
theorem w_Bound (H : HW A B) (hB : B ≤ 100000) (h : Sat w0 w (heapR mN p A * F)) :
    Calls Try.prog 37 #[.pointer (some ⟨p, 0, none⟩)] w fun e w' => e = .returned (.int .i64 (A.boundF : Nat)) ∧ Sat w0 w' (heapR mN p A * F) := by
  have hT := H.t
  have HC := Lib.hid (heap_Graph h (by omega) fun n o ho => by have := H.c n o ho; omega)
  have hN := lastT_le A.T
  have hsl : ∀ o ∈ graphL A (lastT A.T), (o.slots.length : Int) ≤ 100000 := fun o ho => by
    unfold graphL at ho
    obtain ⟨i, _, rfl⟩ := List.mem_map.1 ho
    unfold AHeap.obj
    cases e : A.objs ((i : Int) + 1) with
    | none => simp [AObj.none]
    | some o => have := H.c _ o e; show (o.slots.length : Int) ≤ _; omega
  have hle : ∀ k, (boundL ((graphL A (lastT A.T)).take k) : Int) ≤ 100002 * k := by
    intro k
    induction k with
    | zero => simp [boundL]
    | succ k ih =>
      rw [List.take_add_one]
      cases e : (graphL A (lastT A.T))[k]? with
      | none => simp; omega
      | some o =>
        have h1 := hsl o (List.mem_of_getElem? e)
        show (boundL (_ ++ [o]) : Int) ≤ _
        rw [boundL_snoc]
        unfold boundO
        split <;> omega
  have hgl : (graphL A (lastT A.T)).length = lastT A.T := by simp [graphL]
  unfold AHeap.boundF
  generalize graphL A (lastT A.T) = L at *
  have HS := Lib.hid (And.intro hsl (And.intro hle hgl))
  generalize lastT A.T = N at *
  have hN2 : N ≤ 100000 := by omega
  clear hsl hle hgl hT hN h
  go_enter Try.func37, Try.ntmps37
  go_wp2_with fail
  refine HC.out.mono ?_
  rintro e w1 ⟨ga, gc, rfl, h1⟩
  obtain ⟨X, ⟨hX1, hX2⟩, h2⟩ := h1.openObjs
  have H2 := Lib.hid h2
  have HX := Lib.hid hX1
  clear h1 h2 hX1 hX2
  have hfg := run_field_graph ga N gc w1
  go_wp2
  go_loopw [3, 10] (fun sv iv wr => ∃ k : Nat, sv = .int .i64 (boundL (L.take k) : Nat) ∧ iv = .int .i64 k ∧ k ≤ N ∧ Sat w0 wr (slc 39 5 ga N gc (xscells X) * (xslotsR X * (heapR mN p A * F)))) (fun _ iv _ => N - (intOf iv).toNat)
  case atStart => exact ⟨0, rfl, rfl, by omega, H2.out⟩
  case round =>
    obtain ⟨k, rfl, rfl, hk, hs⟩ := hrel
    by_cases hlt : k < N
    · have hb := HS.out.2.1 k
      have hXl : X.length = N := by have e := HS.out.2.2; rw [← HX.out, List.length_map] at e; exact e
      have hx : X[k]? = some (X[k]'(by omega)) := List.getElem?_eq_getElem _
      generalize X[k]'(by omega) = x at hx
      have hLx : L[k]? = some x.1 := by rw [← HX.out, List.getElem?_map, hx]; rfl
      obtain ⟨g, off, e1, d0, d1, d2, d3, d4⟩ := objAtX hs hx
      have htk : L.take (k + 1) = L.take k ++ [x.1] := by rw [List.take_add_one, hLx]; rfl
      have hbs := boundL_snoc (L.take k) x.1
      rw [← htk] at hbs
      have hsx := HS.out.1 x.1 (List.mem_of_getElem? hLx)
      obtain ⟨⟨ok, oc, osl, otx, om⟩, sa, sc⟩ := x
      dsimp only at d0 d1 d2 d3 d4 hsx hbs
      unfold boundO at hbs
      dsimp only at hbs
      generalize hosl : osl.length = sl at *
      cases e1
      generalize hbk : boundL (L.take k) = bk at *
      have HTK := Lib.hid hbs
      have hal := hs.alloc (.cells #[.int .i64 ok, .int .i64 oc, .slice sa sl sc, .string otx, .int .i64 om] 39)
      have HAL := Lib.hid hal.drop
      clear hal hs hXl hx hLx htk hosl hbk hbs
      by_cases hk0 : ok = 0
      · have f1 : (ok != 0) = false := by simp [hk0]
        have HK0 := Lib.hid hk0
        clear hk0
        go_wp2
        go_round
        case rel => exact ⟨k + 1, by rw [HTK.out, if_pos HK0.out]; rfl, by go_num, by omega, HAL.out⟩
        case measure => simp [intOf]; omega
      · have f1 : (ok != 0) = true := by simp [hk0]
        have HK0 := Lib.hid hk0
        clear hk0
        go_wp2
        go_round
        case rel => exact ⟨k + 1, by rw [HTK.out, if_neg HK0.out]; go_num, by go_num, by omega, HAL.out⟩
        case measure => simp [intOf]; omega
    · have hkn : k = N := by omega
      subst hkn
      have e : L.take k = L := List.take_of_length_le (by have := HS.out.2.2; omega)
      rw [e]
      clear e
      go_wp2
      go_ret
      exact ⟨rfl, hs.drop.drop⟩
end
end Go.Proofs.Ytkpcngcegipalaa.Tw
