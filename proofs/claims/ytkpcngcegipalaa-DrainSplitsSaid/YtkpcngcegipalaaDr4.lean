/- drain: Drain, Step. No condition. -/
import Derived.Test.YtkpcngcegipalaaDr3
namespace Go.Proofs.Ytkpcngcegipalaa.Tw
set_option linter.unusedVariables false
set_option linter.unusedSimpArgs false
open Go Go.RowKit Go.MapKept
attribute [local go_sem] Oper.semAt_some

section
variable {w0 w : World} {m : Hp} {p : Nat} {A : AHeap} {F X : HP} {B : Int}
theorem dr_steps (h : Sat w0 w F) (ptr : Option Addr) : Calls Try.prog 97 #[.pointer ptr] w fun e w' => ∃ hb, e = .returned (.func (.func 134) #[] #[.pointer (some ⟨hb, 0, none⟩)]) ∧ Sat w0 w' (pt hb (.cells #[.pointer ptr] 22 (0, 0)) * F) := by
  have h1 := h.alloc (.cells #[.pointer ptr] 22)
  go_enter Try.func97, Try.ntmps97
  go_wp2
  go_ret
  exact ⟨_, rfl, h1⟩
/-- a step, by its kind -/
theorem dr_do (H : HW A B) (hB : B ≤ 1000000) (K : Knows m F) (h : Sat w0 w (heapR m p A * F)) {n : Int} {q : List Int} (hq : A.queue = n :: q) :
    Calls Try.prog (doId (A.kind1 n)) #[.pointer (some ⟨p, 0, none⟩), .int .i64 n] w fun e w' => e = .returned (.tuple #[]) ∧ Sat w0 w' (heapR m p A.stepF * F) := by
  unfold AHeap.stepF
  rw [hq]
  dsimp only
  obtain ⟨o, ho, _⟩ := H.q1 n (by rw [hq]; simp)
  have hob : A.obj n = o := by unfold AHeap.obj; rw [ho]; rfl
  unfold AHeap.kind1
  rw [hob]
  by_cases hm : 0 < o.mark
  · rw [if_pos hm]
    exact dr_waits H hB K h n
  · rw [if_neg hm]
    by_cases hs : o.slots = []
    · rw [if_pos hs]
      exact dr_frees H hB K h n
    · rw [if_neg hs]
      exact dr_empties H hB K h n (by unfold AHeap.popE; rw [ho]; dsimp only; rw [if_neg hs])
def drB (hb2 nb db p : Nat) (n : Int) (k : Nat) : HP := pt hb2 (.cells #[.pointer (some ⟨p, 0, none⟩)] 22 (0, 0)) * (pt nb (.cells #[.int .i64 n] 3 (0, 0)) * pt db (.cells #[.int .i64 (k : Int)] 3 (0, 0)))
def drI (hb2 nb db p : Nat) (n : Int) (A : AHeap) (pre : List (Int × Nat)) : HP := wh ((pre.length : Int) < n ∧ ∀ i, i < pre.length → (stepN i A).queue ≠ []) (drB hb2 nb db p n pre.length)
def drX (hb2 nb db p : Nat) (n : Int) (A : AHeap) (c : Code) (pre : List (Int × Nat)) : HP := wh (c = .exit 0 ∧ (pre.length : Int) = n ∧ ∀ i, i < pre.length → (stepN i A).queue ≠ []) (drB hb2 nb db p n pre.length)
theorem dr_close {hb ob k L : Nat} {n : Int} {G : HP} {W : World} (h : Sat w0 W (pt (ob + 1 + 1) (.cells #[.int .i64 ((k : Int) + 1)] 3 (0, 0)) * (heapR m p (stepN k A).stepF * (X * (pt ob (.cells #[.pointer (some ⟨p, 0, none⟩)] 22 (0, 0)) * (pt (ob + 1) (.cells #[.int .i64 n] 3 (0, 0)) * (pt hb (.cells #[.pointer (some ⟨p, 0, none⟩)] 22 (0, 0)) * G))))))) (hL : L = k + 1) :
    Sat w0 W (drB ob (ob + 1) (ob + 1 + 1) p n L * (stR m p hb X A L * G)) := by
  subst hL
  refine h.cast ?_
  unfold drB stR
  rw [show ((k + 1 : Nat) : Int) = (k : Int) + 1 by omega]
  show _ = _ * (_ * (heapR m p (stepN k A).stepF * X) * G)
  ac_rfl
theorem nonempty_succ {k : Nat} {n : Int} {q : List Int} (h : ∀ i, i < k → (stepN i A).queue ≠ []) (hq : (stepN k A).queue = n :: q) {L : Nat} (hL : L = k + 1) : ∀ i, i < L → (stepN i A).queue ≠ [] := by
  intro i hi
  rcases Nat.lt_or_ge i k with h1 | h1
  · exact h i h1
  · obtain rfl : i = k := by omega
    rw [hq]; simp
set_option maxRecDepth 100000 in
set_option maxHeartbeats 4000000 in
theorem dr_Drain (H : HW A B) (hB : B ≤ 1000000) (hX : Knows m X) (n : Int) (hn : 1 ≤ n) (hn2 : n ≤ 9223372036854775807) (h : Sat w0 w (heapR m p A * (X * F))) :
    Calls Try.prog 34 #[.pointer (some ⟨p, 0, none⟩), .int .i64 n] w fun e w' => e = .returned (.int .i64 ((drainN n.toNat A).1 : Nat)) ∧ Sat w0 w' (heapR m p (drainN n.toNat A).2 * (X * F)) := by
  rw [← callsIn_wide (n := 6)]
  have h1 : 1 ≤ 6 := by omega
  have ha := ((h.alloc (.cells #[.pointer (some ⟨p, 0, none⟩)] 22)).alloc (.cells #[.int .i64 n] 3)).alloc (.cells #[.int .i64 0] 3)
  simp only [World.size_alloc] at ha
  generalize hob : w.heap.size = ob at *
  have HA := Lib.hid ha
  have c0 : (((w.alloc (.cells #[.pointer (some ⟨p, 0, none⟩)] 22)).alloc (.cells #[.int .i64 n] 3)).alloc (.cells #[.int .i64 0] 3)).cell? ⟨ob, 0, none⟩ = some (.pointer (some ⟨p, 0, none⟩)) := Sat.cell (T := 22) (cs := #[.pointer (some ⟨p, 0, none⟩)]) ha.p3 0 rfl
  have c1 : (((w.alloc (.cells #[.pointer (some ⟨p, 0, none⟩)] 22)).alloc (.cells #[.int .i64 n] 3)).alloc (.cells #[.int .i64 0] 3)).cell? ⟨ob + 1, 0, none⟩ = some (.int .i64 n) := Sat.cell (T := 3) (cs := #[.int .i64 n]) ha.p2 0 rfl
  have HN := Lib.hid (callsIn_wide (n := 5) |>.2 (dr_steps ha (some ⟨p, 0, none⟩)))
  clear ha h
  have q1 : decide (n < 1) = false := by simp; omega
  refine callsIn_of_wp_marks Try.func34 rfl trivial ?_
  simp only [Try.ntmps34, List.size_toArray, List.length_cons, List.length_nil, Nat.reduceAdd, Nat.reduceSub, Array.replicate_succ, Array.replicate_zero, List.push_toArray, List.append_toArray, List.nil_append, List.cons_append]
  try rw [hob]
  gi_wp2
  refine ⟨trivial, HN.out.mono ?_⟩
  rintro e w1 ⟨hb, rfl, h2⟩
  have h3 : Sat w0 w1 (drI ob (ob + 1) (ob + 1 + 1) p n A [] * (stR m p hb X A ([] : List (Int × Nat)).length * F)) := by
    refine Sat.intro_wh ⟨by show (0 : Int) < n; omega, fun i hi => by simp at hi⟩ ?_
    refine h2.cast ?_
    unfold drB stR
    show _ = _ * (_ * (heapR m p A * X) * F)
    simp only [List.length_nil, Int.ofNat_zero, Int.cast_ofNat_Int]
    ac_rfl
  clear h2
  gi_wp2
  refine wpIn_rangeFunc_sep (w0 := w0) (n := 6) h1 (gf := 134) (lb := #[.pointer (some ⟨hb, 0, none⟩)]) rfl (enters_of Try.func134 (by kernel_rfl) rfl)
    (steps_seq (M := 3) H hB hb) (fun _ => rfl) (fun pre => drI ob (ob + 1) (ob + 1 + 1) p n A pre) (fun c pre => drX ob (ob + 1) (ob + 1 + 1) p n A c pre) h3
    (fun x => { tmps := #[.pointer (some ⟨p, 0, none⟩), .int .i64 n, .pointer (some ⟨ob, 0, none⟩), .pointer (some ⟨ob + 1, 0, none⟩), .int .i64 0, .pointer (some ⟨ob + 1 + 1, 0, none⟩), .int .i64 x.1, .func (.func (doId x.2)) #[] #[], .int .i64 n, .bool false, .pointer (some ⟨p, 0, none⟩), .func (.func 134) #[] #[.pointer (some ⟨hb, 0, none⟩)], .int .i64 x.1, .func (.func (doId x.2)) #[] #[], undef, undef, undef, undef, undef, undef, undef, undef, undef, undef], defers := [] }) ?assign ?body ?done ?stop
  case assign =>
    intro l x W K hK
    unfold stEnc
    gi_wp2
    exact hK
  case body =>
    intro lid pre x W G hs hok
    obtain ⟨⟨hlt, hne⟩, h4⟩ := hs.elim_wh
    obtain ⟨⟨q, hq⟩, hx2⟩ := hok
    have hHk := H.steps pre.length
    have h5 : Sat w0 W (heapR m p (stepN pre.length A) * (X * (pt ob (.cells #[.pointer (some ⟨p, 0, none⟩)] 22 (0, 0)) * (pt (ob + 1) (.cells #[.int .i64 n] 3 (0, 0)) * (pt (ob + 1 + 1) (.cells #[.int .i64 (pre.length : Int)] 3 (0, 0)) * (pt hb (.cells #[.pointer (some ⟨p, 0, none⟩)] 22 (0, 0)) * G)))))) := h4.cast (by unfold drB stR; ac_rfl)
    have d0 : W.cell? ⟨ob, 0, none⟩ = some (.pointer (some ⟨p, 0, none⟩)) := Sat.cell (T := 22) (cs := #[.pointer (some ⟨p, 0, none⟩)]) h5.p3 0 rfl
    have HD := Lib.hid (CallsIn.inRound lid (callsIn_wide (n := 3) |>.2 (dr_do hHk hB hX.right h5 hq)))
    rw [← hx2] at HD
    obtain ⟨xn, xk⟩ := x
    have hk3 : xk = 0 ∨ xk = 1 ∨ xk = 2 := by
      dsimp only at hx2
      rw [hx2]
      unfold AHeap.kind1
      split
      · exact .inl rfl
      · split
        · exact .inr (.inr rfl)
        · exact .inr (.inl rfl)
    have hln : (pre ++ [(xn, xk)]).length = pre.length + 1 := by simp
    have HNE := Lib.hid hne
    have HQ := Lib.hid hq
    clear h4 h5 hs hq hx2 hne
    rcases hk3 with rfl | rfl | rfl
    all_goals
      dsimp only [doId] at HD ⊢
      gi_wp2
      refine ⟨trivial, HD.out.mono ?_⟩
      rintro e W2 ⟨rfl, h6⟩
      have e0 : W2.cell? ⟨ob + 1, 0, none⟩ = some (.int .i64 n) := Sat.cell (T := 3) (cs := #[.int .i64 n]) h6.p4 0 rfl
      have e1 : W2.cell? ⟨ob + 1 + 1, 0, none⟩ = some (.int .i64 (pre.length : Int)) := Sat.cell (T := 3) (cs := #[.int .i64 (pre.length : Int)]) h6.p5 0 rfl
      have e2 : W2.frozen? ⟨ob + 1 + 1, 0, none⟩ = false := Sat.free (T := 3) (cs := #[.int .i64 (pre.length : Int)]) h6.p5 0
      have h7 : Sat w0 (W2.setCell ⟨ob + 1 + 1, 0, none⟩ (.int .i64 ((pre.length : Int) + 1))) (pt (ob + 1 + 1) (.cells #[.int .i64 ((pre.length : Int) + 1)] 3 (0, 0)) * (heapR m p (stepN pre.length A).stepF * (X * (pt ob (.cells #[.pointer (some ⟨p, 0, none⟩)] 22 (0, 0)) * (pt (ob + 1) (.cells #[.int .i64 n] 3 (0, 0)) * (pt hb (.cells #[.pointer (some ⟨p, 0, none⟩)] 22 (0, 0)) * G)))))) := Sat.store (T := 3) (cs := #[.int .i64 (pre.length : Int)]) h6.p5 (i := 0) (.int .i64 ((pre.length : Int) + 1))
      have g0 : (W2.setCell ⟨ob + 1 + 1, 0, none⟩ (.int .i64 ((pre.length : Int) + 1))).cell? ⟨ob + 1, 0, none⟩ = some (.int .i64 n) := Sat.cell (T := 3) (cs := #[.int .i64 n]) h7.p5 0 rfl
      have g1 : (W2.setCell ⟨ob + 1 + 1, 0, none⟩ (.int .i64 ((pre.length : Int) + 1))).cell? ⟨ob + 1 + 1, 0, none⟩ = some (.int .i64 ((pre.length : Int) + 1)) := Sat.cell (T := 3) (cs := #[.int .i64 ((pre.length : Int) + 1)]) h7 0 rfl
      have H7 := Lib.hid h7
      clear h6 h7
      by_cases hlast : (pre.length : Int) + 1 = n
      · have f1 : ((pre.length : Int) + 1 == n) = true := by simp [hlast]
        have HLA := Lib.hid hlast
        clear hlast
        gi_wp2
        show Sat w0 _ (drX ob (ob + 1) (ob + 1 + 1) p n A (.exit 0) _ * (stR m p hb X A _ * G))
        exact Sat.intro_wh ⟨rfl, by rw [hln]; have := HLA.out; omega, nonempty_succ HNE.out HQ.out hln⟩ (dr_close H7.out hln)
      · have f1 : ((pre.length : Int) + 1 == n) = false := by simp [hlast]
        have HLA := Lib.hid hlast
        clear hlast
        gi_wp2
        show Sat w0 _ (drI ob (ob + 1) (ob + 1 + 1) p n A _ * (stR m p hb X A _ * G))
        exact Sat.intro_wh ⟨by rw [hln]; have := HLA.out; omega, nonempty_succ HNE.out HQ.out hln⟩ (dr_close H7.out hln)
  case done =>
    intro D xs W hS hs
    obtain ⟨⟨hlt, hne⟩, h4⟩ := hs.p2.elim_wh
    have hfin := drainN_of n.toNat xs.length A (by omega) hne (.inr hS)
    have h5 : Sat w0 W (pt (ob + 1 + 1) (.cells #[.int .i64 (xs.length : Int)] 3 (0, 0)) * (pt D (.deferred (some [])) * (heapR m p (stepN xs.length A) * (X * (pt ob (.cells #[.pointer (some ⟨p, 0, none⟩)] 22 (0, 0)) * (pt (ob + 1) (.cells #[.int .i64 n] 3 (0, 0)) * (pt hb (.cells #[.pointer (some ⟨p, 0, none⟩)] 22 (0, 0)) * F))))))) := h4.cast (by unfold drB stR; ac_rfl)
    have e1 : W.cell? ⟨ob + 1 + 1, 0, none⟩ = some (.int .i64 (xs.length : Int)) := Sat.cell (T := 3) (cs := #[.int .i64 (xs.length : Int)]) h5 0 rfl
    have hK := h5.p2.blk
    have HF := Lib.hid hfin
    have H5 := Lib.hid h5
    clear h4 h5 hs hS hfin hne
    gi_wp2
    refine ⟨by simp, .inl ⟨_, _, rfl, run_takeDeferred hK, ?_⟩⟩
    refine ⟨_, results_tmp rfl _ _ _, ?_⟩
    rw [HF.out]
    have h6 := (H5.out.p2.putObj (.deferred none)).drop.drop
    have h7 : Sat w0 (W.putObj D (.deferred none)) (pt ob (.cells #[.pointer (some ⟨p, 0, none⟩)] 22 (0, 0)) * (pt (ob + 1) (.cells #[.int .i64 n] 3 (0, 0)) * (pt hb (.cells #[.pointer (some ⟨p, 0, none⟩)] 22 (0, 0)) * (heapR m p (stepN xs.length A) * (X * F))))) := h6.cast (by ac_rfl)
    exact ⟨rfl, h7.drop.drop.drop⟩
  case stop =>
    intro D c2 pre W _ hs
    obtain ⟨⟨rfl, hlt, hne⟩, h4⟩ := hs.p2.elim_wh
    have hfin := drainN_of n.toNat pre.length A (by omega) hne (.inl (by omega))
    have h5 : Sat w0 W (pt (ob + 1 + 1) (.cells #[.int .i64 (pre.length : Int)] 3 (0, 0)) * (pt D (.deferred (some [])) * (heapR m p (stepN pre.length A) * (X * (pt ob (.cells #[.pointer (some ⟨p, 0, none⟩)] 22 (0, 0)) * (pt (ob + 1) (.cells #[.int .i64 n] 3 (0, 0)) * (pt hb (.cells #[.pointer (some ⟨p, 0, none⟩)] 22 (0, 0)) * F))))))) := h4.cast (by unfold drB stR; ac_rfl)
    have e1 : W.cell? ⟨ob + 1 + 1, 0, none⟩ = some (.int .i64 (pre.length : Int)) := Sat.cell (T := 3) (cs := #[.int .i64 (pre.length : Int)]) h5 0 rfl
    have hK := h5.p2.blk
    have HF := Lib.hid hfin
    have H5 := Lib.hid h5
    clear h4 h5 hs hfin hne hlt
    gi_wp2
    refine ⟨by simp, .inl ⟨_, _, rfl, run_takeDeferred hK, ?_⟩⟩
    refine ⟨_, results_tmp rfl _ _ _, ?_⟩
    rw [HF.out]
    have h6 := (H5.out.p2.putObj (.deferred none)).drop.drop
    have h7 : Sat w0 (W.putObj D (.deferred none)) (pt ob (.cells #[.pointer (some ⟨p, 0, none⟩)] 22 (0, 0)) * (pt (ob + 1) (.cells #[.int .i64 n] 3 (0, 0)) * (pt hb (.cells #[.pointer (some ⟨p, 0, none⟩)] 22 (0, 0)) * (heapR m p (stepN pre.length A) * (X * F))))) := h6.cast (by ac_rfl)
    exact ⟨rfl, h7.drop.drop.drop⟩
end
end Go.Proofs.Ytkpcngcegipalaa.Tw
