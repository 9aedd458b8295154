/- DrainChain: a chain of objects goes link by link, in twice as many steps as it has links, less one: proved for every number, without a condition. -/
import Derived.Test.YtkpcngcegipalaaDChainP
namespace Go.Proofs.Ytkpcngcegipalaa.DChain
set_option linter.unusedVariables false
set_option linter.unusedSimpArgs false
open Go Go.RowKit Go.MapKept Go.Proofs.Ytkpcngcegipalaa.Tw
open Go.ChangeShapes Go.WideShapes Go.ChangeAt

theorem wf_u16 {n : Int} (h : (Lit.int .u16 n).wf = true) : ∃ k : Nat, n = k ∧ k < 65536 := by
  simp only [Lit.wf, IntKind.min, IntKind.max, IntKind.signed, IntKind.bits, Bool.and_eq_true, decide_eq_true_eq, if_true, Bool.false_eq_true, if_false] at h
  exact ⟨n.toNat, by omega, by omega⟩
theorem run_field_graph' (a : Option Addr) (n c : Nat) (w : World) : (Instr.field 64 (Value.agg #[.slice a n c]) 0).run Try.prog w = .ok (.slice a n c) w := run_field_graph a n c w
set_option maxRecDepth 100000 in
set_option maxHeartbeats 4000000 in
theorem walk (n0 : Int) (w : World) (r1 : (Lit.int .u16 n0).wf = true) :
    Calls Try.prog 6 #[.int .u16 n0] w fun e w' => e = .returned (.bool true) ∧ Below w.heap.size w w' := by
  have h0 := Sat.refl w
  obtain ⟨nn, rfl, hnn⟩ := wf_u16 r1
  have hmod : (nn : Int).tmod 3000 = ((nn % 3000 : Nat) : Int) := by rw [Int.tmod_eq_emod_of_nonneg (by omega)]; omega
  have hml : nn % 3000 < 3000 := Nat.mod_lt _ (by omega)
  generalize nn % 3000 = m at *
  have hw1 : IntKind.i64.wrap (m : Int) = m := IntWalk.i64_in _ (by omega)
  obtain ⟨c1, c2, c3, c4, c5, c6, c7⟩ := chain_drains m (by omega)
  have hch := chainN_T m (by omega)
  have HC := Lib.hid (And.intro c1 (And.intro c2 (And.intro c3 (And.intro c4 (And.intro c5 (And.intro c6 (And.intro c7 hch)))))))
  clear c1 c2 c3 c4 c5 c6 c7 hch r1
  go_enter Try.func6, Try.ntmps6
  go_wp2_with fail
  refine (law_works14 h0).mono ?_
  rintro e w1 ⟨rfl, h1⟩
  clear h0
  go_wp2_with fail
  refine (heap_New h1).mono ?_
  rintro e w2 ⟨p, rfl, h2⟩
  clear h1
  go_wp2_with fail
  refine (c_Make (HW.empty.mono (show (0 : Int) ≤ 1 by omega)) (by omega) (h2 mN) 6 tx0 (v := ⟨6, 1⟩) (by decide +kernel)).mono ?_
  rintro e w3 ⟨rfl, h3⟩
  have h4 := h3.alloc (.cells #[.int .i64 6, .int .i64 1] 28)
  have H4 := Lib.hid h4
  generalize hlb : w3.heap.size = lb at *
  clear h2 h3 h4
  go_wp2
  go_loopw [6] (fun iv wr => ∃ k : Nat, iv = .int .i64 ((k : Int) + 1) ∧ k ≤ m ∧ Sat w wr (pt lb (.cells #[.int .i64 6, .int .i64 ((k : Int) + 1)] 28 (0, 0)) * (heapR mN p (chainN k) * Old w))) (fun iv _ => m + 1 - (intOf iv).toNat)
  case atStart => exact ⟨0, rfl, by omega, H4.out⟩
  case round =>
    obtain ⟨k, rfl, hk, hs⟩ := hrel
    by_cases hlt : k < m
    · obtain ⟨k1, k2, k3, k4⟩ := chainN_T k (by omega)
      have hfr : (chainN k).makeV 6 tx0 = ⟨6, (k : Int) + 2⟩ := by
        unfold AHeap.makeV AHeap.fresh
        rw [if_pos (by decide), k1, ff_all]
        show AVal.mk 6 (((k + 1 : Nat) : Int) + 1) = _
        rw [show ((k + 1 : Nat) : Int) + 1 = (k : Int) + 2 by omega]
      have hM := Lib.hid (c_Make k4 (by omega) hs.p2 6 tx0 hfr)
      have k5 := k4.make (by omega) 6 tx0
      have hlt2 : (k : Int) + 1 < 1 + (m : Int) := by omega
      clear hs hfr
      go_wp2_with fail
      refine hM.out.mono ?_
      rintro e w5 ⟨rfl, h5⟩
      have h6 := h5.alloc (.cells #[.int .i64 6, .int .i64 ((k : Int) + 2)] 28)
      have y0 := (val2' h6.p3).1
      have y1 := (val2' h6.p3).2.1
      have HPu := Lib.hid (t_Push k5 (by omega) (knowsN _) h6.p2 ((k : Int) + 2) ⟨6, (k : Int) + 1⟩)
      clear h5 h6 k1 k2 k3
      generalize hnb : w5.heap.size = nb at *
      have hadd : (k : Int) + 1 + 1 = (k : Int) + 2 := by omega
      go_wp2_with fail
      refine HPu.out.mono ?_
      rintro e w6 ⟨rfl, h7⟩
      have z0 := (val2' h7.p2).1
      have z1 := (val2' h7.p2).2.1
      have u0 := (val2' h7.p3).1
      have u1 := (val2' h7.p3).2.1
      have uf0 := (val2' h7.p3).2.2.1
      have uf1 := (val2' h7.p3).2.2.2
      have h8 := h7.p3.setVal 6 ((k : Int) + 2)
      go_wp2_with fail
      have e9 : ((k + 1 : Nat) : Int) + 1 = (k : Int) + 2 := by omega
      refine ⟨⟨k + 1, by rw [e9], by omega, ?_⟩, by simp [intOf]; omega⟩
      rw [e9]
      exact h8.p3.drop
    · have hkm : k = m := by omega
      subst hkm
      have hge : ¬ (k : Int) + 1 < 1 + (k : Int) := by omega
      have y0 := (val2' hs).1
      have y1 := (val2' hs).2.1
      have HD := Lib.hid (t_Drop HC.out.2.2.2.2.2.2.2.2.2.2 (by omega) (knowsN _) hs.p2 ⟨6, (k : Int) + 1⟩)
      have hsub : (1 : Int) + (k : Int) - 1 = k := by omega
      have hq0 : drainN (k : Int).toNat ((chainN k).drop ⟨6, (k : Int) + 1⟩) = (k, stepN k ((chainN k).drop ⟨6, (k : Int) + 1⟩)) := by rw [Int.toNat_natCast]; exact HC.out.1
      have HQ0 := Lib.hid hq0
      have hq1 : drainN (1048576 : Int).toNat (stepN k ((chainN k).drop ⟨6, (k : Int) + 1⟩)) = (k + 1, stepN (2 * k + 1) ((chainN k).drop ⟨6, (k : Int) + 1⟩)) := HC.out.2.2.1
      have HQ1 := Lib.hid hq1
      have hk3 := (chain_drop k (by omega)).hw
      have HK3 := Lib.hid hk3
      have hlast := lastT_none HC.out.2.2.2.2.2.2.1 HC.out.2.2.2.2.1
      have HLA := Lib.hid hlast
      clear hs H4 hq0 hq1 hk3 hlast
      go_wp2_with fail
      refine HD.out.mono ?_
      rintro e w5 ⟨rfl, h5⟩
      go_wp2_with fail
      refine (c_Drain HK3.out (by omega) (k : Int) (by omega) h5 (k := k) (A' := stepN k ((chainN k).drop ⟨6, (k : Int) + 1⟩)) (by rw [HQ0.out]) (by rw [HQ0.out])).mono ?_
      rintro e w6 ⟨rfl, h6⟩
      clear h5
      have hqn := HC.out.2.1
      generalize hQ : (stepN k ((chainN k).drop ⟨6, (k : Int) + 1⟩)).queue = Q at hqn
      have hQl : ¬ Q.length = 0 := fun e => hqn (List.eq_nil_of_length_eq_zero e)
      have hQl2 : ((Q.length : Int) == 0) = false := by simp; exact hqn
      have HQQ := Lib.hid hQ
      clear hQ hqn
      go_wp2_with fail
      refine (c_Queue HC.out.2.2.2.2.2.1 (by omega) h6 (L := Q) (n := Q.length) HQQ.out rfl).mono ?_
      rintro e w7 ⟨qa, qc, rfl, h7⟩
      clear h6
      generalize hql : Q.length = ql at *
      go_wp2_with fail
      refine (c_Drain HC.out.2.2.2.2.2.1 (by omega) (1048576 : Int) (by omega) h7.drop (k := (k : Int) + 1) (A' := stepN (2 * k + 1) ((chainN k).drop ⟨6, (k : Int) + 1⟩)) (by rw [HQ1.out]; rfl) (by rw [HQ1.out])).mono ?_
      rintro e w8 ⟨rfl, h8⟩
      clear h7
      have hsw : (((k : Int) + 1) == 1 + (k : Int)) = true := by simp; omega
      have hsw2 : (k : Int) + 1 = 1 + (k : Int) := by omega
      go_wp2_with fail
      refine (c_Queue HC.out.2.2.2.2.2.2.1 (by omega) h8 (L := []) (n := 0) HC.out.2.2.2.1 rfl).mono ?_
      rintro e w9 ⟨qa2, qc2, rfl, h9⟩
      clear h8
      have hT := HC.out.2.2.2.2.2.2.1.t
      have HG := heap_Graph h9.drop (by omega) fun n o ho => by rw [HC.out.2.2.2.2.1] at ho; cases ho
      rw [HLA.out] at HG
      have HG := Lib.hid HG
      clear hT h9
      go_wp2_with fail
      refine HG.out.mono ?_
      rintro e w10 ⟨ga, gc, rfl, h10⟩
      have hf := run_field_graph ga 0 gc w10
      go_wp2
      go_ret
      exact ⟨rfl, Sat.below (F := 1) (h10.drop.drop.drop.cast (mul_one _).symm)⟩
theorem own : ownKnob Try.prog.godebug = none := by kernel_rfl
theorem laidOut : laidOutB Try.prog = true := by kernel_rfl
set_option maxRecDepth 100000 in
theorem lifted (os : Os) (started : os.Started) (H : Type) (enc : TypeId × Value → H) :
    ReturnsInHanded {} Try.checked os 6 .any (Rows.drainChainSpec.pre6 enc Try.prog Try.f6 Rows.drainChainRow.domain false) (Rows.drainChainSpec.post enc Try.prog Try.f6 false true false false) := by
  refine returnsInHanded_of_change (C := Try.checked) own started (by kernel_rfl) Try.func6
    (ChangeSpec.witness6 (enc := enc) (C := Try.checked) false ⟨#[], #[.int .u16 0], []⟩ 8 (by kernel_rfl) (by kernel_rfl) (by kernel_rfl) (by kernel_rfl)) ?_
  intro W base args ds gs before hval0 hW hcnd _
  have hval : ∀ (j : Nat) t v, Try.f6.params[j]? = some t → args[j]? = some v → Value.okWide Try.prog W .any base t v := hval0
  have hW' := hW
  obtain ⟨p, q, hA0, hV, rfl, hfz, hnd⟩ := hW
  have hA : DataW.TrodAll enc Try.prog W 0 (fun _ => true) true Try.f6.params.toList args.toList ds p := hA0
  rw [Try.params6] at hA hval
  obtain ⟨v0, vs0, d0, ds0, p0, q0, hargs, rfl, rfl, h0, r0⟩ := trodAll_cons hA
  obtain ⟨rfl, rfl, rfl⟩ := trodAll_nil r0
  obtain rfl : args = #[v0] := by cases args; simp_all
  obtain ⟨rfl, rfl⟩ := trodVars_none hV
  obtain ⟨a0, rfl, rfl, rfl, w0⟩ := open_int Try.underlying67 (hval 0 67 v0 rfl rfl) h0
  clear hA0 hval0
  refine (walk a0 W w0).mono fun e W' ⟨he, bel⟩ => ?_
  subst he
  exact ⟨_, rfl, _, _, _, [], _, [], hW', trodAll_mk1 (shut_bool Try.underlying4 _), (trodAll_cons_mk (shut_int Try.underlying67 w0) trodAll_mk0), rfl, bel.frame _, fun h => by cases h⟩
theorem over : Rows.drainChainRow.holds Try.pinned (OpenSpec.ofChange Rows.drainChainSpec) :=
  OpenClaim.holds_of_wide 6 Try.f6 rfl rfl rfl rfl rfl rfl rfl ⟨rfl, rfl, rfl, rfl, rfl⟩ rfl rfl rfl rfl rfl (by kernel_rfl) Try.func6 (by kernel_rfl)
    (of_decide_eq_true (by kernel_rfl)) (by unfold Func.isWrapper; first | (rw [if_pos (by decide +kernel)]; kernel_rfl) | (rw [if_neg (by decide +kernel)]; exact ⟨rfl, rfl⟩))
    (fun os started H enc _ => lifted os started H enc)
theorem drainChain_holds : Rows.DrainChainSaid := over
#print axioms drainChain_holds
end Go.Proofs.Ytkpcngcegipalaa.DChain
