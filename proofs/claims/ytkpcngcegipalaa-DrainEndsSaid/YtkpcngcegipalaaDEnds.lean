/- DrainEnds: as many steps as Bound says empty the queue, and then each object in use has a count above 0: proved for every slice of moves, without a condition. -/
import Derived.Test.YtkpcngcegipalaaDr16
namespace Go.Proofs.Ytkpcngcegipalaa.DEnds
set_option linter.unusedVariables false
set_option linter.unusedSimpArgs false
open Go Go.RowKit Go.MapKept Go.Proofs.Ytkpcngcegipalaa.Tw
open Go.ChangeShapes Go.WideShapes Go.ChangeAt

theorem bound_le {A : AHeap} {B : Int} (H : HW A B) (hB : B ≤ 100000) : (A.boundF : Int) ≤ 100002 * 100000 := by
  have hT := H.t
  have hN := lastT_le A.T
  have key : ∀ k, (boundL (graphL A k) : Int) ≤ 100002 * k := by
    intro k
    induction k with
    | zero => simp [boundL, graphL]
    | succ k ih =>
      have hgr : graphL A (k + 1) = graphL A k ++ [A.obj (k + 1)] := by unfold graphL; rw [List.range_succ, List.map_append]; rfl
      rw [hgr, boundL_snoc]
      have : (boundO (A.obj (k + 1)) : Int) ≤ 100002 := by
        unfold AHeap.obj
        cases ho : A.objs ((k : Int) + 1) with
        | none => show ((boundO AObj.none : Nat) : Int) ≤ _; decide
        | some o =>
          have hc := H.c _ o ho
          show (boundO o : Int) ≤ _
          unfold boundO
          split <;> omega
      omega
  have := key (lastT A.T)
  unfold AHeap.boundF
  omega
/-- an object of a graph behind an empty queue -/
theorem obj_ok {A : AHeap} {B : Int} (H : HW A B) (hq : A.queue = []) (n : Int) : ((A.obj n).kind != 0) = false ∨ (((A.obj n).kind != 0) = true ∧ ¬ (A.obj n).count < 1) := by
  unfold AHeap.obj
  cases ho : A.objs n with
  | none => exact .inl rfl
  | some o =>
    have hc := H.c n o ho
    refine .inr ⟨by simp; omega, ?_⟩
    show ¬ o.count < 1
    intro h
    have := H.q2 n o ho (by omega)
    rw [hq] at this
    cases this
set_option maxRecDepth 100000 in
set_option maxHeartbeats 4000000 in
theorem walk (a0 : Option Addr) (len0 cap0 : Nat) (ms : List Mv) (w : World) (w0 : IsMoves w a0 len0 cap0 ms) :
    Calls Try.prog 7 #[.slice a0 len0 cap0] w fun e w' => e = .returned (.bool true) ∧ Below w.heap.size w w' := by
  have h0 := Sat.refl w
  obtain ⟨hl, hc1, hc2, hms, hA⟩ := w0
  have hlen : len0 ≤ 9223372036854775807 := by unfold maxLen at hc2; omega
  have HP := Lib.hid (fun (w1 : World) (h : Sat w w1 (Old w * 1)) => hd_play (c := cap0) hl hlen hms hA h)
  obtain ⟨i1, i2⟩ := playK_hw ms 60
  have i1 : HW (playM ms).1 61 := i1
  have hbl := bound_le i1 (by omega)
  have hmu := mu_le_bound i1
  have i3 := i1.drain (playM ms).1.boundF
  have hq := drainN_mu _ _ _ i1 hmu
  have hle := drainN_le (playM ms).1.boundF (playM ms).1
  have hs := i3.step
  have est : (drainN (playM ms).1.boundF (playM ms).1).2.stepF = (drainN (playM ms).1.boundF (playM ms).1).2 := by unfold AHeap.stepF; rw [hq]
  have HA := Lib.hid (And.intro i1 (And.intro i3 (And.intro hq est)))
  clear hmu i1 i2 i3 hq hs hms hA hl est
  generalize hbf : (playM ms).1.boundF = bf at *
  generalize hA1 : (playM ms).1 = A1 at *
  generalize hd1 : (drainN bf A1).1 = d1 at *
  generalize hA2 : (drainN bf A1).2 = A2 at *
  have HD := Lib.hid (And.intro hbf (And.intro hd1 hA2))
  clear hbf hd1 hA2 hA1
  have f1 : decide ((bf : Int) < (d1 : Int)) = false := by simp; omega
  go_enter Try.func7, Try.ntmps7
  go_wp2_with fail
  refine (law_works14 h0).mono ?_
  rintro e w1 ⟨rfl, h1⟩
  go_wp2_with fail
  refine (HP.out w1 (h1.cast (mul_one _).symm)).mono ?_
  rintro e w2 ⟨b, p, rfl, h2⟩
  have c0 := h2.p2.handH
  clear h0 h1
  go_wp2_with fail
  refine (c_Bound HA.out.1 (by omega) h2 (k := bf) (by rw [HD.out.1])).mono ?_
  rintro e w3 ⟨rfl, h3⟩
  have c1 := h3.p2.handH
  clear h2
  go_wp2_with fail
  refine (c_Drain HA.out.1 (by omega) (bf : Int) (by omega) h3 (k := d1) (A' := A2) (by rw [Int.toNat_natCast, HD.out.2.1]) (by rw [Int.toNat_natCast, HD.out.2.2])).mono ?_
  rintro e w4 ⟨rfl, h4⟩
  have c2 := h4.p2.handH
  clear h3
  go_wp2_with fail
  refine (c_Queue HA.out.2.1 (by omega) h4 (L := []) (n := 0) HA.out.2.2.1 rfl).mono ?_
  rintro e w5 ⟨qa, qc, rfl, h5⟩
  have c3 := h5.p3.handH
  clear h4
  go_wp2_with fail
  refine (c_Step HA.out.2.1 (by omega) h5.drop (b := false) (by rw [HA.out.2.2.1]; rfl)).mono ?_
  rw [HA.out.2.2.2]
  rintro e w6 ⟨rfl, h6⟩
  have c4 := h6.p2.handH
  clear h5
  have hT := HA.out.2.1.t
  have hN := lastT_le A2.T
  have HG := Lib.hid (heap_Graph h6 (by omega) fun n o ho => by have := HA.out.2.1.c n o ho; omega)
  have hgl : (graphL A2 (lastT A2.T)).length = lastT A2.T := by simp [graphL]
  have hgo : ∀ (k : Nat) (x : AObj), (graphL A2 (lastT A2.T))[k]? = some x → (x.kind != 0) = false ∨ ((x.kind != 0) = true ∧ ¬ x.count < 1) := fun k x hx => by
    unfold graphL at hx
    rw [List.getElem?_map] at hx
    cases hr : (List.range (lastT A2.T))[k]? with
    | none => rw [hr] at hx; cases hx
    | some i => rw [hr] at hx; cases hx; exact obj_ok HA.out.2.1 HA.out.2.2.1 _
  generalize graphL A2 (lastT A2.T) = L at *
  have hN2 : lastT A2.T ≤ 61 := by omega
  generalize lastT A2.T = N at *
  have HS := Lib.hid (And.intro hgl hgo)
  clear hgl hgo hN hT h6
  go_wp2_with fail
  refine HG.out.mono ?_
  rintro e w7 ⟨ga, gc, rfl, h7⟩
  obtain ⟨X, ⟨hX1, hX2⟩, h8⟩ := h7.openObjs
  have h9 := h8.alloc (.cells #[.slice ga N gc] 64)
  have HX := Lib.hid hX1
  have H9 := Lib.hid h9
  clear h7 h8 hX1 hX2 h9
  generalize hgb : w7.heap.size = gb at *
  go_wp2
  go_loopw [7] (fun iv wr => ∃ k : Nat, iv = .int .i64 k ∧ k ≤ N ∧ Sat w wr (pt gb (.cells #[.slice ga N gc] 64 (0, 0)) * (slc 39 5 ga N gc (xscells X) * (xslotsR X * (heapR mN p A2 * (handL b p (playM ms).2 * (Old w * 1))))))) (fun iv _ => N - (intOf iv).toNat)
  case atStart => exact ⟨0, rfl, by omega, H9.out⟩
  case round =>
    obtain ⟨k, rfl, hk, hs⟩ := hrel
    have g0 : wr.cell? ⟨gb, 0, none⟩ = some (.slice ga N gc) := Sat.cell (T := 64) (cs := #[.slice ga N gc]) hs 0 rfl
    by_cases hlt : k < N
    · have hXl : X.length = N := by have e := HS.out.1; rw [← HX.out, List.length_map] at e; exact e
      have hx : X[k]? = some (X[k]'(by omega)) := List.getElem?_eq_getElem _
      generalize X[k]'(by omega) = x at hx
      have hLx : L[k]? = some x.1 := by rw [← HX.out, List.getElem?_map, hx]; rfl
      obtain ⟨g, off, e1, d0, d1, d2, d3, d4⟩ := objAtX hs.p2 hx
      have hok := HS.out.2 k x.1 hLx
      obtain ⟨⟨ok, oc, osl, otx, om⟩, sa, sc⟩ := x
      dsimp only at d0 d1 hok
      cases e1
      have HH := Lib.hid hs
      clear hs hXl hx hLx d2 d3 d4
      rcases hok with hq | ⟨hq, hq2⟩
      · go_wp2
        go_round
        case rel => exact ⟨k + 1, by go_num, by omega, HH.out⟩
        case measure => simp [intOf]; omega
      · have hq3 : decide (oc < 1) = false := by simpa using hq2
        go_wp2
        go_round
        case rel => exact ⟨k + 1, by go_num, by omega, HH.out⟩
        case measure => simp [intOf]; omega
    · have hkn : k = N := by omega
      subst hkn
      go_wp2
      go_ret
      exact ⟨rfl, Sat.below (F := 1) (hs.drop.drop.drop.drop.drop)⟩
theorem own : ownKnob Try.prog.godebug = none := by kernel_rfl
theorem laidOut : laidOutB Try.prog = true := by kernel_rfl
set_option maxRecDepth 100000 in
theorem lifted (os : Os) (started : os.Started) (H : Type) (enc : TypeId × Value → H) :
    ReturnsInHanded {} Try.checked os 7 .any (Rows.drainEndsSpec.pre6 enc Try.prog Try.f7 Rows.drainEndsRow.domain false) (Rows.drainEndsSpec.post enc Try.prog Try.f7 false true false false) := by
  refine returnsInHanded_of_change (C := Try.checked) own started (by kernel_rfl) Try.func7
    (ChangeSpec.witness6 (enc := enc) (C := Try.checked) false ⟨#[], #[.slice none 0 0], []⟩ 8 (by kernel_rfl) (by kernel_rfl) (by kernel_rfl) (by kernel_rfl)) ?_
  intro W base args ds gs before hval0 hW hcnd _
  have hval : ∀ (j : Nat) t v, Try.f7.params[j]? = some t → args[j]? = some v → Value.okWide Try.prog W .any base t v := hval0
  have hW' := hW
  obtain ⟨p, q, hA0, hV, rfl, hfz, hnd⟩ := hW
  have hA : DataW.TrodAll enc Try.prog W 0 (fun _ => true) true Try.f7.params.toList args.toList ds p := hA0
  rw [Try.params7] at hA hval
  obtain ⟨v0, vs0, d0, ds0, p0, q0, hargs, rfl, rfl, h0, r0⟩ := trodAll_cons hA
  obtain ⟨rfl, rfl, rfl⟩ := trodAll_nil r0
  obtain rfl : args = #[v0] := by cases args; simp_all
  obtain ⟨rfl, rfl⟩ := trodVars_none hV
  obtain ⟨a0, len0, cap0, rfl⟩ := okWide_slice Try.underlying72 (hval 0 72 v0 rfl rfl)
  have k0 := h0
  have lt0 : ∀ x ∈ p0, x.block < W.heap.size := by obtain ⟨m, hm⟩ := k0; exact DataW.trod_lt m _ _ _ hm
  obtain ⟨z0, w0⟩ : ∃ zs, IsMoves W a0 len0 cap0 zs := by
    obtain ⟨fuel, hf⟩ := h0
    exact open_moves hf
  clear hA0 hval0
  refine (walk a0 len0 cap0 z0 W w0).mono fun e W' ⟨he, bel⟩ => ?_
  subst he
  exact ⟨_, rfl, _, _, _, [], _, [], hW', trodAll_mk1 (shut_bool Try.underlying4 _), (trodAll_cons_mk (Below.trod laidOut (by kernel_rfl) (of_decide_eq_true (by kernel_rfl)) k0 bel lt0) trodAll_mk0), rfl, bel.frame _, fun h => by cases h⟩
theorem over : Rows.drainEndsRow.holds Try.pinned (OpenSpec.ofChange Rows.drainEndsSpec) :=
  OpenClaim.holds_of_wide 7 Try.f7 rfl rfl rfl rfl rfl rfl rfl ⟨rfl, rfl, rfl, rfl, rfl⟩ rfl rfl rfl rfl rfl (by kernel_rfl) Try.func7 (by kernel_rfl)
    (of_decide_eq_true (by kernel_rfl)) (by unfold Func.isWrapper; first | (rw [if_pos (by decide +kernel)]; kernel_rfl) | (rw [if_neg (by decide +kernel)]; exact ⟨rfl, rfl⟩))
    (fun os started H enc _ => lifted os started H enc)
theorem drainEnds_holds : Rows.DrainEndsSaid := over
#print axioms drainEnds_holds
end Go.Proofs.Ytkpcngcegipalaa.DEnds
