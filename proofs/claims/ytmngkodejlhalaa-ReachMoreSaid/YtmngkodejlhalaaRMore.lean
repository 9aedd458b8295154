/- ReachMore: more roots reach no less, and what is reached reaches itself alone: the row, proved without a condition. -/
import Derived.Test.YtmngkodejlhalaaRl4
import Derived.Test.YtmngkodejlhalaaRp1
import Derived.ProofKit
import Derived.OpenShut
import Derived.ChangeOld
namespace Go.Proofs.Ytmngkodejlhalaa.RMore
set_option linter.unusedVariables false
set_option linter.unusedSimpArgs false
open Go Go.RowKit Go.MapKept Go.Proofs.Ytmngkodejlhalaa.Tw
open Go.ChangeShapes Go.WideShapes Go.ChangeAt

set_option maxRecDepth 100000 in
set_option maxHeartbeats 8000000 in
theorem walk (ga : Option Addr) (n c : Nat) (X : List XObj) (a1 : Option Addr) (n1 c1 : Nat) (l1 : List AVal) (a2 : Option Addr) (n2 c2 : Nat) (l2 : List AVal) (w : World) (hG : SrcG w (Old w) ga n c X) (hA : SrcV w (Old w) a1 n1 c1 l1) (hB : SrcV w (Old w) a2 n2 c2 l2) :
    Calls Try.prog 7 #[.agg #[.slice ga n c], .slice a1 n1 c1, .slice a2 n2 c2] w fun e w' => e = .returned (.bool true) ∧ Below w.heap.size w w' := by
  have h1 : Sat w _ (pt w.heap.size (.cells #[.slice ga n c] 24 (0, 0)) * _) := (Sat.refl w).alloc (.cells #[.slice ga n c] 24)
  have h1' : Sat w (w.alloc (.cells #[.slice ga n c] 24)) (Old w * (pt w.heap.size (.cells #[.slice ga n c] 24 (0, 0)) * 1)) := h1.cast (by rw [mul_one, mul_comm])
  have HW := Lib.hid (fun w' F (h : Sat w w' (Old w * F)) => h.below)
  generalize hgb : w.heap.size = gb at *
  have hca := hA.2.2.2
  have hcb := hB.2.2.2
  have e1 : min (n1 : Int) 40 = ((min n1 40 : Nat) : Int) := by omega
  have e2 : min (n2 : Int) 40 = ((min n2 40 : Nat) : Int) := by omega
  have m1 : min n1 40 ≤ n1 := by omega
  have m2 : min n2 40 ≤ n2 := by omega
  have f1 : min n1 40 ≤ 40 := by omega
  have f2 : min n2 40 ≤ 40 := by omega
  have HA := hA.take m1
  have HB := hB.take m2
  generalize min n1 40 = k1 at *
  generalize min n2 40 = k2 at *
  generalize l1.take k1 = A at *
  generalize l2.take k2 = B at *
  have hk1 : A.length = k1 := HA.2.1
  have hk2 : B.length = k2 := HB.2.1
  subst hk1 hk2
  obtain ⟨L, hL⟩ : ∃ L, ownL (X.map (·.1)) = L := ⟨_, rfl⟩
  obtain ⟨N, hN⟩ : ∃ N, L.length = N := ⟨_, rfl⟩
  have hN40 : N ≤ 40 := by rw [← hN, ← hL]; exact ownL_len _
  have hsm : smallG L := fun o ho => by rw [← hL] at ho; have := ownL_slots ho; omega
  obtain ⟨R1, hR1⟩ : ∃ R, thoseG L (refsV A) true = R := ⟨_, rfl⟩
  obtain ⟨R2, hR2⟩ : ∃ R, thoseG L (refsV (A ++ B)) true = R := ⟨_, rfl⟩
  have hr1 : R1.length ≤ 40 := by rw [← hR1]; have := thoseG_len L (refsV A) true; omega
  have hr2 : R2.length ≤ 40 := by rw [← hR2]; have := thoseG_len L (refsV (A ++ B)) true; omega
  have hin : ∀ x ∈ R1, 1 ≤ x ∧ x ≤ 2147483647 := fun x hx => by rw [← hR1] at hx; have := thoseG_in hx; omega
  have hsub : ∀ x ∈ R1, x ∈ R2 := fun x hx => by
    rw [← hR1] at hx; rw [← hR2, refsV_append]; exact from_more hx
  have hR3 : thoseG L (refsV (R1.map fun x => (⟨9, x⟩ : AVal))) true = R1 := by
    rw [refsV_cells hin, ← hR1, from_again]
  have HR := Lib.hid (And.intro hR1 (And.intro hR2 (And.intro hin (And.intro hsub hR3))))
  have HS := Lib.hid (And.intro hsm (And.intro HA HB))
  have HL := Lib.hid (And.intro hL hN)
  have HG := Lib.hid hG
  have fA := Lib.hid hA
  clear hR1 hR2 hin hsub hR3 hsm HA HB hL hN hG hA hB
  have g0 := boxG h1
  go_enter Try.func7, Try.ntmps7
  try rw [hgb]
  go_wp2_with fail
  refine (law_own h1' HG.out HL.out.1 HL.out.2).mono ?_
  rintro e w2 ⟨oa, oc, rfl, h2⟩
  have g2 := boxG h2.p3
  have g2f := Sat.free (T := 24) (cs := #[.slice ga n c]) h2.p3 0
  have h3 : Sat w _ (pt gb (.cells #[.slice oa N oc] 24 (0, 0)) * _) := Sat.store (T := 24) (cs := #[.slice ga n c]) h2.p3 (i := 0) (.slice oa N oc)
  have g3 := boxG h3
  have H1 := h3.p3.p3
  clear h1 h1' g0 HG HL
  go_wp2_with fail
  refine (c_From H1 (by omega) HS.out.1 HS.out.2.1 (by omega) HR.out.1).mono ?_
  rintro e w4 ⟨ra, rc, rfl, h4⟩
  have h5 := h4.drew
  have h6 := emptySlcV h5
  have g5 := boxG h5.p4
  have g6 := boxG h6.p5
  generalize heb : w4.drew.heap.size = eb at *
  obtain ⟨i0, hi, hz0, hz1, hz2⟩ := info_parts info_val
  have HFA := Lib.hid (fun w' G (h : Sat w w' (Old w * G)) => And.intro (HS.out.2.1.flat h) (HS.out.2.1.2.2.1))
  have HFB := Lib.hid (fun w' G (h : Sat w w' (Old w * G)) => And.intro (HS.out.2.2.flat h) (HS.out.2.2.2.2.1))
  have HFR := Lib.hid (show ∀ (w' : World) (a3 : Option Addr) (c3 : Nat) (G : HP), Sat w w' (slc 33 2 a3 (0 + A.length + B.length) c3 ([] ++ avcells A ++ avcells B) * (slc 3 1 ra R1.length rc (R1.map ival) * (objsV oa N oc L * G))) →
      Calls Try.prog 17 #[.agg #[.slice oa N oc], .slice a3 (A.length + B.length) c3] w' fun e w'' => ∃ rb rd, e = .returned (.slice rb R2.length rd) ∧ Sat w w'' (slc 3 1 ra R1.length rc (R1.map ival) * (slc 3 1 rb R2.length rd (R2.map ival) * (objsV oa N oc L * G))) from by
    intro w' a3 c3 G h
    have h9 : Sat w w' (slc 33 2 a3 (A ++ B).length c3 (avcells (A ++ B)) * (slc 3 1 ra R1.length rc (R1.map ival) * (objsV oa N oc L * G))) := by
      have e : [] ++ avcells A ++ avcells B = avcells (A ++ B) := by unfold avcells; rw [List.nil_append, List.flatMap_append]
      rw [e, Nat.zero_add] at h
      rw [List.length_append]
      exact h
    have H2 := c_From h9.p3 (by omega) HS.out.1 (srcV_slc' rfl h9.slcCap (slc_nil h9)) (by rw [List.length_append]; omega) HR.out.2.1
    rw [List.length_append] at H2
    refine H2.mono ?_
    rintro e w2 ⟨rb, rd, rfl, h10⟩
    exact ⟨rb, rd, rfl, (h10.p3.drop).p3⟩)
  clear g2 g2f h2 h3 g3 H1
  go_wp2_with fail
  go_region_held3 (fun w' => w'.cell? ⟨gb, 0, none⟩ = some (.slice oa N oc)) (assumption) (first
    | (refine step_of rfl (wp_append_any _ _ 25 rfl i0 (.agg #[.int .i64 0, .int .i64 0]) 16 Try.underlying25 hi hz0 hz1 hz2 rfl (some ⟨eb, 0, none⟩) 0 0 [] (by simp [Act.eval, Act.put, heb]) h6 a1 A.length c1 (avcells A) (by simp [Act.eval, Act.put]) (avcells_length _) (HFA.out _ _ h6.p4) (oneCell_avcells _) (by unfold maxLen; omega) (by omega) ?_); intro a' c' w7 h7 _; have g7 := boxG h7.p5)
    | (refine step_of rfl (wp_append_any _ _ 25 rfl i0 (.agg #[.int .i64 0, .int .i64 0]) 16 Try.underlying25 hi hz0 hz1 hz2 rfl a' (0 + A.length) c' ([] ++ avcells A) (by simp [Act.eval, Act.put]) h7 a2 B.length c2 (avcells B) (by simp [Act.eval, Act.put]) (avcells_length _) (HFB.out _ _ h7.p4) (oneCell_avcells _) (by unfold maxLen; omega) (by omega) ?_); intro a3 c3 w8 h8 hnil; have g8 := boxG h8.p5)
    | (go_at_call 17; refine (HFR.out _ _ _ _ h8).mono ?_; rintro e w9 ⟨rb, rd, rfl, h10⟩; have g10 := boxG h10.p5))
  clear HFR h4 h5 h6 h7 h8 g5 g6 g7 g8
  go_wp2_with fail
  go_loopw [9] (fun iv wr => ∃ k : Nat, iv = .int .i64 k ∧ k ≤ R1.length ∧ Sat w wr (slc 3 1 ra R1.length rc (R1.map ival) * (slc 3 1 rb R2.length rd (R2.map ival) * (objsV oa N oc L * (Old w * (pt gb (.cells #[.slice oa N oc] 24 (0, 0)) * 1)))))) (fun iv _ => R1.length - (intOf iv).toNat)
  case atStart => exact ⟨0, rfl, by omega, h10⟩
  case round =>
    obtain ⟨k, rfl, hk, hs⟩ := hrel
    clear h10 g10
    by_cases hlt : k < R1.length
    · obtain ⟨x, hx⟩ : ∃ x, R1[k]? = some x := ⟨R1[k], List.getElem?_eq_getElem hlt⟩
      obtain ⟨g, off, rfl, c0, _⟩ := intCells hs hx
      have hm : decide (x ∈ R2) = true := decide_eq_true (HR.out.2.2.2.1 x (List.mem_of_getElem? hx))
      have HH := Lib.hid (law_has11 x hs.p2 rfl (by omega))
      rw [hm] at HH
      clear hx hm
      go_wp2_with fail
      refine HH.out.mono ?_
      rintro e w' ⟨rfl, rfl⟩
      go_wp2_with fail
      go_roundw
      case rel => exact ⟨k + 1, by go_num, by omega, hs⟩
      case measure => simp [intOf]; omega
    · have hkn : k = R1.length := by omega
      subst hkn
      go_wp2_with fail
      go_loopw [10, 11] (fun av iv wr => ∃ (k : Nat) (a : Option Addr) (c' : Nat), av = .slice a k c' ∧ iv = .int .i64 k ∧ k ≤ R1.length ∧ Sat w wr (slc 33 2 a k c' (avcells ((R1.take k).map fun x => (⟨9, x⟩ : AVal))) * (slc 3 1 ra R1.length rc (R1.map ival) * (slc 3 1 rb R2.length rd (R2.map ival) * (objsV oa N oc L * (Old w * (pt gb (.cells #[.slice oa N oc] 24 (0, 0)) * 1))))))) (fun _ iv _ => R1.length - (intOf iv).toNat)
      case atStart => exact ⟨0, none, 0, rfl, rfl, by omega, hs.nilSlc⟩
      case round =>
        obtain ⟨k, a, c', rfl, rfl, hk, hs2⟩ := hrel
        clear hs
        by_cases hlt : k < R1.length
        · obtain ⟨x, hx⟩ : ∃ x, R1[k]? = some x := ⟨R1[k], List.getElem?_eq_getElem hlt⟩
          obtain ⟨g, off, rfl, d0, _⟩ := intCells hs2.p2 hx
          have htk : (R1.take (k + 1)).map (fun x => (⟨9, x⟩ : AVal)) = (R1.take k).map (fun x => (⟨9, x⟩ : AVal)) ++ [⟨9, x⟩] := by rw [List.take_add_one, hx, List.map_append]; rfl
          have HT := Lib.hid htk
          have h3 := hs2.alloc (.cells #[.int .i64 9, .int .i64 x] 33)
          obtain ⟨b0, b1⟩ := boxV h3
          have h4 := h3.p2
          clear hx htk
          go_wp2_with (at_builtin; refine wpList_pushVal rfl _ _ rfl a k c' _ rfl h4 wr.heap.size 1 ⟨9, x⟩ rfl b0 b1 (by omega) ?_; intro a9 c9 w9 h9)
          go_roundw
          case rel =>
            refine ⟨k + 1, a9, c9, rfl, by go_num, by omega, ?_⟩
            rw [HT.out]
            exact h9.drop2
          case measure => simp [intOf]; omega
        · have hkn : k = R1.length := by omega
          subst hkn
          rw [List.take_of_length_le (Nat.le_refl _)] at hs2
          have g2 := boxG hs2.p6
          have hl : (R1.map fun x => (⟨9, x⟩ : AVal)).length = R1.length := List.length_map _
          have HSRC : ∀ w0, SrcV w0 (slc 33 2 a R1.length c' (avcells (R1.map fun x => (⟨9, x⟩ : AVal)))) a (R1.map fun x => (⟨9, x⟩ : AVal)).length c' (R1.map fun x => (⟨9, x⟩ : AVal)) := fun w0 => srcV_slc' rfl (by rw [hl]; exact hs2.slcCap) (fun e => by rw [hl]; exact slc_nil hs2 e) |> fun h => by rw [hl] at h; rw [hl]; exact h
          have HF := c_From hs2.p4.p2.p2 (by omega) HS.out.1 (HSRC w) (by rw [hl]; omega) HR.out.2.2.2.2
          rw [hl] at HF
          have HH := Lib.hid HF
          clear HF HSRC
          go_wp2_with fail
          refine HH.out.mono ?_
          rintro e w4 ⟨rz, rq, rfl, h4⟩
          go_wp2_with fail
          refine (law_ints11 (l := R1) (r := R1) h4.p4.p2 rfl rfl (by omega) (by omega)).mono ?_
          rintro e w5 ⟨rfl, h5⟩
          rw [decide_eq_true rfl]
          go_wp2_with fail
          refine (law_works11 h5).mono ?_
          rintro e w6 ⟨rfl, h6⟩
          go_wp2_with fail
          go_ret
          exact ⟨rfl, HW.out _ _ h6.p6⟩
theorem own : ownKnob Try.prog.godebug = none := by kernel_rfl
theorem laidOut : laidOutB Try.prog = true := by kernel_rfl
set_option maxRecDepth 100000 in
theorem lifted (os : Os) (started : os.Started) (H : Type) (enc : TypeId × Value → H) :
    ReturnsInHanded {} Try.checked os 7 .any (Rows.reachMoreSpec.pre6 enc Try.prog Try.f7 Rows.reachMoreRow.domain false) (Rows.reachMoreSpec.post enc Try.prog Try.f7 false true false false) := by
  refine returnsInHanded_of_change (C := Try.checked) own started (by kernel_rfl) Try.func7
    (ChangeSpec.witness6 (enc := enc) (C := Try.checked) false ⟨#[], #[.agg #[.slice none 0 0], .slice none 0 0, .slice none 0 0], []⟩ 8 (by kernel_rfl) (by kernel_rfl) (by kernel_rfl) (by kernel_rfl)) ?_
  intro W base args ds gs before hval0 hW hcnd _
  have hval : ∀ (j : Nat) t v, Try.f7.params[j]? = some t → args[j]? = some v → Value.okWide Try.prog W .any base t v := hval0
  have hW' := hW
  obtain ⟨p, q, hA0, hV, rfl, hfz, hnd⟩ := hW
  have hA : DataW.TrodAll enc Try.prog W 0 (fun _ => true) true Try.f7.params.toList args.toList ds p := hA0
  rw [Try.params7] at hA hval
  obtain ⟨v0, vs0, d0, ds0, p0, q0, hargs, rfl, rfl, h0, r0⟩ := trodAll_cons hA
  obtain ⟨v1, vs1, d1, ds1, p1, q1, rfl, rfl, rfl, h1, r1⟩ := trodAll_cons r0
  obtain ⟨v2, vs2, d2, ds2, p2, q2, rfl, rfl, rfl, h2, r2⟩ := trodAll_cons r1
  obtain ⟨rfl, rfl, rfl⟩ := trodAll_nil r2
  obtain rfl : args = #[v0, v1, v2] := by cases args; simp_all
  obtain ⟨rfl, rfl⟩ := trodVars_none hV
  have k0 := h0
  have lt0 : ∀ x ∈ p0, x.block < W.heap.size := by obtain ⟨m, hm⟩ := k0; exact DataW.trod_lt m _ _ _ hm
  obtain ⟨a0, len0, cap0, z0, rfl, w0⟩ : ∃ (a : Option Addr) (n c : Nat) (X : List XObj), v0 = .agg #[.slice a n c] ∧ SrcG W (Old W) a n c X := by
    obtain ⟨fuel, hf⟩ := h0
    exact open_graph hf (okWide_struct Try.underlying24 (hval 0 24 v0 rfl rfl))
  obtain ⟨a1, len1, cap1, rfl⟩ := okWide_slice Try.underlying25 (hval 1 25 v1 rfl rfl)
  have k1 := h1
  have lt1 : ∀ x ∈ p1, x.block < W.heap.size := by obtain ⟨m, hm⟩ := k1; exact DataW.trod_lt m _ _ _ hm
  obtain ⟨z1, w1⟩ : ∃ zs, SrcV W (Old W) a1 len1 cap1 zs := by
    obtain ⟨fuel, hf⟩ := h1
    exact open_vals hf
  obtain ⟨a2, len2, cap2, rfl⟩ := okWide_slice Try.underlying25 (hval 2 25 v2 rfl rfl)
  have k2 := h2
  have lt2 : ∀ x ∈ p2, x.block < W.heap.size := by obtain ⟨m, hm⟩ := k2; exact DataW.trod_lt m _ _ _ hm
  obtain ⟨z2, w2⟩ : ∃ zs, SrcV W (Old W) a2 len2 cap2 zs := by
    obtain ⟨fuel, hf⟩ := h2
    exact open_vals hf
  clear hA0 hval0
  refine (walk a0 len0 cap0 z0 a1 len1 cap1 z1 a2 len2 cap2 z2 W w0 w1 w2).mono fun e W' ⟨he, bel⟩ => ?_
  subst he
  exact ⟨_, rfl, _, _, _, [], _, [], hW', trodAll_mk1 (shut_bool Try.underlying4 _), (trodAll_cons_mk (Below.trod laidOut (by kernel_rfl) (of_decide_eq_true (by kernel_rfl)) k0 bel lt0) (trodAll_cons_mk (Below.trod laidOut (by kernel_rfl) (of_decide_eq_true (by kernel_rfl)) k1 bel lt1) (trodAll_cons_mk (Below.trod laidOut (by kernel_rfl) (of_decide_eq_true (by kernel_rfl)) k2 bel lt2) trodAll_mk0))), rfl, bel.frame _, fun h => by cases h⟩
theorem over : Rows.reachMoreRow.holds Try.pinned (OpenSpec.ofChange Rows.reachMoreSpec) :=
  OpenClaim.holds_of_wide 7 Try.f7 rfl rfl rfl rfl rfl rfl rfl ⟨rfl, rfl, rfl, rfl, rfl⟩ rfl rfl rfl rfl rfl (by kernel_rfl) Try.func7 (by kernel_rfl)
    (of_decide_eq_true (by kernel_rfl)) (by unfold Func.isWrapper; first | (rw [if_pos (by decide +kernel)]; kernel_rfl) | (rw [if_neg (by decide +kernel)]; exact ⟨rfl, rfl⟩))
    (fun os started H enc _ => lifted os started H enc)
theorem reachMore_holds : Rows.ReachMoreSaid := over
#print axioms reachMore_holds
end Go.Proofs.Ytmngkodejlhalaa.RMore
