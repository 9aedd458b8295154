/- ReachFinds: what can be reached from any values, in any graph, and what can't, is as the document says: the row, proved without a condition. -/
import Derived.Test.YtmngkodejlhalaaZRFinds23
import Derived.Test.YtmngkodejlhalaaZRFinds16
import Derived.Test.YtmngkodejlhalaaZRFinds18
import Derived.ProofKit
import Derived.OpenShut
import Derived.ChangeOld
namespace Go.Proofs.Ytmngkodejlhalaa.RFinds
set_option linter.unusedVariables false
set_option linter.unusedSimpArgs false
open Go Go.RowKit Go.MapKept Go.Proofs.Ytmngkodejlhalaa.Tw
open Go.ChangeShapes Go.WideShapes Go.ChangeAt

end Go.Proofs.Ytmngkodejlhalaa.RFinds
namespace Go.Proofs.Ytmngkodejlhalaa.Tw
open Go Go.RowKit Go.MapKept
section
variable {w0 w : World} {F A B C : HP}
theorem ints_same {a b : Option Addr} {c c' : Nat} {l : List Int} (h : Sat w0 w (slc 3 1 a l.length c (l.map ival) * (slc 3 1 b l.length c' (l.map ival) * F))) (hn : l.length ≤ 1000000000) :
    Calls Try.prog 16 #[.slice a l.length c, .slice b l.length c'] w fun e w' => e = .returned (.bool true) ∧ Sat w0 w' (slc 3 1 a l.length c (l.map ival) * (slc 3 1 b l.length c' (l.map ival) * F)) := by
  have := ref_Ints h rfl rfl hn hn
  rwa [decide_eq_true (rfl : l = l)] at this
theorem Sat.swapQ (h : Sat w0 w (A * (B * F))) : Sat w0 w (B * (A * F)) := h.cast (mul_left_comm _ _ _)
theorem Sat.assoc3 (h : Sat w0 w ((A * B) * F)) : Sat w0 w (A * (B * F)) := h.cast (mul_assoc _ _ _)
theorem Sat.unassoc3 (h : Sat w0 w (A * (B * F))) : Sat w0 w ((A * B) * F) := h.cast (mul_assoc _ _ _).symm
end
end Go.Proofs.Ytmngkodejlhalaa.Tw
namespace Go.Proofs.Ytmngkodejlhalaa.RFinds
open Go Go.RowKit Go.MapKept Go.Proofs.Ytmngkodejlhalaa.Tw
open Go.ChangeShapes Go.WideShapes Go.ChangeAt
attribute [local go_sem] lookE lkE valUpon
set_option maxRecDepth 100000 in
set_option maxHeartbeats 8000000 in
theorem walk (ga : Option Addr) (n c : Nat) (X : List XObj) (a1 : Option Addr) (n1 c1 : Nat) (l1 : List AVal) (w : World) (hG : SrcG w (Old w) ga n c X) (hA : SrcV w (Old w) a1 n1 c1 l1) :
    Calls Try.prog 3 #[.agg #[.slice ga n c], .slice a1 n1 c1] w fun e w' => e = .returned (.bool true) ∧ Below w.heap.size w w' := by
  have h1 : Sat w _ (pt w.heap.size (.cells #[.slice ga n c] 24 (0, 0)) * _) := (Sat.refl w).alloc (.cells #[.slice ga n c] 24)
  have h1' : Sat w (w.alloc (.cells #[.slice ga n c] 24)) (Old w * (pt w.heap.size (.cells #[.slice ga n c] 24 (0, 0)) * 1)) := h1.cast (by rw [mul_one, mul_comm])
  have HW := Lib.hid (fun w' F (h : Sat w w' (Old w * F)) => h.below)
  generalize hgb : w.heap.size = gb at *
  have hca := hA.2.2.2
  have e1 : min (n1 : Int) 40 = ((min n1 40 : Nat) : Int) := by omega
  have m1 : min n1 40 ≤ n1 := by omega
  have f1 : min n1 40 ≤ 40 := by omega
  have HA := hA.take m1
  generalize min n1 40 = k1 at *
  generalize l1.take k1 = A at *
  have hk1 : A.length = k1 := HA.2.1
  subst hk1
  obtain ⟨L, hL⟩ : ∃ L, ownL (X.map (·.1)) = L := ⟨_, rfl⟩
  obtain ⟨N, hN⟩ : ∃ N, L.length = N := ⟨_, rfl⟩
  have hN40 : N ≤ 40 := by rw [← hN, ← hL]; exact ownL_len _
  have hsm : ∀ o ∈ L, o.slots.length ≤ 40 := fun o ho => by rw [← hL] at ho; exact ownL_slots ho
  have hsm' : smallG L := fun o ho => by have := hsm o ho; omega
  obtain ⟨RA, hRA⟩ : ∃ R, refsV A = R := ⟨_, rfl⟩
  have hra : RA.length ≤ 40 := by rw [← hRA]; unfold refsV; rw [List.length_map]; have := List.length_filter_le refV A; omega
  have hrp : ∀ s ∈ RA, 1 ≤ s ∧ s ≤ 2147483647 := fun s hs => refsV_pos (l := A) (by rw [hRA]; exact hs)
  obtain ⟨R1, hR1⟩ : ∃ R, thoseG L RA true = R := ⟨_, rfl⟩
  obtain ⟨R2, hR2⟩ : ∃ R, thoseG L RA false = R := ⟨_, rfl⟩
  have hr1 : R1.length ≤ 40 := by rw [← hR1]; have := thoseG_len L RA true; omega
  have hr2 : R2.length ≤ 40 := by rw [← hR2]; have := thoseG_len L RA false; omega
  have HP := Lib.hid (And.intro hR1 (And.intro hR2 (And.intro hrp hsm)))
  have HV := Lib.hid HA
  have HRA := Lib.hid hRA
  have HS := Lib.hid hsm'
  have HL := Lib.hid (And.intro hL hN)
  have HG := Lib.hid hG
  clear hR1 hR2 hsm hsm' HA hL hN hG hA hrp hRA
  have g0 := boxG h1
  go_enter Try.func3, Try.ntmps3
  try rw [hgb]
  go_wp2_with fail
  refine (law_own h1' HG.out HL.out.1 HL.out.2).mono ?_
  rintro e w2 ⟨oa, oc, rfl, h2⟩
  have g2 := boxG h2.p3
  have g2f := Sat.free (T := 24) (cs := #[.slice ga n c]) h2.p3 0
  have h3 : Sat w _ (pt gb (.cells #[.slice oa N oc] 24 (0, 0)) * _) := Sat.store (T := 24) (cs := #[.slice ga n c]) h2.p3 (i := 0) (.slice oa N oc)
  obtain ⟨C, Y, hY, hGO, hV, H1, _⟩ := (h3.p3.p3).graphSrc (by omega) HS.out
  have HB : Hid (∀ w' G, Sat w w' ((C * Old w) * G) → Below gb w w') := Lib.hid (fun w' G h => HW.out w' (C * G) (h.cast (by ac_rfl)))
  have HVD := Lib.hid (HV.out.mono' (C := C))
  generalize C * Old w = D at *
  have HY := Lib.hid hY
  have HGO := Lib.hid hGO
  clear h1 h1' g0 HG HL hV hY hGO HS HV HW
  have g3 := boxG H1.drew.p2
  have HFr := Lib.hid (fun w' G (h : Sat w w' (D * G)) => reach_From h HGO.out HVD.out (by omega) (R := R1) (by rw [HY.out, HRA.out]; exact HP.out.1))
  have HLo := Lib.hid (fun w' G (h : Sat w w' (D * G)) => reach_Lost h HGO.out HVD.out (by omega) (R := R2) (by rw [HY.out, HRA.out]; exact HP.out.2.1))
  have hal := HVD.out.2.1
  have HFq := Lib.hid (fun w' G (h : Sat w w' (D * G)) => ref_From h HGO.out HVD.out (by omega) (R := R1) (by rw [HY.out, HRA.out]; exact HP.out.1))
  have HLq := Lib.hid (fun w' G (h : Sat w w' (D * G)) => ref_Lost h HGO.out HVD.out (by omega) (R := R2) (by rw [HY.out, HRA.out]; exact HP.out.2.1))
  have HS0 := Lib.hid (H1.cast (show _ = D * pt gb (.cells #[.slice oa N oc] 24 (0, 0)) by rw [mul_one]))
  clear H1 h3 hal
  go_wp2_with fail
  clear h2 g2 g2f g3
  refine wp_gen fun a0 ha => ?_
  have hb1 : base a0 1 = .slice a1 A.length c1 := by rw [ha]; rfl
  have hb2 : base a0 2 = .pointer (some ⟨gb, 0, none⟩) := by rw [ha]; rfl
  have hsz0 : a0.tmps.size = 31 := by rw [ha]; rfl
  have HA0 := Lib.hid (And.intro hsz0 ha)
  clear ha hsz0
  refine GW.start (X := Option Addr × Nat) (w0 := w) (B := [D, pt gb (.cells #[.slice oa N oc] 24 (0, 0))]) (a0 := a0) ?_
  refine GW.det (d := (some 12)) [1] [] rfl (fun e => by rfl) ?_; apply Exists.intro; refine ⟨fun e w' F hs => ?_, ?_, ?_⟩
  · have y0 : w'.cell? ⟨gb, 0, none⟩ = some (.slice oa N oc) := boxG (show Sat w w' (pt gb (.cells #[.slice oa N oc] 24 (0, 0)) * F) from hs); first | (go_simp; done) | (go_simp; rfl)
  · exact (fun _ _ _ => rfl)
  refine GW.det (d := (some 13)) [] [] rfl (fun e => by rfl) ?_; apply Exists.intro; refine ⟨fun e w' F hs => ?_, ?_, ?_⟩
  · first | (go_simp; done) | (go_simp; rfl)
  · exact (fun _ _ _ => rfl)
  refine GW.new (d := (some 14)) 2 (fun x => .slice x.1 R1.length x.2) (fun x => slc 3 1 x.1 R1.length x.2 (R1.map ival)) [0] rfl rfl (fun e => by rfl) (fun e w' F K hs hK => ?_) ?_
  · go_simp; (refine (HFr.out _ _ (show Sat w w' (D * F) from hs)).mono ?_; rintro e2 w2 ⟨a2, c2, rfl, h2⟩; exact ⟨_, rfl, hK (a2, c2) _ h2.swapQ⟩)
  refine GW.det (d := (some 15)) [1] [] rfl (fun e => by rfl) ?_; apply Exists.intro; refine ⟨fun e w' F hs => ?_, ?_, ?_⟩
  · have y0 : w'.cell? ⟨gb, 0, none⟩ = some (.slice oa N oc) := boxG (show Sat w w' (pt gb (.cells #[.slice oa N oc] 24 (0, 0)) * F) from hs); first | (go_simp; done) | (go_simp; rfl)
  · exact (fun _ _ _ => rfl)
  refine GW.det (d := (some 16)) [] [] rfl (fun e => by rfl) ?_; apply Exists.intro; refine ⟨fun e w' F hs => ?_, ?_, ?_⟩
  · first | (go_simp; done) | (go_simp; rfl)
  · exact (fun _ _ _ => rfl)
  refine GW.new (d := (some 17)) 5 (fun x => .slice x.1 R1.length x.2) (fun x => slc 3 1 x.1 R1.length x.2 (R1.map ival)) [0] rfl rfl (fun e => by rfl) (fun e w' F K hs hK => ?_) ?_
  · go_simp; (refine (HFq.out _ _ (show Sat w w' (D * F) from hs)).mono ?_; rintro e2 w2 ⟨a2, c2, rfl, h2⟩; exact ⟨_, rfl, hK (a2, c2) _ h2.swapQ⟩)
  refine GW.keep (d := (some 18)) (fun e => .bool true) [4, 7] [] rfl (fun e => by rfl) (fun _ _ _ => rfl) (fun e w' F K hs hK => ?_) ?_
  · go_simp; (refine (ints_same (show Sat w w' ((slc 3 1 (e 2).1 R1.length (e 2).2 (R1.map ival) * slc 3 1 (e 5).1 R1.length (e 5).2 (R1.map ival)) * F) from hs).assoc3 (by omega)).mono ?_; rintro e2 w2 ⟨rfl, h2⟩; exact ⟨_, rfl, hK _ h2.unassoc3⟩)
  refine GW.det (d := (some 19)) [] [] rfl (fun e => by rfl) ?_; apply Exists.intro; refine ⟨fun e w' F hs => ?_, ?_, ?_⟩
  · first | (go_simp; done) | (go_simp; rfl)
  · exact (fun _ _ _ => rfl)
  refine GW.det (d := (some 20)) [1] [] rfl (fun e => by rfl) ?_; apply Exists.intro; refine ⟨fun e w' F hs => ?_, ?_, ?_⟩
  · have y0 : w'.cell? ⟨gb, 0, none⟩ = some (.slice oa N oc) := boxG (show Sat w w' (pt gb (.cells #[.slice oa N oc] 24 (0, 0)) * F) from hs); first | (go_simp; done) | (go_simp; rfl)
  · exact (fun _ _ _ => rfl)
  refine GW.det (d := (some 21)) [] [] rfl (fun e => by rfl) ?_; apply Exists.intro; refine ⟨fun e w' F hs => ?_, ?_, ?_⟩
  · first | (go_simp; done) | (go_simp; rfl)
  · exact (fun _ _ _ => rfl)
  refine GW.new (d := (some 22)) 10 (fun x => .slice x.1 R2.length x.2) (fun x => slc 3 1 x.1 R2.length x.2 (R2.map ival)) [0] rfl rfl (fun e => by rfl) (fun e w' F K hs hK => ?_) ?_
  · go_simp; (refine (HLo.out _ _ (show Sat w w' (D * F) from hs)).mono ?_; rintro e2 w2 ⟨a2, c2, rfl, h2⟩; exact ⟨_, rfl, hK (a2, c2) _ h2.swapQ⟩)
  refine GW.det (d := (some 23)) [1] [] rfl (fun e => by rfl) ?_; apply Exists.intro; refine ⟨fun e w' F hs => ?_, ?_, ?_⟩
  · have y0 : w'.cell? ⟨gb, 0, none⟩ = some (.slice oa N oc) := boxG (show Sat w w' (pt gb (.cells #[.slice oa N oc] 24 (0, 0)) * F) from hs); first | (go_simp; done) | (go_simp; rfl)
  · exact (fun _ _ _ => rfl)
  refine GW.det (d := (some 24)) [] [] rfl (fun e => by rfl) ?_; apply Exists.intro; refine ⟨fun e w' F hs => ?_, ?_, ?_⟩
  · first | (go_simp; done) | (go_simp; rfl)
  · exact (fun _ _ _ => rfl)
  refine GW.new (d := (some 25)) 13 (fun x => .slice x.1 R2.length x.2) (fun x => slc 3 1 x.1 R2.length x.2 (R2.map ival)) [0] rfl rfl (fun e => by rfl) (fun e w' F K hs hK => ?_) ?_
  · go_simp; (refine (HLq.out _ _ (show Sat w w' (D * F) from hs)).mono ?_; rintro e2 w2 ⟨a2, c2, rfl, h2⟩; exact ⟨_, rfl, hK (a2, c2) _ h2.swapQ⟩)
  refine GW.keep (d := (some 26)) (fun e => .bool true) [12, 15] [] rfl (fun e => by rfl) (fun _ _ _ => rfl) (fun e w' F K hs hK => ?_) ?_
  · go_simp; (refine (ints_same (show Sat w w' ((slc 3 1 (e 10).1 R2.length (e 10).2 (R2.map ival) * slc 3 1 (e 13).1 R2.length (e 13).2 (R2.map ival)) * F) from hs).assoc3 (by omega)).mono ?_; rintro e2 w2 ⟨rfl, h2⟩; exact ⟨_, rfl, hK _ h2.unassoc3⟩)
  refine GW.det (d := (some 27)) [] [] rfl (fun e => by rfl) ?_; apply Exists.intro; refine ⟨fun e w' F hs => ?_, ?_, ?_⟩
  · first | (go_simp; done) | (go_simp; rfl)
  · exact (fun _ _ _ => rfl)
  refine GW.det (d := (some 28)) [] [] rfl (fun e => by rfl) ?_; apply Exists.intro; refine ⟨fun e w' F hs => ?_, ?_, ?_⟩
  · first | (go_simp; done) | (go_simp; rfl)
  · exact (fun _ _ _ => rfl)
  refine GW.keep (d := (some 29)) (fun e => .bool true) [] [] rfl (fun e => by rfl) (fun _ _ _ => rfl) (fun e w' F K hs hK => ?_) ?_
  · go_simp; (refine (law_works11 hs).mono ?_; rintro e2 w2 ⟨rfl, h2⟩; exact ⟨_, rfl, hK _ h2⟩)
  refine GW.det (d := (some 30)) [] [] rfl (fun e => by rfl) ?_; apply Exists.intro; refine ⟨fun e w' F hs => ?_, ?_, ?_⟩
  · first | (go_simp; done) | (go_simp; rfl)
  · exact (fun _ _ _ => rfl)
  refine GW.det (d := (some 4)) [] [] rfl (fun e => by rfl) ?_; apply Exists.intro; refine ⟨fun e w' F hs => ?_, ?_, ?_⟩
  · first | (go_simp; done) | (go_simp; rfl)
  · exact (fun _ _ _ => rfl)
  refine GW.done (sz := 31) [0] (by kernel_rfl) (by kernel_rfl) HA0.out.1 (by rfl) HS0.out (by rfl) fun e w3 gg => ?_
  have ha := HA0.out.2
  subst ha
  clear HA0 hb1 hb2
  simp only [putL, Act.put, List.setIfInBounds_toArray, List.set_cons_zero, List.set_cons_succ]
  replace gg : Sat w w3 D := gg
  have HF := Lib.hid (HB.out _ 1 (gg.cast (mul_one _).symm))
  clear gg
  go_wp2_with fail
  go_ret
  exact ⟨rfl, HF.out⟩
theorem own : ownKnob Try.prog.godebug = none := by kernel_rfl
theorem laidOut : laidOutB Try.prog = true := by kernel_rfl
set_option maxRecDepth 100000 in
theorem lifted (os : Os) (started : os.Started) (H : Type) (enc : TypeId × Value → H) :
    ReturnsInHanded {} Try.checked os 3 .any (Rows.reachFindsSpec.pre6 enc Try.prog Try.f3 Rows.reachFindsRow.domain false) (Rows.reachFindsSpec.post enc Try.prog Try.f3 false true false false) := by
  refine returnsInHanded_of_change (C := Try.checked) own started (by kernel_rfl) Try.func3
    (ChangeSpec.witness6 (enc := enc) (C := Try.checked) false ⟨#[], #[.agg #[.slice none 0 0], .slice none 0 0], []⟩ 8 (by kernel_rfl) (by kernel_rfl) (by kernel_rfl) (by kernel_rfl)) ?_
  intro W base args ds gs before hval0 hW hcnd _
  have hval : ∀ (j : Nat) t v, Try.f3.params[j]? = some t → args[j]? = some v → Value.okWide Try.prog W .any base t v := hval0
  have hW' := hW
  obtain ⟨p, q, hA0, hV, rfl, hfz, hnd⟩ := hW
  have hA : DataW.TrodAll enc Try.prog W 0 (fun _ => true) true Try.f3.params.toList args.toList ds p := hA0
  rw [Try.params3] at hA hval
  obtain ⟨v0, vs0, d0, ds0, p0, q0, hargs, rfl, rfl, h0, r0⟩ := trodAll_cons hA
  obtain ⟨v1, vs1, d1, ds1, p1, q1, rfl, rfl, rfl, h1, r1⟩ := trodAll_cons r0
  obtain ⟨rfl, rfl, rfl⟩ := trodAll_nil r1
  obtain rfl : args = #[v0, v1] := by cases args; simp_all
  obtain ⟨rfl, rfl⟩ := trodVars_none hV
  have k0 := h0
  have lt0 : ∀ x ∈ p0, x.block < W.heap.size := by obtain ⟨m, hm⟩ := k0; exact DataW.trod_lt m _ _ _ hm
  obtain ⟨a0, len0, cap0, z0, rfl, w0⟩ : ∃ (a : Option Addr) (n c : Nat) (X : List XObj), v0 = .agg #[.slice a n c] ∧ SrcG W (Old W) a n c X := by
    obtain ⟨fuel, hf⟩ := h0
    exact open_graph hf (okWide_struct Try.underlying24 (hval 0 24 v0 rfl rfl))
  obtain ⟨a1, len1, cap1, rfl⟩ := okWide_slice Try.underlying25 (hval 1 25 v1 rfl rfl)
  have k1 := h1
  have lt1 : ∀ x ∈ p1, x.block < W.heap.size := by obtain ⟨m, hm⟩ := k1; exact DataW.trod_lt m _ _ _ hm
  obtain ⟨z1, w1⟩ : ∃ zs, SrcV W (Old W) a1 len1 cap1 zs := by
    obtain ⟨fuel, hf⟩ := h1
    exact open_vals hf
  clear hA0 hval0
  refine (walk a0 len0 cap0 z0 a1 len1 cap1 z1 W w0 w1).mono fun e W' ⟨he, bel⟩ => ?_
  subst he
  exact ⟨_, rfl, _, _, _, [], _, [], hW', trodAll_mk1 (shut_bool Try.underlying4 _), (trodAll_cons_mk (Below.trod laidOut (by kernel_rfl) (of_decide_eq_true (by kernel_rfl)) k0 bel lt0) (trodAll_cons_mk (Below.trod laidOut (by kernel_rfl) (of_decide_eq_true (by kernel_rfl)) k1 bel lt1) trodAll_mk0)), rfl, bel.frame _, fun h => by cases h⟩
theorem over : Rows.reachFindsRow.holds Try.pinned (OpenSpec.ofChange Rows.reachFindsSpec) :=
  OpenClaim.holds_of_wide 3 Try.f3 rfl rfl rfl rfl rfl rfl rfl ⟨rfl, rfl, rfl, rfl, rfl⟩ rfl rfl rfl rfl rfl (by kernel_rfl) Try.func3 (by kernel_rfl)
    (of_decide_eq_true (by kernel_rfl)) (by unfold Func.isWrapper; first | (rw [if_pos (by decide +kernel)]; kernel_rfl) | (rw [if_neg (by decide +kernel)]; exact ⟨rfl, rfl⟩))
    (fun os started H enc _ => lifted os started H enc)
theorem reachFinds_holds : Rows.ReachFindsSaid := over
#print axioms reachFinds_holds
end Go.Proofs.Ytmngkodejlhalaa.RFinds
