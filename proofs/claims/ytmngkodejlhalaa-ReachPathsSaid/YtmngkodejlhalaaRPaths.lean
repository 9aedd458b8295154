/- ReachPaths: the way from any value to any object, in any graph, is as the document says: the row, proved without a condition. -/
import Derived.Test.YtmngkodejlhalaaZRPaths23
import Derived.Test.YtmngkodejlhalaaZRPaths16
import Derived.Test.YtmngkodejlhalaaZRPaths24
import Derived.Test.YtmngkodejlhalaaZRPaths18
import Derived.ProofKit
import Derived.OpenShut
import Derived.ChangeOld
namespace Go.Proofs.Ytmngkodejlhalaa.RPaths
set_option linter.unusedVariables false
set_option linter.unusedSimpArgs false
open Go Go.RowKit Go.MapKept Go.Proofs.Ytmngkodejlhalaa.Tw
open Go.ChangeShapes Go.WideShapes Go.ChangeAt

attribute [local go_sem] lookE lkE valUpon
section
variable {w0 w : World} {F A B C : HP}
theorem ints_samP {a b : Option Addr} {c c' : Nat} {l : List Int} (h : Sat w0 w (slc 3 1 a l.length c (l.map ival) * (slc 3 1 b l.length c' (l.map ival) * F))) (hn : l.length ≤ 1000000000) :
    Calls Try.prog 16 #[.slice a l.length c, .slice b l.length c'] w fun e w' => e = .returned (.bool true) ∧ Sat w0 w' (slc 3 1 a l.length c (l.map ival) * (slc 3 1 b l.length c' (l.map ival) * F)) := by
  have := ref_Ints h rfl rfl hn hn
  rwa [decide_eq_true (rfl : l = l)] at this
end
set_option maxRecDepth 100000 in
set_option maxHeartbeats 8000000 in
theorem walk (ga : Option Addr) (n c : Nat) (X : List XObj) (v : AVal) (to : Int) (w : World) (hG : SrcG w (Old w) ga n c X) (r2 : (Lit.int .i64 to).wf = true) :
    Calls Try.prog 4 #[.agg #[.slice ga n c], .agg #[.int .i64 v.kind, .int .i64 v.n], .int .i64 to] w fun e w' => e = .returned (.bool true) ∧ Below w.heap.size w w' := by
  have h1 := ((Sat.refl w).alloc (.cells #[.slice ga n c] 24)).alloc (.cells #[.int .i64 v.kind, .int .i64 v.n] 33)
  rw [size_alloc] at h1
  have HW := Lib.hid (fun w' F (h : Sat w w' (Old w * F)) => h.below)
  generalize hgb : w.heap.size = gb at *
  obtain ⟨vb, hvb⟩ : ∃ vb, gb + 1 = vb := ⟨_, rfl⟩
  rw [hvb] at h1
  have h1' : Sat w _ (Old w * (pt gb (.cells #[.slice ga n c] 24 (0, 0)) * (pt vb (.cells #[.int .i64 v.kind, .int .i64 v.n] 33 (0, 0)) * 1))) := h1.cast (by rw [mul_one]; ac_rfl)
  obtain ⟨L, hL⟩ : ∃ L, ownL (X.map (·.1)) = L := ⟨_, rfl⟩
  obtain ⟨N, hN⟩ : ∃ N, L.length = N := ⟨_, rfl⟩
  have hN40 : N ≤ 40 := by rw [← hN, ← hL]; exact ownL_len _
  have hsm : ∀ o ∈ L, o.slots.length ≤ 40 := fun o ho => by rw [← hL] at ho; exact ownL_slots ho
  have hsm' : smallG L := fun o ho => by have := hsm o ho; omega
  obtain ⟨P, hP⟩ : ∃ R, pathG L v to = R := ⟨_, rfl⟩
  obtain ⟨RF, hRF⟩ : ∃ R, thoseG L (refsV [v]) true = R := ⟨_, rfl⟩
  have hrf : RF.length ≤ 40 := by rw [← hRF]; have := thoseG_len L (refsV [v]) true; omega
  have HP := Lib.hid (And.intro hP (And.intro hRF hsm))
  have hpn : P.length ≤ 40 := by
    by_cases h : 0 < P.length
    · rw [← hP] at h ⊢
      have w1 := way_of h
      have := w1.dist 0 _ w1.first
      have := distG_le w1.there v.n
      omega
    · omega
  have HS := Lib.hid hsm'
  have HL := Lib.hid (And.intro hL hN)
  have HG := Lib.hid hG
  clear hP hRF hsm hsm' hL hN hG
  have g0 := boxG h1.p2
  have g0v := boxV h1
  go_enter Try.func4, Try.ntmps4
  try rw [hgb]
  try rw [hvb]
  go_wp2_with fail
  refine (law_own h1' HG.out HL.out.1 HL.out.2).mono ?_
  rintro e w2 ⟨oa, oc, rfl, h2⟩
  have g2 := boxG h2.p3
  have g2f := Sat.free (T := 24) (cs := #[.slice ga n c]) h2.p3 0
  have h3 : Sat w _ (pt gb (.cells #[.slice oa N oc] 24 (0, 0)) * _) := Sat.store (T := 24) (cs := #[.slice ga n c]) h2.p3 (i := 0) (.slice oa N oc)
  obtain ⟨C, Y, hY, hGO, _, H1, _⟩ := (h3.p3.p3).graphSrc (by omega) HS.out
  have HB : Hid (∀ w' G, Sat w w' ((C * Old w) * G) → Below gb w w') := Lib.hid (fun w' G h => HW.out w' (C * G) (h.cast (by ac_rfl)))
  generalize C * Old w = D at *
  have HY := Lib.hid hY
  have HGO := Lib.hid hGO
  have hocap := HGO.out.cap
  clear h1 h1' g0 g0v HG HL hY hGO HS HW
  have g3 := boxG H1.p2
  have g3v := boxV H1.p3
  have HPt := Lib.hid (fun w' G (h : Sat w w' (D * G)) => reach_Path h HGO.out v to (R := P) (by rw [HY.out]; exact HP.out.1))
  have HPq := Lib.hid (fun w' G (h : Sat w w' (D * G)) => ref_Path h HGO.out v to (R := P) (by rw [HY.out]; exact HP.out.1))
  have HS0 := Lib.hid (H1.cast (show _ = D * (pt gb (.cells #[.slice oa N oc] 24 (0, 0)) * pt vb (.cells #[.int .i64 v.kind, .int .i64 v.n] 33 (0, 0))) by rw [mul_one]))
  clear H1 h3
  go_wp2_with fail
  clear h2 g2 g2f g3 g3v
  refine wp_gen fun a0 ha => ?_
  have hb2 : base a0 2 = .int .i64 to := by rw [ha]; rfl
  have hb3 : base a0 3 = .pointer (some ⟨gb, 0, none⟩) := by rw [ha]; rfl
  have hb4 : base a0 4 = .pointer (some ⟨vb, 0, none⟩) := by rw [ha]; rfl
  have hsz0 : a0.tmps.size = 21 := by rw [ha]; rfl
  have HA0 := Lib.hid (And.intro hsz0 ha)
  clear ha hsz0
  refine GW.start (X := Option Addr × Nat) (w0 := w) (B := [D, pt gb (.cells #[.slice oa N oc] 24 (0, 0)), pt vb (.cells #[.int .i64 v.kind, .int .i64 v.n] 33 (0, 0))]) (a0 := a0) ?_
  refine GW.det (d := (some 9)) [1] [] rfl (fun e => by rfl) ?_; apply Exists.intro; refine ⟨fun e w' F hs => ?_, ?_, ?_⟩
  · have y0 := boxG (show Sat w w' (pt gb (.cells #[.slice oa N oc] 24 (0, 0)) * F) from hs); first | (go_simp; done) | (go_simp; rfl)
  · exact (fun _ _ _ => rfl)
  refine GW.det (d := (some 10)) [2] [] rfl (fun e => by rfl) ?_; apply Exists.intro; refine ⟨fun e w' F hs => ?_, ?_, ?_⟩
  · obtain ⟨y0, y1⟩ := boxV (show Sat w w' (pt vb (.cells #[.int .i64 v.kind, .int .i64 v.n] 33 (0, 0)) * F) from hs); first | (go_simp; done) | (go_simp; rfl)
  · exact (fun _ _ _ => rfl)
  refine GW.det (d := (some 11)) [] [] rfl (fun e => by rfl) ?_; apply Exists.intro; refine ⟨fun e w' F hs => ?_, ?_, ?_⟩
  · first | (go_simp; done) | (go_simp; rfl)
  · exact (fun _ _ _ => rfl)
  refine GW.new (d := (some 12)) 3 (fun x => .slice x.1 P.length x.2) (fun x => slc 3 1 x.1 P.length x.2 (P.map ival)) [0] rfl rfl (fun e => by rfl) (fun e w' F K hs hK => ?_) ?_
  · go_simp; (refine (HPt.out _ _ (show Sat w w' (D * F) from hs)).mono ?_; rintro e2 w2 ⟨a2, c2, rfl, h2⟩; exact ⟨_, rfl, hK (a2, c2) _ (h2.cast (mul_left_comm _ _ _))⟩)
  refine GW.det (d := (some 13)) [1] [] rfl (fun e => by rfl) ?_; apply Exists.intro; refine ⟨fun e w' F hs => ?_, ?_, ?_⟩
  · have y0 := boxG (show Sat w w' (pt gb (.cells #[.slice oa N oc] 24 (0, 0)) * F) from hs); first | (go_simp; done) | (go_simp; rfl)
  · exact (fun _ _ _ => rfl)
  refine GW.det (d := (some 14)) [2] [] rfl (fun e => by rfl) ?_; apply Exists.intro; refine ⟨fun e w' F hs => ?_, ?_, ?_⟩
  · obtain ⟨y0, y1⟩ := boxV (show Sat w w' (pt vb (.cells #[.int .i64 v.kind, .int .i64 v.n] 33 (0, 0)) * F) from hs); first | (go_simp; done) | (go_simp; rfl)
  · exact (fun _ _ _ => rfl)
  refine GW.det (d := (some 15)) [] [] rfl (fun e => by rfl) ?_; apply Exists.intro; refine ⟨fun e w' F hs => ?_, ?_, ?_⟩
  · first | (go_simp; done) | (go_simp; rfl)
  · exact (fun _ _ _ => rfl)
  refine GW.new (d := (some 16)) 7 (fun x => .slice x.1 P.length x.2) (fun x => slc 3 1 x.1 P.length x.2 (P.map ival)) [0] rfl rfl (fun e => by rfl) (fun e w' F K hs hK => ?_) ?_
  · go_simp; (refine (HPq.out _ _ (show Sat w w' (D * F) from hs)).mono ?_; rintro e2 w2 ⟨a2, c2, rfl, h2⟩; exact ⟨_, rfl, hK (a2, c2) _ (h2.cast (mul_left_comm _ _ _))⟩)
  refine GW.keep (d := (some 17)) (fun e => .bool true) [6, 10] [] rfl (fun e => by rfl) (fun _ _ _ => rfl) (fun e w' F K hs hK => ?_) ?_
  · go_simp; (refine (ints_samP ((show Sat w w' ((slc 3 1 (e 3).1 P.length (e 3).2 (P.map ival) * slc 3 1 (e 7).1 P.length (e 7).2 (P.map ival)) * F) from hs).cast (mul_assoc _ _ _)) (by omega)).mono ?_; rintro e2 w2 ⟨rfl, h2⟩; exact ⟨_, rfl, hK _ (h2.cast (mul_assoc _ _ _).symm)⟩)
  refine GW.det (d := (some 18)) [] [] rfl (fun e => by rfl) ?_; apply Exists.intro; refine ⟨fun e w' F hs => ?_, ?_, ?_⟩
  · first | (go_simp; done) | (go_simp; rfl)
  · exact (fun _ _ _ => rfl)
  refine GW.keep (d := (some 19)) (fun e => .bool true) [] [] rfl (fun e => by rfl) (fun _ _ _ => rfl) (fun e w' F K hs hK => ?_) ?_
  · go_simp; (refine (law_works11 hs).mono ?_; rintro e2 w2 ⟨rfl, h2⟩; exact ⟨_, rfl, hK _ h2⟩)
  refine GW.det (d := (some 20)) [] [] rfl (fun e => by rfl) ?_; apply Exists.intro; refine ⟨fun e w' F hs => ?_, ?_, ?_⟩
  · first | (go_simp; done) | (go_simp; rfl)
  · exact (fun _ _ _ => rfl)
  refine GW.det (d := (some 6)) [] [] rfl (fun e => by rfl) ?_; apply Exists.intro; refine ⟨fun e w' F hs => ?_, ?_, ?_⟩
  · first | (go_simp; done) | (go_simp; rfl)
  · exact (fun _ _ _ => rfl)
  refine GW.done (sz := 21) [0] (by kernel_rfl) (by kernel_rfl) HA0.out.1 (by rfl) HS0.out (by rfl) fun e w3 gg => ?_
  have ha := HA0.out.2
  subst ha
  clear HA0 hb2 hb3 hb4
  simp only [putL, Act.put, List.setIfInBounds_toArray, List.set_cons_zero, List.set_cons_succ]
  replace gg : Sat w w3 D := gg
  have HF := Lib.hid (HB.out _ 1 (gg.cast (mul_one _).symm))
  clear gg
  go_wp2_with fail
  go_ret
  exact ⟨rfl, HF.out⟩
theorem own : ownKnob Try.prog.godebug = none := by kernel_rfl
theorem laidOut : laidOutB Try.prog = true := by kernel_rfl
set_option maxRecDepth 100000 in
theorem lifted (os : Os) (started : os.Started) (H : Type) (enc : TypeId × Value → H) :
    ReturnsInHanded {} Try.checked os 4 .any (Rows.reachPathsSpec.pre6 enc Try.prog Try.f4 Rows.reachPathsRow.domain false) (Rows.reachPathsSpec.post enc Try.prog Try.f4 false true false false) := by
  refine returnsInHanded_of_change (C := Try.checked) own started (by kernel_rfl) Try.func4
    (ChangeSpec.witness6 (enc := enc) (C := Try.checked) false ⟨#[], #[.agg #[.slice none 0 0], .agg #[.int .i64 0, .int .i64 0], .int .i64 0], []⟩ 8 (by kernel_rfl) (by kernel_rfl) (by kernel_rfl) (by kernel_rfl)) ?_
  intro W base args ds gs before hval0 hW hcnd _
  have hval : ∀ (j : Nat) t v, Try.f4.params[j]? = some t → args[j]? = some v → Value.okWide Try.prog W .any base t v := hval0
  have hW' := hW
  obtain ⟨p, q, hA0, hV, rfl, hfz, hnd⟩ := hW
  have hA : DataW.TrodAll enc Try.prog W 0 (fun _ => true) true Try.f4.params.toList args.toList ds p := hA0
  rw [Try.params4] at hA hval
  obtain ⟨v0, vs0, d0, ds0, p0, q0, hargs, rfl, rfl, h0, r0⟩ := trodAll_cons hA
  obtain ⟨v1, vs1, d1, ds1, p1, q1, rfl, rfl, rfl, h1, r1⟩ := trodAll_cons r0
  obtain ⟨v2, vs2, d2, ds2, p2, q2, rfl, rfl, rfl, h2, r2⟩ := trodAll_cons r1
  obtain ⟨rfl, rfl, rfl⟩ := trodAll_nil r2
  obtain rfl : args = #[v0, v1, v2] := by cases args; simp_all
  obtain ⟨rfl, rfl⟩ := trodVars_none hV
  have k0 := h0
  have lt0 : ∀ x ∈ p0, x.block < W.heap.size := by obtain ⟨m, hm⟩ := k0; exact DataW.trod_lt m _ _ _ hm
  obtain ⟨a0, len0, cap0, z0, rfl, w0⟩ : ∃ (a : Option Addr) (n c : Nat) (X : List XObj), v0 = .agg #[.slice a n c] ∧ SrcG W (Old W) a n c X := by
    obtain ⟨fuel, hf⟩ := h0
    exact open_graph hf (okWide_struct Try.underlying24 (hval 0 24 v0 rfl rfl))
  have k1 := h1
  have lt1 : ∀ x ∈ p1, x.block < W.heap.size := by obtain ⟨m, hm⟩ := k1; exact DataW.trod_lt m _ _ _ hm
  obtain ⟨u1, rfl⟩ : ∃ u : AVal, v1 = .agg #[.int .i64 u.kind, .int .i64 u.n] := by
    obtain ⟨fuel, hf⟩ := h1
    exact open_value hf (okWide_struct Try.underlying33 (hval 1 33 v1 rfl rfl))
  obtain ⟨a2, rfl, rfl, rfl, w2⟩ := open_int Try.underlying3 (hval 2 3 v2 rfl rfl) h2
  clear hA0 hval0
  refine (walk a0 len0 cap0 z0 u1 a2 W w0 w2).mono fun e W' ⟨he, bel⟩ => ?_
  subst he
  exact ⟨_, rfl, _, _, _, [], _, [], hW', trodAll_mk1 (shut_bool Try.underlying4 _), (trodAll_cons_mk (Below.trod laidOut (by kernel_rfl) (of_decide_eq_true (by kernel_rfl)) k0 bel lt0) (trodAll_cons_mk (Below.trod laidOut (by kernel_rfl) (of_decide_eq_true (by kernel_rfl)) k1 bel lt1) (trodAll_cons_mk (shut_int Try.underlying3 w2) trodAll_mk0))), rfl, bel.frame _, fun h => by cases h⟩
theorem over : Rows.reachPathsRow.holds Try.pinned (OpenSpec.ofChange Rows.reachPathsSpec) :=
  OpenClaim.holds_of_wide 4 Try.f4 rfl rfl rfl rfl rfl rfl rfl ⟨rfl, rfl, rfl, rfl, rfl⟩ rfl rfl rfl rfl rfl (by kernel_rfl) Try.func4 (by kernel_rfl)
    (of_decide_eq_true (by kernel_rfl)) (by unfold Func.isWrapper; first | (rw [if_pos (by decide +kernel)]; kernel_rfl) | (rw [if_neg (by decide +kernel)]; exact ⟨rfl, rfl⟩))
    (fun os started H enc _ => lifted os started H enc)
theorem reachPaths_holds : Rows.ReachPathsSaid := over
#print axioms reachPaths_holds
end Go.Proofs.Ytmngkodejlhalaa.RPaths
