/- ReachWays: a way leads by slots, just to what can be reached: the row, proved without a condition. -/
import Derived.Test.YtmngkodejlhalaaRl4
import Derived.Test.YtmngkodejlhalaaRp3
import Derived.ProofKit
import Derived.OpenShut
import Derived.ChangeOld
namespace Go.Proofs.Ytmngkodejlhalaa.RWays
set_option linter.unusedVariables false
set_option linter.unusedSimpArgs false
open Go Go.RowKit Go.MapKept Go.Proofs.Ytmngkodejlhalaa.Tw
open Go.ChangeShapes Go.WideShapes Go.ChangeAt

section
variable {w0 w : World} {F : HP}
theorem has_t {a : Option Addr} {c n : Nat} {l : List Int} {x : Int} (h : Sat w0 w (slc 3 1 a n c (l.map ival) * F)) (hl : l.length = n) (hn : n ≤ 1000000000) (hx : x ∈ l) :
    Calls Try.prog 26 #[.slice a n c, .int .i64 x] w fun e w' => e = .returned (.bool true) ∧ w = w' := by
  have := law_has11 x h hl hn
  rwa [decide_eq_true hx] at this
theorem has_f {a : Option Addr} {c n : Nat} {l : List Int} {x : Int} (h : Sat w0 w (slc 3 1 a n c (l.map ival) * F)) (hl : l.length = n) (hn : n ≤ 1000000000) (hx : x ∉ l) :
    Calls Try.prog 26 #[.slice a n c, .int .i64 x] w fun e w' => e = .returned (.bool false) ∧ w = w' := by
  have := law_has11 x h hl hn
  rwa [decide_eq_false hx] at this
end
set_option maxRecDepth 100000 in
set_option maxHeartbeats 8000000 in
theorem walk (ga : Option Addr) (n c : Nat) (X : List XObj) (v : AVal) (to : Int) (w : World) (hG : SrcG w (Old w) ga n c X) (r2 : (Lit.int .i64 to).wf = true) :
    Calls Try.prog 6 #[.agg #[.slice ga n c], .agg #[.int .i64 v.kind, .int .i64 v.n], .int .i64 to] w fun e w' => e = .returned (.bool true) ∧ Below w.heap.size w w' := by
  have h1 := ((Sat.refl w).alloc (.cells #[.slice ga n c] 24)).alloc (.cells #[.int .i64 v.kind, .int .i64 v.n] 33)
  rw [size_alloc] at h1
  have HW := Lib.hid (fun w' F (h : Sat w w' (Old w * F)) => h.below)
  generalize hgb : w.heap.size = gb at *
  obtain ⟨vb, hvb⟩ : ∃ vb, gb + 1 = vb := ⟨_, rfl⟩
  rw [hvb] at h1
  have h1' : Sat w _ (Old w * (pt gb (.cells #[.slice ga n c] 24 (0, 0)) * (pt vb (.cells #[.int .i64 v.kind, .int .i64 v.n] 33 (0, 0)) * 1))) := h1.cast (by rw [mul_one]; ac_rfl)
  obtain ⟨L, hL⟩ : ∃ L, ownL (X.map (·.1)) = L := ⟨_, rfl⟩
  obtain ⟨N, hN⟩ : ∃ N, L.length = N := ⟨_, rfl⟩
  have hN40 : N ≤ 40 := by rw [← hN, ← hL]; exact ownL_len _
  have hsm : ∀ o ∈ L, o.slots.length ≤ 40 := fun o ho => by rw [← hL] at ho; exact ownL_slots ho
  have hsm' : smallG L := fun o ho => by have := hsm o ho; omega
  obtain ⟨P, hP⟩ : ∃ R, pathG L v to = R := ⟨_, rfl⟩
  obtain ⟨RF, hRF⟩ : ∃ R, thoseG L (refsV [v]) true = R := ⟨_, rfl⟩
  have hrf : RF.length ≤ 40 := by rw [← hRF]; have := thoseG_len L (refsV [v]) true; omega
  have HP := Lib.hid (And.intro hP (And.intro hRF hsm))
  have hpn : P.length ≤ 40 := by
    by_cases h : 0 < P.length
    · rw [← hP] at h ⊢
      have w1 := way_of h
      have := w1.dist 0 _ w1.first
      have := distG_le w1.there v.n
      omega
    · omega
  have HS := Lib.hid hsm'
  have HL := Lib.hid (And.intro hL hN)
  have HG := Lib.hid hG
  clear hP hRF hsm hsm' hL hN hG
  have g0 := boxG h1.p2
  have g0v := boxV h1
  go_enter Try.func6, Try.ntmps6
  try rw [hgb]
  try rw [hvb]
  go_wp2_with fail
  refine (law_own h1' HG.out HL.out.1 HL.out.2).mono ?_
  rintro e w2 ⟨oa, oc, rfl, h2⟩
  have g2 := boxG h2.p3
  have g2f := Sat.free (T := 24) (cs := #[.slice ga n c]) h2.p3 0
  have h3 : Sat w _ (pt gb (.cells #[.slice oa N oc] 24 (0, 0)) * _) := Sat.store (T := 24) (cs := #[.slice ga n c]) h2.p3 (i := 0) (.slice oa N oc)
  obtain ⟨C, Y, hY, hGO, _, H1, _⟩ := (h3.p3.p3).graphSrc (by omega) HS.out
  have HB : Hid (∀ w' G, Sat w w' ((C * Old w) * G) → Below gb w w') := Lib.hid (fun w' G h => HW.out w' (C * G) (h.cast (by ac_rfl)))
  generalize C * Old w = D at *
  have HY := Lib.hid hY
  have HGO := Lib.hid hGO
  have HYN := Lib.hid (hGO.len)
  have hocap := HGO.out.cap
  clear h1 h1' g0 g0v HG HL hY hGO HS HW
  have g3 := boxG H1.p2
  have g3v := boxV H1.p3
  have HPt := Lib.hid (fun w' G (h : Sat w w' (D * G)) => reach_Path h HGO.out v to (R := P) (by rw [HY.out]; exact HP.out.1))
  go_wp2_with fail
  refine (HPt.out _ _ H1).mono ?_
  rintro e w4 ⟨pa, pc, rfl, h4⟩
  clear HPt H1 h2 h3 g2 g2f g3 g3v
  have g4 := boxG h4.p3
  have g4v := boxV h4.p4
  have h5 := h4.alloc (.cells #[.int .i64 v.kind, .int .i64 v.n] 33)
  have h5' := h5.p3.cast (mul_assoc _ _ _).symm
  have HFr := Lib.hid (reach_From h5' HGO.out.mono (srcV1 (k := v.kind) (x := v.n)).mono' (by simp) (R := RF) (by rw [HY.out]; exact HP.out.2.1))
  clear h5 h5'
  go_wp2_with fail
  refine HFr.out.mono ?_
  rintro e w5 ⟨rf, rfc, rfl, h6⟩
  simp only [mul_assoc] at h6
  have hs0 : Sat w w5 (slc 3 1 rf RF.length rfc (RF.map ival) * (D * (slc 3 1 pa P.length pc (P.map ival) * (pt gb (.cells #[.slice oa N oc] 24 (0, 0)) * (pt vb (.cells #[.int .i64 v.kind, .int .i64 v.n] 33 (0, 0)) * 1))))) := h6.p3.drop
  clear HFr h4 h6 g4 g4v
  by_cases hp : 0 < P.length
  · have HWy : Hid (WayG L v to P) := Lib.hid (by have := HP.out.1; subst this; exact way_of hp)
    have hin : to ∈ RF := by rw [← HP.out.2.1, from_way, HP.out.1]; exact hp
    obtain ⟨pl, hpl⟩ : ∃ pl, P.length = pl + 1 := ⟨P.length - 1, by omega⟩
    have hq0 : ((P.length : Int) == 0) = false := by rw [beq_eq_false_iff_ne]; omega
    have hpl1 : (P.length : Int) - 1 = (pl : Int) := by omega
    have hpl2 : IntKind.i64.wrap (pl : Int) = pl := IntWalk.i64_in _ (by omega)
    have hpl3 : (0 : Int) ≤ (pl : Int) := by omega
    have hpl4 : (pl : Int) < (P.length : Int) := by omega
    have hpl5 : (0 : Int) < (P.length : Int) := by omega
    have hd := hs0.drew
    obtain ⟨pg, po, rfl, c0, _⟩ := intCells hd.p3 HWy.out.first
    have c1 : w5.drew.cell? ⟨pg, po + pl, none⟩ = some (.int .i64 to) := by
      have := HWy.out.last
      rw [hpl] at this
      obtain ⟨g', o', e, h, _⟩ := intCells hd.p3 this
      cases e; exact h
    have g5v := (boxV hd.p5).2
    have HH := Lib.hid (has_t hd rfl (by omega) hin)
    clear hin hpl
    go_wp2_with fail
    go_region_held3 (fun w' => w'.cell? ⟨pg, po, none⟩ = some (.int .i64 v.n) ∧ w'.cell? ⟨pg, po + pl, none⟩ = some (.int .i64 to) ∧ w'.cell? ⟨vb, 1, none⟩ = some (.int .i64 v.n)) (exact ⟨c0, c1, g5v⟩) (first
      | (go_at_call 26; refine HH.out.mono ?_; rintro e w' ⟨rfl, rfl⟩))
    clear HH c0 c1 g5v hs0 hq0
    go_wp2_with fail
    go_loopw [9] (fun iv wr => ∃ i : Nat, iv = .int .i64 i ∧ i ≤ P.length ∧ Sat w wr (slc 3 1 rf RF.length rfc (RF.map ival) * (D * (slc 3 1 (some ⟨pg, po, none⟩) P.length pc (P.map ival) * (pt gb (.cells #[.slice oa N oc] 24 (0, 0)) * (pt vb (.cells #[.int .i64 v.kind, .int .i64 v.n] 33 (0, 0)) * 1)))))) (fun iv _ => P.length - (intOf iv).toNat)
    case atStart => exact ⟨0, rfl, by omega, hd⟩
    case round =>
      obtain ⟨i, rfl, hi, hs1⟩ := hrel
      clear hd
      by_cases hlt : i < P.length
      · go_wp2_with fail
        go_loopw [10] (fun kv wr => ∃ k : Nat, kv = .int .i64 k ∧ i + 1 ≤ k ∧ k ≤ P.length ∧ Sat w wr (slc 3 1 rf RF.length rfc (RF.map ival) * (D * (slc 3 1 (some ⟨pg, po, none⟩) P.length pc (P.map ival) * (pt gb (.cells #[.slice oa N oc] 24 (0, 0)) * (pt vb (.cells #[.int .i64 v.kind, .int .i64 v.n] 33 (0, 0)) * 1)))))) (fun kv _ => P.length - (intOf kv).toNat)
        case atStart => exact ⟨i + 1, by go_num, by omega, by omega, hs1⟩
        case round =>
          obtain ⟨k, rfl, hk0, hk, hs2⟩ := hrel
          clear hs1
          by_cases hkl : k < P.length
          · have hs := hs2.drew
            obtain ⟨y, hy⟩ : ∃ y, P[i]? = some y := ⟨P[i], List.getElem?_eq_getElem hlt⟩
            obtain ⟨z, hz0⟩ : ∃ z, P[k]? = some z := ⟨P[k], List.getElem?_eq_getElem hkl⟩
            have hHo := HWy.out.holds (show i < k by omega) hy hz0
            have hyr := HWy.out.thereAll hy
            have hLN : L.length = N := by rw [← HY.out, List.length_map, HYN.out]
            rw [hLN] at hyr
            obtain ⟨j, rfl⟩ : ∃ j : Nat, y = (j : Int) + 1 := ⟨(y - 1).toNat, by omega⟩
            obtain ⟨o, ho⟩ : ∃ o, Y[j]? = some o := ⟨Y[j]'(by rw [HYN.out]; omega), List.getElem?_eq_getElem _⟩
            obtain ⟨g2, off2, rfl, _⟩ := HGO.out.cell _ _ hs.p2 j o ho
            have hsl := HGO.out.slots o (List.mem_of_getElem? ho)
            have hLk : L[j]? = some o.1 := by rw [← HY.out, List.getElem?_map, ho]; rfl
            have hkid := kids_at hLk
            have hs40 := HP.out.2.2 _ (List.mem_of_getElem? hLk)
            obtain ⟨⟨yk, yc, ysl, ytx, ym⟩, sa, sc⟩ := o
            dsimp only at hsl hkid hs40
            have hrh : (refsV ysl).length ≤ 40 := by unfold refsV; rw [List.length_map]; have := List.length_filter_le refV ysl; omega
            have HRf := Lib.hid (fun w' G (h : Sat w w' (D * G)) => val_Refs h hsl.1 hsl.2)
            have HC1 := Lib.hid (fun w' (h : Sat w w' (slc 3 1 rf RF.length rfc (RF.map ival) * (D * (slc 3 1 (some ⟨pg, po, none⟩) P.length pc (P.map ival) * (pt gb (.cells #[.slice (some ⟨g2, off2, none⟩) N oc] 24 (0, 0)) * (pt vb (.cells #[.int .i64 v.kind, .int .i64 v.n] 33 (0, 0)) * 1)))))) => show w'.cell? ⟨pg, po + i, none⟩ = some (.int .i64 ((j : Int) + 1)) from by
              obtain ⟨g', o', e, h0, _⟩ := intCells h.p3 hy
              cases e; exact h0)
            have HC2 := Lib.hid (fun w' (h : Sat w w' (slc 3 1 rf RF.length rfc (RF.map ival) * (D * (slc 3 1 (some ⟨pg, po, none⟩) P.length pc (P.map ival) * (pt gb (.cells #[.slice (some ⟨g2, off2, none⟩) N oc] 24 (0, 0)) * (pt vb (.cells #[.int .i64 v.kind, .int .i64 v.n] 33 (0, 0)) * 1)))))) => show w'.cell? ⟨pg, po + k, none⟩ = some (.int .i64 z) from by
              obtain ⟨g', o', e, h0, _⟩ := intCells h.p3 hz0
              cases e; exact h0)
            have HC3 := Lib.hid (fun w' G (h : Sat w w' (D * G)) => show w'.cell? ⟨g2, off2 + j * 5 + 2, none⟩ = some (.slice sa ysl.length sc) from by
              obtain ⟨g', o', e, _, _, h0, _⟩ := HGO.out.cell w' G h j _ ho
              cases e; exact h0)
            have HZZ := Lib.hid (fun w' rh rhc (h : Sat w w' (slc 3 1 rh (refsV ysl).length rhc ((refsV ysl).map ival) * (D * (slc 3 1 rf RF.length rfc (RF.map ival) * (slc 3 1 (some ⟨pg, po, none⟩) P.length pc (P.map ival) * (pt gb (.cells #[.slice (some ⟨g2, off2, none⟩) N oc] 24 (0, 0)) * (pt vb (.cells #[.int .i64 v.kind, .int .i64 v.n] 33 (0, 0)) * 1))))))) => show w'.cell? ⟨gb, 0, none⟩ = some (.slice (some ⟨g2, off2, none⟩) N oc) ∧ w'.cell? ⟨pg, po + i, none⟩ = some (.int .i64 ((j : Int) + 1)) ∧ w'.cell? ⟨pg, po + k, none⟩ = some (.int .i64 z) ∧ w'.cell? ⟨g2, off2 + j * 5 + 2, none⟩ = some (.slice sa ysl.length sc) from
              ⟨boxG h.p5, HC1.out _ h.drop.p2, HC2.out _ h.drop.p2, HC3.out _ _ h.p2⟩)
            have x0 := boxG hs.p4
            have x1 := HC1.out _ hs
            have x2 := HC2.out _ hs
            have x3 := HC3.out _ _ hs.p2
            have hj1 : (j : Int) + 1 - 1 = j := by omega
            have hj2 : (0 : Int) ≤ (j : Int) := by omega
            have hj3 : (j : Int) < (N : Int) := by omega
            have hj4 : IntKind.i64.wrap (j : Int) = j := IntWalk.i64_in _ (by omega)
            have hi1 : (0 : Int) ≤ (i : Int) := by omega
            have hi2 : (i : Int) < (P.length : Int) := by omega
            have hi3 : IntKind.i64.wrap ((i : Int) + 1) = (i : Int) + 1 := IntWalk.i64_in _ (by omega)
            have hk1 : (0 : Int) ≤ (k : Int) := by omega
            have hk2 : (k : Int) < (P.length : Int) := by omega
            clear hy hz0 hyr hLN ho hsl hLk hs40 hs2
            obtain ⟨bb, hbb⟩ : ∃ b, decide (z ∈ refsV ysl) = b := ⟨_, rfl⟩
            have hqk : ((k : Int) == (i : Int) + 1) = bb := by
              rw [← hbb, Bool.eq_iff_iff, beq_iff_eq, decide_eq_true_iff, ← hkid, hHo.1]; omega
            have hne := hHo.2
            have hqe : ((j : Int) + 1 == z) = false := by simpa using hne
            have HBB := Lib.hid hbb
            have HHs := Lib.hid (fun w' a c F (h : Sat w w' (slc 3 1 a (refsV ysl).length c ((refsV ysl).map ival) * F)) => law_has11 z h rfl (by omega))
            simp only [hbb] at HHs
            clear hkid hne hHo hbb
            go_wp2_with fail
            go_region_held3 (fun w' => w'.cell? ⟨gb, 0, none⟩ = some (.slice (some ⟨g2, off2, none⟩) N oc) ∧ w'.cell? ⟨pg, po + i, none⟩ = some (.int .i64 ((j : Int) + 1)) ∧ w'.cell? ⟨pg, po + k, none⟩ = some (.int .i64 z) ∧ w'.cell? ⟨g2, off2 + j * 5 + 2, none⟩ = some (.slice sa ysl.length sc)) (first | exact ⟨x0, x1, x2, x3⟩ | exact hzz) (first
              | (go_at_call 27; refine (HRf.out _ _ hs.p2).mono ?_; rintro e w10 ⟨rh, rhc, rfl, h11⟩; have hzz := HZZ.out _ _ _ h11)
              | (go_at_call 26; refine (HHs.out _ _ _ _ h11).mono ?_; rintro e w' ⟨rfl, rfl⟩))
            have h12 : Sat w w10 (slc 3 1 rf RF.length rfc (RF.map ival) * (D * (slc 3 1 (some ⟨pg, po, none⟩) P.length pc (P.map ival) * (pt gb (.cells #[.slice (some ⟨g2, off2, none⟩) N oc] 24 (0, 0)) * (pt vb (.cells #[.int .i64 v.kind, .int .i64 v.n] 33 (0, 0)) * 1))))) := h11.drop.p2
            clear hs hzz x0 x1 x2 x3 h11 HRf HHs
            go_wp2_with fail
            refine wp_region_qq (fun w' => Sat w w' (slc 3 1 rf RF.length rfc (RF.map ival) * (D * (slc 3 1 (some ⟨pg, po, none⟩) P.length pc (P.map ival) * (pt gb (.cells #[.slice (some ⟨g2, off2, none⟩) N oc] 24 (0, 0)) * (pt vb (.cells #[.int .i64 v.kind, .int .i64 v.n] 33 (0, 0)) * 1)))))) (by kernel_rfl) (by kernel_rfl) h12.drew ?_
            iterate 26 (first
              | (refine QQ.skip (by rfl) ?_; simp only [Act.put, List.setIfInBounds_toArray, List.set_cons_zero, List.set_cons_succ])
              | (refine QQ.want (by rfl) ?_
                 apply Exists.intro
                 refine ⟨?_, ?_⟩
                 · intro w hw
                   have y0 := HC1.out w hw; have y1 := HC2.out w hw
                   first
                     | (go_simp; done)
                     | (go_simp; rfl)
                     | (go_simp; fail)
                 simp only [Act.put, List.setIfInBounds_toArray, List.set_cons_zero, List.set_cons_succ]))
            refine QQ.nil ?_
            intro w12 h13
            go_wp2_with fail
            go_roundw
            case rel => exact ⟨k + 1, by go_num, by omega, by omega, h13⟩
            case measure => simp [intOf]; omega
          · go_wp2_with fail
            go_roundw
            case rel => exact ⟨i + 1, by go_num, by omega, hs2⟩
            case measure => simp [intOf]; omega
      · have hg := boxG hs1.p4
        have HHo := Lib.hid (fun w' G (h : Sat w w' (D * G)) => graph_Holders h HGO.out to (by rw [HY.out]; exact HWy.out.ok) (R := holdersG L to) (by rw [HY.out]))
        obtain ⟨RH, hRH⟩ : ∃ R, holdersG L to = R := ⟨_, rfl⟩
        have hrh : RH.length ≤ 40 := by
          rw [← hRH]; unfold holdersG
          split
          · have := holdL_len L to L.length
            have hLN : L.length = N := by rw [← HY.out, List.length_map, HYN.out]
            omega
          · simp
        rw [hRH] at HHo
        have HRH := Lib.hid hRH
        clear hRH
        go_wp2_with fail
        refine (HHo.out _ _ hs1.p2).mono ?_
        rintro e w20 ⟨rh, rhc, rfl, h20⟩
        have hs20 : Sat w w20 (slc 3 1 rh RH.length rhc (RH.map ival) * (D * (slc 3 1 rf RF.length rfc (RF.map ival) * (slc 3 1 (some ⟨pg, po, none⟩) P.length pc (P.map ival) * (pt gb (.cells #[.slice oa N oc] 24 (0, 0)) * (pt vb (.cells #[.int .i64 v.kind, .int .i64 v.n] 33 (0, 0)) * 1)))))) := h20
        clear hs1 h20 HHo hg hlt hi
        go_wp2_with fail
        go_loopw [13] (fun iv wr => ∃ i : Nat, iv = .int .i64 i ∧ i ≤ RH.length ∧ Sat w wr (slc 3 1 rh RH.length rhc (RH.map ival) * (D * (slc 3 1 rf RF.length rfc (RF.map ival) * (slc 3 1 (some ⟨pg, po, none⟩) P.length pc (P.map ival) * (pt gb (.cells #[.slice oa N oc] 24 (0, 0)) * (pt vb (.cells #[.int .i64 v.kind, .int .i64 v.n] 33 (0, 0)) * 1))))))) (fun iv _ => RH.length - (intOf iv).toNat)
        case atStart => exact ⟨0, rfl, by omega, hs20⟩
        case round =>
          obtain ⟨i, rfl, hi, hs3⟩ := hrel
          clear hs20
          by_cases hlt : i < RH.length
          · by_cases hp1 : 1 < P.length
            · have hq1 : decide ((P.length : Int) > 1) = true := by simp; omega
              have hs := hs3.drew
              obtain ⟨q, hq⟩ : ∃ q, RH[i]? = some q := ⟨RH[i], List.getElem?_eq_getElem hlt⟩
              obtain ⟨g3, off3, erh, x0, _⟩ := intCells hs hq
              have x1 := boxG hs.p5
              have x2 := boxV hs.p6
              obtain ⟨Q, hQ⟩ : ∃ R, pathG L v q = R := ⟨_, rfl⟩
              have hQl : 0 < Q.length → P.length ≤ Q.length + 1 := fun h => by
                rw [← hQ] at h ⊢
                rw [← HP.out.1]
                exact way_holder (by rw [HRH.out]; exact List.mem_of_getElem? hq) (by rw [HP.out.1]; exact hp) h
              have hQ41 : Q.length ≤ 40 := by
                by_cases h : 0 < Q.length
                · rw [← hQ] at h ⊢
                  have w1 := way_of h
                  have := w1.dist 0 _ w1.first
                  have := distG_le w1.there v.n
                  have hLN : L.length = N := by rw [← HY.out, List.length_map, HYN.out]
                  omega
                · omega
              have HPt := Lib.hid (fun w' G (h : Sat w w' (D * G)) => reach_Path h HGO.out v q (R := Q) (by rw [HY.out]; exact hQ))
              have HYY := Lib.hid (fun w' rq rqc (h : Sat w w' (slc 3 1 rq Q.length rqc (Q.map ival) * (slc 3 1 rh RH.length rhc (RH.map ival) * (D * (slc 3 1 rf RF.length rfc (RF.map ival) * (slc 3 1 (some ⟨pg, po, none⟩) P.length pc (P.map ival) * (pt gb (.cells #[.slice oa N oc] 24 (0, 0)) * (pt vb (.cells #[.int .i64 v.kind, .int .i64 v.n] 33 (0, 0)) * 1)))))))) => show w'.cell? ⟨g3, off3 + i, none⟩ = some (.int .i64 q) ∧ w'.cell? ⟨gb, 0, none⟩ = some (.slice oa N oc) ∧ w'.cell? ⟨vb, 0, none⟩ = some (.int .i64 v.kind) ∧ w'.cell? ⟨vb, 1, none⟩ = some (.int .i64 v.n) from by
                obtain ⟨g', o', e, h0, _⟩ := intCells h.p2 hq
                rw [erh] at e; cases e
                exact ⟨h0, boxG h.p6, boxV h.p7⟩)
              have hi1 : (0 : Int) ≤ (i : Int) := by omega
              have hi2 : (i : Int) < (RH.length : Int) := by omega
              subst erh
              clear hq hQ
              by_cases hql : 0 < Q.length
              · have hq2 : decide ((Q.length : Int) > 0) = true := by simp; omega
                have hq3 : decide ((Q.length : Int) + 1 < (P.length : Int)) = false := by have := hQl hql; simp; omega
                have hq4 : IntKind.i64.wrap ((Q.length : Int) + 1) = (Q.length : Int) + 1 := IntWalk.i64_in _ (by omega)
                clear hQl
                go_wp2_with fail
                go_region_held3 (fun w' => w'.cell? ⟨g3, off3 + i, none⟩ = some (.int .i64 q) ∧ w'.cell? ⟨gb, 0, none⟩ = some (.slice oa N oc) ∧ w'.cell? ⟨vb, 0, none⟩ = some (.int .i64 v.kind) ∧ w'.cell? ⟨vb, 1, none⟩ = some (.int .i64 v.n)) (first | exact ⟨x0, x1, x2⟩ | exact hzz) (first
                  | (go_at_call 22; refine (HPt.out _ _ hs.p2).mono ?_; rintro e w21 ⟨rq, rqc, rfl, h21⟩; have h22 := h21.p3.p2; have hzz := HYY.out _ _ _ h22))
                go_wp2_with fail
                go_roundw
                case rel => exact ⟨i + 1, by go_num, by omega, h22.drop⟩
                case measure => simp [intOf]; omega
              · have hQ0 : Q = [] := List.eq_nil_of_length_eq_zero (by omega)
                subst hQ0
                clear hQl
                go_wp2_with fail
                go_region_held3 (fun w' => w'.cell? ⟨g3, off3 + i, none⟩ = some (.int .i64 q) ∧ w'.cell? ⟨gb, 0, none⟩ = some (.slice oa N oc) ∧ w'.cell? ⟨vb, 0, none⟩ = some (.int .i64 v.kind) ∧ w'.cell? ⟨vb, 1, none⟩ = some (.int .i64 v.n)) (first | exact ⟨x0, x1, x2⟩ | exact hzz) (first
                  | (go_at_call 22; refine (HPt.out _ _ hs.p2).mono ?_; rintro e w21 ⟨rq, rqc, rfl, h21⟩; have h22 := h21.p3.p2; have hzz := HYY.out _ _ _ h22))
                go_wp2_with fail
                go_roundw
                case rel => exact ⟨i + 1, by go_num, by omega, h22.drop⟩
                case measure => simp [intOf]; omega
            · have hq1 : decide ((P.length : Int) > 1) = false := by simp; omega
              go_wp2_with fail
              refine (law_works11 hs3).mono ?_
              rintro e w23 ⟨rfl, h23⟩
              go_wp2_with fail
              go_ret
              exact ⟨rfl, HB.out _ _ h23.p2⟩
          · go_wp2_with fail
            refine (law_works11 hs3).mono ?_
            rintro e w23 ⟨rfl, h23⟩
            go_wp2_with fail
            go_ret
            exact ⟨rfl, HB.out _ _ h23.p2⟩
  · have hp0 : P = [] := List.eq_nil_of_length_eq_zero (by omega)
    have hin : to ∉ RF := by rw [← HP.out.2.1, from_way, HP.out.1]; exact hp
    subst hp0
    go_wp2_with fail
    refine (has_f hs0 rfl (by omega) hin).mono ?_
    rintro e w' ⟨rfl, rfl⟩
    go_wp2_with fail
    refine (law_works11 hs0).mono ?_
    rintro e w7 ⟨rfl, h7⟩
    go_wp2_with fail
    go_ret
    exact ⟨rfl, HB.out _ _ h7.p2⟩
theorem own : ownKnob Try.prog.godebug = none := by kernel_rfl
theorem laidOut : laidOutB Try.prog = true := by kernel_rfl
set_option maxRecDepth 100000 in
theorem lifted (os : Os) (started : os.Started) (H : Type) (enc : TypeId × Value → H) :
    ReturnsInHanded {} Try.checked os 6 .any (Rows.reachWaysSpec.pre6 enc Try.prog Try.f6 Rows.reachWaysRow.domain false) (Rows.reachWaysSpec.post enc Try.prog Try.f6 false true false false) := by
  refine returnsInHanded_of_change (C := Try.checked) own started (by kernel_rfl) Try.func6
    (ChangeSpec.witness6 (enc := enc) (C := Try.checked) false ⟨#[], #[.agg #[.slice none 0 0], .agg #[.int .i64 0, .int .i64 0], .int .i64 0], []⟩ 8 (by kernel_rfl) (by kernel_rfl) (by kernel_rfl) (by kernel_rfl)) ?_
  intro W base args ds gs before hval0 hW hcnd _
  have hval : ∀ (j : Nat) t v, Try.f6.params[j]? = some t → args[j]? = some v → Value.okWide Try.prog W .any base t v := hval0
  have hW' := hW
  obtain ⟨p, q, hA0, hV, rfl, hfz, hnd⟩ := hW
  have hA : DataW.TrodAll enc Try.prog W 0 (fun _ => true) true Try.f6.params.toList args.toList ds p := hA0
  rw [Try.params6] at hA hval
  obtain ⟨v0, vs0, d0, ds0, p0, q0, hargs, rfl, rfl, h0, r0⟩ := trodAll_cons hA
  obtain ⟨v1, vs1, d1, ds1, p1, q1, rfl, rfl, rfl, h1, r1⟩ := trodAll_cons r0
  obtain ⟨v2, vs2, d2, ds2, p2, q2, rfl, rfl, rfl, h2, r2⟩ := trodAll_cons r1
  obtain ⟨rfl, rfl, rfl⟩ := trodAll_nil r2
  obtain rfl : args = #[v0, v1, v2] := by cases args; simp_all
  obtain ⟨rfl, rfl⟩ := trodVars_none hV
  have k0 := h0
  have lt0 : ∀ x ∈ p0, x.block < W.heap.size := by obtain ⟨m, hm⟩ := k0; exact DataW.trod_lt m _ _ _ hm
  obtain ⟨a0, len0, cap0, z0, rfl, w0⟩ : ∃ (a : Option Addr) (n c : Nat) (X : List XObj), v0 = .agg #[.slice a n c] ∧ SrcG W (Old W) a n c X := by
    obtain ⟨fuel, hf⟩ := h0
    exact open_graph hf (okWide_struct Try.underlying24 (hval 0 24 v0 rfl rfl))
  have k1 := h1
  have lt1 : ∀ x ∈ p1, x.block < W.heap.size := by obtain ⟨m, hm⟩ := k1; exact DataW.trod_lt m _ _ _ hm
  obtain ⟨u1, rfl⟩ : ∃ u : AVal, v1 = .agg #[.int .i64 u.kind, .int .i64 u.n] := by
    obtain ⟨fuel, hf⟩ := h1
    exact open_value hf (okWide_struct Try.underlying33 (hval 1 33 v1 rfl rfl))
  obtain ⟨a2, rfl, rfl, rfl, w2⟩ := open_int Try.underlying3 (hval 2 3 v2 rfl rfl) h2
  clear hA0 hval0
  refine (walk a0 len0 cap0 z0 u1 a2 W w0 w2).mono fun e W' ⟨he, bel⟩ => ?_
  subst he
  exact ⟨_, rfl, _, _, _, [], _, [], hW', trodAll_mk1 (shut_bool Try.underlying4 _), (trodAll_cons_mk (Below.trod laidOut (by kernel_rfl) (of_decide_eq_true (by kernel_rfl)) k0 bel lt0) (trodAll_cons_mk (Below.trod laidOut (by kernel_rfl) (of_decide_eq_true (by kernel_rfl)) k1 bel lt1) (trodAll_cons_mk (shut_int Try.underlying3 w2) trodAll_mk0))), rfl, bel.frame _, fun h => by cases h⟩
theorem over : Rows.reachWaysRow.holds Try.pinned (OpenSpec.ofChange Rows.reachWaysSpec) :=
  OpenClaim.holds_of_wide 6 Try.f6 rfl rfl rfl rfl rfl rfl rfl ⟨rfl, rfl, rfl, rfl, rfl⟩ rfl rfl rfl rfl rfl (by kernel_rfl) Try.func6 (by kernel_rfl)
    (of_decide_eq_true (by kernel_rfl)) (by unfold Func.isWrapper; first | (rw [if_pos (by decide +kernel)]; kernel_rfl) | (rw [if_neg (by decide +kernel)]; exact ⟨rfl, rfl⟩))
    (fun os started H enc _ => lifted os started H enc)
theorem reachWays_holds : Rows.ReachWaysSaid := over
#print axioms reachWays_holds
end Go.Proofs.Ytmngkodejlhalaa.RWays
