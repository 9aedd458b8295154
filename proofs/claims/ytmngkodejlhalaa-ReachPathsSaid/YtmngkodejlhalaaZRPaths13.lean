/- reach.Path: the walk. No condition. -/
import Derived.Test.YtmngkodejlhalaaZRPaths12
import Derived.Test.YtmngkodejlhalaaZRPaths4
import Derived.Deep.Strs
namespace Go.Proofs.Ytmngkodejlhalaa.Tw
set_option linter.unusedVariables false
set_option linter.unusedSimpArgs false
open Go Go.RowKit Go.MapKept

section
variable {w0 w : World} {SR F : HP} {ga : Option Addr} {n c : Nat} {X : List XObj}
theorem path_none1 (h : Sat w0 w (SR * F)) (hG : SrcO w0 SR ga n c X) (k x to : Int) (hok : okG (X.map (·.1)) = false) :
    Calls Try.prog 22 #[.agg #[.slice ga n c], .agg #[.int .i64 k, .int .i64 x], .int .i64 to] w fun e w' => e = .returned (.slice none 0 0) ∧ Sat w0 w' (SR * F) := by
  have hb := (h.alloc (.cells #[.slice ga n c] 24)).alloc (.cells #[.int .i64 k, .int .i64 x] 33)
  rw [size_alloc] at hb
  generalize hgb : w.heap.size = gb at *
  have c0 := boxG hb.p2
  obtain ⟨c1, c2⟩ := boxV hb
  have hC := graph_Check hb.p3 hG
  rw [hok] at hC
  have HC := Lib.hid hC
  clear hC hok hG
  go_enter Try.func22, Try.ntmps22
  try rw [hgb]
  go_wp2_with fail
  refine HC.out.mono ?_
  rintro e w3 ⟨rfl, h3⟩
  go_wp2_with fail
  go_ret
  exact ⟨rfl, h3.p3.drop.p2.drop⟩
theorem path_none2 (h : Sat w0 w (SR * F)) (hG : SrcO w0 SR ga n c X) (k x to : Int) (hok : okG (X.map (·.1)) = true) (hr : refV ⟨k, x⟩ = false) :
    Calls Try.prog 22 #[.agg #[.slice ga n c], .agg #[.int .i64 k, .int .i64 x], .int .i64 to] w fun e w' => e = .returned (.slice none 0 0) ∧ Sat w0 w' (SR * F) := by
  have hb := (h.alloc (.cells #[.slice ga n c] 24)).alloc (.cells #[.int .i64 k, .int .i64 x] 33)
  rw [size_alloc] at hb
  generalize hgb : w.heap.size = gb at *
  have c0 := boxG hb.p2
  have hC := graph_Check hb.p3 hG
  rw [hok] at hC
  have HC := Lib.hid hC
  have HR := Lib.hid hr
  clear hC hok hG hr
  go_enter Try.func22, Try.ntmps22
  try rw [hgb]
  go_wp2_with fail
  refine HC.out.mono ?_
  rintro e w3 ⟨rfl, h3⟩
  obtain ⟨c1, c2⟩ := boxV h3.p2
  have hV := val_Ref ⟨k, x⟩ h3
  rw [HR.out] at hV
  have HV := Lib.hid hV
  clear hV
  go_wp2_with fail
  refine HV.out.mono ?_
  rintro e w4 ⟨rfl, h4⟩
  go_wp2_with fail
  go_ret
  exact ⟨rfl, h4.p3.drop.p2.drop⟩
theorem path_none3 (h : Sat w0 w (SR * F)) (hG : SrcO w0 SR ga n c X) (k x to : Int) (hok : okG (X.map (·.1)) = true) (hr : refV ⟨k, x⟩ = true) (ht : (thereG (X.map (·.1)) x && thereG (X.map (·.1)) to) = false) :
    Calls Try.prog 22 #[.agg #[.slice ga n c], .agg #[.int .i64 k, .int .i64 x], .int .i64 to] w fun e w' => e = .returned (.slice none 0 0) ∧ Sat w0 w' (SR * F) := by
  have hb := (h.alloc (.cells #[.slice ga n c] 24)).alloc (.cells #[.int .i64 k, .int .i64 x] 33)
  rw [size_alloc] at hb
  generalize hgb : w.heap.size = gb at *
  have c0 := boxG hb.p2
  have hC := graph_Check hb.p3 hG
  rw [hok] at hC
  have HC := Lib.hid hC
  have HR := Lib.hid hr
  have HG := Lib.hid hG
  have hfl : (([x, to] : List Int).filter (thereG (X.map (·.1)))).length < 2 := by
    cases h1 : thereG (X.map (·.1)) x <;> cases h2 : thereG (X.map (·.1)) to <;> simp [h1, h2] at ht ⊢
  obtain ⟨R, hR⟩ : ∃ R, ([x, to] : List Int).filter (thereG (X.map (·.1))) = R := ⟨_, rfl⟩
  rw [hR] at hfl
  have HRR := Lib.hid hR
  clear hC hok hG hr ht hR
  go_enter Try.func22, Try.ntmps22
  try rw [hgb]
  go_wp2_with fail
  refine HC.out.mono ?_
  rintro e w3 ⟨rfl, h3⟩
  have hV := val_Ref ⟨k, x⟩ h3
  obtain ⟨c1, c2⟩ := boxV h3.p2
  rw [HR.out] at hV
  have HV := Lib.hid hV
  clear hV
  go_wp2_with fail
  refine HV.out.mono ?_
  rintro e w4 ⟨rfl, h4⟩
  obtain ⟨d1, d2⟩ := boxV h4.p2
  have d0 := boxG h4.p3
  have h5 := litS (l := [x, to]) (h4.alloc (.cells #[.int .i64 x, .int .i64 to] 3)) rfl (by simp)
  have HT := Lib.hid (reach_there h5 HG.out rfl (by simp) HRR.out)
  go_wp2_with fail
  refine HT.out.mono ?_
  rintro e w5 ⟨rfl, h6⟩
  have hlt : decide ((R.length : Int) < 2) = true := by simp; omega
  go_wp2_with fail
  go_ret
  exact ⟨rfl, h6.drop.p3.drop.p2.drop⟩
theorem pathF_cons (L : List AObj) (to : Int) (f : Nat) (x : Int) : pathF L to f x = x :: (pathF L to f x).tail := by cases f <;> rfl
theorem pathF_tail (L : List AObj) (to : Int) (f : Nat) (x : Int) : (pathF L to (f + 1) x).tail = pathF L to f (nextG L to x) := rfl
theorem size_setCell' (w : World) (a : Addr) (v : Value) : (w.setCell a v).heap.size = w.heap.size := by unfold World.setCell; simp
theorem pathC_store {lb ab m : Nat} {at_ : Int} {O : List (Int × Value)} (h : Sat w0 w (pathC lb ab m at_ O * F)) (z : Int) : Sat w0 (w.setCell ⟨ab, 0, none⟩ (.int .i64 z)) (pathC lb ab m z O * F) := by
  have h' : Sat w0 w (pt ab (.cells #[.int .i64 at_] 3 (0, 0)) * (pt lb (.cells #[.map (some m)] 60 (0, 0)) * (mII m O * F))) := h.cast (by unfold pathC; ac_rfl)
  have h2 : Sat w0 _ (pt ab (.cells #[.int .i64 z] 3 (0, 0)) * (pt lb (.cells #[.map (some m)] 60 (0, 0)) * (mII m O * F))) := Sat.store (T := 3) (cs := #[.int .i64 at_]) h' (i := 0) (.int .i64 z)
  exact h2.cast (by unfold pathC; ac_rfl)
set_option maxRecDepth 100000 in
set_option maxHeartbeats 8000000 in
theorem path_some (h : Sat w0 w (SR * F)) (hG : SrcO w0 SR ga n c X) (k x to : Int) (hok : okG (X.map (·.1)) = true) (hr : refV ⟨k, x⟩ = true) (hx : thereG (X.map (·.1)) x = true) (ht : thereG (X.map (·.1)) to = true) {R : List Int}
    (hR : (if distG (X.map (·.1)) to x = 0 then [] else pathF (X.map (·.1)) to (distG (X.map (·.1)) to x - 1) x) = R) :
    Calls Try.prog 22 #[.agg #[.slice ga n c], .agg #[.int .i64 k, .int .i64 x], .int .i64 to] w fun e w' => ∃ ra rc, e = .returned (.slice ra R.length rc) ∧ Sat w0 w' (slc 3 1 ra R.length rc (R.map ival) * (SR * F)) := by
  have hb := (h.alloc (.cells #[.slice ga n c] 24)).alloc (.cells #[.int .i64 k, .int .i64 x] 33)
  rw [size_alloc] at hb
  generalize hgb : w.heap.size = gb at *
  have c0 := boxG hb.p2
  have hC := graph_Check hb.p3 hG
  rw [hok] at hC
  have HC := Lib.hid hC
  have HR := Lib.hid hr
  have HG := Lib.hid hG
  have HOK := Lib.hid hok
  have HTO := Lib.hid ht
  have HL := Lib.hid hR
  have hLN : (X.map (·.1)).length = n := by rw [List.length_map]; exact hG.len
  have hsm := hG.small
  have hdl : ∀ y, distG (X.map (·.1)) to y ≤ 1000000 := fun y => by have := distG_le ht y; omega
  have HDL := Lib.hid hdl
  have hfl : ([x, to] : List Int).filter (thereG (X.map (·.1))) = [x, to] := by simp [hx, ht]
  have HRR := Lib.hid hfl
  have HLN := Lib.hid hLN
  have hx0 := hx
  clear hC hok hG hr ht hR hfl hx hdl hLN
  go_enter Try.func22, Try.ntmps22
  try rw [hgb]
  go_wp2_with fail
  refine HC.out.mono ?_
  rintro e w3 ⟨rfl, h3⟩
  have hV := val_Ref ⟨k, x⟩ h3
  obtain ⟨c1, c2⟩ := boxV h3.p2
  rw [HR.out] at hV
  have HV := Lib.hid hV
  clear hV
  go_wp2_with fail
  refine HV.out.mono ?_
  rintro e w4 ⟨rfl, h4⟩
  obtain ⟨d1, d2⟩ := boxV h4.p2
  have d0 := boxG h4.p3
  have h5 := litS (l := [x, to]) (h4.alloc (.cells #[.int .i64 x, .int .i64 to] 3)) rfl (by simp)
  have HT := Lib.hid (reach_there h5 HG.out rfl (by simp) HRR.out)
  clear c0 c1 c2 hb h HC
  go_wp2_with fail
  refine HT.out.mono ?_
  rintro e w5 ⟨rfl, h6⟩
  have h7 := h6.drop
  obtain ⟨e1, e2⟩ := boxV h7.p2
  have e0 := boxG h7.p3
  have HF := Lib.hid (reach_far h7 HG.out HOK.out to HTO.out)
  clear h6 h5 h4 h3 HT HV d0 d1 d2
  go_wp2_with fail
  refine HF.out.mono ?_
  rintro e w6 ⟨m, O, rfl, hO, h8⟩
  have HO := Lib.hid hO
  have h9 := h8.alloc (.cells #[.map (some m)] 60)
  generalize hlb : w6.heap.size = lb at *
  have h10 := h9.alloc (.cells #[.int .i64 x] 3)
  rw [size_alloc, hlb] at h10
  obtain ⟨q1, q2⟩ := boxV h9.p4
  have h11 : Sat w0 ((w6.alloc (.cells #[.map (some m)] 60)).alloc (.cells #[.int .i64 x] 3)) (pathC lb (lb + 1) m x O * (pt gb (.cells #[.slice ga n c] 24 (0, 0)) * (SR * F))) := h10.p4.p5.drop.cast (by unfold pathC mII; ac_rfl)
  obtain ⟨r0, r1, r2, h12⟩ := pathC_cells h11
  have hlk := look_far h12 hO x
  clear h9 h10 h8 h7 HF hO e0 e1 e2 h12
  have hdx := HDL.out x
  by_cases hd : distG (X.map (·.1)) to x = 0
  · rw [hd] at hlk
    have HE := Lib.hid (show R = [] by rw [← HL.out, if_pos hd])
    clear hd hdx
    go_wp2_with fail
    go_ret
    rw [HE.out]
    exact ⟨none, 0, rfl, h11.p2.drop.drop.nilSlc⟩
  · have HE := Lib.hid (show pathF (X.map (·.1)) to (distG (X.map (·.1)) to x - 1) x = R by rw [← HL.out, if_neg hd])
    obtain ⟨D, hD⟩ : ∃ D, distG (X.map (·.1)) to x = D := ⟨_, rfl⟩
    rw [hD] at hlk hd hdx HE
    have hD0 : ((D : Int) == 0) = false := by simp; omega
    have HD := Lib.hid hD
    clear hD
    have h13 := h11.alloc (.cells #[.int .i64 x] 3)
    rw [size_alloc, size_alloc, hlb] at h13
    have m0 := (boxI h13).1
    have HW := Lib.hid (way_one (l := []) (k := 0) (mc := 1) h13.nilSlc m0 (by simp))
    clear hd
    have HX := Lib.hid hx0
    clear hx0
    go_wp2_with fail
    refine HW.out.mono ?_
    rintro e w7 ⟨ra, rc, rfl, h14⟩
    clear HW h13 h11 hlk m0 r0 r1 r2 q1 q2
    go_wp2_with fail
    go_loopg [9] D (fun gk ov wr => ∃ (at_ : Int) (pre : List Int) (ra : Option Addr) (rc : Nat), ov = .slice ra pre.length rc ∧ 1 ≤ gk ∧ Hid (distG (X.map (·.1)) to at_ = gk ∧ thereG (X.map (·.1)) at_ = true) ∧ pre.length + gk = D + 1 ∧ Hid (pre ++ (pathF (X.map (·.1)) to (gk - 1) at_).tail = R) ∧
      Sat w0 wr (slc 3 1 ra pre.length rc (pre.map ival) * (pathC lb (lb + 1) m at_ O * (pt gb (.cells #[.slice ga n c] 24 (0, 0)) * (SR * F)))))
    case atStart =>
      refine ⟨x, [x], ra, rc, rfl, by simp at hD0; omega, Lib.hid ⟨HD.out, HX.out⟩, by simp; omega, Lib.hid ?_, h14.p2.drop⟩
      rw [← HE.out]
      cases D - 1 with
      | zero => rfl
      | succ f => rfl
    case round =>
      obtain ⟨at_, pre, ra, rc, rfl, hg1, HAT, hpl, HPR, hs⟩ := hrel
      obtain ⟨r0, r1, r2, _⟩ := pathC_cells hs.p2
      have g0 := boxG hs.p3
      by_cases ha : at_ = to
      · subst ha
        have hg : gk = 1 := by rw [← HAT.out.1]; exact distG_to HAT.out.2
        subst hg
        have HE2 := Lib.hid (show pre = R by rw [← HPR.out]; show pre = pre ++ []; rw [List.append_nil])
        clear h14
        go_wp2_with fail
        go_ret
        rw [← HE2.out]
        exact ⟨ra, rc, rfl, hs.p2.drop.p2.drop⟩
      · have hg : 2 ≤ gk := by
          have : gk ≠ 1 := by
            rintro rfl
            exact ha ((distG_one HTO.out).1 HAT.out.1)
          omega
        have hne : (at_ != to) = true := by simpa using ha
        have hsp := nextG_spec HTO.out (show 2 ≤ distG (X.map (·.1)) to at_ by rw [HAT.out.1]; exact hg)
        have hrg := thereG_range HAT.out.2
        rw [HLN.out] at hrg
        obtain ⟨j, rfl⟩ : ∃ j : Nat, at_ = (j : Int) + 1 := ⟨(at_ - 1).toNat, by omega⟩
        have hjn : j < n := by omega
        obtain ⟨y, hy, g2, off2, rfl, y0, y1, y2, y3, y4⟩ := HG.out.at hs.p4 hjn
        have hsl := HG.out.slots y (List.mem_of_getElem? hy)
        have hkd : kids (X.map (·.1)) ((j : Int) + 1) = refsV y.1.slots := kids_nat (by rw [List.getElem?_map, hy]; rfl)
        rw [hkd] at hsp
        obtain ⟨⟨yk, yc, ys, yt, ym⟩, sa, sc⟩ := y
        dsimp only at y0 y1 y2 y3 y4 hsl hkd hsp
        have HKD := Lib.hid hkd
        have HSP := Lib.hid hsp
        have hrl : (refsV ys).length ≤ 1000000 := by have h1 := refsV_len ys ys.length; rw [List.take_of_length_le (Nat.le_refl _)] at h1; have := hsl.2; omega
        have HV := Lib.hid (val_Refs hs.p4 hsl.1 hsl.2)
        have hj1 : (j : Int) + 1 - 1 = j := by omega
        have hj2 : (0 : Int) ≤ (j : Int) := by omega
        have hj3 : (j : Int) < (n : Int) := by omega
        clear ha hsp hkd hrg h14 hsl hy
        generalize refsV ys = rs at *
        go_wp2_with fail
        refine HV.out.mono ?_
        rintro e w8 ⟨va, vc, rfl, h15⟩
        have HVF := Lib.hid (values_fn h15)
        clear HV hs r0 r1 r2 g0 y0 y1 y2 y3 y4
        go_wp2_with fail
        refine HVF.out.mono ?_
        rintro e w9 ⟨sb, rfl, h16⟩
        have HSO := Lib.hid (sorted_int sb rfl (by omega) h16)
        clear HVF h15
        go_wp2_with fail
        refine HSO.out.mono ?_
        rintro e w10 ⟨ta, tc, rfl, h17⟩
        obtain ⟨ki, k1, k2, k3, k4⟩ := HSP.out
        have hsl : (sortI rs).length = rs.length := by unfold sortI; exact List.length_mergeSort _
        have hki : ki < rs.length := by have := (List.getElem?_eq_some_iff.1 k2).1; omega
        have hIF := indexFunc_int (nextB (X.map (·.1)) to ((j : Int) + 1)) 56 #[.pointer (some ⟨lb, 0, none⟩), .pointer (some ⟨lb + 1, 0, none⟩)] (enters_of Try.func56 (by kernel_rfl) rfl) (path_fn (lb := lb) (ab := lb + 1) (m := m) (at_ := (j : Int) + 1) HO.out HDL.out)
          (h17.cast (show _ = slc 3 1 ta rs.length tc ((sortI rs).map ival) * (pathC lb (lb + 1) m ((j : Int) + 1) O * (SR * (slc 3 1 ra pre.length rc (pre.map ival) * (pt gb (.cells #[.slice (some ⟨g2, off2, none⟩) n c] 24 (0, 0)) * F)))) by ac_rfl)) hsl (by omega)
        rw [k1] at hIF
        have HIF := Lib.hid hIF
        have HK := Lib.hid (And.intro k2 (And.intro k3 k4))
        clear hIF k1 k2 k3 k4 HSO h16 h17 hj1 hj2 hj3
        generalize hz : nextG (X.map (·.1)) to ((j : Int) + 1) = z at *
        have HZ := Lib.hid hz
        clear hz
        have hk1 : (0 : Int) ≤ (ki : Int) := by omega
        have hk2 : (ki : Int) < (rs.length : Int) := by omega
        go_wp2_with fail
        refine HIF.out.mono ?_
        rintro e w11 ⟨rfl, h18⟩
        obtain ⟨g3, off3, rfl, z0, _⟩ := intCells h18 HK.out.1
        obtain ⟨r0, r1, r2, _⟩ := pathC_cells h18.p2
        have h19 := pathC_store h18.p2 z
        obtain ⟨s0, s1, s2, _⟩ := pathC_cells h19
        have h20 := h19.alloc (.cells #[.int .i64 z] 3)
        rw [size_setCell'] at h20
        have m1 := (boxI h20).1
        have HW2 := Lib.hid (way_one (l := pre) (k := rc) (mc := 1) (h20.p5) m1 (by omega))
        clear HIF h18 h19
        go_wp2_with fail
        refine HW2.out.mono ?_
        rintro e w12 ⟨rb, rd, rfl, h21⟩
        clear HW2 h20 r0 r1 r2 s0 s1 s2 z0 m1
        go_wp2_with fail
        go_roundg (gk - 1)
        case measure => omega
        case rel =>
          have e1 := HK.out.2.2
          have e2 := HAT.out.1
          rw [e2] at e1
          have e3 := HPR.out
          obtain ⟨f, hf⟩ : ∃ f, gk - 1 = f + 1 := ⟨gk - 2, by omega⟩
          rw [hf, pathF_tail, HZ.out] at e3
          have e4 : gk - 1 - 1 = f := by omega
          refine ⟨z, pre ++ [z], rb, rd, by simp, by omega, Lib.hid ⟨by omega, kids_there HOK.out (n := (j : Int) + 1) (by rw [HKD.out]; exact HK.out.2.1)⟩, by simp; omega, Lib.hid ?_, ?_⟩
          · rw [e4, List.append_assoc]
            show pre ++ (z :: (pathF _ _ _ _).tail) = R
            rw [← pathF_cons]; exact e3
          · rw [List.length_append]
            exact h21.p2.drop.p3.drop.cast (by ac_rfl)
/-- Path, whatever the graph -/
theorem reach_Path (h : Sat w0 w (SR * F)) (hG : SrcO w0 SR ga n c X) (v : AVal) (to : Int) {R : List Int} (hR : pathG (X.map (·.1)) v to = R) :
    Calls Try.prog 22 #[.agg #[.slice ga n c], .agg #[.int .i64 v.kind, .int .i64 v.n], .int .i64 to] w fun e w' => ∃ ra rc, e = .returned (.slice ra R.length rc) ∧ Sat w0 w' (slc 3 1 ra R.length rc (R.map ival) * (SR * F)) := by
  obtain ⟨k, x⟩ := v
  unfold pathG at hR
  cases hok : okG (X.map (·.1)) with
  | false =>
    have : R = [] := by rw [← hR, hok]; rfl
    subst this
    refine (path_none1 h hG k x to hok).mono ?_
    rintro e w' ⟨rfl, h2⟩
    exact ⟨none, 0, rfl, h2.nilSlc⟩
  | true =>
    cases hr : refV ⟨k, x⟩ with
    | false =>
      have : R = [] := by rw [← hR, hok, hr]; rfl
      subst this
      refine (path_none2 h hG k x to hok hr).mono ?_
      rintro e w' ⟨rfl, h2⟩
      exact ⟨none, 0, rfl, h2.nilSlc⟩
    | true =>
      cases ht : (thereG (X.map (·.1)) x && thereG (X.map (·.1)) to) with
      | false =>
        have : R = [] := by
          rw [← hR, hok, hr]
          cases h1 : thereG (X.map (·.1)) x <;> cases h2 : thereG (X.map (·.1)) to <;> simp [h1, h2] at ht ⊢
        subst this
        refine (path_none3 h hG k x to hok hr ht).mono ?_
        rintro e w' ⟨rfl, h2⟩
        exact ⟨none, 0, rfl, h2.nilSlc⟩
      | true =>
        simp only [Bool.and_eq_true] at ht
        refine path_some h hG k x to hok hr ht.1 ht.2 ?_
        rw [← hR, hok, hr]
        dsimp only
        rw [ht.1, ht.2]
        by_cases hd : distG (X.map (·.1)) to x = 0 <;> simp [hd]
end
end Go.Proofs.Ytmngkodejlhalaa.Tw
namespace Go.Proofs.Ytmngkodejlhalaa.Tw
set_option linter.unusedVariables false
set_option linter.unusedSimpArgs false
open Go Go.RowKit Go.MapKept Go.ChangeShapes Go.WideShapes Go.Deep

/-- the cells of an argument, wherever CR is held -/
def ArgAt (w0 : World) (CR : HP) (a : Option Addr) (cs : List Value) : Prop :=
  ∀ w' F j v, Sat w0 w' (CR * F) → cs[j]? = some v → ∃ g off, a = some ⟨g, off, none⟩ ∧ w'.cell? ⟨g, off + j, none⟩ = some v
theorem addr_of_cellR {w : World} {x : Addr} {v : Value} (h : w.cell? (x.add 0) = some v) : ∃ b off, x = ⟨b, off, none⟩ := by
  obtain ⟨b, off, sp⟩ := x
  cases sp with
  | none => exact ⟨b, off, rfl⟩
  | some s =>
    simp [Addr.add, World.cell?] at h
    split at h <;> simp at h
theorem flatten_get {sz : Nat} (hsz : 0 < sz) : ∀ (css : List (List Value)) (j : Nat) (v : Value), (∀ cs ∈ css, cs.length = sz) → css.flatten[j]? = some v → ∃ cs, css[j / sz]? = some cs ∧ cs[j % sz]? = some v
  | [], j, v, _, h => by simp at h
  | cs :: css, j, v, hl, h => by
    have h0 := hl cs (by simp)
    rw [List.flatten_cons] at h
    by_cases hj : j < sz
    · rw [List.getElem?_append_left (by omega)] at h
      refine ⟨cs, ?_, ?_⟩
      · rw [Nat.div_eq_of_lt hj]; rfl
      · rw [Nat.mod_eq_of_lt hj]; exact h
    · rw [List.getElem?_append_right (by omega), h0] at h
      obtain ⟨cs', h1, h2⟩ := flatten_get hsz css (j - sz) v (fun c hc => hl c (List.mem_cons_of_mem _ hc)) h
      refine ⟨cs', ?_, ?_⟩
      · have : j / sz = (j - sz) / sz + 1 := by
          rw [Nat.div_eq_sub_div hsz (by omega)]
        rw [this, List.getElem?_cons_succ]; exact h1
      · rw [Nat.mod_eq_sub_mod (by omega)]; exact h2
theorem of_forall_ex {α β : Type} {f : β → α} {R : β → Prop} : ∀ (l : List α), (∀ x ∈ l, ∃ y, R y ∧ x = f y) → ∃ r : List β, l = r.map f ∧ ∀ y ∈ r, R y
  | [], _ => ⟨[], rfl, by simp⟩
  | x :: l, h => by
    obtain ⟨y, hy, rfl⟩ := h x (by simp)
    obtain ⟨r, rfl, hr⟩ := of_forall_ex l fun z hz => h z (List.mem_cons_of_mem _ hz)
    exact ⟨y :: r, rfl, fun z hz => by
      rcases List.mem_cons.1 hz with rfl | hz
      · exact hy
      · exact hr z hz⟩
section
variable {H : Type} {enc : TypeId × Value → H} {P : Program} {w : World} {base : Nat} {held : Bool} {fuel : Nat} {x : DataW H × List MemPlace}
theorem open_recs {T e : TypeId} (hT : P.underlying T = some (.slice e)) {sz : Nat} (hs : P.cellsOf e = sz) (hsz : 0 < sz) {E : List Value → Prop}
    (hE : ∀ fuel cs x, DataW.trod enc P w base (fun _ => true) held fuel e cs = some x → E cs) {a : Option Addr} {len cap : Nat}
    (h : DataW.trod enc P w base (fun _ => true) held fuel T [.slice a len cap] = some x) :
    len ≤ cap ∧ cap ≤ maxLen ∧ ∃ css : List (List Value), css.length = len ∧ (∀ cs ∈ css, E cs) ∧ ArgAt w (Old w) a css.flatten := by
  rcases open_slice hT h with ⟨hcs, _⟩ | ⟨ad, l, c, m, n, D, Pl, hcs, _, hl, hm, hmm, _, hx⟩
  · simp at hcs
    obtain ⟨rfl, rfl, rfl⟩ := hcs
    exact ⟨Nat.le_refl _, Nat.zero_le _, [], rfl, by simp, fun w' F j v _ hj => by simp at hj⟩
  · simp at hcs
    obtain ⟨rfl, rfl, rfl⟩ := hcs
    rw [hs] at hx
    have hmc : m = cap := by rw [hmm]; rfl
    subst hmc
    have each : ∀ i, i < m → ∃ cs : List Value, cs.length = sz ∧ E cs ∧ ∀ j, j < sz → ∃ v, cs[j]? = some v ∧ w.cell? (ad.add (i * sz + j)) = some v := fun i hi => by
      obtain ⟨cs', hc, ht⟩ := hx i hi
      obtain ⟨_, hcl, hat⟩ := World.cells?_some hc
      refine ⟨cs', by omega, hE _ _ _ ht, fun j hj => ?_⟩
      have h1 := hat j (by omega)
      rw [Go.Deep.add_add] at h1
      refine ⟨_, List.getElem?_eq_getElem (by omega), ?_⟩
      simpa [hcl, hj] using h1
    let css : List (List Value) := (List.range len).map fun i => if hi : i < m then (each i hi).choose else []
    have hcss : ∀ k cs, css[k]? = some cs → ∃ hk : k < m, cs = (each k hk).choose := fun k cs hk => by
      have hkl : k < len := by
        have := (List.getElem?_eq_some_iff.1 hk).1
        simpa [css] using this
      have hkm : k < m := by omega
      refine ⟨hkm, ?_⟩
      simp [css, hkl, hkm] at hk
      exact hk.symm
    have hlen : ∀ cs ∈ css, cs.length = sz := fun cs hc => by
      obtain ⟨k, hk⟩ := List.mem_iff_getElem?.1 hc
      obtain ⟨h1, rfl⟩ := hcss k cs hk
      exact (each k h1).choose_spec.1
    refine ⟨hl, hm, css, by simp [css], fun cs hc => ?_, fun w' F j v hsat hj => ?_⟩
    · obtain ⟨k, hk⟩ := List.mem_iff_getElem?.1 hc
      obtain ⟨h1, rfl⟩ := hcss k cs hk
      exact (each k h1).choose_spec.2.1
    · obtain ⟨cs, h1, h2⟩ := flatten_get hsz css j v hlen hj
      obtain ⟨h3, rfl⟩ := hcss _ _ h1
      have h4 := (each _ h3).choose_spec.2.2 (j % sz) (Nat.mod_lt _ hsz)
      obtain ⟨v', h5, h6⟩ := h4
      rw [h2] at h5; cases h5
      have hm0 : 0 < m := Nat.lt_of_le_of_lt (Nat.zero_le _) h3
      obtain ⟨v0, _, h7⟩ := (each 0 hm0).choose_spec.2.2 0 hsz
      rw [Nat.zero_mul, Nat.zero_add] at h7
      obtain ⟨b, off, rfl⟩ := addr_of_cellR h7
      rw [addr_add, Nat.mul_comm, Nat.div_add_mod] at h6
      exact ⟨b, off, rfl, hsat.oldCell h6⟩
end
end Go.Proofs.Ytmngkodejlhalaa.Tw
