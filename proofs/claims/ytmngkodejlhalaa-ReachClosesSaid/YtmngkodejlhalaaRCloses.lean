/- ReachCloses: what can be reached has all that it holds, and no more: the row, proved without a condition. -/
import Derived.Test.YtmngkodejlhalaaRl4
import Derived.Test.YtmngkodejlhalaaRp2
import Derived.ProofKit
import Derived.OpenShut
import Derived.ChangeOld
namespace Go.Proofs.Ytmngkodejlhalaa.RCloses
set_option linter.unusedVariables false
set_option linter.unusedSimpArgs false
open Go Go.RowKit Go.MapKept Go.Proofs.Ytmngkodejlhalaa.Tw
open Go.ChangeShapes Go.WideShapes Go.ChangeAt

section
variable {w0 w : World} {F : HP}
theorem has_t {a : Option Addr} {c n : Nat} {l : List Int} {x : Int} (h : Sat w0 w (slc 3 1 a n c (l.map ival) * F)) (hl : l.length = n) (hn : n ≤ 1000000000) (hx : x ∈ l) :
    Calls Try.prog 26 #[.slice a n c, .int .i64 x] w fun e w' => e = .returned (.bool true) ∧ w = w' := by
  have := law_has11 x h hl hn
  rwa [decide_eq_true hx] at this
theorem has_f {a : Option Addr} {c n : Nat} {l : List Int} {x : Int} (h : Sat w0 w (slc 3 1 a n c (l.map ival) * F)) (hl : l.length = n) (hn : n ≤ 1000000000) (hx : x ∉ l) :
    Calls Try.prog 26 #[.slice a n c, .int .i64 x] w fun e w' => e = .returned (.bool false) ∧ w = w' := by
  have := law_has11 x h hl hn
  rwa [decide_eq_false hx] at this
end
set_option maxRecDepth 100000 in
set_option maxHeartbeats 8000000 in
theorem walk (ga : Option Addr) (n c : Nat) (X : List XObj) (a1 : Option Addr) (n1 c1 : Nat) (l1 : List AVal) (w : World) (hG : SrcG w (Old w) ga n c X) (hA : SrcV w (Old w) a1 n1 c1 l1) :
    Calls Try.prog 5 #[.agg #[.slice ga n c], .slice a1 n1 c1] w fun e w' => e = .returned (.bool true) ∧ Below w.heap.size w w' := by
  have h1 : Sat w _ (pt w.heap.size (.cells #[.slice ga n c] 24 (0, 0)) * _) := (Sat.refl w).alloc (.cells #[.slice ga n c] 24)
  have h1' : Sat w (w.alloc (.cells #[.slice ga n c] 24)) (Old w * (pt w.heap.size (.cells #[.slice ga n c] 24 (0, 0)) * 1)) := h1.cast (by rw [mul_one, mul_comm])
  have HW := Lib.hid (fun w' F (h : Sat w w' (Old w * F)) => h.below)
  generalize hgb : w.heap.size = gb at *
  have hca := hA.2.2.2
  have e1 : min (n1 : Int) 40 = ((min n1 40 : Nat) : Int) := by omega
  have m1 : min n1 40 ≤ n1 := by omega
  have f1 : min n1 40 ≤ 40 := by omega
  have HA := hA.take m1
  generalize min n1 40 = k1 at *
  generalize l1.take k1 = A at *
  have hk1 : A.length = k1 := HA.2.1
  subst hk1
  obtain ⟨L, hL⟩ : ∃ L, ownL (X.map (·.1)) = L := ⟨_, rfl⟩
  obtain ⟨N, hN⟩ : ∃ N, L.length = N := ⟨_, rfl⟩
  have hN40 : N ≤ 40 := by rw [← hN, ← hL]; exact ownL_len _
  have hsm : ∀ o ∈ L, o.slots.length ≤ 40 := fun o ho => by rw [← hL] at ho; exact ownL_slots ho
  have hsm' : smallG L := fun o ho => by have := hsm o ho; omega
  obtain ⟨RA, hRA⟩ : ∃ R, refsV A = R := ⟨_, rfl⟩
  have hra : RA.length ≤ 40 := by rw [← hRA]; unfold refsV; rw [List.length_map]; have := List.length_filter_le refV A; omega
  have hrp : ∀ s ∈ RA, 1 ≤ s ∧ s ≤ 2147483647 := fun s hs => refsV_pos (l := A) (by rw [hRA]; exact hs)
  obtain ⟨R1, hR1⟩ : ∃ R, thoseG L RA true = R := ⟨_, rfl⟩
  obtain ⟨R2, hR2⟩ : ∃ R, thoseG L RA false = R := ⟨_, rfl⟩
  have hr1 : R1.length ≤ 40 := by rw [← hR1]; have := thoseG_len L RA true; omega
  have hr2 : R2.length ≤ 40 := by rw [← hR2]; have := thoseG_len L RA false; omega
  have HP := Lib.hid (And.intro hR1 (And.intro hR2 (And.intro hrp hsm)))
  have HV := Lib.hid HA
  have HRA := Lib.hid hRA
  have HS := Lib.hid hsm'
  have HL := Lib.hid (And.intro hL hN)
  have HG := Lib.hid hG
  clear hR1 hR2 hsm hsm' HA hL hN hG hA hrp hRA
  have g0 := boxG h1
  go_enter Try.func5, Try.ntmps5
  try rw [hgb]
  go_wp2_with fail
  refine (law_own h1' HG.out HL.out.1 HL.out.2).mono ?_
  rintro e w2 ⟨oa, oc, rfl, h2⟩
  have g2 := boxG h2.p3
  have g2f := Sat.free (T := 24) (cs := #[.slice ga n c]) h2.p3 0
  have h3 : Sat w _ (pt gb (.cells #[.slice oa N oc] 24 (0, 0)) * _) := Sat.store (T := 24) (cs := #[.slice ga n c]) h2.p3 (i := 0) (.slice oa N oc)
  obtain ⟨C, Y, hY, hGO, hV, H1, _⟩ := (h3.p3.p3).graphSrc (by omega) HS.out
  have HB : Hid (∀ w' G, Sat w w' ((C * Old w) * G) → Below gb w w') := Lib.hid (fun w' G h => HW.out w' (C * G) (h.cast (by ac_rfl)))
  have HVD := Lib.hid (HV.out.mono' (C := C))
  generalize C * Old w = D at *
  have HY := Lib.hid hY
  have HGO := Lib.hid hGO
  clear h1 h1' g0 HG HL hV hY hGO HS HV HW
  have g3 := boxG H1.drew.p2
  have HFr := Lib.hid (fun w' G (h : Sat w w' (D * G)) => reach_From h HGO.out HVD.out (by omega) (R := R1) (by rw [HY.out, HRA.out]; exact HP.out.1))
  have HLo := Lib.hid (fun w' G (h : Sat w w' (D * G)) => reach_Lost h HGO.out HVD.out (by omega) (R := R2) (by rw [HY.out, HRA.out]; exact HP.out.2.1))
  go_wp2_with fail
  go_region_held3 (fun w' => w'.cell? ⟨gb, 0, none⟩ = some (.slice oa N oc)) (assumption) (first
    | (go_at_call 17; refine (HFr.out _ _ H1.drew).mono ?_; rintro e w4 ⟨ra, rc, rfl, h4⟩; have g4 := boxG h4.p3)
    | (go_at_call 19; refine (HLo.out _ _ h4.p2).mono ?_; rintro e w5 ⟨rb, rd, rfl, h5⟩; have g5 := boxG h5.p4))
  have h6 : Sat w w5 (slc 3 1 ra R1.length rc (R1.map ival) * (slc 3 1 rb R2.length rd (R2.map ival) * (D * (pt gb (.cells #[.slice oa N oc] 24 (0, 0)) * 1)))) := h5.p3
  clear HFr HLo H1 h2 h3 h4 h5 g2 g2f g3 g4 g5
  have HCk := Lib.hid (fun w' G (h : Sat w w' (D * G)) => graph_Check h HGO.out)
  rw [HY.out] at HCk
  cases hok : okG L with
  | false =>
    rw [hok] at HCk
    have e1' : R1 = [] := by rw [← HP.out.1]; exact thoseG_no hok _ _
    have e2' : R2 = [] := by rw [← HP.out.2.1]; exact thoseG_no hok _ _
    subst e1' e2'
    go_wp2_with fail
    refine (HCk.out _ _ h6.p3).mono ?_
    rintro e w6 ⟨rfl, h7⟩
    go_wp2_with fail
    refine (law_works11 h7).mono ?_
    rintro e w8 ⟨rfl, h8⟩
    go_wp2_with fail
    go_ret
    exact ⟨rfl, HB.out _ _ h8⟩
  | true =>
    rw [hok] at HCk
    have HOK := Lib.hid hok
    clear hok
    go_wp2_with fail
    refine (HCk.out _ _ h6.p3).mono ?_
    rintro e w6 ⟨rfl, h7⟩
    go_wp2_with fail
    refine (law_rising h7.p2 rfl (by omega) (by rw [← HP.out.1]; exact thoseG_rising _ _ _)).mono ?_
    rintro e w7 ⟨rfl, h8⟩
    go_wp2_with fail
    refine (law_rising h8.p3 rfl (by omega) (by rw [← HP.out.2.1]; exact thoseG_rising _ _ _)).mono ?_
    rintro e w8 ⟨rfl, h9⟩
    have hs0 : Sat w w8 (slc 3 1 ra R1.length rc (R1.map ival) * (slc 3 1 rb R2.length rd (R2.map ival) * (D * (pt gb (.cells #[.slice oa N oc] 24 (0, 0)) * 1)))) := h9.p2
    clear h6 h7 h8 h9 HCk
    have hYN := HGO.out.len
    have HYN := Lib.hid hYN
    have hocap := HGO.out.cap
    clear hYN
    go_wp2_with fail
    go_loopw [7, 8] (fun tv iv wr => ∃ k : Nat, tv = .int .i64 (thereN L k : Nat) ∧ iv = .int .i64 k ∧ k ≤ N ∧ Sat w wr (slc 3 1 ra R1.length rc (R1.map ival) * (slc 3 1 rb R2.length rd (R2.map ival) * (D * (pt gb (.cells #[.slice oa N oc] 24 (0, 0)) * 1))))) (fun _ iv _ => N - (intOf iv).toNat)
    case atStart => exact ⟨0, rfl, rfl, by omega, hs0⟩
    case round =>
      obtain ⟨k, rfl, rfl, hk, hs⟩ := hrel
      clear hs0
      have g5 := boxG hs.p4
      by_cases hlt : k < N
      · obtain ⟨y, hy⟩ : ∃ y, Y[k]? = some y := ⟨Y[k]'(by rw [HYN.out]; exact hlt), List.getElem?_eq_getElem _⟩
        obtain ⟨g, off, rfl, d0, _⟩ := HGO.out.cell _ _ hs.p3 k y hy
        have hLk : L[k]? = some y.1 := by rw [← HY.out, List.getElem?_map, hy]; rfl
        have hth := there_at hLk
        have htn := thereN_succ L k
        have htl := thereN_le L k
        rw [hth] at htn
        generalize thereN L k = tn at *
        have hw1 : IntKind.i64.wrap ((k : Int) + 1) = (k : Int) + 1 := IntWalk.i64_in _ (by omega)
        obtain ⟨⟨yk, yc, ysl, ytx, ym⟩, sa, sc⟩ := y
        dsimp only at d0 hth htn
        clear hLk hy
        by_cases hk0 : yk = 0
        · subst hk0
          have HNF := Lib.hid (And.intro (show (k : Int) + 1 ∉ R1 by rw [← HP.out.1]; exact none_in (by rw [hth]; rfl) _) (show (k : Int) + 1 ∉ R2 by rw [← HP.out.2.1]; exact none_in (by rw [hth]; rfl) _))
          have HTN := Lib.hid (show thereN L (k + 1) = tn by rw [htn]; simp)
          clear hth htn
          go_wp2_with fail
          refine (has_f hs rfl (by omega) HNF.out.1).mono ?_
          rintro e w' ⟨rfl, rfl⟩
          go_wp2_with fail
          refine (has_f hs rfl (by omega) HNF.out.1).mono ?_
          rintro e w' ⟨rfl, rfl⟩
          go_wp2_with fail
          refine (has_f hs.p2 rfl (by omega) HNF.out.2).mono ?_
          rintro e w' ⟨rfl, rfl⟩
          go_wp2_with fail
          go_roundw
          case rel => exact ⟨k + 1, by rw [HTN.out], by go_num, by omega, hs⟩
          case measure => simp [intOf]; omega
        · have hk1 : (yk != 0) = true := by simpa using hk0
          have HTN := Lib.hid (show thereN L (k + 1) = tn + 1 by rw [htn]; simp [hk0])
          rcases from_or (rs := RA) HOK.out (show thereG L ((k : Int) + 1) = true by rw [hth]; simp [hk0]) with hin | hin
          · have HIN := Lib.hid (show (k : Int) + 1 ∈ R1 ∧ (k : Int) + 1 ∉ R2 by rw [← HP.out.1, ← HP.out.2.1]; exact hin)
            clear hth htn hin hk0
            go_wp2_with fail
            refine (has_t hs rfl (by omega) HIN.out.1).mono ?_
            rintro e w' ⟨rfl, rfl⟩
            go_wp2_with fail
            refine (has_f hs.p2 rfl (by omega) HIN.out.2).mono ?_
            rintro e w' ⟨rfl, rfl⟩
            go_wp2_with fail
            refine (has_t hs rfl (by omega) HIN.out.1).mono ?_
            rintro e w' ⟨rfl, rfl⟩
            go_wp2_with fail
            go_roundw
            case rel => exact ⟨k + 1, by rw [HTN.out]; go_num, by go_num, by omega, hs⟩
            case measure => simp [intOf]; omega
          · have HIN := Lib.hid (show (k : Int) + 1 ∉ R1 ∧ (k : Int) + 1 ∈ R2 by rw [← HP.out.1, ← HP.out.2.1]; exact hin)
            clear hth htn hin hk0
            go_wp2_with fail
            refine (has_f hs rfl (by omega) HIN.out.1).mono ?_
            rintro e w' ⟨rfl, rfl⟩
            go_wp2_with fail
            refine (has_f hs rfl (by omega) HIN.out.1).mono ?_
            rintro e w' ⟨rfl, rfl⟩
            go_wp2_with fail
            refine (has_t hs.p2 rfl (by omega) HIN.out.2).mono ?_
            rintro e w' ⟨rfl, rfl⟩
            go_wp2_with fail
            go_roundw
            case rel => exact ⟨k + 1, by rw [HTN.out]; go_num, by go_num, by omega, hs⟩
            case measure => simp [intOf]; omega
      · have hkn : N = k := by omega
        subst hkn
        have hcnt : thereN L N = R1.length + R2.length := by
          rw [← HP.out.1, ← HP.out.2.1, thoseG_two HOK.out]
          congr 1
          rw [← HY.out, List.length_map, HYN.out]
        rw [hcnt]
        have hq : (((R1.length + R2.length : Nat) : Int) != (R1.length : Int) + (R2.length : Int)) = false := by simp
        clear hcnt
        have HRf := Lib.hid (fun w' G (h : Sat w w' (D * G)) => val_Refs h HVD.out (by omega))
        simp only [HRA.out] at HRf
        go_wp2_with fail
        refine (HRf.out _ _ hs.p3).mono ?_
        rintro e w9 ⟨rs, rq, rfl, h10⟩
        have hs10 : Sat w w9 (slc 3 1 rs RA.length rq (RA.map ival) * (D * (slc 3 1 ra R1.length rc (R1.map ival) * (slc 3 1 rb R2.length rd (R2.map ival) * (pt gb (.cells #[.slice oa N oc] 24 (0, 0)) * 1))))) := h10
        clear HRf hs h10 hq g5 hlt hk
        go_wp2_with fail
        go_loopw [11] (fun iv wr => ∃ k : Nat, iv = .int .i64 k ∧ k ≤ RA.length ∧ Sat w wr (slc 3 1 rs RA.length rq (RA.map ival) * (D * (slc 3 1 ra R1.length rc (R1.map ival) * (slc 3 1 rb R2.length rd (R2.map ival) * (pt gb (.cells #[.slice oa N oc] 24 (0, 0)) * 1)))))) (fun iv _ => RA.length - (intOf iv).toNat)
        case atStart => exact ⟨0, rfl, by omega, hs10⟩
        case round =>
          obtain ⟨k, rfl, hk, hs1⟩ := hrel
          clear hs10
          have hs := hs1.drew
          have g5 := boxG hs.p5
          by_cases hlt : k < RA.length
          · obtain ⟨s, hsx⟩ : ∃ s, RA[k]? = some s := ⟨RA[k], List.getElem?_eq_getElem hlt⟩
            have hsm := List.mem_of_getElem? hsx
            have hsp := HP.out.2.2.1 s hsm
            obtain ⟨g, off, rfl, c0, _⟩ := intCells hs hsx
            obtain ⟨j, rfl⟩ : ∃ j : Nat, s = (j : Int) + 1 := ⟨(s - 1).toNat, by omega⟩
            have HC := Lib.hid (fun w' (h : Sat w w' (slc 3 1 (some ⟨g, off, none⟩) RA.length rq (RA.map ival) * (D * (slc 3 1 ra R1.length rc (R1.map ival) * (slc 3 1 rb R2.length rd (R2.map ival) * (pt gb (.cells #[.slice oa N oc] 24 (0, 0)) * 1)))))) => And.intro (show w'.cell? ⟨g, off + k, none⟩ = some (.int .i64 ((j : Int) + 1)) from by
              obtain ⟨g', off', e, h0, _⟩ := intCells h hsx
              cases e; exact h0) (boxG h.p5))
            have hj1 : (j : Int) + 1 - 1 = j := by omega
            have hj2 : (0 : Int) ≤ (j : Int) := by omega
            have hj4 : IntKind.i64.wrap (j : Int) = j := IntWalk.i64_in _ (by omega)
            have hk1 : (0 : Int) ≤ (k : Int) := by omega
            have hk2 : (k : Int) < (RA.length : Int) := by omega
            clear hsx
            by_cases hjn : j < N
            · have hle : decide ((j : Int) + 1 ≤ (N : Int)) = true := by simp; omega
              have hj3 : (j : Int) < (N : Int) := by omega
              obtain ⟨y, hy⟩ : ∃ y, Y[j]? = some y := ⟨Y[j]'(by rw [HYN.out]; exact hjn), List.getElem?_eq_getElem _⟩
              have HE := Lib.hid (fun w' G (h : Sat w w' (D * G)) => HGO.out.cell w' G h j y hy)
              obtain ⟨g2, off2, rfl, d0, _⟩ := HGO.out.cell _ _ hs.p2 j y hy
              have hLk : L[j]? = some y.1 := by rw [← HY.out, List.getElem?_map, hy]; rfl
              have hth := there_at hLk
              obtain ⟨⟨yk, yc, ysl, ytx, ym⟩, sa, sc⟩ := y
              dsimp only at d0 hth
              clear hLk hy
              by_cases hk0 : yk = 0
              · subst hk0
                clear hth hsm
                have HE2 := Lib.hid (fun w' G (h : Sat w w' (D * G)) => show w'.cell? ⟨g2, off2 + j * 5, none⟩ = some (.int .i64 0) from by
                  obtain ⟨g', off', e, h0, _⟩ := HE.out w' G h
                  cases e; exact h0)
                go_wp2_with fail
                refine wp_region_qq (fun w' => Sat w w' (slc 3 1 (some ⟨g, off, none⟩) RA.length rq (RA.map ival) * (D * (slc 3 1 ra R1.length rc (R1.map ival) * (slc 3 1 rb R2.length rd (R2.map ival) * (pt gb (.cells #[.slice (some ⟨g2, off2, none⟩) N oc] 24 (0, 0)) * 1)))))) (by kernel_rfl) (by kernel_rfl) hs ?_
                iterate 30 (first
                  | (refine QQ.skip (by rfl) ?_; simp only [Act.put, List.setIfInBounds_toArray, List.set_cons_zero, List.set_cons_succ])
                  | (refine QQ.want (by rfl) ?_
                     apply Exists.intro
                     refine ⟨?_, ?_⟩
                     · intro w hw
                       have ⟨x0, x1⟩ := HC.out w hw; have x2 := HE2.out w _ hw.p2
                       first
                         | (go_simp; done)
                         | (go_simp; rfl)
                         | (go_simp; fail)
                     simp only [Act.put, List.setIfInBounds_toArray, List.set_cons_zero, List.set_cons_succ]))
                refine QQ.nil ?_
                intro w3 h3
                go_wp2_with fail
                go_roundw
                case rel => exact ⟨k + 1, by go_num, by omega, h3⟩
                case measure => simp [intOf]; omega
              · have hk3 : (yk != 0) = true := by simpa using hk0
                have hin : (j : Int) + 1 ∈ R1 := by rw [← HP.out.1]; exact from_root HOK.out hsm (by rw [hth]; simp [hk0])
                clear hth hsm
                have HH := Lib.hid (has_t hs.p3 rfl (by omega) hin)
                clear hin
                go_wp2_with fail
                go_region_held3 (fun w' => w'.cell? ⟨g, off + k, none⟩ = some (.int .i64 ((j : Int) + 1)) ∧ w'.cell? ⟨gb, 0, none⟩ = some (.slice (some ⟨g2, off2, none⟩) N oc) ∧ w'.cell? ⟨g2, off2 + j * 5, none⟩ = some (.int .i64 yk)) (exact ⟨c0, g5, d0⟩) (first
                  | (go_at_call 26; refine HH.out.mono ?_; rintro e w' ⟨rfl, rfl⟩))
                go_wp2_with fail
                go_roundw
                case rel => exact ⟨k + 1, by go_num, by omega, hs⟩
                case measure => simp [intOf]; omega
            · have hle : decide ((j : Int) + 1 ≤ (N : Int)) = false := by simp; omega
              clear hsm
              go_wp2_with fail
              refine wp_region_qq (fun w' => Sat w w' (slc 3 1 (some ⟨g, off, none⟩) RA.length rq (RA.map ival) * (D * (slc 3 1 ra R1.length rc (R1.map ival) * (slc 3 1 rb R2.length rd (R2.map ival) * (pt gb (.cells #[.slice oa N oc] 24 (0, 0)) * 1)))))) (by kernel_rfl) (by kernel_rfl) hs ?_
              iterate 30 (first
                | (refine QQ.skip (by rfl) ?_; simp only [Act.put, List.setIfInBounds_toArray, List.set_cons_zero, List.set_cons_succ])
                | (refine QQ.want (by rfl) ?_
                   apply Exists.intro
                   refine ⟨?_, ?_⟩
                   · intro w hw
                     have ⟨x0, x1⟩ := HC.out w hw
                     first
                       | (go_simp; done)
                       | (go_simp; rfl)
                       | (go_simp; fail)
                   simp only [Act.put, List.setIfInBounds_toArray, List.set_cons_zero, List.set_cons_succ]))
              refine QQ.nil ?_
              intro w3 h3
              go_wp2_with fail
              go_roundw
              case rel => exact ⟨k + 1, by go_num, by omega, h3⟩
              case measure => simp [intOf]; omega
          · have hkn : k = RA.length := by omega
            clear hs g5
            go_wp2_with fail
            go_loopw [12] (fun iv wr => ∃ k : Nat, iv = .int .i64 k ∧ k ≤ R1.length ∧ Sat w wr (slc 3 1 rs RA.length rq (RA.map ival) * (D * (slc 3 1 ra R1.length rc (R1.map ival) * (slc 3 1 rb R2.length rd (R2.map ival) * (pt gb (.cells #[.slice oa N oc] 24 (0, 0)) * 1)))))) (fun iv _ => R1.length - (intOf iv).toNat)
            case atStart => exact ⟨0, rfl, by omega, hs1⟩
            case round =>
              clear hkn hlt hk
              obtain ⟨k, rfl, hk, hs2⟩ := hrel
              clear hs1
              have hs := hs2.drew
              have g5 := boxG hs.p5
              by_cases hlt : k < R1.length
              · obtain ⟨x, hx⟩ : ∃ x, R1[k]? = some x := ⟨R1[k], List.getElem?_eq_getElem hlt⟩
                have hxm := List.mem_of_getElem? hx
                have hxf : x ∈ thoseG L RA true := by rw [HP.out.1]; exact hxm
                have hxn := thoseG_in hxf
                have hLN : L.length = N := by rw [← HY.out, List.length_map, HYN.out]
                rw [hLN] at hxn
                obtain ⟨g, off, era, c0, _⟩ := intCells hs.p3 hx
                obtain ⟨j, rfl⟩ : ∃ j : Nat, x = (j : Int) + 1 := ⟨(x - 1).toNat, by omega⟩
                have hj1 : (j : Int) + 1 - 1 = j := by omega
                have hj2 : (0 : Int) ≤ (j : Int) := by omega
                have hj3 : (j : Int) < (N : Int) := by omega
                have hj4 : IntKind.i64.wrap (j : Int) = j := IntWalk.i64_in _ (by omega)
                have hk1 : (0 : Int) ≤ (k : Int) := by omega
                have hk2 : (k : Int) < (R1.length : Int) := by omega
                obtain ⟨y, hy⟩ : ∃ y, Y[j]? = some y := ⟨Y[j]'(by rw [HYN.out]; omega), List.getElem?_eq_getElem _⟩
                obtain ⟨g2, off2, eoa, d0, d1, d2, _⟩ := HGO.out.cell _ _ hs.p2 j y hy
                have hsl := HGO.out.slots y (List.mem_of_getElem? hy)
                have hLk : L[j]? = some y.1 := by rw [← HY.out, List.getElem?_map, hy]; rfl
                have hkid := kids_at hLk
                have hs40 := HP.out.2.2.2 _ (List.mem_of_getElem? hLk)
                obtain ⟨⟨yk, yc, ysl, ytx, ym⟩, sa, sc⟩ := y
                dsimp only at d2 hsl hkid hs40
                have HKid : Hid (∀ m ∈ refsV ysl, m ∈ R1) := Lib.hid (fun m hm => by rw [← HP.out.1]; exact from_kid hxf (by rw [hkid]; exact hm))
                have HLed := Lib.hid (from_led HP.out.2.2.1 hxf)
                have hrh : (refsV ysl).length ≤ 40 := by unfold refsV; rw [List.length_map]; have := List.length_filter_le refV ysl; omega
                have HRf := Lib.hid (fun w' G (h : Sat w w' (D * G)) => val_Refs h hsl.1 hsl.2)
                generalize refsV ysl = RH at *
                have HZZ := Lib.hid (fun w' rh rhc (h : Sat w w' (slc 3 1 rh RH.length rhc (RH.map ival) * (D * (slc 3 1 rs RA.length rq (RA.map ival) * (slc 3 1 ra R1.length rc (R1.map ival) * (slc 3 1 rb R2.length rd (R2.map ival) * (pt gb (.cells #[.slice oa N oc] 24 (0, 0)) * 1))))))) => show w'.cell? ⟨g, off + k, none⟩ = some (.int .i64 ((j : Int) + 1)) ∧ w'.cell? ⟨gb, 0, none⟩ = some (.slice oa N oc) ∧ w'.cell? ⟨g2, off2 + j * 5 + 2, none⟩ = some (.slice sa ysl.length sc) from by
                  obtain ⟨g', off', e, h0, _⟩ := intCells h.p4 hx
                  rw [era] at e; cases e
                  obtain ⟨g', off', e, _, _, h2, _⟩ := HGO.out.cell _ _ h.p2 j _ hy
                  rw [eoa] at e; cases e
                  exact ⟨h0, boxG h.p6, h2⟩)
                have HZ2 := Lib.hid (fun w' rh rhc (h : Sat w w' (slc 3 1 rh RH.length rhc (RH.map ival) * (D * (slc 3 1 rs RA.length rq (RA.map ival) * (slc 3 1 ra R1.length rc (R1.map ival) * (slc 3 1 rb R2.length rd (R2.map ival) * (pt gb (.cells #[.slice oa N oc] 24 (0, 0)) * 1))))))) => show w'.cell? ⟨g, off + k, none⟩ = some (.int .i64 ((j : Int) + 1)) from (HZZ.out w' rh rhc h).1)
                subst era eoa
                clear hx hxm hxf hxn hLN hy hsl hLk hkid hs40 d0 d1
                go_wp2_with fail
                go_region_held3 (fun w' => w'.cell? ⟨g, off + k, none⟩ = some (.int .i64 ((j : Int) + 1)) ∧ w'.cell? ⟨gb, 0, none⟩ = some (.slice (some ⟨g2, off2, none⟩) N oc) ∧ w'.cell? ⟨g2, off2 + j * 5 + 2, none⟩ = some (.slice sa ysl.length sc)) (first | exact ⟨c0, g5, d2⟩ | exact hzz) (first
                  | (go_at_call 27; refine (HRf.out _ _ hs.p2).mono ?_; rintro e w10 ⟨rh, rhc, rfl, h11⟩; have hzz := HZZ.out _ _ _ h11))
                have hs11 : Sat w w10 (slc 3 1 rh RH.length rhc (RH.map ival) * (D * (slc 3 1 rs RA.length rq (RA.map ival) * (slc 3 1 (some ⟨g, off, none⟩) R1.length rc (R1.map ival) * (slc 3 1 rb R2.length rd (R2.map ival) * (pt gb (.cells #[.slice (some ⟨g2, off2, none⟩) N oc] 24 (0, 0)) * 1)))))) := h11
                clear hs hs2 h11 c0 g5 d2 HRf hzz
                go_wp2_with fail
                go_loopw [14] (fun iv wr => ∃ m : Nat, iv = .int .i64 m ∧ m ≤ RH.length ∧ Sat w wr (slc 3 1 rh RH.length rhc (RH.map ival) * (D * (slc 3 1 rs RA.length rq (RA.map ival) * (slc 3 1 (some ⟨g, off, none⟩) R1.length rc (R1.map ival) * (slc 3 1 rb R2.length rd (R2.map ival) * (pt gb (.cells #[.slice (some ⟨g2, off2, none⟩) N oc] 24 (0, 0)) * 1))))))) (fun iv _ => RH.length - (intOf iv).toNat)
                case atStart => exact ⟨0, rfl, by omega, hs11⟩
                case round =>
                  obtain ⟨m, rfl, hm, hs3⟩ := hrel
                  clear hs11
                  by_cases hml : m < RH.length
                  · obtain ⟨x, hx⟩ : ∃ x, RH[m]? = some x := ⟨RH[m], List.getElem?_eq_getElem hml⟩
                    have HH := Lib.hid (has_t hs3.p4 rfl (by omega) (HKid.out x (List.mem_of_getElem? hx)))
                    obtain ⟨g3, off3, rfl, x0, _⟩ := intCells hs3 hx
                    clear hx
                    go_wp2_with fail
                    refine HH.out.mono ?_
                    rintro e w' ⟨rfl, rfl⟩
                    go_wp2_with fail
                    go_roundw
                    case rel => exact ⟨m + 1, by go_num, by omega, hs3⟩
                    case measure => simp [intOf]; omega
                  · have hmn : m = RH.length := by omega
                    have hs12 := hs3
                    go_wp2_with fail
                    go_loopw [15, 16] (fun lv iv wr => ∃ (m : Nat) (b : Bool), lv = .bool b ∧ iv = .int .i64 m ∧ m ≤ RA.length ∧ Hid (b = false → ∀ i s, i < m → RA[i]? = some s → ¬ 0 < (pathG L ⟨6, s⟩ ((j : Int) + 1)).length) ∧ Sat w wr (slc 3 1 rh RH.length rhc (RH.map ival) * (D * (slc 3 1 rs RA.length rq (RA.map ival) * (slc 3 1 (some ⟨g, off, none⟩) R1.length rc (R1.map ival) * (slc 3 1 rb R2.length rd (R2.map ival) * (pt gb (.cells #[.slice (some ⟨g2, off2, none⟩) N oc] 24 (0, 0)) * 1))))))) (fun _ iv _ => RA.length - (intOf iv).toNat)
                    case atStart => exact ⟨0, false, rfl, rfl, by omega, Lib.hid (fun _ i s hi => by omega), hs12⟩
                    case round =>
                      clear hmn hml hm
                      obtain ⟨m, b, rfl, rfl, hm, HB5, hs3⟩ := hrel
                      clear hs12
                      by_cases hml : m < RA.length
                      · cases b with
                        | false =>
                          obtain ⟨s, hsx⟩ : ∃ s, RA[m]? = some s := ⟨RA[m], List.getElem?_eq_getElem hml⟩
                          have hs4 := hs3.drew
                          obtain ⟨g3, off3, ers, x0, _⟩ := intCells hs4.p3 hsx
                          have x1 := boxG hs4.p6
                          have x2 := HZ2.out _ _ _ hs4
                          have HSR := Lib.hid hsx
                          obtain ⟨RP, hRP⟩ : ∃ R, pathG L ⟨6, s⟩ ((j : Int) + 1) = R := ⟨_, rfl⟩
                          have HPt := Lib.hid (fun w' G (h : Sat w w' (D * G)) => reach_Path h HGO.out ⟨6, s⟩ ((j : Int) + 1) (R := RP) (by rw [HY.out]; exact hRP))
                          have HRP := Lib.hid hRP
                          have HYY := Lib.hid (fun w' ry ryc (h : Sat w w' (slc 3 1 ry RP.length ryc (RP.map ival) * (slc 3 1 rh RH.length rhc (RH.map ival) * (D * (slc 3 1 rs RA.length rq (RA.map ival) * (slc 3 1 (some ⟨g, off, none⟩) R1.length rc (R1.map ival) * (slc 3 1 rb R2.length rd (R2.map ival) * (pt gb (.cells #[.slice (some ⟨g2, off2, none⟩) N oc] 24 (0, 0)) * 1)))))))) => show w'.cell? ⟨g3, off3 + m, none⟩ = some (.int .i64 s) ∧ w'.cell? ⟨gb, 0, none⟩ = some (.slice (some ⟨g2, off2, none⟩) N oc) ∧ w'.cell? ⟨g, off + k, none⟩ = some (.int .i64 ((j : Int) + 1)) from by
                            obtain ⟨g', off', e, h0, _⟩ := intCells h.p4 hsx
                            rw [ers] at e; cases e
                            exact ⟨h0, boxG h.drop.p6, HZ2.out _ _ _ h.drop⟩)
                          subst ers
                          clear hsx hRP
                          have hm1 : (0 : Int) ≤ (m : Int) := by omega
                          have hm2 : (m : Int) < (RA.length : Int) := by omega
                          by_cases hpl : 0 < RP.length
                          · have hq1 : decide (((RP.length : Nat) : Int) > 0) = true := by simp; omega
                            go_wp2_with fail
                            go_region_held3 (fun w' => w'.cell? ⟨g3, off3 + m, none⟩ = some (.int .i64 s) ∧ w'.cell? ⟨gb, 0, none⟩ = some (.slice (some ⟨g2, off2, none⟩) N oc) ∧ w'.cell? ⟨g, off + k, none⟩ = some (.int .i64 ((j : Int) + 1))) (first | exact ⟨x0, x1, x2⟩ | exact hzz) (first
                              | (go_at_call 22; refine (HPt.out _ _ hs4.p2).mono ?_; rintro e w11 ⟨ry, ryc, rfl, h12⟩; have hs13 := h12.p3.p2; have hzz := HYY.out _ _ _ hs13))
                            go_wp2_with fail
                            go_roundw
                            case rel => exact ⟨m + 1, true, rfl, by go_num, by omega, Lib.hid (by intro h; cases h), hs13.drop⟩
                            case measure => simp [intOf]; omega
                          · have hp0 : RP = [] := List.eq_nil_of_length_eq_zero (by omega)
                            subst hp0
                            clear hpl
                            go_wp2_with fail
                            go_region_held3 (fun w' => w'.cell? ⟨g3, off3 + m, none⟩ = some (.int .i64 s) ∧ w'.cell? ⟨gb, 0, none⟩ = some (.slice (some ⟨g2, off2, none⟩) N oc) ∧ w'.cell? ⟨g, off + k, none⟩ = some (.int .i64 ((j : Int) + 1))) (first | exact ⟨x0, x1, x2⟩ | exact hzz) (first
                              | (go_at_call 22; refine (HPt.out _ _ hs4.p2).mono ?_; rintro e w11 ⟨ry, ryc, rfl, h12⟩; have hs13 := h12.p3.p2; have hzz := HYY.out _ _ _ hs13))
                            go_wp2_with fail
                            go_roundw
                            case rel =>
                              refine ⟨m + 1, false, rfl, by go_num, by omega, Lib.hid ?_, hs13.drop⟩
                              intro _ i s' hi hs'
                              rcases Nat.lt_or_ge i m with h3 | h3
                              · exact HB5.out (by trivial) i s' h3 hs'
                              · obtain rfl : i = m := by omega
                                rw [HSR.out] at hs'; cases hs'
                                rw [HRP.out]; simp
                            case measure => simp [intOf]; omega
                        | true =>
                          go_wp2_with fail
                          go_roundw
                          case rel => exact ⟨k + 1, by go_num, by omega, hs3.drop.p2⟩
                          case measure => simp [intOf]; omega
                      · have hmn : m = RA.length := by omega
                        cases b with
                        | false =>
                          exfalso
                          obtain ⟨s, hs1, hs2⟩ := HLed.out
                          obtain ⟨i, hi, e⟩ := List.mem_iff_getElem.1 hs1
                          exact HB5.out rfl i s (by omega) (by rw [← e]; exact List.getElem?_eq_getElem _) hs2
                        | true =>
                          go_wp2_with fail
                          go_roundw
                          case rel => exact ⟨k + 1, by go_num, by omega, hs3.drop.p2⟩
                          case measure => simp [intOf]; omega
              · go_wp2_with fail
                refine (law_works11 hs2).mono ?_
                rintro e w11 ⟨rfl, h12⟩
                go_wp2_with fail
                go_ret
                exact ⟨rfl, HB.out _ _ h12.p2⟩
theorem own : ownKnob Try.prog.godebug = none := by kernel_rfl
theorem laidOut : laidOutB Try.prog = true := by kernel_rfl
set_option maxRecDepth 100000 in
theorem lifted (os : Os) (started : os.Started) (H : Type) (enc : TypeId × Value → H) :
    ReturnsInHanded {} Try.checked os 5 .any (Rows.reachClosesSpec.pre6 enc Try.prog Try.f5 Rows.reachClosesRow.domain false) (Rows.reachClosesSpec.post enc Try.prog Try.f5 false true false false) := by
  refine returnsInHanded_of_change (C := Try.checked) own started (by kernel_rfl) Try.func5
    (ChangeSpec.witness6 (enc := enc) (C := Try.checked) false ⟨#[], #[.agg #[.slice none 0 0], .slice none 0 0], []⟩ 8 (by kernel_rfl) (by kernel_rfl) (by kernel_rfl) (by kernel_rfl)) ?_
  intro W base args ds gs before hval0 hW hcnd _
  have hval : ∀ (j : Nat) t v, Try.f5.params[j]? = some t → args[j]? = some v → Value.okWide Try.prog W .any base t v := hval0
  have hW' := hW
  obtain ⟨p, q, hA0, hV, rfl, hfz, hnd⟩ := hW
  have hA : DataW.TrodAll enc Try.prog W 0 (fun _ => true) true Try.f5.params.toList args.toList ds p := hA0
  rw [Try.params5] at hA hval
  obtain ⟨v0, vs0, d0, ds0, p0, q0, hargs, rfl, rfl, h0, r0⟩ := trodAll_cons hA
  obtain ⟨v1, vs1, d1, ds1, p1, q1, rfl, rfl, rfl, h1, r1⟩ := trodAll_cons r0
  obtain ⟨rfl, rfl, rfl⟩ := trodAll_nil r1
  obtain rfl : args = #[v0, v1] := by cases args; simp_all
  obtain ⟨rfl, rfl⟩ := trodVars_none hV
  have k0 := h0
  have lt0 : ∀ x ∈ p0, x.block < W.heap.size := by obtain ⟨m, hm⟩ := k0; exact DataW.trod_lt m _ _ _ hm
  obtain ⟨a0, len0, cap0, z0, rfl, w0⟩ : ∃ (a : Option Addr) (n c : Nat) (X : List XObj), v0 = .agg #[.slice a n c] ∧ SrcG W (Old W) a n c X := by
    obtain ⟨fuel, hf⟩ := h0
    exact open_graph hf (okWide_struct Try.underlying24 (hval 0 24 v0 rfl rfl))
  obtain ⟨a1, len1, cap1, rfl⟩ := okWide_slice Try.underlying25 (hval 1 25 v1 rfl rfl)
  have k1 := h1
  have lt1 : ∀ x ∈ p1, x.block < W.heap.size := by obtain ⟨m, hm⟩ := k1; exact DataW.trod_lt m _ _ _ hm
  obtain ⟨z1, w1⟩ : ∃ zs, SrcV W (Old W) a1 len1 cap1 zs := by
    obtain ⟨fuel, hf⟩ := h1
    exact open_vals hf
  clear hA0 hval0
  refine (walk a0 len0 cap0 z0 a1 len1 cap1 z1 W w0 w1).mono fun e W' ⟨he, bel⟩ => ?_
  subst he
  exact ⟨_, rfl, _, _, _, [], _, [], hW', trodAll_mk1 (shut_bool Try.underlying4 _), (trodAll_cons_mk (Below.trod laidOut (by kernel_rfl) (of_decide_eq_true (by kernel_rfl)) k0 bel lt0) (trodAll_cons_mk (Below.trod laidOut (by kernel_rfl) (of_decide_eq_true (by kernel_rfl)) k1 bel lt1) trodAll_mk0)), rfl, bel.frame _, fun h => by cases h⟩
theorem over : Rows.reachClosesRow.holds Try.pinned (OpenSpec.ofChange Rows.reachClosesSpec) :=
  OpenClaim.holds_of_wide 5 Try.f5 rfl rfl rfl rfl rfl rfl rfl ⟨rfl, rfl, rfl, rfl, rfl⟩ rfl rfl rfl rfl rfl (by kernel_rfl) Try.func5 (by kernel_rfl)
    (of_decide_eq_true (by kernel_rfl)) (by unfold Func.isWrapper; first | (rw [if_pos (by decide +kernel)]; kernel_rfl) | (rw [if_neg (by decide +kernel)]; exact ⟨rfl, rfl⟩))
    (fun os started H enc _ => lifted os started H enc)
theorem reachCloses_holds : Rows.ReachClosesSaid := over
#print axioms reachCloses_holds
end Go.Proofs.Ytmngkodejlhalaa.RCloses
