/- tallowref11: From, Lost. No condition. -/
import Derived.Test.YtmngkodejlhalaaZRFinds22
import Derived.Test.YtmngkodejlhalaaZRFinds21
namespace Go.Proofs.Ytmngkodejlhalaa.Tw
set_option linter.unusedVariables false
set_option linter.unusedSimpArgs false
open Go Go.RowKit Go.MapKept

/-- those of the first k objects for which p says yes -/
def pickK (p : Nat → Bool) (k : Nat) : List Int := ((List.range k).filter p).map fun (i : Nat) => (i : Int) + 1
theorem pickK_yes {p : Nat → Bool} {k : Nat} (h : p k = true) : pickK p (k + 1) = pickK p k ++ [(k : Int) + 1] := by
  unfold pickK; rw [List.range_succ, List.filter_append, List.map_append]; simp [h]
theorem pickK_no {p : Nat → Bool} {k : Nat} (h : p k = false) : pickK p (k + 1) = pickK p k := by
  unfold pickK; rw [List.range_succ, List.filter_append, List.map_append]; simp [h]
theorem pickK_len (p : Nat → Bool) (k : Nat) : (pickK p k).length ≤ k := by
  unfold pickK
  rw [List.length_map]
  have := List.length_filter_le p (List.range k)
  simpa using this
theorem mem_pickK {p : Nat → Bool} {k : Nat} {x : Int} : x ∈ pickK p k ↔ ∃ i : Nat, i < k ∧ p i = true ∧ x = (i : Int) + 1 := by
  unfold pickK
  simp only [List.mem_map, List.mem_filter, List.mem_range]
  constructor
  · rintro ⟨i, ⟨h1, h2⟩, rfl⟩; exact ⟨i, h1, h2, rfl⟩
  · rintro ⟨i, h1, h2, rfl⟩; exact ⟨i, ⟨h1, h2⟩, rfl⟩
theorem pickK_rising (p : Nat → Bool) (k : Nat) : (pickK p k).Pairwise (· < ·) := by
  unfold pickK
  refine List.pairwise_map.2 ?_
  refine List.Pairwise.imp ?_ ((List.pairwise_lt_range (n := k)).filter _)
  intro a b h; omega
theorem from_pick {L : List AObj} {rs : List Int} {S : List Bool} {n : Nat} (hok : okG L = true) (hl : S.length = n) (h : ∀ x, mkd S x ↔ RS L rs x) : pickK (fun i => decide (S[i]? = some true)) n = thoseG L rs true := by
  refine rising_ext (pickK_rising _ _) (thoseG_rising L rs true) fun x => ?_
  rw [mem_pickK, mem_fromG]
  constructor
  · rintro ⟨i, h1, h2, rfl⟩
    exact ⟨hok, (h _).1 (mkd_nat.2 (by simpa using h2))⟩
  · rintro ⟨_, h2⟩
    have hm := (h x).2 h2
    obtain ⟨j, rfl⟩ : ∃ j : Nat, x = (j : Int) + 1 := ⟨(x - 1).toNat, by have := hm.1; omega⟩
    have := mkd_nat.1 hm
    exact ⟨j, by have := (List.getElem?_eq_some_iff.1 this).1; omega, by simpa using this, rfl⟩
theorem lost_pick {L : List AObj} {rs : List Int} {S : List Bool} {n : Nat} (hok : okG L = true) (hn : L.length = n) (hl : S.length = n) (h : ∀ x, mkd S x ↔ RS L rs x) : pickK (fun (i : Nat) => !decide (S[i]? = some true) && thereG L ((i : Int) + 1)) n = thoseG L rs false := by
  refine rising_ext (pickK_rising _ _) (thoseG_rising L rs false) fun x => ?_
  rw [mem_pickK, mem_lostG]
  constructor
  · rintro ⟨i, h1, h2, rfl⟩
    simp only [Bool.and_eq_true, Bool.not_eq_true', decide_eq_false_iff_not] at h2
    exact ⟨hok, h2.2, fun q => h2.1 (mkd_nat.1 ((h _).2 q))⟩
  · rintro ⟨_, h2, h3⟩
    have hr := thereG_range h2
    obtain ⟨j, rfl⟩ : ∃ j : Nat, x = (j : Int) + 1 := ⟨(x - 1).toNat, by omega⟩
    refine ⟨j, by omega, ?_, rfl⟩
    simp only [Bool.and_eq_true, Bool.not_eq_true', decide_eq_false_iff_not]
    exact ⟨fun q => h3 ((h _).1 (mkd_nat.2 q)), h2⟩
section
variable {w0 w : World} {SR F : HP} {ga : Option Addr} {n c : Nat} {X : List XObj}
theorem Sat.drop3b {A B C D F : HP} (h : Sat w0 w (A * (B * (C * (D * F))))) : Sat w0 w (A * (C * F)) := (h.p4.drop).p2.drop
set_option maxRecDepth 100000 in
set_option maxHeartbeats 4000000 in
theorem ref_From {a : Option Addr} {n1 c1 : Nat} {l : List AVal} (h : Sat w0 w (SR * F)) (hG : SrcO w0 SR ga n c X) (hS : SrcV w0 SR a n1 c1 l) (hn1 : n1 ≤ 1000000) {R : List Int} (hR : thoseG (X.map (·.1)) (refsV l) true = R) :
    Calls Try.prog 18 #[.agg #[.slice ga n c], .slice a n1 c1] w fun e w' => ∃ ra rc, e = .returned (.slice ra R.length rc) ∧ Sat w0 w' (slc 3 1 ra R.length rc (R.map ival) * (SR * F)) := by
  subst hR
  have h1 := h.alloc (.cells #[.slice ga n c] 24)
  generalize hgb : w.heap.size = gb at *
  have c0 := boxG h1
  have hcap := hG.cap
  have hsm := hG.small
  have hXl : (X.map (·.1)).length = n := by rw [List.length_map, hG.len]
  obtain ⟨rs, hrs⟩ : ∃ r, refsV l = r := ⟨_, rfl⟩
  cases hok : okG (X.map (·.1)) with
  | false =>
    have HC := Lib.hid (ref_Check h1.p2 hG hok)
    have e0 : thoseG (X.map (·.1)) (refsV l) true = [] := thoseG_no hok _ _
    rw [e0]
    clear h h1 hG hS hok e0 hrs
    go_enter Try.func18, Try.ntmps18
    try rw [hgb]
    go_wp2_with fail
    refine HC.out.mono ?_
    rintro e w1 ⟨rfl, h2⟩
    have HF := Lib.hid (show Sat w0 w1 (slc 3 1 none 0 0 ([].map ival) * (SR * F)) from Sat.nilSlc (F := SR * F) h2.p2.drop)
    clear h2
    go_wp2_with fail
    go_ret
    exact ⟨none, 0, rfl, HF.out⟩
  | true =>
    have HC := Lib.hid (ref_Check h1.p2 hG hok)
    have HRE := Lib.hid (fun (w' : World) (G : HP) (hh : Sat w0 w' (SR * G)) => ref_reached hh hG hS hn1 hok)
    rw [hrs] at HRE ⊢
    have HG := Lib.hid hG
    have HXL := Lib.hid hXl
    have HOK := Lib.hid hok
    clear h h1 hG hS hok hrs hXl
    go_enter Try.func18, Try.ntmps18
    try rw [hgb]
    go_wp2_with fail
    refine HC.out.mono ?_
    rintro e w1 ⟨rfl, h2⟩
    have g1 := boxG h2.p2
    have HRE2 := Lib.hid (HRE.out _ _ h2)
    clear h2 HC HRE c0
    go_wp2_with fail
    refine HRE2.out.mono ?_
    rintro e w2 ⟨sb, rfl, S, hSl, hSr, h3⟩
    have HPK := Lib.hid (from_pick HOK.out hSl hSr)
    have HSL := Lib.hid hSl
    have HL0 := Lib.hid (show Sat w0 w2 (slc 3 1 none 0 0 ([].map ival) * (rowB sb S * (SR * (pt gb (.cells #[.slice ga n c] 24 (0, 0)) * F)))) from h3.nilSlc)
    clear h3 HRE2 g1 hSr hSl
    obtain ⟨p, hp⟩ : ∃ p : Nat → Bool, p = (fun i => decide (S[i]? = some true)) := ⟨_, rfl⟩
    rw [← hp] at HPK
    have HPD := Lib.hid hp
    clear hp
    go_wp2_with fail
    go_loopw [5, 7] (fun ov iv wr => ∃ (k : Nat) (ra : Option Addr) (rc : Nat), iv = .int .i64 k ∧ k ≤ n ∧ ov = .slice ra (pickK p k).length rc ∧ Sat w0 wr (slc 3 1 ra (pickK p k).length rc ((pickK p k).map ival) * (rowB sb S * (SR * (pt gb (.cells #[.slice ga n c] 24 (0, 0)) * F))))) (fun _ iv _ => n - (intOf iv).toNat)
    case atStart => exact ⟨0, none, 0, rfl, by omega, rfl, HL0.out⟩
    case round =>
      clear HL0
      obtain ⟨k, ra, rc, rfl, hk, rfl, hs⟩ := hrel
      have hpl := pickK_len p k
      by_cases hlt : k < n
      · have hsb : S[k]? = some (S[k]'(by rw [HSL.out]; exact hlt)) := List.getElem?_eq_getElem _
        generalize S[k]'(by rw [HSL.out]; exact hlt) = bk at hsb
        have ⟨z0, _⟩ := rowCell hs.p2 hsb
        have hyes := pickK_yes (p := p) (k := k)
        have hno := pickK_no (p := p) (k := k)
        have hk2 : (0 : Int) ≤ (k : Int) := by omega
        have hk3 : (k : Int) < (n : Int) := by omega
        cases bk with
        | true =>
          have e1 := hyes (by rw [HPD.out]; simp [hsb])
          have HE := Lib.hid e1
          have h1 := hs.alloc (.cells #[.int .i64 ((k : Int) + 1)] 3)
          have b0 : (wr.alloc (.cells #[.int .i64 ((k : Int) + 1)] 3)).cell? ⟨wr.heap.size, 0, none⟩ = some (.int .i64 ((k : Int) + 1)) := Sat.cell (T := 3) (cs := #[.int .i64 ((k : Int) + 1)]) h1 0 rfl
          generalize hPK : pickK p k = PK at *
          clear hyes hno e1 hsb hPK
          go_wp2_with (at_builtin; refine wpList_push rfl _ _ rfl ra PK.length rc PK rfl h1.p2 wr.heap.size 1 ((k : Int) + 1) rfl b0 (by omega) ?_; intro a' c' w4 h4)
          go_roundw
          case rel =>
            refine ⟨k + 1, a', c', by go_num, by omega, by rw [HE.out, List.length_append]; rfl, ?_⟩
            rw [HE.out, List.length_append]
            exact h4.drop2
          case measure => simp [intOf]; omega
        | false =>
          have HE := Lib.hid (hno (by rw [HPD.out]; simp [hsb]))
          have HS := Lib.hid hs
          clear hyes hno hsb hs
          go_wp2_with fail
          go_roundw
          case rel => exact ⟨k + 1, ra, rc, by go_num, by omega, by rw [HE.out], by rw [HE.out]; exact HS.out⟩
          case measure => simp [intOf]; omega
      · obtain rfl : k = n := by omega
        rw [HPK.out] at hs ⊢
        have HF := Lib.hid (hs.drop3b)
        clear hs
        go_wp2_with fail
        go_ret
        exact ⟨ra, rc, rfl, HF.out⟩
set_option maxRecDepth 100000 in
set_option maxHeartbeats 4000000 in
theorem ref_Lost {a : Option Addr} {n1 c1 : Nat} {l : List AVal} (h : Sat w0 w (SR * F)) (hG : SrcO w0 SR ga n c X) (hS : SrcV w0 SR a n1 c1 l) (hn1 : n1 ≤ 1000000) {R : List Int} (hR : thoseG (X.map (·.1)) (refsV l) false = R) :
    Calls Try.prog 20 #[.agg #[.slice ga n c], .slice a n1 c1] w fun e w' => ∃ ra rc, e = .returned (.slice ra R.length rc) ∧ Sat w0 w' (slc 3 1 ra R.length rc (R.map ival) * (SR * F)) := by
  subst hR
  have h1 := h.alloc (.cells #[.slice ga n c] 24)
  generalize hgb : w.heap.size = gb at *
  have c0 := boxG h1
  have hcap := hG.cap
  have hsm := hG.small
  have hXl : (X.map (·.1)).length = n := by rw [List.length_map, hG.len]
  obtain ⟨rs, hrs⟩ : ∃ r, refsV l = r := ⟨_, rfl⟩
  cases hok : okG (X.map (·.1)) with
  | false =>
    have HC := Lib.hid (ref_Check h1.p2 hG hok)
    have e0 : thoseG (X.map (·.1)) (refsV l) false = [] := thoseG_no hok _ _
    rw [e0]
    clear h h1 hG hS hok e0 hrs
    go_enter Try.func20, Try.ntmps20
    try rw [hgb]
    go_wp2_with fail
    refine HC.out.mono ?_
    rintro e w1 ⟨rfl, h2⟩
    have HF := Lib.hid (show Sat w0 w1 (slc 3 1 none 0 0 ([].map ival) * (SR * F)) from Sat.nilSlc (F := SR * F) h2.p2.drop)
    clear h2
    go_wp2_with fail
    go_ret
    exact ⟨none, 0, rfl, HF.out⟩
  | true =>
    have HC := Lib.hid (ref_Check h1.p2 hG hok)
    have HRE := Lib.hid (fun (w' : World) (G : HP) (hh : Sat w0 w' (SR * G)) => ref_reached hh hG hS hn1 hok)
    rw [hrs] at HRE ⊢
    have HG := Lib.hid hG
    have HXL := Lib.hid hXl
    have HOK := Lib.hid hok
    clear h h1 hG hS hok hrs hXl
    go_enter Try.func20, Try.ntmps20
    try rw [hgb]
    go_wp2_with fail
    refine HC.out.mono ?_
    rintro e w1 ⟨rfl, h2⟩
    have g1 := boxG h2.p2
    have HRE2 := Lib.hid (HRE.out _ _ h2)
    clear h2 HC HRE c0
    go_wp2_with fail
    refine HRE2.out.mono ?_
    rintro e w2 ⟨sb, rfl, S, hSl, hSr, h3⟩
    have HPK := Lib.hid (lost_pick HOK.out HXL.out hSl hSr)
    have HSL := Lib.hid hSl
    have HL0 := Lib.hid (show Sat w0 w2 (slc 3 1 none 0 0 ([].map ival) * (rowB sb S * (SR * (pt gb (.cells #[.slice ga n c] 24 (0, 0)) * F)))) from h3.nilSlc)
    clear h3 HRE2 g1 hSr hSl
    obtain ⟨p, hp⟩ : ∃ p : Nat → Bool, p = (fun (i : Nat) => !decide (S[i]? = some true) && thereG (X.map (·.1)) ((i : Int) + 1)) := ⟨_, rfl⟩
    rw [← hp] at HPK
    have HPD := Lib.hid hp
    clear hp
    go_wp2_with fail
    go_loopw [5, 7] (fun ov iv wr => ∃ (k : Nat) (ra : Option Addr) (rc : Nat), iv = .int .i64 k ∧ k ≤ n ∧ ov = .slice ra (pickK p k).length rc ∧ Sat w0 wr (slc 3 1 ra (pickK p k).length rc ((pickK p k).map ival) * (rowB sb S * (SR * (pt gb (.cells #[.slice ga n c] 24 (0, 0)) * F))))) (fun _ iv _ => n - (intOf iv).toNat)
    case atStart => exact ⟨0, none, 0, rfl, by omega, rfl, HL0.out⟩
    case round =>
      clear HL0
      obtain ⟨k, ra, rc, rfl, hk, rfl, hs⟩ := hrel
      have hpl := pickK_len p k
      by_cases hlt : k < n
      · have hsb : S[k]? = some (S[k]'(by rw [HSL.out]; exact hlt)) := List.getElem?_eq_getElem _
        generalize S[k]'(by rw [HSL.out]; exact hlt) = bk at hsb
        have ⟨z0, _⟩ := rowCell hs.p2 hsb
        have hyes := pickK_yes (p := p) (k := k)
        have hno := pickK_no (p := p) (k := k)
        have hk2 : (0 : Int) ≤ (k : Int) := by omega
        have hk3 : (k : Int) < (n : Int) := by omega
        obtain ⟨x, hx, g, off, ega, d0, -⟩ := HG.out.at hs.p3 hlt
        have g1 := boxG hs.p4
        have hth : thereG (X.map (·.1)) ((k : Int) + 1) = !decide (x.1.kind = 0) := there_at (by rw [List.getElem?_map, hx]; rfl)
        subst ega
        generalize x.1.kind = xk at *
        clear hx
        cases bk with
        | true =>
          have HE := Lib.hid (hno (by rw [HPD.out]; simp [hsb]))
          have HS := Lib.hid hs
          clear hth hyes hno hsb hs
          go_wp2_with fail
          go_roundw
          case rel => exact ⟨k + 1, ra, rc, by go_num, by omega, by rw [HE.out], by rw [HE.out]; exact HS.out⟩
          case measure => simp [intOf]; omega
        | false =>
          by_cases hxk : xk = 0
          · have f1 : (xk != 0) = false := by simpa using hxk
            have hth2 : thereG (X.map (·.1)) ((k : Int) + 1) = false := by rw [hth]; simp [hxk]
            have HE := Lib.hid (hno (by rw [HPD.out]; simp [hsb, hth2]))
            have HS := Lib.hid hs
            clear hth hth2 hxk hyes hno hsb hs
            go_wp2_with fail
            go_roundw
            case rel => exact ⟨k + 1, ra, rc, by go_num, by omega, by rw [HE.out], by rw [HE.out]; exact HS.out⟩
            case measure => simp [intOf]; omega
          · have f1 : (xk != 0) = true := by simpa using hxk
            have hth2 : thereG (X.map (·.1)) ((k : Int) + 1) = true := by rw [hth]; simp [hxk]
            have e1 := hyes (by rw [HPD.out]; simp [hsb, hth2])
            have HE := Lib.hid e1
            have h1 := hs.alloc (.cells #[.int .i64 ((k : Int) + 1)] 3)
            have b0 : (wr.alloc (.cells #[.int .i64 ((k : Int) + 1)] 3)).cell? ⟨wr.heap.size, 0, none⟩ = some (.int .i64 ((k : Int) + 1)) := Sat.cell (T := 3) (cs := #[.int .i64 ((k : Int) + 1)]) h1 0 rfl
            generalize hPK : pickK p k = PK at *
            clear hth hth2 hxk hyes hno e1 hsb hPK
            go_wp2_with (at_builtin; refine wpList_push rfl _ _ rfl ra PK.length rc PK rfl h1.p2 wr.heap.size 1 ((k : Int) + 1) rfl b0 (by omega) ?_; intro a' c' w4 h4)
            go_roundw
            case rel =>
              refine ⟨k + 1, a', c', by go_num, by omega, by rw [HE.out, List.length_append]; rfl, ?_⟩
              rw [HE.out, List.length_append]
              exact h4.drop2
            case measure => simp [intOf]; omega
      · obtain rfl : k = n := by omega
        rw [HPK.out] at hs ⊢
        have HF := Lib.hid (hs.drop3b)
        clear hs
        go_wp2_with fail
        go_ret
        exact ⟨ra, rc, rfl, HF.out⟩
end
end Go.Proofs.Ytmngkodejlhalaa.Tw
