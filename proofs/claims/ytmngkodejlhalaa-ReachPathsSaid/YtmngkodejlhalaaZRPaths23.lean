/- tallowref11: Path. No condition. -/
import Derived.Test.YtmngkodejlhalaaZRPaths22
import Derived.Test.YtmngkodejlhalaaZRPaths13
import Derived.Test.YtmngkodejlhalaaZRPaths18
namespace Go.Proofs.Ytmngkodejlhalaa.Tw
set_option linter.unusedVariables false
set_option linter.unusedSimpArgs false
open Go Go.RowKit Go.MapKept

attribute [local go_sem] lookE lkE valUpon
/-- the least one for which p says yes; 0: there is none -/
def minK (p : Int → Bool) (l : List Int) : Int := l.foldl (fun a x => if p x && (decide (a = 0) || decide (x < a)) then x else a) 0
theorem minK_snoc (p : Int → Bool) (l : List Int) (x : Int) : minK p (l ++ [x]) = if p x && (decide (minK p l = 0) || decide (x < minK p l)) then x else minK p l := by
  unfold minK; rw [List.foldl_append]; rfl
theorem minK_take {p : Int → Bool} {l : List Int} (hl : ∀ x ∈ l, 1 ≤ x) : ∀ k, k ≤ l.length → (minK p (l.take k) = 0 ∧ ∀ x ∈ l.take k, p x = false) ∨ (minK p (l.take k) ∈ l.take k ∧ p (minK p (l.take k)) = true ∧ ∀ x ∈ l.take k, p x = true → minK p (l.take k) ≤ x)
  | 0, _ => .inl ⟨by simp [minK], by simp⟩
  | k + 1, h => by
    have ih := minK_take (p := p) hl k (by omega)
    have ex : l[k]? = some l[k] := List.getElem?_eq_getElem (by omega)
    have hxl : 1 ≤ l[k] := hl _ (List.getElem_mem _)
    generalize l[k] = x at ex hxl
    have et : l.take (k + 1) = l.take k ++ [x] := by rw [List.take_add_one, ex]; rfl
    rw [et, minK_snoc]
    have hpos : ∀ y ∈ l.take k, 1 ≤ y := fun y hy => hl y (List.mem_of_mem_take hy)
    generalize l.take k = t at *
    generalize minK p t = a at *
    cases hp : p x with
    | false =>
      rw [if_neg (by simp)]
      rcases ih with ⟨h1, h2⟩ | ⟨h1, h2, h3⟩
      · refine .inl ⟨h1, fun y hy => ?_⟩
        rcases List.mem_append.1 hy with h | h
        · exact h2 y h
        · rw [List.mem_singleton.1 h]; exact hp
      · refine .inr ⟨List.mem_append_left _ h1, h2, fun y hy hy2 => ?_⟩
        rcases List.mem_append.1 hy with h | h
        · exact h3 y h hy2
        · rw [List.mem_singleton.1 h, hp] at hy2; cases hy2
    | true =>
      right
      rcases ih with ⟨h1, h2⟩ | ⟨h1, h2, h3⟩
      · rw [if_pos (by simp [h1])]
        refine ⟨by simp, hp, fun y hy hy2 => ?_⟩
        rcases List.mem_append.1 hy with h | h
        · rw [h2 y h] at hy2; cases hy2
        · rw [List.mem_singleton.1 h]; exact Int.le_refl _
      · have ha := hpos a h1
        by_cases hxa : x < a
        · rw [if_pos (by simp [hxa])]
          refine ⟨by simp, hp, fun y hy hy2 => ?_⟩
          rcases List.mem_append.1 hy with h | h
          · have := h3 y h hy2; omega
          · rw [List.mem_singleton.1 h]; exact Int.le_refl _
        · rw [if_neg (by simp only [Bool.true_and, Bool.or_eq_true, decide_eq_true_eq]; omega)]
          refine ⟨List.mem_append_left _ h1, h2, fun y hy hy2 => ?_⟩
          rcases List.mem_append.1 hy with h | h
          · exact h3 y h hy2
          · rw [List.mem_singleton.1 h]; omega
theorem minK_next {L : List AObj} {to x : Int} (hok : okG L = true) (ht : thereG L to = true) (hx : 2 ≤ distG L to x) : minK (nextB L to x) (kids L x) = nextG L to x := by
  have hpos : ∀ y ∈ kids L x, 1 ≤ y := fun y hy => (thereG_range (kids_there hok hy)).1
  have hs := minK_take (p := nextB L to x) hpos (kids L x).length (Nat.le_refl _)
  rw [List.take_length] at hs
  obtain ⟨k, e, hk, hm, hd⟩ := nextG_spec ht hx
  have hn : nextB L to x (nextG L to x) = true := by unfold nextB; simp; omega
  rcases hs with ⟨_, h2⟩ | ⟨h1, h2, h3⟩
  · rw [h2 _ hm] at hn; cases hn
  · have h4 := h3 _ hm hn
    obtain ⟨i, hi, ei⟩ := List.mem_iff_getElem.1 (mem_sortI.2 h1)
    rcases idxF_cases (nextB L to x) (sortI (kids L x)) with ⟨_, h⟩ | ⟨k', y, e', hy, hp, hb⟩
    · rw [h _ (mem_sortI.2 hm)] at hn; cases hn
    · rw [e] at e'
      have e2 : k = k' := by omega
      subst e2
      rw [hk] at hy
      cases hy
      have hki : k ≤ i := by
        rcases Nat.lt_or_ge i k with q | q
        · have := hb i _ q (List.getElem?_eq_getElem hi)
          rw [ei, h2] at this; cases this
        · exact q
      obtain ⟨hkl, ek⟩ := List.getElem?_eq_some_iff.1 hk
      have hsrt : (sortI (kids L x)).Pairwise (fun a b => a ≤ b) := by
        have := List.pairwise_mergeSort (le := fun x y : Int => decide (x ≤ y)) (by intro a b c h1 h2; simp at *; omega) (by intro a b; simp; omega) (kids L x)
        exact this.imp fun h => by simpa using h
      rcases Nat.lt_or_ge k i with q | q
      · have := List.pairwise_iff_getElem.1 hsrt k i hkl hi q
        rw [ek, ei] at this
        omega
      · obtain rfl : k = i := by omega
        rw [ek] at ei; exact ei.symm
theorem Sat.drop4b {w0 w : World} {A B C D E F : HP} (h : Sat w0 w (A * (B * (C * (D * (E * F)))))) : Sat w0 w (A * (E * F)) := ((h.p4.drop).p3.drop).p2.drop
section
variable {w0 w : World} {SR F : HP} {ga : Option Addr} {n c : Nat} {X : List XObj}
set_option maxRecDepth 100000 in
set_option maxHeartbeats 4000000 in
theorem rpath_1 (h : Sat w0 w (SR * F)) (hG : SrcO w0 SR ga n c X) (kd x to : Int) (hok : okG (X.map (·.1)) = false) :
    Calls Try.prog 23 #[.agg #[.slice ga n c], .agg #[.int .i64 kd, .int .i64 x], .int .i64 to] w fun e w' => e = .returned (.slice none 0 0) ∧ Sat w0 w' (SR * F) := by
  have hb := (h.alloc (.cells #[.slice ga n c] 24)).alloc (.cells #[.int .i64 kd, .int .i64 x] 33)
  rw [size_alloc] at hb
  generalize hgb : w.heap.size = gb at *
  have c0 := boxG hb.p2
  have HC := Lib.hid (ref_Check hb.p3 hG hok)
  have HG := Lib.hid hG
  clear h hb hG hok
  go_enter Try.func23, Try.ntmps23
  try rw [hgb]
  go_wp2_with fail
  refine HC.out.mono ?_
  rintro e w3 ⟨rfl, h3⟩
  obtain ⟨c1, c2⟩ := boxV h3.p2
  have HF := Lib.hid h3.p3.drop.p2.drop
  clear h3
  go_wp2_with fail
  go_ret
  exact ⟨rfl, HF.out⟩
set_option maxRecDepth 100000 in
set_option maxHeartbeats 4000000 in
theorem rpath_2 (h : Sat w0 w (SR * F)) (hG : SrcO w0 SR ga n c X) (kd x to : Int) (hok : okG (X.map (·.1)) = true) (hr : refV ⟨kd, x⟩ = false) :
    Calls Try.prog 23 #[.agg #[.slice ga n c], .agg #[.int .i64 kd, .int .i64 x], .int .i64 to] w fun e w' => e = .returned (.slice none 0 0) ∧ Sat w0 w' (SR * F) := by
  have hb := (h.alloc (.cells #[.slice ga n c] 24)).alloc (.cells #[.int .i64 kd, .int .i64 x] 33)
  rw [size_alloc] at hb
  generalize hgb : w.heap.size = gb at *
  have c0 := boxG hb.p2
  have HC := Lib.hid (ref_Check hb.p3 hG hok)
  have HG := Lib.hid hG
  have HR := Lib.hid hr
  clear h hb hG hok hr
  go_enter Try.func23, Try.ntmps23
  try rw [hgb]
  go_wp2_with fail
  refine HC.out.mono ?_
  rintro e w3 ⟨rfl, h3⟩
  obtain ⟨c1, c2⟩ := boxV h3.p2
  have HV := Lib.hid (ref_Ref ⟨kd, x⟩ h3)
  rw [HR.out] at HV
  clear c0
  go_wp2_with fail
  refine HV.out.mono ?_
  rintro e w4 ⟨rfl, h4⟩
  obtain ⟨d1, d2⟩ := boxV h4.p2
  have d0 := boxG h4.p3
  have HF := Lib.hid h4.p3.drop.p2.drop
  clear h4
  go_wp2_with fail
  go_ret
  exact ⟨rfl, HF.out⟩
set_option maxRecDepth 100000 in
set_option maxHeartbeats 4000000 in
theorem rpath_3 (h : Sat w0 w (SR * F)) (hG : SrcO w0 SR ga n c X) (kd x to : Int) (hok : okG (X.map (·.1)) = true) (hr : refV ⟨kd, x⟩ = true) (htx : thereG (X.map (·.1)) x = false) :
    Calls Try.prog 23 #[.agg #[.slice ga n c], .agg #[.int .i64 kd, .int .i64 x], .int .i64 to] w fun e w' => e = .returned (.slice none 0 0) ∧ Sat w0 w' (SR * F) := by
  have hb := (h.alloc (.cells #[.slice ga n c] 24)).alloc (.cells #[.int .i64 kd, .int .i64 x] 33)
  rw [size_alloc] at hb
  generalize hgb : w.heap.size = gb at *
  have c0 := boxG hb.p2
  have HC := Lib.hid (ref_Check hb.p3 hG hok)
  have HG := Lib.hid hG
  have HR := Lib.hid hr
  have HTX := Lib.hid htx
  clear h hb hG hok hr htx
  go_enter Try.func23, Try.ntmps23
  try rw [hgb]
  go_wp2_with fail
  refine HC.out.mono ?_
  rintro e w3 ⟨rfl, h3⟩
  obtain ⟨c1, c2⟩ := boxV h3.p2
  have HV := Lib.hid (ref_Ref ⟨kd, x⟩ h3)
  rw [HR.out] at HV
  clear c0
  go_wp2_with fail
  refine HV.out.mono ?_
  rintro e w4 ⟨rfl, h4⟩
  obtain ⟨d1, d2⟩ := boxV h4.p2
  have d0 := boxG h4.p3
  have HT1 := Lib.hid (ref_There h4 HG.out x HTX.out)
  clear c1 c2 h3 HV
  go_wp2_with fail
  refine HT1.out.mono ?_
  rintro e w5 ⟨rfl, h5⟩
  obtain ⟨e1, e2⟩ := boxV h5.p2
  have e0 := boxG h5.p3
  have HF := Lib.hid h5.p3.drop.p2.drop
  clear h5
  go_wp2_with fail
  go_ret
  exact ⟨rfl, HF.out⟩
set_option maxRecDepth 100000 in
set_option maxHeartbeats 4000000 in
theorem rpath_4 (h : Sat w0 w (SR * F)) (hG : SrcO w0 SR ga n c X) (kd x to : Int) (hok : okG (X.map (·.1)) = true) (hr : refV ⟨kd, x⟩ = true) (htx : thereG (X.map (·.1)) x = true) (hto : thereG (X.map (·.1)) to = false) :
    Calls Try.prog 23 #[.agg #[.slice ga n c], .agg #[.int .i64 kd, .int .i64 x], .int .i64 to] w fun e w' => e = .returned (.slice none 0 0) ∧ Sat w0 w' (SR * F) := by
  have hb := (h.alloc (.cells #[.slice ga n c] 24)).alloc (.cells #[.int .i64 kd, .int .i64 x] 33)
  rw [size_alloc] at hb
  generalize hgb : w.heap.size = gb at *
  have c0 := boxG hb.p2
  have HC := Lib.hid (ref_Check hb.p3 hG hok)
  have HG := Lib.hid hG
  have HR := Lib.hid hr
  have HTX := Lib.hid htx
  have HTO := Lib.hid hto
  clear h hb hG hok hr htx hto
  go_enter Try.func23, Try.ntmps23
  try rw [hgb]
  go_wp2_with fail
  refine HC.out.mono ?_
  rintro e w3 ⟨rfl, h3⟩
  obtain ⟨c1, c2⟩ := boxV h3.p2
  have HV := Lib.hid (ref_Ref ⟨kd, x⟩ h3)
  rw [HR.out] at HV
  clear c0
  go_wp2_with fail
  refine HV.out.mono ?_
  rintro e w4 ⟨rfl, h4⟩
  obtain ⟨d1, d2⟩ := boxV h4.p2
  have d0 := boxG h4.p3
  have HT1 := Lib.hid (ref_There h4 HG.out x HTX.out)
  clear c1 c2 h3 HV
  go_wp2_with fail
  refine HT1.out.mono ?_
  rintro e w5 ⟨rfl, h5⟩
  obtain ⟨e1, e2⟩ := boxV h5.p2
  have e0 := boxG h5.p3
  have HT2 := Lib.hid (ref_There h5 HG.out to HTO.out)
  clear d0 d1 d2 h4 HT1
  go_wp2_with fail
  refine HT2.out.mono ?_
  rintro e w6 ⟨rfl, h6⟩
  have HF := Lib.hid h6.p3.drop.p2.drop
  clear h6
  go_wp2_with fail
  go_ret
  exact ⟨rfl, HF.out⟩
set_option maxRecDepth 100000 in
set_option maxHeartbeats 4000000 in
theorem rpath_5 (h : Sat w0 w (SR * F)) (hG : SrcO w0 SR ga n c X) (kd to : Int) (j0 : Nat) (hok : okG (X.map (·.1)) = true) (hr : refV ⟨kd, (j0 : Int) + 1⟩ = true) (htx : thereG (X.map (·.1)) ((j0 : Int) + 1) = true) (hto : thereG (X.map (·.1)) to = true) {R : List Int}
    (hR : (if distG (X.map (·.1)) to ((j0 : Int) + 1) = 0 then [] else pathF (X.map (·.1)) to (distG (X.map (·.1)) to ((j0 : Int) + 1) - 1) ((j0 : Int) + 1)) = R) :
    Calls Try.prog 23 #[.agg #[.slice ga n c], .agg #[.int .i64 kd, .int .i64 ((j0 : Int) + 1)], .int .i64 to] w fun e w' => ∃ ra rc, e = .returned (.slice ra R.length rc) ∧ Sat w0 w' (slc 3 1 ra R.length rc (R.map ival) * (SR * F)) := by
  have hb := (h.alloc (.cells #[.slice ga n c] 24)).alloc (.cells #[.int .i64 kd, .int .i64 ((j0 : Int) + 1)] 33)
  rw [size_alloc] at hb
  generalize hgb : w.heap.size = gb at *
  have c0 := boxG hb.p2
  have HC := Lib.hid (ref_Check hb.p3 hG hok)
  have HG := Lib.hid hG
  have hcap := hG.cap
  have hsm := hG.small
  have hXl : (X.map (·.1)).length = n := by rw [List.length_map, hG.len]
  have hxr := thereG_range htx
  rw [hXl] at hxr
  have HFA := Lib.hid (fun (w' : World) (G : HP) (hh : Sat w0 w' (SR * G)) => ref_far hh hG hok to hto)
  have HRF0 := Lib.hid (fun (x : XObj) (hx : x ∈ X) (w' : World) (G : HP) (hh : Sat w0 w' (SR * G)) => ref_Refs hh (hG.slots x hx).1 (hG.slots x hx).2)
  have HR := Lib.hid hr
  have HTX := Lib.hid htx
  have HTO := Lib.hid hto
  have HOK := Lib.hid hok
  have HXL := Lib.hid hXl
  have HRR := Lib.hid hR
  have HTXL := Lib.hid htx
  have HTOL := Lib.hid hto
  obtain ⟨L, hL⟩ : ∃ L, X.map (·.1) = L := ⟨_, rfl⟩
  have HLL := Lib.hid hL
  rw [hL] at HOK HXL HRR HFA HTXL HTOL
  have hj0n : j0 < n := by omega
  clear h hb hG hok hr htx hto hXl hxr hR hL
  go_enter Try.func23, Try.ntmps23
  try rw [hgb]
  go_wp2_with fail
  refine HC.out.mono ?_
  rintro e w3 ⟨rfl, h3⟩
  obtain ⟨c1, c2⟩ := boxV h3.p2
  have HV := Lib.hid (ref_Ref ⟨kd, (j0 : Int) + 1⟩ h3)
  rw [HR.out] at HV
  clear c0
  go_wp2_with fail
  refine HV.out.mono ?_
  rintro e w4 ⟨rfl, h4⟩
  obtain ⟨d1, d2⟩ := boxV h4.p2
  have d0 := boxG h4.p3
  have HT1 := Lib.hid (ref_There h4 HG.out _ HTX.out)
  clear c1 c2 h3 HV
  go_wp2_with fail
  refine HT1.out.mono ?_
  rintro e w5 ⟨rfl, h5⟩
  obtain ⟨e1, e2⟩ := boxV h5.p2
  have e0 := boxG h5.p3
  have HT2 := Lib.hid (ref_There h5 HG.out to HTO.out)
  clear d0 d1 d2 h4 HT1
  go_wp2_with fail
  refine HT2.out.mono ?_
  rintro e w6 ⟨rfl, h6⟩
  have HF := Lib.hid (HFA.out _ _ h6)
  have f0 := boxG h6.p3
  clear e0 e1 e2 h5 HT2
  go_wp2_with fail
  refine HF.out.mono ?_
  rintro e w7 ⟨sb, rfl, hO⟩
  unfold OldRow at hO
  obtain ⟨D, hD⟩ : ∃ D : List Int, (List.range L.length).map (fun (j : Nat) => (distN L to j : Int)) = D := ⟨_, rfl⟩
  rw [hD] at hO
  have HD : Hid (∀ j, j < n → D[j]? = some (distN L to j : Int)) := Lib.hid (fun j hj => by rw [← hD, List.getElem?_map, List.getElem?_range (by rw [HXL.out]; exact hj)]; rfl)
  obtain ⟨z0, _⟩ := rowICell hO (HD.out j0 hj0n)
  obtain ⟨v1, v2⟩ := boxV hO.p3
  have hdl : ∀ j, distN L to j ≤ n := fun j => by have := distG_le HTOL.out ((j : Int) + 1); rw [HXL.out] at this; exact this
  have HDL := Lib.hid hdl
  have hd0 := hdl j0
  have HDE := Lib.hid (show distG L to ((j0 : Int) + 1) = distN L to j0 from rfl)
  have hj1 : (j0 : Int) + 1 - 1 = j0 := by omega
  have hj2 : (0 : Int) ≤ (j0 : Int) := by omega
  have hj3 : (j0 : Int) < (n : Int) := by omega
  have hj4 : IntKind.i64.wrap (j0 : Int) = j0 := IntWalk.i64_in _ (by omega)
  clear hdl hD h6 f0 HF
  by_cases hdz : distN L to j0 = 0
  · have HE := Lib.hid (show R = [] by rw [← HRR.out, HDE.out, if_pos hdz])
    rw [hdz] at z0
    have HF := Lib.hid hO
    clear hO hdz hd0
    go_wp2_with fail
    go_ret
    exact ⟨none, 0, by rw [HE.out]; rfl, by rw [HE.out]; exact Sat.nilSlc (F := SR * F) HF.out.drop.p3.drop.p2.drop⟩
  · have HE := Lib.hid (show pathF L to (distN L to j0 - 1) ((j0 : Int) + 1) = R by rw [← HRR.out, HDE.out, if_neg hdz])
    have HRL := Lib.hid (show R.length = distN L to j0 by rw [← HE.out, pathF_len]; omega)
    have hdp : 1 ≤ distN L to j0 := by omega
    have hz := litS (l := [(j0 : Int) + 1]) (k := 1) (hO.alloc (.cells #[.int .i64 ((j0 : Int) + 1)] 3)) rfl (by omega)
    have HS := Lib.hid hz
    have HD1 := Lib.hid hdp
    have f1 : (((distN L to j0 : Nat) : Int) == 0) = false := by rw [beq_eq_false_iff_ne]; omega
    clear hO hz hdz
    generalize hdj : distN L to j0 = dj0 at *
    have HDJ0 := Lib.hid hdj
    clear hdj
    go_wp2_with fail
    clear z0 v1 v2 hj1 hj2 hj3 hj4
    go_loopw [8, 9] (fun av ov wr => ∃ (j : Nat) (ra : Option Addr) (rc : Nat) (P : List Int), av = .int .i64 ((j : Int) + 1) ∧ j < n ∧ ov = .slice ra P.length rc ∧ Hid (thereG L ((j : Int) + 1) = true ∧ 1 ≤ distN L to j ∧ P ++ (pathF L to (distN L to j - 1) ((j : Int) + 1)).tail = R) ∧ Sat w0 wr (slc 3 1 ra P.length rc (P.map ival) * (rowI sb D * (pt (gb + 1) (.cells #[.int .i64 kd, .int .i64 ((j0 : Int) + 1)] 33 (0, 0)) * (pt gb (.cells #[.slice ga n c] 24 (0, 0)) * (SR * (F))))))) (fun av _ _ => distG L to (intOf av))
    case atStart => exact ⟨j0, some ⟨_, 0, none⟩, 1, [(j0 : Int) + 1], rfl, hj0n, rfl, Lib.hid ⟨HTXL.out, by rw [HDJ0.out]; exact HD1.out, by rw [HDJ0.out, ← HE.out]; exact (pathF_cons L to _ _).symm⟩, HS.out.cast (by ac_rfl)⟩
    case round =>
      clear HS f1
      obtain ⟨j, ra, rc, P, rfl, hjn, rfl, hP, hs⟩ := hrel
      have hone := distG_one (n := (j : Int) + 1) HTOL.out
      have hPl : P.length + (distN L to j - 1) ≤ n := by
        have h1 := congrArg List.length hP.out.2.2
        rw [List.length_append, List.length_tail, pathF_len, HRL.out] at h1
        omega
      by_cases hto : (j : Int) + 1 = to
      · have f0 : ((j : Int) + 1 != to) = false := by rw [hto]; simp
        have e1 : distN L to j = 1 := hone.2 hto
        have e2 : P = R := by have := hP.out.2.2; rw [e1] at this; simpa [pathF] using this
        subst e2
        have HF := Lib.hid (show Sat w0 wr (slc 3 1 ra P.length rc (P.map ival) * (SR * F)) from Sat.drop4b hs)
        clear hs e1 hone hto
        go_wp2_with fail
        go_ret
        exact ⟨ra, rc, rfl, HF.out⟩
      · have f0 : ((j : Int) + 1 != to) = true := by simpa using hto
        have hd2 : 2 ≤ distN L to j := by
          have h1 := hP.out.2.1
          rcases Nat.lt_or_ge (distN L to j) 2 with q | q
          · exact absurd (hone.1 (show distG L to ((j : Int) + 1) = 1 by unfold distN at *; omega)) hto
          · exact q
        obtain ⟨x, hx, g, off, ega, _, _, d2, _, _⟩ := HG.out.at hs.p5 hjn
        have hkid : kids L ((j : Int) + 1) = refsV x.1.slots := kids_at (by rw [← HLL.out, List.getElem?_map, hx]; rfl)
        have HRF := Lib.hid (HRF0.out x (List.mem_of_getElem? hx) wr _ hs.p5)
        obtain ⟨refs, hrefs⟩ : ∃ r, refsV x.1.slots = r := ⟨_, rfl⟩
        have hml : refs.length ≤ 1000000 := by
          rw [← hrefs]
          have h1 := (HG.out.slots x (List.mem_of_getElem? hx))
          have := refsV_len x.1.slots x.1.slots.length
          rw [List.take_length] at this
          omega
        obtain ⟨m, hm⟩ : ∃ m, refs.length = m := ⟨_, rfl⟩
        rw [hrefs, hm] at HRF
        rw [hm] at hml
        rw [hrefs] at hkid
        have HK := Lib.hid (And.intro hkid hm)
        have HMN := Lib.hid (minK_next HOK.out HTOL.out (x := (j : Int) + 1) hd2)
        obtain ⟨p, hp⟩ : ∃ p, nextB L to ((j : Int) + 1) = p := ⟨_, rfl⟩
        rw [hp, hkid] at HMN
        have HPP := Lib.hid hp
        have hdj := HDL.out j
        have HDJ := Lib.hid (HD.out j hjn)
        have HD2 := Lib.hid hd2
        obtain ⟨⟨xk, xcc, xsl, xtx, xm⟩, xa, xc⟩ := x
        dsimp only at HRF d2
        have g0 := boxG hs.p4
        subst ega
        have hj1 : (j : Int) + 1 - 1 = j := by omega
        have hj2 : (0 : Int) ≤ (j : Int) := by omega
        have hj3 : (j : Int) < (n : Int) := by omega
        have hj4 : IntKind.i64.wrap (j : Int) = j := IntWalk.i64_in _ (by omega)
        clear hs hkid hm hx hrefs hp hone hto hd2
        go_wp2_with fail
        refine HRF.out.mono ?_
        rintro e w8 ⟨rra, rrc, rfl, h8⟩
        obtain ⟨RR, hRR⟩ : ∃ RR : HP, RR = slc 3 1 ra P.length rc (P.map ival) * (pt (gb + 1) (.cells #[.int .i64 kd, .int .i64 ((j0 : Int) + 1)] 33 (0, 0)) * (pt gb (.cells #[.slice (some ⟨g, off, none⟩) n c] 24 (0, 0)) * (SR * F))) := ⟨_, rfl⟩
        have HS := Lib.hid (show Sat w0 w8 (slc 3 1 rra m rrc (refs.map ival) * (rowI sb D * RR)) from h8.cast (by rw [hRR]; ac_rfl))
        have HRRE := Lib.hid hRR
        clear h8 HRF d2 g0 hRR f0
        go_wp2_with fail
        go_loopw [10, 12] (fun nv kv wr => ∃ k : Nat, kv = .int .i64 k ∧ k ≤ m ∧ nv = .int .i64 (minK p (refs.take k)) ∧ Sat w0 wr (slc 3 1 rra m rrc (refs.map ival) * (rowI sb D * RR))) (fun _ kv _ => m - (intOf kv).toNat)
        case atStart => exact ⟨0, rfl, by omega, by simp [minK], HS.out⟩
        case round =>
          clear HS
          obtain ⟨k, rfl, hk, rfl, hs⟩ := hrel
          by_cases hkm : k < m
          · have hk1 : (0 : Int) ≤ (k : Int) := by omega
            have hk2 : (k : Int) < (m : Int) := by omega
            have ex : refs[k]? = some (refs[k]'(by rw [HK.out.2]; exact hkm)) := List.getElem?_eq_getElem _
            generalize refs[k]'(by rw [HK.out.2]; exact hkm) = y at ex
            have hyk : y ∈ kids L ((j : Int) + 1) := by rw [HK.out.1]; exact List.mem_of_getElem? ex
            have hyr := thereG_range (kids_there HOK.out hyk)
            rw [HXL.out] at hyr
            obtain ⟨i, rfl⟩ : ∃ i : Nat, y = (i : Int) + 1 := ⟨(y - 1).toNat, by omega⟩
            have hin : i < n := by omega
            have HU := Lib.hid (HD.out i hin)
            have hpu : p ((i : Int) + 1) = decide ((distN L to i : Int) = (distN L to j : Int) - 1) := by rw [← HPP.out]; rfl
            have hsn : minK p (refs.take (k + 1)) = if p ((i : Int) + 1) && (decide (minK p (refs.take k) = 0) || decide ((i : Int) + 1 < minK p (refs.take k))) then (i : Int) + 1 else minK p (refs.take k) := by
              rw [List.take_add_one, ex]; exact minK_snoc _ _ _
            have hdi := HDL.out i
            have HEX := Lib.hid ex
            obtain ⟨g2, off2, era, _, _⟩ := intCells hs ex
            subst era
            generalize minK p (refs.take k) = nx at *
            have hi1 : (i : Int) + 1 - 1 = i := by omega
            have hi2 : (0 : Int) ≤ (i : Int) := by omega
            have hi3 : (i : Int) < (n : Int) := by omega
            have hi4 : IntKind.i64.wrap (i : Int) = i := IntWalk.i64_in _ (by omega)
            have hw1 : IntKind.i64.wrap (((distN L to j : Nat) : Int) - 1) = ((distN L to j : Nat) : Int) - 1 := IntWalk.i64_in _ (by omega)
            have HS := Lib.hid hs
            clear hs ex hyk hyr hin
            by_cases hpe : (distN L to i : Int) = (distN L to j : Int) - 1
            · have hpt : p ((i : Int) + 1) = true := by rw [hpu]; simpa using hpe
              have f1 : (((distN L to i : Nat) : Int) == ((distN L to j : Nat) : Int) - 1) = true := by simpa using hpe
              rw [hpt] at hsn
              clear hpu hpt hpe
              by_cases hnz : nx = 0
              · subst hnz
                have HM := Lib.hid (show minK p (refs.take (k + 1)) = (i : Int) + 1 by rw [hsn]; simp)
                have f2 : ((0 : Int) == 0) = true := rfl
                clear hsn
                go_wp2_with fail
                refine wp_gen fun a0 ha => ?_
                have hb7 : base a0 7 = .slice (some ⟨sb, 0, none⟩) n n := by rw [ha]; rfl
                have hb8 : base a0 8 = .int .i64 ((j : Int) + 1) := by rw [ha]; rfl
                have hb10 : base a0 10 = .int .i64 0 := by rw [ha]; rfl
                have hb11 : base a0 11 = .slice (some ⟨g2, off2, none⟩) m rrc := by rw [ha]; rfl
                have hb12 : base a0 12 = .int .i64 k := by rw [ha]; rfl
                have hsz0 : a0.tmps.size = 101 := by rw [ha]; rfl
                have HA0 := Lib.hid (And.intro hsz0 ha)
                clear ha hsz0
                refine GW.start (X := Option Addr × Nat) (w0 := w0) (B := [slc 3 1 (some ⟨g2, off2, none⟩) m rrc (refs.map ival), rowI sb D, RR]) (a0 := a0) ?_
                refine GW.det (d := (some 64)) [] [] rfl (fun e => by rfl) ?_; apply Exists.intro; refine ⟨fun e w' F hs => ?_, ?_, ?_⟩
                · first | (go_simp; done) | (go_simp; rfl)
                · exact (fun _ _ _ => rfl)
                refine GW.det (d := (some 65)) [] [] rfl (fun e => by rfl) ?_; apply Exists.intro; refine ⟨fun e w' F hs => ?_, ?_, ?_⟩
                · first | (go_simp; done) | (go_simp; rfl)
                · exact (fun _ _ _ => rfl)
                refine GW.det (d := (some 66)) [] [] rfl (fun e => by rfl) ?_; apply Exists.intro; refine ⟨fun e w' F hs => ?_, ?_, ?_⟩
                · first | (go_simp; done) | (go_simp; rfl)
                · exact (fun _ _ _ => rfl)
                refine GW.det (d := (some 67)) [] [] rfl (fun e => by rfl) ?_; apply Exists.intro; refine ⟨fun e w' F hs => ?_, ?_, ?_⟩
                · first | (go_simp; done) | (go_simp; rfl)
                · exact (fun _ _ _ => rfl)
                refine GW.det (d := (some 68)) [0] [] rfl (fun e => by rfl) ?_; apply Exists.intro; refine ⟨fun e w' F hs => ?_, ?_, ?_⟩
                · obtain ⟨g', off', e', y0, _⟩ := intCells (show Sat w0 w' (slc 3 1 (some ⟨g2, off2, none⟩) m rrc (refs.map ival) * F) from hs) HEX.out; cases e'; first | (go_simp; done) | (go_simp; rfl)
                · exact (fun _ _ _ => rfl)
                refine GW.det (d := (some 69)) [] [] rfl (fun e => by rfl) ?_; apply Exists.intro; refine ⟨fun e w' F hs => ?_, ?_, ?_⟩
                · first | (go_simp; done) | (go_simp; rfl)
                · exact (fun _ _ _ => rfl)
                refine GW.det (d := (some 70)) [] [] rfl (fun e => by rfl) ?_; apply Exists.intro; refine ⟨fun e w' F hs => ?_, ?_, ?_⟩
                · first | (go_simp; done) | (go_simp; rfl)
                · exact (fun _ _ _ => rfl)
                refine GW.det (d := (some 71)) [1] [] rfl (fun e => by rfl) ?_; apply Exists.intro; refine ⟨fun e w' F hs => ?_, ?_, ?_⟩
                · have y0 := (rowICell (show Sat w0 w' (rowI sb D * F) from hs) HU.out).1; first | (go_simp; done) | (go_simp; rfl)
                · exact (fun _ _ _ => rfl)
                refine GW.det (d := (some 72)) [] [] rfl (fun e => by rfl) ?_; apply Exists.intro; refine ⟨fun e w' F hs => ?_, ?_, ?_⟩
                · first | (go_simp; done) | (go_simp; rfl)
                · exact (fun _ _ _ => rfl)
                refine GW.det (d := (some 73)) [] [] rfl (fun e => by rfl) ?_; apply Exists.intro; refine ⟨fun e w' F hs => ?_, ?_, ?_⟩
                · first | (go_simp; done) | (go_simp; rfl)
                · exact (fun _ _ _ => rfl)
                refine GW.det (d := (some 74)) [] [] rfl (fun e => by rfl) ?_; apply Exists.intro; refine ⟨fun e w' F hs => ?_, ?_, ?_⟩
                · first | (go_simp; done) | (go_simp; rfl)
                · exact (fun _ _ _ => rfl)
                refine GW.det (d := (some 75)) [] [] rfl (fun e => by rfl) ?_; apply Exists.intro; refine ⟨fun e w' F hs => ?_, ?_, ?_⟩
                · first | (go_simp; done) | (go_simp; rfl)
                · exact (fun _ _ _ => rfl)
                refine GW.det (d := (some 76)) [1] [] rfl (fun e => by rfl) ?_; apply Exists.intro; refine ⟨fun e w' F hs => ?_, ?_, ?_⟩
                · have y0 := (rowICell (show Sat w0 w' (rowI sb D * F) from hs) HDJ.out).1; first | (go_simp; done) | (go_simp; rfl)
                · exact (fun _ _ _ => rfl)
                refine GW.det (d := (some 77)) [] [] rfl (fun e => by rfl) ?_; apply Exists.intro; refine ⟨fun e w' F hs => ?_, ?_, ?_⟩
                · first | (go_simp; done) | (go_simp; rfl)
                · exact (fun _ _ _ => rfl)
                refine GW.det (d := (some 78)) [] [] rfl (fun e => by rfl) ?_; apply Exists.intro; refine ⟨fun e w' F hs => ?_, ?_, ?_⟩
                · first | (go_simp; done) | (go_simp; rfl)
                · exact (fun _ _ _ => rfl)
                refine GW.det (d := (some 79)) [] [] rfl (fun e => by rfl) ?_; apply Exists.intro; refine ⟨fun e w' F hs => ?_, ?_, ?_⟩
                · first | (go_simp; done) | (go_simp; rfl)
                · exact (fun _ _ _ => rfl)
                refine GW.det (d := (some 80)) [] [] rfl (fun e => by rfl) ?_; apply Exists.intro; refine ⟨fun e w' F hs => ?_, ?_, ?_⟩
                · first | (go_simp; done) | (go_simp; rfl)
                · exact (fun _ _ _ => rfl)
                refine GW.det (d := (some 81)) [] [] rfl (fun e => by rfl) ?_; apply Exists.intro; refine ⟨fun e w' F hs => ?_, ?_, ?_⟩
                · first | (go_simp; done) | (go_simp; rfl)
                · exact (fun _ _ _ => rfl)
                refine GW.det (d := (some 82)) [] [] rfl (fun e => by rfl) ?_; apply Exists.intro; refine ⟨fun e w' F hs => ?_, ?_, ?_⟩
                · first | (go_simp; done) | (go_simp; rfl)
                · exact (fun _ _ _ => rfl)
                refine GW.skip (d := (some 83)) rfl (fun e => by rfl) ?_
                refine GW.skip (d := (some 84)) rfl (fun e => by rfl) ?_
                refine GW.skip (d := (some 85)) rfl (fun e => by rfl) ?_
                refine GW.skip (d := (some 86)) rfl (fun e => by rfl) ?_
                refine GW.skip (d := (some 87)) rfl (fun e => by rfl) ?_
                refine GW.skip (d := (some 88)) rfl (fun e => by rfl) ?_
                refine GW.det (d := (some 89)) [] [] rfl (fun e => by rfl) ?_; apply Exists.intro; refine ⟨fun e w' F hs => ?_, ?_, ?_⟩
                · first | (go_simp; done) | (go_simp; rfl)
                · exact (fun _ _ _ => rfl)
                refine GW.det (d := (some 90)) [] [] rfl (fun e => by rfl) ?_; apply Exists.intro; refine ⟨fun e w' F hs => ?_, ?_, ?_⟩
                · first | (go_simp; done) | (go_simp; rfl)
                · exact (fun _ _ _ => rfl)
                refine GW.done (sz := 101) [0, 1, 2] (by kernel_rfl) (by kernel_rfl) HA0.out.1 (by rfl) HS.out (by rfl) fun e w3 gg => ?_
                have ha := HA0.out.2
                subst ha
                clear HA0 hb7 hb8 hb10 hb11 hb12
                simp only [putL, Act.put, List.setIfInBounds_toArray, List.set_cons_zero, List.set_cons_succ]
                replace gg : Sat w0 w3 (slc 3 1 (some ⟨g2, off2, none⟩) m rrc (refs.map ival) * (rowI sb D * RR)) := gg
                obtain ⟨g', off', e', y0, _⟩ := intCells gg HEX.out
                cases e'
                have HF := Lib.hid gg
                clear gg HS
                go_wp2_with fail
                go_roundw
                case rel => exact ⟨k + 1, by go_num, by omega, by rw [HM.out], HF.out⟩
                case measure => simp [intOf]; omega
              · have f2 : (nx == 0) = false := by rw [beq_eq_false_iff_ne]; exact hnz
                by_cases hlt : (i : Int) + 1 < nx
                · have HM := Lib.hid (show minK p (refs.take (k + 1)) = (i : Int) + 1 by rw [hsn]; simp [hlt])
                  have f3 : decide ((i : Int) + 1 < nx) = true := by simpa using hlt
                  clear hsn hnz hlt
                  go_wp2_with fail
                  refine wp_gen fun a0 ha => ?_
                  have hb7 : base a0 7 = .slice (some ⟨sb, 0, none⟩) n n := by rw [ha]; rfl
                  have hb8 : base a0 8 = .int .i64 ((j : Int) + 1) := by rw [ha]; rfl
                  have hb10 : base a0 10 = .int .i64 nx := by rw [ha]; rfl
                  have hb11 : base a0 11 = .slice (some ⟨g2, off2, none⟩) m rrc := by rw [ha]; rfl
                  have hb12 : base a0 12 = .int .i64 k := by rw [ha]; rfl
                  have hsz0 : a0.tmps.size = 101 := by rw [ha]; rfl
                  have HA0 := Lib.hid (And.intro hsz0 ha)
                  clear ha hsz0
                  refine GW.start (X := Option Addr × Nat) (w0 := w0) (B := [slc 3 1 (some ⟨g2, off2, none⟩) m rrc (refs.map ival), rowI sb D, RR]) (a0 := a0) ?_
                  refine GW.det (d := (some 64)) [] [] rfl (fun e => by rfl) ?_; apply Exists.intro; refine ⟨fun e w' F hs => ?_, ?_, ?_⟩
                  · first | (go_simp; done) | (go_simp; rfl)
                  · exact (fun _ _ _ => rfl)
                  refine GW.det (d := (some 65)) [] [] rfl (fun e => by rfl) ?_; apply Exists.intro; refine ⟨fun e w' F hs => ?_, ?_, ?_⟩
                  · first | (go_simp; done) | (go_simp; rfl)
                  · exact (fun _ _ _ => rfl)
                  refine GW.det (d := (some 66)) [] [] rfl (fun e => by rfl) ?_; apply Exists.intro; refine ⟨fun e w' F hs => ?_, ?_, ?_⟩
                  · first | (go_simp; done) | (go_simp; rfl)
                  · exact (fun _ _ _ => rfl)
                  refine GW.det (d := (some 67)) [] [] rfl (fun e => by rfl) ?_; apply Exists.intro; refine ⟨fun e w' F hs => ?_, ?_, ?_⟩
                  · first | (go_simp; done) | (go_simp; rfl)
                  · exact (fun _ _ _ => rfl)
                  refine GW.det (d := (some 68)) [0] [] rfl (fun e => by rfl) ?_; apply Exists.intro; refine ⟨fun e w' F hs => ?_, ?_, ?_⟩
                  · obtain ⟨g', off', e', y0, _⟩ := intCells (show Sat w0 w' (slc 3 1 (some ⟨g2, off2, none⟩) m rrc (refs.map ival) * F) from hs) HEX.out; cases e'; first | (go_simp; done) | (go_simp; rfl)
                  · exact (fun _ _ _ => rfl)
                  refine GW.det (d := (some 69)) [] [] rfl (fun e => by rfl) ?_; apply Exists.intro; refine ⟨fun e w' F hs => ?_, ?_, ?_⟩
                  · first | (go_simp; done) | (go_simp; rfl)
                  · exact (fun _ _ _ => rfl)
                  refine GW.det (d := (some 70)) [] [] rfl (fun e => by rfl) ?_; apply Exists.intro; refine ⟨fun e w' F hs => ?_, ?_, ?_⟩
                  · first | (go_simp; done) | (go_simp; rfl)
                  · exact (fun _ _ _ => rfl)
                  refine GW.det (d := (some 71)) [1] [] rfl (fun e => by rfl) ?_; apply Exists.intro; refine ⟨fun e w' F hs => ?_, ?_, ?_⟩
                  · have y0 := (rowICell (show Sat w0 w' (rowI sb D * F) from hs) HU.out).1; first | (go_simp; done) | (go_simp; rfl)
                  · exact (fun _ _ _ => rfl)
                  refine GW.det (d := (some 72)) [] [] rfl (fun e => by rfl) ?_; apply Exists.intro; refine ⟨fun e w' F hs => ?_, ?_, ?_⟩
                  · first | (go_simp; done) | (go_simp; rfl)
                  · exact (fun _ _ _ => rfl)
                  refine GW.det (d := (some 73)) [] [] rfl (fun e => by rfl) ?_; apply Exists.intro; refine ⟨fun e w' F hs => ?_, ?_, ?_⟩
                  · first | (go_simp; done) | (go_simp; rfl)
                  · exact (fun _ _ _ => rfl)
                  refine GW.det (d := (some 74)) [] [] rfl (fun e => by rfl) ?_; apply Exists.intro; refine ⟨fun e w' F hs => ?_, ?_, ?_⟩
                  · first | (go_simp; done) | (go_simp; rfl)
                  · exact (fun _ _ _ => rfl)
                  refine GW.det (d := (some 75)) [] [] rfl (fun e => by rfl) ?_; apply Exists.intro; refine ⟨fun e w' F hs => ?_, ?_, ?_⟩
                  · first | (go_simp; done) | (go_simp; rfl)
                  · exact (fun _ _ _ => rfl)
                  refine GW.det (d := (some 76)) [1] [] rfl (fun e => by rfl) ?_; apply Exists.intro; refine ⟨fun e w' F hs => ?_, ?_, ?_⟩
                  · have y0 := (rowICell (show Sat w0 w' (rowI sb D * F) from hs) HDJ.out).1; first | (go_simp; done) | (go_simp; rfl)
                  · exact (fun _ _ _ => rfl)
                  refine GW.det (d := (some 77)) [] [] rfl (fun e => by rfl) ?_; apply Exists.intro; refine ⟨fun e w' F hs => ?_, ?_, ?_⟩
                  · first | (go_simp; done) | (go_simp; rfl)
                  · exact (fun _ _ _ => rfl)
                  refine GW.det (d := (some 78)) [] [] rfl (fun e => by rfl) ?_; apply Exists.intro; refine ⟨fun e w' F hs => ?_, ?_, ?_⟩
                  · first | (go_simp; done) | (go_simp; rfl)
                  · exact (fun _ _ _ => rfl)
                  refine GW.det (d := (some 79)) [] [] rfl (fun e => by rfl) ?_; apply Exists.intro; refine ⟨fun e w' F hs => ?_, ?_, ?_⟩
                  · first | (go_simp; done) | (go_simp; rfl)
                  · exact (fun _ _ _ => rfl)
                  refine GW.det (d := (some 80)) [] [] rfl (fun e => by rfl) ?_; apply Exists.intro; refine ⟨fun e w' F hs => ?_, ?_, ?_⟩
                  · first | (go_simp; done) | (go_simp; rfl)
                  · exact (fun _ _ _ => rfl)
                  refine GW.det (d := (some 81)) [] [] rfl (fun e => by rfl) ?_; apply Exists.intro; refine ⟨fun e w' F hs => ?_, ?_, ?_⟩
                  · first | (go_simp; done) | (go_simp; rfl)
                  · exact (fun _ _ _ => rfl)
                  refine GW.det (d := (some 82)) [] [] rfl (fun e => by rfl) ?_; apply Exists.intro; refine ⟨fun e w' F hs => ?_, ?_, ?_⟩
                  · first | (go_simp; done) | (go_simp; rfl)
                  · exact (fun _ _ _ => rfl)
                  refine GW.det (d := (some 83)) [] [] rfl (fun e => by rfl) ?_; apply Exists.intro; refine ⟨fun e w' F hs => ?_, ?_, ?_⟩
                  · first | (go_simp; done) | (go_simp; rfl)
                  · exact (fun _ _ _ => rfl)
                  refine GW.det (d := (some 84)) [] [] rfl (fun e => by rfl) ?_; apply Exists.intro; refine ⟨fun e w' F hs => ?_, ?_, ?_⟩
                  · first | (go_simp; done) | (go_simp; rfl)
                  · exact (fun _ _ _ => rfl)
                  refine GW.det (d := (some 85)) [] [] rfl (fun e => by rfl) ?_; apply Exists.intro; refine ⟨fun e w' F hs => ?_, ?_, ?_⟩
                  · first | (go_simp; done) | (go_simp; rfl)
                  · exact (fun _ _ _ => rfl)
                  refine GW.det (d := (some 86)) [0] [] rfl (fun e => by rfl) ?_; apply Exists.intro; refine ⟨fun e w' F hs => ?_, ?_, ?_⟩
                  · obtain ⟨g', off', e', y0, _⟩ := intCells (show Sat w0 w' (slc 3 1 (some ⟨g2, off2, none⟩) m rrc (refs.map ival) * F) from hs) HEX.out; cases e'; first | (go_simp; done) | (go_simp; rfl)
                  · exact (fun _ _ _ => rfl)
                  refine GW.det (d := (some 87)) [] [] rfl (fun e => by rfl) ?_; apply Exists.intro; refine ⟨fun e w' F hs => ?_, ?_, ?_⟩
                  · first | (go_simp; done) | (go_simp; rfl)
                  · exact (fun _ _ _ => rfl)
                  refine GW.det (d := (some 88)) [] [] rfl (fun e => by rfl) ?_; apply Exists.intro; refine ⟨fun e w' F hs => ?_, ?_, ?_⟩
                  · first | (go_simp; done) | (go_simp; rfl)
                  · exact (fun _ _ _ => rfl)
                  refine GW.det (d := (some 89)) [] [] rfl (fun e => by rfl) ?_; apply Exists.intro; refine ⟨fun e w' F hs => ?_, ?_, ?_⟩
                  · first | (go_simp; done) | (go_simp; rfl)
                  · exact (fun _ _ _ => rfl)
                  refine GW.det (d := (some 90)) [] [] rfl (fun e => by rfl) ?_; apply Exists.intro; refine ⟨fun e w' F hs => ?_, ?_, ?_⟩
                  · first | (go_simp; done) | (go_simp; rfl)
                  · exact (fun _ _ _ => rfl)
                  refine GW.done (sz := 101) [0, 1, 2] (by kernel_rfl) (by kernel_rfl) HA0.out.1 (by rfl) HS.out (by rfl) fun e w3 gg => ?_
                  have ha := HA0.out.2
                  subst ha
                  clear HA0 hb7 hb8 hb10 hb11 hb12
                  simp only [putL, Act.put, List.setIfInBounds_toArray, List.set_cons_zero, List.set_cons_succ]
                  replace gg : Sat w0 w3 (slc 3 1 (some ⟨g2, off2, none⟩) m rrc (refs.map ival) * (rowI sb D * RR)) := gg
                  obtain ⟨g', off', e', y0, _⟩ := intCells gg HEX.out
                  cases e'
                  have HF := Lib.hid gg
                  clear gg HS
                  go_wp2_with fail
                  go_roundw
                  case rel => exact ⟨k + 1, by go_num, by omega, by rw [HM.out], HF.out⟩
                  case measure => simp [intOf]; omega
                · have HM := Lib.hid (show minK p (refs.take (k + 1)) = nx by rw [hsn]; simp [hlt, hnz])
                  have f3 : decide ((i : Int) + 1 < nx) = false := by simpa using hlt
                  clear hsn hnz hlt
                  go_wp2_with fail
                  refine wp_gen fun a0 ha => ?_
                  have hb7 : base a0 7 = .slice (some ⟨sb, 0, none⟩) n n := by rw [ha]; rfl
                  have hb8 : base a0 8 = .int .i64 ((j : Int) + 1) := by rw [ha]; rfl
                  have hb10 : base a0 10 = .int .i64 nx := by rw [ha]; rfl
                  have hb11 : base a0 11 = .slice (some ⟨g2, off2, none⟩) m rrc := by rw [ha]; rfl
                  have hb12 : base a0 12 = .int .i64 k := by rw [ha]; rfl
                  have hsz0 : a0.tmps.size = 101 := by rw [ha]; rfl
                  have HA0 := Lib.hid (And.intro hsz0 ha)
                  clear ha hsz0
                  refine GW.start (X := Option Addr × Nat) (w0 := w0) (B := [slc 3 1 (some ⟨g2, off2, none⟩) m rrc (refs.map ival), rowI sb D, RR]) (a0 := a0) ?_
                  refine GW.det (d := (some 64)) [] [] rfl (fun e => by rfl) ?_; apply Exists.intro; refine ⟨fun e w' F hs => ?_, ?_, ?_⟩
                  · first | (go_simp; done) | (go_simp; rfl)
                  · exact (fun _ _ _ => rfl)
                  refine GW.det (d := (some 65)) [] [] rfl (fun e => by rfl) ?_; apply Exists.intro; refine ⟨fun e w' F hs => ?_, ?_, ?_⟩
                  · first | (go_simp; done) | (go_simp; rfl)
                  · exact (fun _ _ _ => rfl)
                  refine GW.det (d := (some 66)) [] [] rfl (fun e => by rfl) ?_; apply Exists.intro; refine ⟨fun e w' F hs => ?_, ?_, ?_⟩
                  · first | (go_simp; done) | (go_simp; rfl)
                  · exact (fun _ _ _ => rfl)
                  refine GW.det (d := (some 67)) [] [] rfl (fun e => by rfl) ?_; apply Exists.intro; refine ⟨fun e w' F hs => ?_, ?_, ?_⟩
                  · first | (go_simp; done) | (go_simp; rfl)
                  · exact (fun _ _ _ => rfl)
                  refine GW.det (d := (some 68)) [0] [] rfl (fun e => by rfl) ?_; apply Exists.intro; refine ⟨fun e w' F hs => ?_, ?_, ?_⟩
                  · obtain ⟨g', off', e', y0, _⟩ := intCells (show Sat w0 w' (slc 3 1 (some ⟨g2, off2, none⟩) m rrc (refs.map ival) * F) from hs) HEX.out; cases e'; first | (go_simp; done) | (go_simp; rfl)
                  · exact (fun _ _ _ => rfl)
                  refine GW.det (d := (some 69)) [] [] rfl (fun e => by rfl) ?_; apply Exists.intro; refine ⟨fun e w' F hs => ?_, ?_, ?_⟩
                  · first | (go_simp; done) | (go_simp; rfl)
                  · exact (fun _ _ _ => rfl)
                  refine GW.det (d := (some 70)) [] [] rfl (fun e => by rfl) ?_; apply Exists.intro; refine ⟨fun e w' F hs => ?_, ?_, ?_⟩
                  · first | (go_simp; done) | (go_simp; rfl)
                  · exact (fun _ _ _ => rfl)
                  refine GW.det (d := (some 71)) [1] [] rfl (fun e => by rfl) ?_; apply Exists.intro; refine ⟨fun e w' F hs => ?_, ?_, ?_⟩
                  · have y0 := (rowICell (show Sat w0 w' (rowI sb D * F) from hs) HU.out).1; first | (go_simp; done) | (go_simp; rfl)
                  · exact (fun _ _ _ => rfl)
                  refine GW.det (d := (some 72)) [] [] rfl (fun e => by rfl) ?_; apply Exists.intro; refine ⟨fun e w' F hs => ?_, ?_, ?_⟩
                  · first | (go_simp; done) | (go_simp; rfl)
                  · exact (fun _ _ _ => rfl)
                  refine GW.det (d := (some 73)) [] [] rfl (fun e => by rfl) ?_; apply Exists.intro; refine ⟨fun e w' F hs => ?_, ?_, ?_⟩
                  · first | (go_simp; done) | (go_simp; rfl)
                  · exact (fun _ _ _ => rfl)
                  refine GW.det (d := (some 74)) [] [] rfl (fun e => by rfl) ?_; apply Exists.intro; refine ⟨fun e w' F hs => ?_, ?_, ?_⟩
                  · first | (go_simp; done) | (go_simp; rfl)
                  · exact (fun _ _ _ => rfl)
                  refine GW.det (d := (some 75)) [] [] rfl (fun e => by rfl) ?_; apply Exists.intro; refine ⟨fun e w' F hs => ?_, ?_, ?_⟩
                  · first | (go_simp; done) | (go_simp; rfl)
                  · exact (fun _ _ _ => rfl)
                  refine GW.det (d := (some 76)) [1] [] rfl (fun e => by rfl) ?_; apply Exists.intro; refine ⟨fun e w' F hs => ?_, ?_, ?_⟩
                  · have y0 := (rowICell (show Sat w0 w' (rowI sb D * F) from hs) HDJ.out).1; first | (go_simp; done) | (go_simp; rfl)
                  · exact (fun _ _ _ => rfl)
                  refine GW.det (d := (some 77)) [] [] rfl (fun e => by rfl) ?_; apply Exists.intro; refine ⟨fun e w' F hs => ?_, ?_, ?_⟩
                  · first | (go_simp; done) | (go_simp; rfl)
                  · exact (fun _ _ _ => rfl)
                  refine GW.det (d := (some 78)) [] [] rfl (fun e => by rfl) ?_; apply Exists.intro; refine ⟨fun e w' F hs => ?_, ?_, ?_⟩
                  · first | (go_simp; done) | (go_simp; rfl)
                  · exact (fun _ _ _ => rfl)
                  refine GW.det (d := (some 79)) [] [] rfl (fun e => by rfl) ?_; apply Exists.intro; refine ⟨fun e w' F hs => ?_, ?_, ?_⟩
                  · first | (go_simp; done) | (go_simp; rfl)
                  · exact (fun _ _ _ => rfl)
                  refine GW.det (d := (some 80)) [] [] rfl (fun e => by rfl) ?_; apply Exists.intro; refine ⟨fun e w' F hs => ?_, ?_, ?_⟩
                  · first | (go_simp; done) | (go_simp; rfl)
                  · exact (fun _ _ _ => rfl)
                  refine GW.det (d := (some 81)) [] [] rfl (fun e => by rfl) ?_; apply Exists.intro; refine ⟨fun e w' F hs => ?_, ?_, ?_⟩
                  · first | (go_simp; done) | (go_simp; rfl)
                  · exact (fun _ _ _ => rfl)
                  refine GW.det (d := (some 82)) [] [] rfl (fun e => by rfl) ?_; apply Exists.intro; refine ⟨fun e w' F hs => ?_, ?_, ?_⟩
                  · first | (go_simp; done) | (go_simp; rfl)
                  · exact (fun _ _ _ => rfl)
                  refine GW.det (d := (some 83)) [] [] rfl (fun e => by rfl) ?_; apply Exists.intro; refine ⟨fun e w' F hs => ?_, ?_, ?_⟩
                  · first | (go_simp; done) | (go_simp; rfl)
                  · exact (fun _ _ _ => rfl)
                  refine GW.det (d := (some 84)) [] [] rfl (fun e => by rfl) ?_; apply Exists.intro; refine ⟨fun e w' F hs => ?_, ?_, ?_⟩
                  · first | (go_simp; done) | (go_simp; rfl)
                  · exact (fun _ _ _ => rfl)
                  refine GW.det (d := (some 85)) [] [] rfl (fun e => by rfl) ?_; apply Exists.intro; refine ⟨fun e w' F hs => ?_, ?_, ?_⟩
                  · first | (go_simp; done) | (go_simp; rfl)
                  · exact (fun _ _ _ => rfl)
                  refine GW.det (d := (some 86)) [0] [] rfl (fun e => by rfl) ?_; apply Exists.intro; refine ⟨fun e w' F hs => ?_, ?_, ?_⟩
                  · obtain ⟨g', off', e', y0, _⟩ := intCells (show Sat w0 w' (slc 3 1 (some ⟨g2, off2, none⟩) m rrc (refs.map ival) * F) from hs) HEX.out; cases e'; first | (go_simp; done) | (go_simp; rfl)
                  · exact (fun _ _ _ => rfl)
                  refine GW.det (d := (some 87)) [] [] rfl (fun e => by rfl) ?_; apply Exists.intro; refine ⟨fun e w' F hs => ?_, ?_, ?_⟩
                  · first | (go_simp; done) | (go_simp; rfl)
                  · exact (fun _ _ _ => rfl)
                  refine GW.det (d := (some 88)) [] [] rfl (fun e => by rfl) ?_; apply Exists.intro; refine ⟨fun e w' F hs => ?_, ?_, ?_⟩
                  · first | (go_simp; done) | (go_simp; rfl)
                  · exact (fun _ _ _ => rfl)
                  refine GW.det (d := (some 89)) [] [] rfl (fun e => by rfl) ?_; apply Exists.intro; refine ⟨fun e w' F hs => ?_, ?_, ?_⟩
                  · first | (go_simp; done) | (go_simp; rfl)
                  · exact (fun _ _ _ => rfl)
                  refine GW.det (d := (some 90)) [] [] rfl (fun e => by rfl) ?_; apply Exists.intro; refine ⟨fun e w' F hs => ?_, ?_, ?_⟩
                  · first | (go_simp; done) | (go_simp; rfl)
                  · exact (fun _ _ _ => rfl)
                  refine GW.done (sz := 101) [0, 1, 2] (by kernel_rfl) (by kernel_rfl) HA0.out.1 (by rfl) HS.out (by rfl) fun e w3 gg => ?_
                  have ha := HA0.out.2
                  subst ha
                  clear HA0 hb7 hb8 hb10 hb11 hb12
                  simp only [putL, Act.put, List.setIfInBounds_toArray, List.set_cons_zero, List.set_cons_succ]
                  replace gg : Sat w0 w3 (slc 3 1 (some ⟨g2, off2, none⟩) m rrc (refs.map ival) * (rowI sb D * RR)) := gg
                  have HF := Lib.hid gg
                  clear gg HS
                  go_wp2_with fail
                  go_roundw
                  case rel => exact ⟨k + 1, by go_num, by omega, by rw [HM.out], HF.out⟩
                  case measure => simp [intOf]; omega
            · have hpt : p ((i : Int) + 1) = false := by rw [hpu]; simpa using hpe
              have f1 : (((distN L to i : Nat) : Int) == ((distN L to j : Nat) : Int) - 1) = false := by rw [beq_eq_false_iff_ne]; exact hpe
              have HM := Lib.hid (show minK p (refs.take (k + 1)) = nx by rw [hsn, hpt]; simp)
              clear hsn hpu hpt hpe
              go_wp2_with fail
              refine wp_gen fun a0 ha => ?_
              have hb7 : base a0 7 = .slice (some ⟨sb, 0, none⟩) n n := by rw [ha]; rfl
              have hb8 : base a0 8 = .int .i64 ((j : Int) + 1) := by rw [ha]; rfl
              have hb10 : base a0 10 = .int .i64 nx := by rw [ha]; rfl
              have hb11 : base a0 11 = .slice (some ⟨g2, off2, none⟩) m rrc := by rw [ha]; rfl
              have hb12 : base a0 12 = .int .i64 k := by rw [ha]; rfl
              have hsz0 : a0.tmps.size = 101 := by rw [ha]; rfl
              have HA0 := Lib.hid (And.intro hsz0 ha)
              clear ha hsz0
              refine GW.start (X := Option Addr × Nat) (w0 := w0) (B := [slc 3 1 (some ⟨g2, off2, none⟩) m rrc (refs.map ival), rowI sb D, RR]) (a0 := a0) ?_
              refine GW.det (d := (some 64)) [] [] rfl (fun e => by rfl) ?_; apply Exists.intro; refine ⟨fun e w' F hs => ?_, ?_, ?_⟩
              · first | (go_simp; done) | (go_simp; rfl)
              · exact (fun _ _ _ => rfl)
              refine GW.det (d := (some 65)) [] [] rfl (fun e => by rfl) ?_; apply Exists.intro; refine ⟨fun e w' F hs => ?_, ?_, ?_⟩
              · first | (go_simp; done) | (go_simp; rfl)
              · exact (fun _ _ _ => rfl)
              refine GW.det (d := (some 66)) [] [] rfl (fun e => by rfl) ?_; apply Exists.intro; refine ⟨fun e w' F hs => ?_, ?_, ?_⟩
              · first | (go_simp; done) | (go_simp; rfl)
              · exact (fun _ _ _ => rfl)
              refine GW.det (d := (some 67)) [] [] rfl (fun e => by rfl) ?_; apply Exists.intro; refine ⟨fun e w' F hs => ?_, ?_, ?_⟩
              · first | (go_simp; done) | (go_simp; rfl)
              · exact (fun _ _ _ => rfl)
              refine GW.det (d := (some 68)) [0] [] rfl (fun e => by rfl) ?_; apply Exists.intro; refine ⟨fun e w' F hs => ?_, ?_, ?_⟩
              · obtain ⟨g', off', e', y0, _⟩ := intCells (show Sat w0 w' (slc 3 1 (some ⟨g2, off2, none⟩) m rrc (refs.map ival) * F) from hs) HEX.out; cases e'; first | (go_simp; done) | (go_simp; rfl)
              · exact (fun _ _ _ => rfl)
              refine GW.det (d := (some 69)) [] [] rfl (fun e => by rfl) ?_; apply Exists.intro; refine ⟨fun e w' F hs => ?_, ?_, ?_⟩
              · first | (go_simp; done) | (go_simp; rfl)
              · exact (fun _ _ _ => rfl)
              refine GW.det (d := (some 70)) [] [] rfl (fun e => by rfl) ?_; apply Exists.intro; refine ⟨fun e w' F hs => ?_, ?_, ?_⟩
              · first | (go_simp; done) | (go_simp; rfl)
              · exact (fun _ _ _ => rfl)
              refine GW.det (d := (some 71)) [1] [] rfl (fun e => by rfl) ?_; apply Exists.intro; refine ⟨fun e w' F hs => ?_, ?_, ?_⟩
              · have y0 := (rowICell (show Sat w0 w' (rowI sb D * F) from hs) HU.out).1; first | (go_simp; done) | (go_simp; rfl)
              · exact (fun _ _ _ => rfl)
              refine GW.det (d := (some 72)) [] [] rfl (fun e => by rfl) ?_; apply Exists.intro; refine ⟨fun e w' F hs => ?_, ?_, ?_⟩
              · first | (go_simp; done) | (go_simp; rfl)
              · exact (fun _ _ _ => rfl)
              refine GW.det (d := (some 73)) [] [] rfl (fun e => by rfl) ?_; apply Exists.intro; refine ⟨fun e w' F hs => ?_, ?_, ?_⟩
              · first | (go_simp; done) | (go_simp; rfl)
              · exact (fun _ _ _ => rfl)
              refine GW.det (d := (some 74)) [] [] rfl (fun e => by rfl) ?_; apply Exists.intro; refine ⟨fun e w' F hs => ?_, ?_, ?_⟩
              · first | (go_simp; done) | (go_simp; rfl)
              · exact (fun _ _ _ => rfl)
              refine GW.det (d := (some 75)) [] [] rfl (fun e => by rfl) ?_; apply Exists.intro; refine ⟨fun e w' F hs => ?_, ?_, ?_⟩
              · first | (go_simp; done) | (go_simp; rfl)
              · exact (fun _ _ _ => rfl)
              refine GW.det (d := (some 76)) [1] [] rfl (fun e => by rfl) ?_; apply Exists.intro; refine ⟨fun e w' F hs => ?_, ?_, ?_⟩
              · have y0 := (rowICell (show Sat w0 w' (rowI sb D * F) from hs) HDJ.out).1; first | (go_simp; done) | (go_simp; rfl)
              · exact (fun _ _ _ => rfl)
              refine GW.det (d := (some 77)) [] [] rfl (fun e => by rfl) ?_; apply Exists.intro; refine ⟨fun e w' F hs => ?_, ?_, ?_⟩
              · first | (go_simp; done) | (go_simp; rfl)
              · exact (fun _ _ _ => rfl)
              refine GW.det (d := (some 78)) [] [] rfl (fun e => by rfl) ?_; apply Exists.intro; refine ⟨fun e w' F hs => ?_, ?_, ?_⟩
              · first | (go_simp; done) | (go_simp; rfl)
              · exact (fun _ _ _ => rfl)
              refine GW.det (d := (some 79)) [] [] rfl (fun e => by rfl) ?_; apply Exists.intro; refine ⟨fun e w' F hs => ?_, ?_, ?_⟩
              · first | (go_simp; done) | (go_simp; rfl)
              · exact (fun _ _ _ => rfl)
              refine GW.skip (d := (some 80)) rfl (fun e => by rfl) ?_
              refine GW.skip (d := (some 81)) rfl (fun e => by rfl) ?_
              refine GW.skip (d := (some 82)) rfl (fun e => by rfl) ?_
              refine GW.skip (d := (some 83)) rfl (fun e => by rfl) ?_
              refine GW.skip (d := (some 84)) rfl (fun e => by rfl) ?_
              refine GW.skip (d := (some 85)) rfl (fun e => by rfl) ?_
              refine GW.skip (d := (some 86)) rfl (fun e => by rfl) ?_
              refine GW.skip (d := (some 87)) rfl (fun e => by rfl) ?_
              refine GW.skip (d := (some 88)) rfl (fun e => by rfl) ?_
              refine GW.skip (d := (some 89)) rfl (fun e => by rfl) ?_
              refine GW.det (d := (some 90)) [] [] rfl (fun e => by rfl) ?_; apply Exists.intro; refine ⟨fun e w' F hs => ?_, ?_, ?_⟩
              · first | (go_simp; done) | (go_simp; rfl)
              · exact (fun _ _ _ => rfl)
              refine GW.done (sz := 101) [0, 1, 2] (by kernel_rfl) (by kernel_rfl) HA0.out.1 (by rfl) HS.out (by rfl) fun e w3 gg => ?_
              have ha := HA0.out.2
              subst ha
              clear HA0 hb7 hb8 hb10 hb11 hb12
              simp only [putL, Act.put, List.setIfInBounds_toArray, List.set_cons_zero, List.set_cons_succ]
              replace gg : Sat w0 w3 (slc 3 1 (some ⟨g2, off2, none⟩) m rrc (refs.map ival) * (rowI sb D * RR)) := gg
              have HF := Lib.hid gg
              clear gg HS
              go_wp2_with fail
              go_roundw
              case rel => exact ⟨k + 1, by go_num, by omega, by rw [HM.out], HF.out⟩
              case measure => simp [intOf]; omega
          · have e0 : refs.take k = refs := List.take_of_length_le (by have := HK.out.2; omega)
            rw [e0, HMN.out]
            obtain ⟨kn, hkn, enx, hmn, hdn⟩ := nextG_spec (L := L) (to := to) (x := (j : Int) + 1) HTOL.out HD2.out
            have hthn := kids_there HOK.out hmn
            have hnr := thereG_range hthn
            rw [HXL.out] at hnr
            have hpf : ∀ q, P ++ (pathF L to (distN L to j - 1) ((j : Int) + 1)).tail = R → q = nextG L to ((j : Int) + 1) → P ++ [q] ++ (pathF L to (distN L to j - 1 - 1) q).tail = R := by
              intro q hq1 hq2
              have : distN L to j - 1 = (distN L to j - 1 - 1) + 1 := by have := HD2.out; omega
              rw [this, pathF_tail, ← hq2, pathF_cons] at hq1
              rw [← hq1, List.append_assoc]; rfl
            have hpf2 := hpf _ hP.out.2.2 rfl
            generalize nextG L to ((j : Int) + 1) = y at *
            obtain ⟨i, rfl⟩ : ∃ i : Nat, y = (i : Int) + 1 := ⟨(y - 1).toNat, by omega⟩
            have hdi : distN L to i + 1 = distN L to j := hdn
            have HNW := Lib.hid (show thereG L ((i : Int) + 1) = true ∧ 1 ≤ distN L to i ∧ (P ++ [(i : Int) + 1]) ++ (pathF L to (distN L to i - 1) ((i : Int) + 1)).tail = R from ⟨hthn, by have := HD2.out; omega, by
              have e1 : distN L to i - 1 = distN L to j - 1 - 1 := by omega
              rw [e1]; exact hpf2⟩)
            have HDN := Lib.hid (show distG L to ((i : Int) + 1) < distG L to ((j : Int) + 1) by omega)
            have hin : i < n := by omega
            have h1 := (show Sat w0 wr (slc 3 1 ra P.length rc (P.map ival) * (rowI sb D * (pt (gb + 1) (.cells #[.int .i64 kd, .int .i64 ((j0 : Int) + 1)] 33 (0, 0)) * (pt gb (.cells #[.slice (some ⟨g, off, none⟩) n c] 24 (0, 0)) * (SR * F))))) from (hs.drop.cast (by rw [HRRE.out]; ac_rfl))).alloc (.cells #[.int .i64 ((i : Int) + 1)] 3)
            have b0 : (wr.alloc (.cells #[.int .i64 ((i : Int) + 1)] 3)).cell? ⟨wr.heap.size, 0, none⟩ = some (.int .i64 ((i : Int) + 1)) := Sat.cell (T := 3) (cs := #[.int .i64 ((i : Int) + 1)]) h1 0 rfl
            clear hs e0 hkn enx hmn hdn hthn hnr hpf hpf2 hdi
            go_wp2_with (at_builtin; refine wpList_push rfl _ _ rfl ra P.length rc P rfl h1.p2 wr.heap.size 1 ((i : Int) + 1) rfl b0 (by omega) ?_; intro a' c' w4 h4)
            go_roundw
            case rel =>
              refine ⟨i, a', c', P ++ [(i : Int) + 1], rfl, hin, by rw [List.length_append]; rfl, HNW, ?_⟩
              rw [List.length_append]
              exact h4.drop2
            case measure => exact HDN.out
theorem ref_Path (h : Sat w0 w (SR * F)) (hG : SrcO w0 SR ga n c X) (v : AVal) (to : Int) {R : List Int} (hR : pathG (X.map (·.1)) v to = R) :
    Calls Try.prog 23 #[.agg #[.slice ga n c], .agg #[.int .i64 v.kind, .int .i64 v.n], .int .i64 to] w fun e w' => ∃ ra rc, e = .returned (.slice ra R.length rc) ∧ Sat w0 w' (slc 3 1 ra R.length rc (R.map ival) * (SR * F)) := by
  obtain ⟨k, x⟩ := v
  unfold pathG at hR
  cases hok : okG (X.map (·.1)) with
  | false =>
    have : R = [] := by rw [← hR, hok]; rfl
    subst this
    refine (rpath_1 h hG k x to hok).mono ?_
    rintro e w' ⟨rfl, h2⟩
    exact ⟨none, 0, rfl, h2.nilSlc⟩
  | true =>
    cases hr : refV ⟨k, x⟩ with
    | false =>
      have : R = [] := by rw [← hR, hok, hr]; rfl
      subst this
      refine (rpath_2 h hG k x to hok hr).mono ?_
      rintro e w' ⟨rfl, h2⟩
      exact ⟨none, 0, rfl, h2.nilSlc⟩
    | true =>
      cases htx : thereG (X.map (·.1)) x with
      | false =>
        have : R = [] := by rw [← hR, hok, hr]; simp [htx]
        subst this
        refine (rpath_3 h hG k x to hok hr htx).mono ?_
        rintro e w' ⟨rfl, h2⟩
        exact ⟨none, 0, rfl, h2.nilSlc⟩
      | true =>
        cases hto : thereG (X.map (·.1)) to with
        | false =>
          have : R = [] := by rw [← hR, hok, hr]; simp [htx, hto]
          subst this
          refine (rpath_4 h hG k x to hok hr htx hto).mono ?_
          rintro e w' ⟨rfl, h2⟩
          exact ⟨none, 0, rfl, h2.nilSlc⟩
        | true =>
          have hxr := thereG_range htx
          obtain ⟨j, rfl⟩ : ∃ j : Nat, x = (j : Int) + 1 := ⟨(x - 1).toNat, by omega⟩
          refine rpath_5 h hG k to j hok hr htx hto ?_
          rw [← hR, hok, hr]
          dsimp only
          rw [htx, hto]
          by_cases e : distG (X.map (·.1)) to ((j : Int) + 1) = 0 <;> simp [e]
end
end Go.Proofs.Ytmngkodejlhalaa.Tw
