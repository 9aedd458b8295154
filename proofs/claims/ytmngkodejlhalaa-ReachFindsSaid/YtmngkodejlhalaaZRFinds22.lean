/- Reach, plainly: ways, and how many are there. No condition. -/
import Derived.Test.YtmngkodejlhalaaZRFinds21
import Derived.Test.YtmngkodejlhalaaZRFinds12
namespace Go.Proofs.Ytmngkodejlhalaa.Tw
set_option linter.unusedVariables false
set_option linter.unusedSimpArgs false
open Go Go.RowKit

theorem refV6 {s : Int} (h : 1 ≤ s ∧ s ≤ 2147483647) : refV ⟨6, s⟩ = true := by simp [refV, mayV, within, h]
theorem path_ne {L : List AObj} {v : AVal} {x : Int} : 0 < (pathG L v x).length ↔ okG L = true ∧ refV v = true ∧ thereG L v.n = true ∧ thereG L x = true ∧ RG L v.n x := by
  unfold pathG
  split
  · rename_i h
    simp only [Bool.and_eq_true, Bool.not_eq_true', decide_eq_false_iff_not] at h
    obtain ⟨h1, h2, h3, h4, h5⟩ := h
    rw [pathF_len]
    exact ⟨fun _ => ⟨h1, h2, h3, h4, (distG_reach h4 _).1 h5⟩, fun _ => by omega⟩
  · rename_i h
    constructor
    · intro h; simp at h
    · rintro ⟨h1, h2, h3, h4, h5⟩
      exact absurd (by simp only [Bool.and_eq_true, Bool.not_eq_true', decide_eq_false_iff_not]; exact ⟨h1, h2, h3, h4, (distG_reach h4 _).2 h5⟩) h
/-- a way leads from a root to whatever is reached -/
theorem from_led {L : List AObj} {rs : List Int} {x : Int} (hp : ∀ r ∈ rs, 1 ≤ r ∧ r ≤ 2147483647) (h : x ∈ thoseG L rs true) : ∃ s ∈ rs, 0 < (pathG L ⟨6, s⟩ x).length := by
  obtain ⟨h1, h2⟩ := mem_fromG.1 h
  obtain ⟨r, hr, ht, hg⟩ := id h2
  exact ⟨r, hr, path_ne.2 ⟨h1, refV6 (hp r hr), ht, h2.there h1, hg⟩⟩
theorem from_root {L : List AObj} {rs : List Int} {s : Int} (hok : okG L = true) (hs : s ∈ rs) (ht : thereG L s = true) : s ∈ thoseG L rs true := mem_fromG.2 ⟨hok, s, hs, ht, .refl⟩
theorem from_kid {L : List AObj} {rs : List Int} {x y : Int} (h : x ∈ thoseG L rs true) (hy : y ∈ kids L x) : y ∈ thoseG L rs true := by
  obtain ⟨h1, h2⟩ := mem_fromG.1 h
  exact mem_fromG.2 ⟨h1, h2.next hy⟩
theorem from_or {L : List AObj} {rs : List Int} {x : Int} (hok : okG L = true) (ht : thereG L x = true) : (x ∈ thoseG L rs true ∧ x ∉ thoseG L rs false) ∨ (x ∉ thoseG L rs true ∧ x ∈ thoseG L rs false) := by
  by_cases h : RS L rs x
  · exact .inl ⟨mem_fromG.2 ⟨hok, h⟩, fun h' => (mem_lostG.1 h').2.2 h⟩
  · exact .inr ⟨fun h' => h (mem_fromG.1 h').2, mem_lostG.2 ⟨hok, ht, h⟩⟩
theorem none_in {L : List AObj} {rs : List Int} {x : Int} (ht : thereG L x = false) (b : Bool) : x ∉ thoseG L rs b := fun h => by
  rw [(mem_thoseG.1 h).2.1] at ht; cases ht
theorem there_at {L : List AObj} {i : Nat} {o : AObj} (h : L[i]? = some o) : thereG L ((i : Int) + 1) = !decide (o.kind = 0) := by unfold thereG; rw [objG_nat, h]
theorem kids_at {L : List AObj} {i : Nat} {o : AObj} (h : L[i]? = some o) : kids L ((i : Int) + 1) = refsV o.slots := by unfold kids; rw [objG_nat, h]
/-- how many of the first k are there -/
def thereN (L : List AObj) (k : Nat) : Nat := ((List.range k).filter fun (i : Nat) => thereG L ((i : Int) + 1)).length
theorem thereN_succ (L : List AObj) (k : Nat) : thereN L (k + 1) = thereN L k + if thereG L ((k : Int) + 1) then 1 else 0 := by
  unfold thereN
  rw [List.range_succ, List.filter_append, List.length_append]
  congr 1
  cases h : thereG L ((k : Int) + 1) <;> simp [h]
theorem thereN_le (L : List AObj) (k : Nat) : thereN L k ≤ k := by
  unfold thereN
  have := List.length_filter_le (fun (i : Nat) => thereG L ((i : Int) + 1)) (List.range k)
  simpa using this
theorem filter_two {α : Type} (p q : α → Bool) : ∀ l : List α, (l.filter fun x => p x && (q x == true)).length + (l.filter fun x => p x && (q x == false)).length = (l.filter p).length
  | [] => rfl
  | x :: l => by
    have := filter_two p q l
    cases hp : p x <;> cases hq : q x <;> simp [hp, hq] at this ⊢ <;> omega
theorem thoseG_two {L : List AObj} (hok : okG L = true) (rs : List Int) : (thoseG L rs true).length + (thoseG L rs false).length = thereN L L.length := by
  unfold thoseG thereN
  rw [if_pos hok, if_pos hok, filter_two (thereG L) (fun n => decide (n ∈ markL L rs)), List.filter_map, List.length_map]
  rfl
theorem thoseG_no {L : List AObj} (h : okG L = false) (rs : List Int) (b : Bool) : thoseG L rs b = [] := by unfold thoseG; rw [h]; rfl
end Go.Proofs.Ytmngkodejlhalaa.Tw
namespace Go.Proofs.Ytmngkodejlhalaa.Tw
set_option linter.unusedVariables false
set_option linter.unusedSimpArgs false
open Go Go.RowKit Go.MapKept

attribute [local go_sem] lookE lkE valUpon
section
variable {w0 w : World} {SR F : HP} {ga : Option Addr} {n c : Nat} {X : List XObj}
theorem Sat.drop2' {A B C F : HP} (h : Sat w0 w (A * (B * (C * F)))) : Sat w0 w (A * (B * F)) := h.p3.drop
/-- what is reached is marked -/
def ReachedP (w0 w' : World) (L : List AObj) (rs : List Int) (n sb : Nat) (G : HP) : Prop := ∃ S, S.length = n ∧ (∀ x, mkd S x ↔ RS L rs x) ∧ Sat w0 w' (rowB sb S * G)
def blOf : Value → Nat
  | .bool true => 1
  | _ => 0
set_option maxRecDepth 100000 in
set_option maxHeartbeats 4000000 in
theorem ref_reached {a : Option Addr} {n1 c1 : Nat} {l : List AVal} (h : Sat w0 w (SR * F)) (hG : SrcO w0 SR ga n c X) (hS : SrcV w0 SR a n1 c1 l) (hn1 : n1 ≤ 1000000) (hok : okG (X.map (·.1)) = true) :
    Calls Try.prog 48 #[.agg #[.slice ga n c], .slice a n1 c1] w fun e w' => ∃ sb, e = .returned (.slice (some ⟨sb, 0, none⟩) n n) ∧ ReachedP w0 w' (X.map (·.1)) (refsV l) n sb (SR * F) := by
  have h1 := h.alloc (.cells #[.slice ga n c] 24)
  generalize hgb : w.heap.size = gb at *
  have c0 := boxG h1
  have hcap := hG.cap
  have hsm := hG.small
  have hXl : (X.map (·.1)).length = n := by rw [List.length_map, hG.len]
  obtain ⟨i0, hi, hz0, hz1, hz2⟩ := info_parts info_boolF
  have hmk := run_makeSlice (P := Try.prog) (w := w.alloc (.cells #[.slice ga n c] 24)) 57 4 i0 _ Try.underlying57 hi hz0 .i64 .i64 (n : Int) (n : Int) (by omega) (by omega) (by rw [hz1]; omega) (by rw [hz2]; omega) (by omega)
  have h2 := h1.alloc (.cells (madeCells #[.bool false] n) 4)
  rw [size_alloc, hgb] at h2
  have h3 := h2.madeRow
  rw [hz1] at hmk
  have hss : (w.alloc (.cells #[.slice ga n c] 24)).heap.size = gb + 1 := by rw [size_alloc, hgb]
  rw [hss, Nat.mul_one] at hmk
  replace hmk : (Instr.makeSlice 57 (.int .i64 (n : Int)) (.int .i64 (n : Int))).run Try.prog (w.alloc (.cells #[.slice ga n c] 24)) = .ok (.slice (some ⟨gb + 1, 0, none⟩) n n) ((w.alloc (.cells #[.slice ga n c] 24)).alloc (.cells (madeCells #[.bool false] n) 4)) := hmk
  have g1 := boxG h3.p2
  generalize hsb : gb + 1 = sb at *
  have H3 := Lib.hid (show Sat w0 _ (rowB sb (List.replicate n false) * (SR * (pt gb (.cells #[.slice ga n c] 24 (0, 0)) * F))) from h3.cast (by ac_rfl))
  obtain ⟨rs, hrs⟩ : ∃ r, refsV l = r := ⟨_, rfl⟩
  have HO0 := Lib.hid (ref_objects H3.out hG hS hn1 (by simp))
  rw [hrs] at HO0
  have HST := Lib.hid (show Mks (X.map (·.1)) rs (markS (X.map (·.1)) (List.replicate n false) rs) ∧ (moreS (X.map (·.1)) (List.replicate n false) rs = false → ClosedG (X.map (·.1)) (markS (X.map (·.1)) (List.replicate n false) rs)) from by
    rw [← hXl]; exact ⟨Mks.start, Mks.closed0⟩)
  generalize markS (X.map (·.1)) (List.replicate n false) rs = S0 at *
  generalize moreS (X.map (·.1)) (List.replicate n false) rs = m0 at *
  have HOB0 := Lib.hid (fun (S : List Bool) (hSl : S.length = n) (x : XObj) (hx : x ∈ X) (w' : World) (G : HP) (hh : Sat w0 w' (rowB sb S * (SR * G))) => ref_objects hh hG (hG.slots x hx).1 (hG.slots x hx).2 hSl)
  rw [hrs]
  have HG := Lib.hid hG
  have HXL := Lib.hid hXl
  have HOK := Lib.hid hok
  clear h h1 h2 h3 H3 hG hS hrs hXl hok
  go_enter Try.func48, Try.ntmps48
  try rw [hgb]
  go_wp2_with fail
  refine HO0.out.mono ?_
  rintro e w1 ⟨rfl, h4⟩
  have H4 := Lib.hid h4
  clear h4 HO0 c0 g1 hmk
  go_wp2_with fail
  go_loopw [6] (fun mv wr => ∃ (mb : Bool) (S : List Bool), mv = .bool mb ∧ Hid (Mks (X.map (·.1)) rs S) ∧ Hid (mb = false → ClosedG (X.map (·.1)) S) ∧ Sat w0 wr (rowB sb S * (SR * (pt gb (.cells #[.slice ga n c] 24 (0, 0)) * F)))) (fun mv wr => 2 * falses wr sb + blOf mv)
  case atStart => exact ⟨m0, S0, rfl, Lib.hid HST.out.1, Lib.hid HST.out.2, H4.out⟩
  case round =>
    clear H4 HST
    obtain ⟨mb, S, rfl, hm, hc, hs⟩ := hrel
    have hSl : S.length = n := by rw [hm.out.len, HXL.out]
    cases mb with
    | false =>
      have HS := Lib.hid hs
      have HC := Lib.hid (hc.out rfl)
      clear hs hc
      go_wp2_with fail
      go_ret
      exact ⟨sb, rfl, S, hSl, fun x => Mks.done HOK.out hm.out HC.out x, HS.out.drop2'⟩
    | true =>
      have HFO := Lib.hid (falses_row hs)
      have HS := Lib.hid hs
      obtain ⟨wo, hwo⟩ : ∃ wo : World, wo = wr := ⟨_, rfl⟩
      have g0 := boxG hs.p3
      rw [← hwo] at HFO
      clear hs hc
      go_wp2_with fail
      go_loopw [6, 7] (fun mv iv wr => ∃ (k : Nat) (m2 : Bool) (S2 : List Bool), iv = .int .i64 k ∧ k ≤ n ∧ mv = .bool m2 ∧ Hid (Pass (X.map (·.1)) rs S k m2 S2) ∧ Sat w0 wr (rowB sb S2 * (SR * (pt gb (.cells #[.slice ga n c] 24 (0, 0)) * F)))) (fun _ iv _ => n - (intOf iv).toNat)
      case atStart => exact ⟨0, false, S, rfl, by omega, rfl, Lib.hid (Pass.start hm.out), HS.out⟩
      case round =>
        clear HS g0
        obtain ⟨k, m2, S2, rfl, hk, rfl, hp, hs⟩ := hrel
        have g0 := boxG hs.p3
        by_cases hlt : k < n
        · obtain ⟨x, hx, g, off, ega, _, _, d2, _, _⟩ := HG.out.at hs.p2 hlt
          have hS2l : S2.length = n := by rw [hp.out.m.len, HXL.out]
          have hkid : kids (X.map (·.1)) ((k : Int) + 1) = refsV x.1.slots := kids_at (by rw [List.getElem?_map, hx]; rfl)
          have hmem := List.mem_of_getElem? hx
          have hXC : ∀ (w' : World) (G : HP), Sat w0 w' (SR * G) → w'.cell? ⟨g, off + k * 5 + 2, none⟩ = some (.slice x.2.1 x.1.slots.length x.2.2) := fun w' G hh => by
            obtain ⟨x', hx', g', off', e', _, _, y2, _⟩ := HG.out.at hh hlt
            rw [hx] at hx'; cases hx'
            rw [ega] at e'; cases e'
            exact y2
          have hOB := HOB0.out S2 hS2l x hmem
          have hsb : S2[k]? = some (S2[k]'(by rw [hS2l]; exact hlt)) := List.getElem?_eq_getElem _
          generalize S2[k]'(by rw [hS2l]; exact hlt) = bk at hsb
          have hnxt := hp.out.next
          rw [hkid] at hnxt
          have hskp := hp.out.skip
          obtain ⟨mn, hmn⟩ : ∃ b, moreS (X.map (·.1)) S2 (refsV x.1.slots) = b := ⟨_, rfl⟩
          obtain ⟨S3, hS3⟩ : ∃ s, markS (X.map (·.1)) S2 (refsV x.1.slots) = s := ⟨_, rfl⟩
          rw [hmn, hS3] at hnxt hOB
          obtain ⟨⟨xk, xcc, xsl, xtx, xm⟩, xa, xc⟩ := x
          dsimp only at hXC hOB
          subst ega
          have HXC := Lib.hid hXC
          have HOB := Lib.hid hOB
          have HSB := Lib.hid hsb
          have HS := Lib.hid (show Sat w0 wr (pt gb (.cells #[.slice (some ⟨g, off, none⟩) n c] 24 (0, 0)) * (rowB sb S2 * (SR * F))) from hs.cast (by ac_rfl))
          have hk2 : (0 : Int) ≤ (k : Int) := by omega
          have hk3 : (k : Int) < (n : Int) := by omega
          cases bk with
          | false =>
            have HN := Lib.hid (hskp (fun q => by have := mkd_nat.1 q; rw [hsb] at this; cases this))
            clear hs d2 hXC hOB hx hmem hkid hsb hnxt hskp hmn hS3
            go_wp2_with fail
            clear g0
            refine wp_gen fun a0 ha => ?_
            have hb2 : base a0 2 = .pointer (some ⟨gb, 0, none⟩) := by rw [ha]; rfl
            have hb5 : base a0 5 = .slice (some ⟨sb, 0, none⟩) n n := by rw [ha]; rfl
            have hb7 : base a0 7 = .int .i64 k := by rw [ha]; rfl
            have hsz0 : a0.tmps.size = 40 := by rw [ha]; rfl
            have HA0 := Lib.hid (And.intro hsz0 ha)
            clear ha hsz0
            refine GW.start (X := Option Addr × Nat) (w0 := w0) (B := [pt gb (.cells #[.slice (some ⟨g, off, none⟩) n c] 24 (0, 0)), rowB sb S2, SR, F]) (a0 := a0) ?_
            refine GW.det (d := (some 24)) [] [] rfl (fun e => by rfl) ?_; apply Exists.intro; refine ⟨fun e w' F hs => ?_, ?_, ?_⟩
            · first | (go_simp; done) | (go_simp; rfl)
            · exact (fun _ _ _ => rfl)
            refine GW.det (d := (some 25)) [] [] rfl (fun e => by rfl) ?_; apply Exists.intro; refine ⟨fun e w' F hs => ?_, ?_, ?_⟩
            · first | (go_simp; done) | (go_simp; rfl)
            · exact (fun _ _ _ => rfl)
            refine GW.det (d := (some 26)) [] [] rfl (fun e => by rfl) ?_; apply Exists.intro; refine ⟨fun e w' F hs => ?_, ?_, ?_⟩
            · first | (go_simp; done) | (go_simp; rfl)
            · exact (fun _ _ _ => rfl)
            refine GW.det (d := (some 27)) [1] [] rfl (fun e => by rfl) ?_; apply Exists.intro; refine ⟨fun e w' F hs => ?_, ?_, ?_⟩
            · have y0 := (rowCell (show Sat w0 w' (rowB sb S2 * F) from hs) HSB.out).1; first | (go_simp; done) | (go_simp; rfl)
            · exact (fun _ _ _ => rfl)
            refine GW.det (d := (some 28)) [] [] rfl (fun e => by rfl) ?_; apply Exists.intro; refine ⟨fun e w' F hs => ?_, ?_, ?_⟩
            · first | (go_simp; done) | (go_simp; rfl)
            · exact (fun _ _ _ => rfl)
            refine GW.skip (d := (some 29)) rfl (fun e => by rfl) ?_
            refine GW.skip (d := (some 30)) rfl (fun e => by rfl) ?_
            refine GW.skip (d := (some 31)) rfl (fun e => by rfl) ?_
            refine GW.skip (d := (some 32)) rfl (fun e => by rfl) ?_
            refine GW.skip (d := (some 33)) rfl (fun e => by rfl) ?_
            refine GW.skip (d := (some 34)) rfl (fun e => by rfl) ?_
            refine GW.skip (d := (some 35)) rfl (fun e => by rfl) ?_
            refine GW.skip (d := (some 36)) rfl (fun e => by rfl) ?_
            refine GW.skip (d := (some 37)) rfl (fun e => by rfl) ?_
            refine GW.det (d := (some 38)) [] [] rfl (fun e => by rfl) ?_; apply Exists.intro; refine ⟨fun e w' F hs => ?_, ?_, ?_⟩
            · first | (go_simp; done) | (go_simp; rfl)
            · exact (fun _ _ _ => rfl)
            refine GW.done (sz := 40) [0, 1, 2, 3] (by kernel_rfl) (by kernel_rfl) HA0.out.1 (by rfl) HS.out (by rfl) fun e w3 gg => ?_
            have ha := HA0.out.2
            subst ha
            clear HA0 hb2 hb5 hb7
            simp only [putL, Act.put, List.setIfInBounds_toArray, List.set_cons_zero, List.set_cons_succ]
            have h9 := Lib.hid (show Sat w0 w3 (rowB sb S2 * (SR * (pt gb (.cells #[.slice (some ⟨g, off, none⟩) n c] 24 (0, 0)) * F))) from (show Sat w0 w3 (pt gb (.cells #[.slice (some ⟨g, off, none⟩) n c] 24 (0, 0)) * (rowB sb S2 * (SR * F))) from gg).cast (by ac_rfl))
            clear gg HS
            go_wp2_with fail
            go_roundw
            case rel => exact ⟨k + 1, m2, S2, by go_num, by omega, rfl, Lib.hid HN.out, h9.out⟩
            case measure => simp [intOf]; omega
          | true =>
            have HN := Lib.hid (hnxt (mkd_nat.2 hsb))
            clear hs d2 hXC hOB hx hmem hkid hsb hnxt hskp hmn hS3
            cases mn with
            | true =>
              go_wp2_with fail
              clear g0
              refine wp_gen fun a0 ha => ?_
              have hb2 : base a0 2 = .pointer (some ⟨gb, 0, none⟩) := by rw [ha]; rfl
              have hb5 : base a0 5 = .slice (some ⟨sb, 0, none⟩) n n := by rw [ha]; rfl
              have hb7 : base a0 7 = .int .i64 k := by rw [ha]; rfl
              have hsz0 : a0.tmps.size = 40 := by rw [ha]; rfl
              have HA0 := Lib.hid (And.intro hsz0 ha)
              clear ha hsz0
              refine GW.start (X := Option Addr × Nat) (w0 := w0) (B := [pt gb (.cells #[.slice (some ⟨g, off, none⟩) n c] 24 (0, 0)), rowB sb S2, SR, F]) (a0 := a0) ?_
              refine GW.det (d := (some 24)) [] [] rfl (fun e => by rfl) ?_; apply Exists.intro; refine ⟨fun e w' F hs => ?_, ?_, ?_⟩
              · first | (go_simp; done) | (go_simp; rfl)
              · exact (fun _ _ _ => rfl)
              refine GW.det (d := (some 25)) [] [] rfl (fun e => by rfl) ?_; apply Exists.intro; refine ⟨fun e w' F hs => ?_, ?_, ?_⟩
              · first | (go_simp; done) | (go_simp; rfl)
              · exact (fun _ _ _ => rfl)
              refine GW.det (d := (some 26)) [] [] rfl (fun e => by rfl) ?_; apply Exists.intro; refine ⟨fun e w' F hs => ?_, ?_, ?_⟩
              · first | (go_simp; done) | (go_simp; rfl)
              · exact (fun _ _ _ => rfl)
              refine GW.det (d := (some 27)) [1] [] rfl (fun e => by rfl) ?_; apply Exists.intro; refine ⟨fun e w' F hs => ?_, ?_, ?_⟩
              · have y0 := (rowCell (show Sat w0 w' (rowB sb S2 * F) from hs) HSB.out).1; first | (go_simp; done) | (go_simp; rfl)
              · exact (fun _ _ _ => rfl)
              refine GW.det (d := (some 28)) [] [] rfl (fun e => by rfl) ?_; apply Exists.intro; refine ⟨fun e w' F hs => ?_, ?_, ?_⟩
              · first | (go_simp; done) | (go_simp; rfl)
              · exact (fun _ _ _ => rfl)
              refine GW.det (d := (some 29)) [0] [] rfl (fun e => by rfl) ?_; apply Exists.intro; refine ⟨fun e w' F hs => ?_, ?_, ?_⟩
              · have y0 := boxG (show Sat w0 w' (pt gb (.cells #[.slice (some ⟨g, off, none⟩) n c] 24 (0, 0)) * F) from hs); first | (go_simp; done) | (go_simp; rfl)
              · exact (fun _ _ _ => rfl)
              refine GW.det (d := (some 30)) [] [] rfl (fun e => by rfl) ?_; apply Exists.intro; refine ⟨fun e w' F hs => ?_, ?_, ?_⟩
              · first | (go_simp; done) | (go_simp; rfl)
              · exact (fun _ _ _ => rfl)
              refine GW.det (d := (some 31)) [0] [] rfl (fun e => by rfl) ?_; apply Exists.intro; refine ⟨fun e w' F hs => ?_, ?_, ?_⟩
              · have y0 := boxG (show Sat w0 w' (pt gb (.cells #[.slice (some ⟨g, off, none⟩) n c] 24 (0, 0)) * F) from hs); first | (go_simp; done) | (go_simp; rfl)
              · exact (fun _ _ _ => rfl)
              refine GW.det (d := (some 32)) [] [] rfl (fun e => by rfl) ?_; apply Exists.intro; refine ⟨fun e w' F hs => ?_, ?_, ?_⟩
              · first | (go_simp; done) | (go_simp; rfl)
              · exact (fun _ _ _ => rfl)
              refine GW.det (d := (some 33)) [] [] rfl (fun e => by rfl) ?_; apply Exists.intro; refine ⟨fun e w' F hs => ?_, ?_, ?_⟩
              · first | (go_simp; done) | (go_simp; rfl)
              · exact (fun _ _ _ => rfl)
              refine GW.det (d := (some 34)) [] [] rfl (fun e => by rfl) ?_; apply Exists.intro; refine ⟨fun e w' F hs => ?_, ?_, ?_⟩
              · first | (go_simp; done) | (go_simp; rfl)
              · exact (fun _ _ _ => rfl)
              refine GW.det (d := (some 35)) [2] [] rfl (fun e => by rfl) ?_; apply Exists.intro; refine ⟨fun e w' F hs => ?_, ?_, ?_⟩
              · have y0 := HXC.out w' _ (show Sat w0 w' (SR * F) from hs); first | (go_simp; done) | (go_simp; rfl)
              · exact (fun _ _ _ => rfl)
              refine GW.det (d := (some 36)) [] [] rfl (fun e => by rfl) ?_; apply Exists.intro; refine ⟨fun e w' F hs => ?_, ?_, ?_⟩
              · first | (go_simp; done) | (go_simp; rfl)
              · exact (fun _ _ _ => rfl)
              refine GW.take (d := (some 37)) 13 (fun e => .bool true) (fun e => rowB sb S3) [2] [1] [] rfl rfl (fun e => by rfl) (fun e e' hl => by exact ⟨rfl, rfl⟩) (fun e w' F K hs hK => ?_) ?_
              · go_simp; (refine (HOB.out _ _ ((show Sat w0 w' (SR * (rowB sb S2 * F)) from hs).p2)).mono ?_; rintro e2 w2 ⟨rfl, h2⟩; exact ⟨_, rfl, hK default _ h2.p2⟩)
              refine GW.det (d := (some 38)) [] [] rfl (fun e => by rfl) ?_; apply Exists.intro; refine ⟨fun e w' F hs => ?_, ?_, ?_⟩
              · first | (go_simp; done) | (go_simp; rfl)
              · exact (fun _ _ _ => rfl)
              refine GW.done (sz := 40) [4 + 13, 0, 2, 3] (by kernel_rfl) (by kernel_rfl) HA0.out.1 (by rfl) HS.out (by rfl) fun e w3 gg => ?_
              have ha := HA0.out.2
              subst ha
              clear HA0 hb2 hb5 hb7
              simp only [putL, Act.put, List.setIfInBounds_toArray, List.set_cons_zero, List.set_cons_succ]
              have h9 := Lib.hid (show Sat w0 w3 (rowB sb S3 * (SR * (pt gb (.cells #[.slice (some ⟨g, off, none⟩) n c] 24 (0, 0)) * F))) from (show Sat w0 w3 (rowB sb S3 * (pt gb (.cells #[.slice (some ⟨g, off, none⟩) n c] 24 (0, 0)) * (SR * F))) from gg).cast (by ac_rfl))
              clear gg HS
              go_wp2_with fail
              go_roundw
              case rel => exact ⟨k + 1, true, S3, by go_num, by omega, rfl, Lib.hid HN.out, h9.out⟩
              case measure => simp [intOf]; omega
            | false =>
              go_wp2_with fail
              clear g0
              refine wp_gen fun a0 ha => ?_
              have hb2 : base a0 2 = .pointer (some ⟨gb, 0, none⟩) := by rw [ha]; rfl
              have hb5 : base a0 5 = .slice (some ⟨sb, 0, none⟩) n n := by rw [ha]; rfl
              have hb7 : base a0 7 = .int .i64 k := by rw [ha]; rfl
              have hsz0 : a0.tmps.size = 40 := by rw [ha]; rfl
              have HA0 := Lib.hid (And.intro hsz0 ha)
              clear ha hsz0
              refine GW.start (X := Option Addr × Nat) (w0 := w0) (B := [pt gb (.cells #[.slice (some ⟨g, off, none⟩) n c] 24 (0, 0)), rowB sb S2, SR, F]) (a0 := a0) ?_
              refine GW.det (d := (some 24)) [] [] rfl (fun e => by rfl) ?_; apply Exists.intro; refine ⟨fun e w' F hs => ?_, ?_, ?_⟩
              · first | (go_simp; done) | (go_simp; rfl)
              · exact (fun _ _ _ => rfl)
              refine GW.det (d := (some 25)) [] [] rfl (fun e => by rfl) ?_; apply Exists.intro; refine ⟨fun e w' F hs => ?_, ?_, ?_⟩
              · first | (go_simp; done) | (go_simp; rfl)
              · exact (fun _ _ _ => rfl)
              refine GW.det (d := (some 26)) [] [] rfl (fun e => by rfl) ?_; apply Exists.intro; refine ⟨fun e w' F hs => ?_, ?_, ?_⟩
              · first | (go_simp; done) | (go_simp; rfl)
              · exact (fun _ _ _ => rfl)
              refine GW.det (d := (some 27)) [1] [] rfl (fun e => by rfl) ?_; apply Exists.intro; refine ⟨fun e w' F hs => ?_, ?_, ?_⟩
              · have y0 := (rowCell (show Sat w0 w' (rowB sb S2 * F) from hs) HSB.out).1; first | (go_simp; done) | (go_simp; rfl)
              · exact (fun _ _ _ => rfl)
              refine GW.det (d := (some 28)) [] [] rfl (fun e => by rfl) ?_; apply Exists.intro; refine ⟨fun e w' F hs => ?_, ?_, ?_⟩
              · first | (go_simp; done) | (go_simp; rfl)
              · exact (fun _ _ _ => rfl)
              refine GW.det (d := (some 29)) [0] [] rfl (fun e => by rfl) ?_; apply Exists.intro; refine ⟨fun e w' F hs => ?_, ?_, ?_⟩
              · have y0 := boxG (show Sat w0 w' (pt gb (.cells #[.slice (some ⟨g, off, none⟩) n c] 24 (0, 0)) * F) from hs); first | (go_simp; done) | (go_simp; rfl)
              · exact (fun _ _ _ => rfl)
              refine GW.det (d := (some 30)) [] [] rfl (fun e => by rfl) ?_; apply Exists.intro; refine ⟨fun e w' F hs => ?_, ?_, ?_⟩
              · first | (go_simp; done) | (go_simp; rfl)
              · exact (fun _ _ _ => rfl)
              refine GW.det (d := (some 31)) [0] [] rfl (fun e => by rfl) ?_; apply Exists.intro; refine ⟨fun e w' F hs => ?_, ?_, ?_⟩
              · have y0 := boxG (show Sat w0 w' (pt gb (.cells #[.slice (some ⟨g, off, none⟩) n c] 24 (0, 0)) * F) from hs); first | (go_simp; done) | (go_simp; rfl)
              · exact (fun _ _ _ => rfl)
              refine GW.det (d := (some 32)) [] [] rfl (fun e => by rfl) ?_; apply Exists.intro; refine ⟨fun e w' F hs => ?_, ?_, ?_⟩
              · first | (go_simp; done) | (go_simp; rfl)
              · exact (fun _ _ _ => rfl)
              refine GW.det (d := (some 33)) [] [] rfl (fun e => by rfl) ?_; apply Exists.intro; refine ⟨fun e w' F hs => ?_, ?_, ?_⟩
              · first | (go_simp; done) | (go_simp; rfl)
              · exact (fun _ _ _ => rfl)
              refine GW.det (d := (some 34)) [] [] rfl (fun e => by rfl) ?_; apply Exists.intro; refine ⟨fun e w' F hs => ?_, ?_, ?_⟩
              · first | (go_simp; done) | (go_simp; rfl)
              · exact (fun _ _ _ => rfl)
              refine GW.det (d := (some 35)) [2] [] rfl (fun e => by rfl) ?_; apply Exists.intro; refine ⟨fun e w' F hs => ?_, ?_, ?_⟩
              · have y0 := HXC.out w' _ (show Sat w0 w' (SR * F) from hs); first | (go_simp; done) | (go_simp; rfl)
              · exact (fun _ _ _ => rfl)
              refine GW.det (d := (some 36)) [] [] rfl (fun e => by rfl) ?_; apply Exists.intro; refine ⟨fun e w' F hs => ?_, ?_, ?_⟩
              · first | (go_simp; done) | (go_simp; rfl)
              · exact (fun _ _ _ => rfl)
              refine GW.take (d := (some 37)) 13 (fun e => .bool false) (fun e => rowB sb S3) [2] [1] [] rfl rfl (fun e => by rfl) (fun e e' hl => by exact ⟨rfl, rfl⟩) (fun e w' F K hs hK => ?_) ?_
              · go_simp; (refine (HOB.out _ _ ((show Sat w0 w' (SR * (rowB sb S2 * F)) from hs).p2)).mono ?_; rintro e2 w2 ⟨rfl, h2⟩; exact ⟨_, rfl, hK default _ h2.p2⟩)
              refine GW.det (d := (some 38)) [] [] rfl (fun e => by rfl) ?_; apply Exists.intro; refine ⟨fun e w' F hs => ?_, ?_, ?_⟩
              · first | (go_simp; done) | (go_simp; rfl)
              · exact (fun _ _ _ => rfl)
              refine GW.done (sz := 40) [4 + 13, 0, 2, 3] (by kernel_rfl) (by kernel_rfl) HA0.out.1 (by rfl) HS.out (by rfl) fun e w3 gg => ?_
              have ha := HA0.out.2
              subst ha
              clear HA0 hb2 hb5 hb7
              simp only [putL, Act.put, List.setIfInBounds_toArray, List.set_cons_zero, List.set_cons_succ]
              have h9 := Lib.hid (show Sat w0 w3 (rowB sb S3 * (SR * (pt gb (.cells #[.slice (some ⟨g, off, none⟩) n c] 24 (0, 0)) * F))) from (show Sat w0 w3 (rowB sb S3 * (pt gb (.cells #[.slice (some ⟨g, off, none⟩) n c] 24 (0, 0)) * (SR * F))) from gg).cast (by ac_rfl))
              clear gg HS
              go_wp2_with fail
              go_roundw
              case rel => exact ⟨k + 1, m2, S3, by go_num, by omega, rfl, Lib.hid HN.out, h9.out⟩
              case measure => simp [intOf]; omega
        · obtain rfl : k = n := by omega
          have hfr := falses_row hs
          have HS := Lib.hid hs
          clear hs
          go_wp2_with fail
          go_roundw
          case rel => exact ⟨m2, S2, rfl, Lib.hid hp.out.m, Lib.hid (fun e => by subst e; exact hp.out.closed HXL.out.symm), HS.out⟩
          case measure =>
            rw [hfr]
            have h1 := HFO.out
            rw [hwo] at h1
            rw [h1]
            cases m2 with
            | true => have := hp.out.yes rfl; simp only [blOf]; omega
            | false => rw [(hp.out.no rfl).1]; simp only [blOf]; omega
end
end Go.Proofs.Ytmngkodejlhalaa.Tw
