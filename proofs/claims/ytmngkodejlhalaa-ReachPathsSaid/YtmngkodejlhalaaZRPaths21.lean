/- tallowref11: There, objects. No condition. -/
import Derived.Test.YtmngkodejlhalaaZRPaths19
import Derived.Test.YtmngkodejlhalaaZRPaths20
import Derived.Test.YtmngkodejlhalaaZRPaths9
namespace Go.Proofs.Ytmngkodejlhalaa.Tw
set_option linter.unusedVariables false
set_option linter.unusedSimpArgs false
open Go Go.RowKit Go.MapKept

attribute [local go_sem] lookE lkE valUpon
section
variable {w0 w : World} {SR F : HP} {ga : Option Addr} {n c : Nat} {X : List XObj}
set_option maxHeartbeats 1000000 in
theorem ref_There (h : Sat w0 w (SR * F)) (hG : SrcO w0 SR ga n c X) (x : Int) {b : Bool} (hb : thereG (X.map (·.1)) x = b) :
    Calls Try.prog 58 #[.agg #[.slice ga n c], .int .i64 x] w fun e w' => e = .returned (.bool b) ∧ Sat w0 w' (SR * F) := by
  have h1 := h.alloc (.cells #[.slice ga n c] 24)
  generalize hgb : w.heap.size = gb at *
  have c0 := boxG h1
  have hcap := hG.cap
  have hsm := hG.small
  have HF := Lib.hid h1.drop
  have hlen : (X.map (·.1)).length = n := by rw [List.length_map, hG.len]
  by_cases hlo : 1 ≤ x
  · by_cases hhi : x ≤ n
    · obtain ⟨j, rfl⟩ : ∃ j : Nat, x = (j : Int) + 1 := ⟨(x - 1).toNat, by omega⟩
      have hjn : j < n := by omega
      obtain ⟨y, hy, g, off, ega, d0, _⟩ := hG.at h1.p2 hjn
      subst ega
      have hb' : (y.1.kind != 0) = b := by
        rw [← hb]; unfold thereG; rw [objG_nat, List.getElem?_map, hy]; dsimp only [Option.map]
        by_cases e : y.1.kind = 0 <;> simp [e]
      generalize y.1.kind = yk at *
      have f1 : decide ((1 : Int) ≤ (j : Int) + 1) = true := by simp; omega
      have f2 : decide ((j : Int) + 1 ≤ (n : Int)) = true := by simp; omega
      have hj1 : (j : Int) + 1 - 1 = j := by omega
      have hj2 : (0 : Int) ≤ (j : Int) := by omega
      have hj3 : (j : Int) < (n : Int) := by omega
      have hj4 : IntKind.i64.wrap (j : Int) = j := IntWalk.i64_in _ (by omega)
      have HB := Lib.hid hb'
      clear h h1 hG hb hlen hy hb' hlo hhi
      go_enter Try.func58, Try.ntmps58
      try rw [hgb]
      go_wp2_with fail
      go_ret
      exact ⟨by rw [← HB.out]; rfl, HF.out⟩
    · have hno : b = false := by rw [← hb]; unfold thereG objG; rw [if_pos hlo, List.getElem?_eq_none (by rw [hlen]; omega)]
      have f1 : decide ((1 : Int) ≤ x) = true := by simpa using hlo
      have f2 : decide (x ≤ (n : Int)) = false := by simpa using hhi
      clear h h1 hG hb hlen hlo hhi
      go_enter Try.func58, Try.ntmps58
      try rw [hgb]
      go_wp2_with fail
      go_ret
      exact ⟨by rw [hno]; rfl, HF.out⟩
  · have hno : b = false := by rw [← hb]; unfold thereG objG; rw [if_neg hlo]
    have f1 : decide ((1 : Int) ≤ x) = false := by simpa using hlo
    clear h h1 hG hb hlen hlo
    go_enter Try.func58, Try.ntmps58
    try rw [hgb]
    go_wp2_with fail
    go_ret
    exact ⟨by rw [hno]; rfl, HF.out⟩
set_option maxRecDepth 100000 in
set_option maxHeartbeats 4000000 in
theorem ref_objects {sb : Nat} {S : List Bool} {a : Option Addr} {n1 c1 : Nat} {l : List AVal} (h : Sat w0 w (rowB sb S * (SR * F))) (hG : SrcO w0 SR ga n c X) (hS : SrcV w0 SR a n1 c1 l) (hn1 : n1 ≤ 1000000) (hl : S.length = n) :
    Calls Try.prog 85 #[.agg #[.slice ga n c], .slice a n1 c1, .slice (some ⟨sb, 0, none⟩) n n] w fun e w' => e = .returned (.bool (moreS (X.map (·.1)) S (refsV l))) ∧ Sat w0 w' (rowB sb (markS (X.map (·.1)) S (refsV l)) * (SR * F)) := by
  have h1 := h.alloc (.cells #[.slice ga n c] 24)
  generalize hgb : w.heap.size = gb at *
  have hcap := hG.cap
  have hsm := hG.small
  have hXl : (X.map (·.1)).length = n := by rw [List.length_map, hG.len]
  have HRF := Lib.hid (ref_Refs (h1.p3) hS hn1)
  have HT := Lib.hid (fun (x : Int) (b : Bool) (e : thereG (X.map (·.1)) x = b) (w' : World) (G : HP) (hh : Sat w0 w' (SR * G)) => ref_There hh hG x e)
  obtain ⟨refs, hrefs⟩ : ∃ r, refsV l = r := ⟨_, rfl⟩
  have hpos : ∀ x ∈ refs, 1 ≤ x ∧ x ≤ 2147483647 := fun x hx => refsV_pos (l := l) (by rw [hrefs]; exact hx)
  have hml : refs.length ≤ 1000000 := by
    rw [← hrefs]
    have := refsV_len l n1
    rw [List.take_of_length_le (by rw [hS.2.1]; exact Nat.le_refl _)] at this
    omega
  obtain ⟨m, hm⟩ : ∃ m, refs.length = m := ⟨_, rfl⟩
  rw [hrefs, hm] at HRF
  rw [hm] at hml
  rw [hrefs]
  have HPP := Lib.hid (And.intro hm (And.intro hpos (And.intro hl hXl)))
  clear h h1 hG hS hrefs hm hpos hl hXl
  go_enter Try.func85, Try.ntmps85
  try rw [hgb]
  go_wp2_with fail
  refine HRF.out.mono ?_
  rintro e w1 ⟨ra, rc, rfl, h2⟩
  clear HRF
  have H2 := Lib.hid (show Sat w0 w1 (pt gb (.cells #[.slice ga n c] 24 (0, 0)) * (slc 3 1 ra m rc (refs.map ival) * (rowB sb S * (SR * F)))) from h2.cast (by ac_rfl))
  clear h2
  go_wp2_with fail
  go_loopw [7, 9] (fun mv iv wr => ∃ k : Nat, iv = .int .i64 k ∧ k ≤ m ∧ mv = .bool (moreS (X.map (·.1)) S (refs.take k)) ∧ Sat w0 wr (pt gb (.cells #[.slice ga n c] 24 (0, 0)) * (slc 3 1 ra m rc (refs.map ival) * (rowB sb (markS (X.map (·.1)) S (refs.take k)) * (SR * F))))) (fun _ iv _ => m - (intOf iv).toNat)
  case atStart => exact ⟨0, rfl, by omega, by unfold moreS markS; simp, H2.out⟩
  case round =>
    clear H2
    obtain ⟨k, rfl, hk, rfl, hs⟩ := hrel
    by_cases hlt : k < m
    · have ex : refs[k]? = some (refs[k]'(by rw [HPP.out.1]; exact hlt)) := List.getElem?_eq_getElem _
      generalize refs[k]'(by rw [HPP.out.1]; exact hlt) = x at ex
      obtain ⟨hx1, hx2⟩ := HPP.out.2.1 x (List.mem_of_getElem? ex)
      have htk : refs.take (k + 1) = refs.take k ++ [x] := by rw [List.take_add_one, ex]; rfl
      have hSkl : (markS (X.map (·.1)) S (refs.take k)).length = n := by rw [markS_len]; exact HPP.out.2.2.1
      obtain ⟨j, rfl⟩ : ∃ j : Nat, x = (j : Int) + 1 := ⟨(x - 1).toNat, by omega⟩
      have hjt : ((j : Int) + 1 - 1).toNat = j := by omega
      have hnew := moreS_snoc_new (L := X.map (·.1)) (S := S) (l := refs.take k) (n := (j : Int) + 1)
      have hold := moreS_snoc_old (L := X.map (·.1)) (S := S) (l := refs.take k) (n := (j : Int) + 1)
      have hsn := markS_snoc (X.map (·.1)) S (refs.take k) ((j : Int) + 1)
      rw [← htk] at hnew hold hsn
      generalize markS (X.map (·.1)) S (refs.take k) = Sk at *
      obtain ⟨mk, hmk⟩ : ∃ b, moreS (X.map (·.1)) S (refs.take k) = b := ⟨_, rfl⟩
      rw [hmk] at hold ⊢
      obtain ⟨g2, off2, era, _, _⟩ := intCells hs.p2 ex
      subst era
      have HRI := Lib.hid ex
      have HS := Lib.hid hs
      have hj1 : (j : Int) + 1 - 1 = j := by omega
      have hj2 : (0 : Int) ≤ (j : Int) := by omega
      have hj4 : IntKind.i64.wrap (j : Int) = j := IntWalk.i64_in _ (by omega)
      have hk2 : (0 : Int) ≤ (k : Int) := by omega
      have hk3 : (k : Int) < (m : Int) := by omega
      have hno := markB_no (L := X.map (·.1)) (S := Sk) (n := (j : Int) + 1)
      have hyes := markB_yes (L := X.map (·.1)) (S := Sk) (n := (j : Int) + 1)
      rw [hjt] at hno hyes
      clear hs ex htk hmk
      cases hth : thereG (X.map (·.1)) ((j : Int) + 1) with
      | false =>
        have HTH := Lib.hid (fun (w' : World) (G : HP) (hh : Sat w0 w' (SR * G)) => HT.out _ _ hth w' G hh)
        have e0 := hno (.inl hth)
        have HM := Lib.hid (And.intro (hold e0) (hsn.trans e0))
        have HSB : True := trivial
        clear hno hyes hnew hold hsn e0 hth
        go_wp2_with fail
        refine wp_gen fun a0 ha => ?_
        have hb2 : base a0 2 = .slice (some ⟨sb, 0, none⟩) n n := by rw [ha]; rfl
        have hb3 : base a0 3 = .pointer (some ⟨gb, 0, none⟩) := by rw [ha]; rfl
        have hb8 : base a0 8 = .slice (some ⟨g2, off2, none⟩) m rc := by rw [ha]; rfl
        have hb9 : base a0 9 = .int .i64 k := by rw [ha]; rfl
        have hsz0 : a0.tmps.size = 43 := by rw [ha]; rfl
        have HA0 := Lib.hid (And.intro hsz0 ha)
        clear ha hsz0
        refine GW.start (X := Option Addr × Nat) (w0 := w0) (B := [pt gb (.cells #[.slice ga n c] 24 (0, 0)), slc 3 1 (some ⟨g2, off2, none⟩) m rc (refs.map ival), rowB sb Sk, SR, F]) (a0 := a0) ?_
        refine GW.det (d := (some 18)) [0] [] rfl (fun e => by rfl) ?_; apply Exists.intro; refine ⟨fun e w' F hs => ?_, ?_, ?_⟩
        · have y0 := boxG (show Sat w0 w' (pt gb (.cells #[.slice ga n c] 24 (0, 0)) * F) from hs); first | (go_simp; done) | (go_simp; rfl)
        · exact (fun _ _ _ => rfl)
        refine GW.det (d := (some 19)) [] [] rfl (fun e => by rfl) ?_; apply Exists.intro; refine ⟨fun e w' F hs => ?_, ?_, ?_⟩
        · first | (go_simp; done) | (go_simp; rfl)
        · exact (fun _ _ _ => rfl)
        refine GW.det (d := (some 20)) [] [] rfl (fun e => by rfl) ?_; apply Exists.intro; refine ⟨fun e w' F hs => ?_, ?_, ?_⟩
        · first | (go_simp; done) | (go_simp; rfl)
        · exact (fun _ _ _ => rfl)
        refine GW.det (d := (some 21)) [] [] rfl (fun e => by rfl) ?_; apply Exists.intro; refine ⟨fun e w' F hs => ?_, ?_, ?_⟩
        · first | (go_simp; done) | (go_simp; rfl)
        · exact (fun _ _ _ => rfl)
        refine GW.det (d := (some 22)) [1] [] rfl (fun e => by rfl) ?_; apply Exists.intro; refine ⟨fun e w' F hs => ?_, ?_, ?_⟩
        · obtain ⟨g', off', e', y0, _⟩ := intCells (show Sat w0 w' (slc 3 1 (some ⟨g2, off2, none⟩) m rc (refs.map ival) * F) from hs) HRI.out; cases e'; first | (go_simp; done) | (go_simp; rfl)
        · exact (fun _ _ _ => rfl)
        refine GW.keep (d := (some 23)) (fun e => .bool false) [3] [] rfl (fun e => by rfl) (fun _ _ _ => rfl) (fun e w' F K hs hK => ?_) ?_
        · go_simp; (refine (HTH.out _ _ (show Sat w0 w' (SR * F) from hs)).mono ?_; rintro e2 w2 ⟨rfl, h2⟩; exact ⟨_, rfl, hK _ h2⟩)
        refine GW.det (d := (some 24)) [] [] rfl (fun e => by rfl) ?_; apply Exists.intro; refine ⟨fun e w' F hs => ?_, ?_, ?_⟩
        · first | (go_simp; done) | (go_simp; rfl)
        · exact (fun _ _ _ => rfl)
        refine GW.skip (d := (some 25)) rfl (fun e => by rfl) ?_
        refine GW.skip (d := (some 26)) rfl (fun e => by rfl) ?_
        refine GW.skip (d := (some 27)) rfl (fun e => by rfl) ?_
        refine GW.skip (d := (some 28)) rfl (fun e => by rfl) ?_
        refine GW.skip (d := (some 29)) rfl (fun e => by rfl) ?_
        refine GW.skip (d := (some 30)) rfl (fun e => by rfl) ?_
        refine GW.skip (d := (some 31)) rfl (fun e => by rfl) ?_
        refine GW.skip (d := (some 32)) rfl (fun e => by rfl) ?_
        refine GW.skip (d := (some 33)) rfl (fun e => by rfl) ?_
        refine GW.det (d := (some 34)) [] [] rfl (fun e => by rfl) ?_; apply Exists.intro; refine ⟨fun e w' F hs => ?_, ?_, ?_⟩
        · first | (go_simp; done) | (go_simp; rfl)
        · exact (fun _ _ _ => rfl)
        refine GW.done (sz := 43) [0, 1, 2, 3, 4] (by kernel_rfl) (by kernel_rfl) HA0.out.1 (by rfl) HS.out (by rfl) fun e w3 gg => ?_
        have ha := HA0.out.2
        subst ha
        clear HA0 hb2 hb3 hb8 hb9
        simp only [putL, Act.put, List.setIfInBounds_toArray, List.set_cons_zero, List.set_cons_succ]
        have h9 := Lib.hid (show Sat w0 w3 (pt gb (.cells #[.slice ga n c] 24 (0, 0)) * (slc 3 1 (some ⟨g2, off2, none⟩) m rc (refs.map ival) * (rowB sb Sk * (SR * F)))) from gg)
        clear gg HS
        go_wp2_with fail
        go_roundw
        case rel => exact ⟨k + 1, by go_num, by omega, by rw [HM.out.1] <;> rfl, by rw [HM.out.2]; exact h9.out⟩
        case measure => simp [intOf]; omega
      | true =>
        have hjn : j < n := by have := thereG_range hth; rw [HPP.out.2.2.2] at this; omega
        have hj3 : (j : Int) < (n : Int) := by omega
        have HTH := Lib.hid (fun (w' : World) (G : HP) (hh : Sat w0 w' (SR * G)) => HT.out _ _ hth w' G hh)
        have hsb : Sk[j]? = some (Sk[j]'(by rw [hSkl]; exact hjn)) := List.getElem?_eq_getElem _
        generalize Sk[j]'(by rw [hSkl]; exact hjn) = bj at hsb
        have HSB := Lib.hid hsb
        cases bj with
        | true =>
          have e0 := hno (.inr hsb)
          have HM := Lib.hid (And.intro (hold e0) (hsn.trans e0))
          clear hno hyes hnew hold hsn e0 hth hsb
          go_wp2_with fail
          refine wp_gen fun a0 ha => ?_
          have hb2 : base a0 2 = .slice (some ⟨sb, 0, none⟩) n n := by rw [ha]; rfl
          have hb3 : base a0 3 = .pointer (some ⟨gb, 0, none⟩) := by rw [ha]; rfl
          have hb8 : base a0 8 = .slice (some ⟨g2, off2, none⟩) m rc := by rw [ha]; rfl
          have hb9 : base a0 9 = .int .i64 k := by rw [ha]; rfl
          have hsz0 : a0.tmps.size = 43 := by rw [ha]; rfl
          have HA0 := Lib.hid (And.intro hsz0 ha)
          clear ha hsz0
          refine GW.start (X := Option Addr × Nat) (w0 := w0) (B := [pt gb (.cells #[.slice ga n c] 24 (0, 0)), slc 3 1 (some ⟨g2, off2, none⟩) m rc (refs.map ival), rowB sb Sk, SR, F]) (a0 := a0) ?_
          refine GW.det (d := (some 18)) [0] [] rfl (fun e => by rfl) ?_; apply Exists.intro; refine ⟨fun e w' F hs => ?_, ?_, ?_⟩
          · have y0 := boxG (show Sat w0 w' (pt gb (.cells #[.slice ga n c] 24 (0, 0)) * F) from hs); first | (go_simp; done) | (go_simp; rfl)
          · exact (fun _ _ _ => rfl)
          refine GW.det (d := (some 19)) [] [] rfl (fun e => by rfl) ?_; apply Exists.intro; refine ⟨fun e w' F hs => ?_, ?_, ?_⟩
          · first | (go_simp; done) | (go_simp; rfl)
          · exact (fun _ _ _ => rfl)
          refine GW.det (d := (some 20)) [] [] rfl (fun e => by rfl) ?_; apply Exists.intro; refine ⟨fun e w' F hs => ?_, ?_, ?_⟩
          · first | (go_simp; done) | (go_simp; rfl)
          · exact (fun _ _ _ => rfl)
          refine GW.det (d := (some 21)) [] [] rfl (fun e => by rfl) ?_; apply Exists.intro; refine ⟨fun e w' F hs => ?_, ?_, ?_⟩
          · first | (go_simp; done) | (go_simp; rfl)
          · exact (fun _ _ _ => rfl)
          refine GW.det (d := (some 22)) [1] [] rfl (fun e => by rfl) ?_; apply Exists.intro; refine ⟨fun e w' F hs => ?_, ?_, ?_⟩
          · obtain ⟨g', off', e', y0, _⟩ := intCells (show Sat w0 w' (slc 3 1 (some ⟨g2, off2, none⟩) m rc (refs.map ival) * F) from hs) HRI.out; cases e'; first | (go_simp; done) | (go_simp; rfl)
          · exact (fun _ _ _ => rfl)
          refine GW.keep (d := (some 23)) (fun e => .bool true) [3] [] rfl (fun e => by rfl) (fun _ _ _ => rfl) (fun e w' F K hs hK => ?_) ?_
          · go_simp; (refine (HTH.out _ _ (show Sat w0 w' (SR * F) from hs)).mono ?_; rintro e2 w2 ⟨rfl, h2⟩; exact ⟨_, rfl, hK _ h2⟩)
          refine GW.det (d := (some 24)) [] [] rfl (fun e => by rfl) ?_; apply Exists.intro; refine ⟨fun e w' F hs => ?_, ?_, ?_⟩
          · first | (go_simp; done) | (go_simp; rfl)
          · exact (fun _ _ _ => rfl)
          refine GW.det (d := (some 25)) [] [] rfl (fun e => by rfl) ?_; apply Exists.intro; refine ⟨fun e w' F hs => ?_, ?_, ?_⟩
          · first | (go_simp; done) | (go_simp; rfl)
          · exact (fun _ _ _ => rfl)
          refine GW.det (d := (some 26)) [] [] rfl (fun e => by rfl) ?_; apply Exists.intro; refine ⟨fun e w' F hs => ?_, ?_, ?_⟩
          · first | (go_simp; done) | (go_simp; rfl)
          · exact (fun _ _ _ => rfl)
          refine GW.det (d := (some 27)) [] [] rfl (fun e => by rfl) ?_; apply Exists.intro; refine ⟨fun e w' F hs => ?_, ?_, ?_⟩
          · first | (go_simp; done) | (go_simp; rfl)
          · exact (fun _ _ _ => rfl)
          refine GW.det (d := (some 28)) [] [] rfl (fun e => by rfl) ?_; apply Exists.intro; refine ⟨fun e w' F hs => ?_, ?_, ?_⟩
          · first | (go_simp; done) | (go_simp; rfl)
          · exact (fun _ _ _ => rfl)
          refine GW.det (d := (some 29)) [1] [] rfl (fun e => by rfl) ?_; apply Exists.intro; refine ⟨fun e w' F hs => ?_, ?_, ?_⟩
          · obtain ⟨g', off', e', y0, _⟩ := intCells (show Sat w0 w' (slc 3 1 (some ⟨g2, off2, none⟩) m rc (refs.map ival) * F) from hs) HRI.out; cases e'; first | (go_simp; done) | (go_simp; rfl)
          · exact (fun _ _ _ => rfl)
          refine GW.det (d := (some 30)) [] [] rfl (fun e => by rfl) ?_; apply Exists.intro; refine ⟨fun e w' F hs => ?_, ?_, ?_⟩
          · first | (go_simp; done) | (go_simp; rfl)
          · exact (fun _ _ _ => rfl)
          refine GW.det (d := (some 31)) [] [] rfl (fun e => by rfl) ?_; apply Exists.intro; refine ⟨fun e w' F hs => ?_, ?_, ?_⟩
          · first | (go_simp; done) | (go_simp; rfl)
          · exact (fun _ _ _ => rfl)
          refine GW.det (d := (some 32)) [2] [] rfl (fun e => by rfl) ?_; apply Exists.intro; refine ⟨fun e w' F hs => ?_, ?_, ?_⟩
          · have y0 := (rowCell (show Sat w0 w' (rowB sb Sk * F) from hs) HSB.out).1; first | (go_simp; done) | (go_simp; rfl)
          · exact (fun _ _ _ => rfl)
          refine GW.det (d := (some 33)) [] [] rfl (fun e => by rfl) ?_; apply Exists.intro; refine ⟨fun e w' F hs => ?_, ?_, ?_⟩
          · first | (go_simp; done) | (go_simp; rfl)
          · exact (fun _ _ _ => rfl)
          refine GW.det (d := (some 34)) [] [] rfl (fun e => by rfl) ?_; apply Exists.intro; refine ⟨fun e w' F hs => ?_, ?_, ?_⟩
          · first | (go_simp; done) | (go_simp; rfl)
          · exact (fun _ _ _ => rfl)
          refine GW.done (sz := 43) [0, 1, 2, 3, 4] (by kernel_rfl) (by kernel_rfl) HA0.out.1 (by rfl) HS.out (by rfl) fun e w3 gg => ?_
          have ha := HA0.out.2
          subst ha
          clear HA0 hb2 hb3 hb8 hb9
          simp only [putL, Act.put, List.setIfInBounds_toArray, List.set_cons_zero, List.set_cons_succ]
          have h9 := Lib.hid (show Sat w0 w3 (pt gb (.cells #[.slice ga n c] 24 (0, 0)) * (slc 3 1 (some ⟨g2, off2, none⟩) m rc (refs.map ival) * (rowB sb Sk * (SR * F)))) from gg)
          clear gg HS
          go_wp2_with fail
          go_roundw
          case rel => exact ⟨k + 1, by go_num, by omega, by rw [HM.out.1] <;> rfl, by rw [HM.out.2]; exact h9.out⟩
          case measure => simp [intOf]; omega
        | false =>
          obtain ⟨e0, e1⟩ := hyes hth hsb
          have HM := Lib.hid (And.intro (hnew e1) (hsn.trans e0))
          clear hno hyes hnew hold hsn e0 e1 hth hsb
          go_wp2_with fail
          refine wp_gen fun a0 ha => ?_
          have hb2 : base a0 2 = .slice (some ⟨sb, 0, none⟩) n n := by rw [ha]; rfl
          have hb3 : base a0 3 = .pointer (some ⟨gb, 0, none⟩) := by rw [ha]; rfl
          have hb8 : base a0 8 = .slice (some ⟨g2, off2, none⟩) m rc := by rw [ha]; rfl
          have hb9 : base a0 9 = .int .i64 k := by rw [ha]; rfl
          have hsz0 : a0.tmps.size = 43 := by rw [ha]; rfl
          have HA0 := Lib.hid (And.intro hsz0 ha)
          clear ha hsz0
          refine GW.start (X := Option Addr × Nat) (w0 := w0) (B := [pt gb (.cells #[.slice ga n c] 24 (0, 0)), slc 3 1 (some ⟨g2, off2, none⟩) m rc (refs.map ival), rowB sb Sk, SR, F]) (a0 := a0) ?_
          refine GW.det (d := (some 18)) [0] [] rfl (fun e => by rfl) ?_; apply Exists.intro; refine ⟨fun e w' F hs => ?_, ?_, ?_⟩
          · have y0 := boxG (show Sat w0 w' (pt gb (.cells #[.slice ga n c] 24 (0, 0)) * F) from hs); first | (go_simp; done) | (go_simp; rfl)
          · exact (fun _ _ _ => rfl)
          refine GW.det (d := (some 19)) [] [] rfl (fun e => by rfl) ?_; apply Exists.intro; refine ⟨fun e w' F hs => ?_, ?_, ?_⟩
          · first | (go_simp; done) | (go_simp; rfl)
          · exact (fun _ _ _ => rfl)
          refine GW.det (d := (some 20)) [] [] rfl (fun e => by rfl) ?_; apply Exists.intro; refine ⟨fun e w' F hs => ?_, ?_, ?_⟩
          · first | (go_simp; done) | (go_simp; rfl)
          · exact (fun _ _ _ => rfl)
          refine GW.det (d := (some 21)) [] [] rfl (fun e => by rfl) ?_; apply Exists.intro; refine ⟨fun e w' F hs => ?_, ?_, ?_⟩
          · first | (go_simp; done) | (go_simp; rfl)
          · exact (fun _ _ _ => rfl)
          refine GW.det (d := (some 22)) [1] [] rfl (fun e => by rfl) ?_; apply Exists.intro; refine ⟨fun e w' F hs => ?_, ?_, ?_⟩
          · obtain ⟨g', off', e', y0, _⟩ := intCells (show Sat w0 w' (slc 3 1 (some ⟨g2, off2, none⟩) m rc (refs.map ival) * F) from hs) HRI.out; cases e'; first | (go_simp; done) | (go_simp; rfl)
          · exact (fun _ _ _ => rfl)
          refine GW.keep (d := (some 23)) (fun e => .bool true) [3] [] rfl (fun e => by rfl) (fun _ _ _ => rfl) (fun e w' F K hs hK => ?_) ?_
          · go_simp; (refine (HTH.out _ _ (show Sat w0 w' (SR * F) from hs)).mono ?_; rintro e2 w2 ⟨rfl, h2⟩; exact ⟨_, rfl, hK _ h2⟩)
          refine GW.det (d := (some 24)) [] [] rfl (fun e => by rfl) ?_; apply Exists.intro; refine ⟨fun e w' F hs => ?_, ?_, ?_⟩
          · first | (go_simp; done) | (go_simp; rfl)
          · exact (fun _ _ _ => rfl)
          refine GW.det (d := (some 25)) [] [] rfl (fun e => by rfl) ?_; apply Exists.intro; refine ⟨fun e w' F hs => ?_, ?_, ?_⟩
          · first | (go_simp; done) | (go_simp; rfl)
          · exact (fun _ _ _ => rfl)
          refine GW.det (d := (some 26)) [] [] rfl (fun e => by rfl) ?_; apply Exists.intro; refine ⟨fun e w' F hs => ?_, ?_, ?_⟩
          · first | (go_simp; done) | (go_simp; rfl)
          · exact (fun _ _ _ => rfl)
          refine GW.det (d := (some 27)) [] [] rfl (fun e => by rfl) ?_; apply Exists.intro; refine ⟨fun e w' F hs => ?_, ?_, ?_⟩
          · first | (go_simp; done) | (go_simp; rfl)
          · exact (fun _ _ _ => rfl)
          refine GW.det (d := (some 28)) [] [] rfl (fun e => by rfl) ?_; apply Exists.intro; refine ⟨fun e w' F hs => ?_, ?_, ?_⟩
          · first | (go_simp; done) | (go_simp; rfl)
          · exact (fun _ _ _ => rfl)
          refine GW.det (d := (some 29)) [1] [] rfl (fun e => by rfl) ?_; apply Exists.intro; refine ⟨fun e w' F hs => ?_, ?_, ?_⟩
          · obtain ⟨g', off', e', y0, _⟩ := intCells (show Sat w0 w' (slc 3 1 (some ⟨g2, off2, none⟩) m rc (refs.map ival) * F) from hs) HRI.out; cases e'; first | (go_simp; done) | (go_simp; rfl)
          · exact (fun _ _ _ => rfl)
          refine GW.det (d := (some 30)) [] [] rfl (fun e => by rfl) ?_; apply Exists.intro; refine ⟨fun e w' F hs => ?_, ?_, ?_⟩
          · first | (go_simp; done) | (go_simp; rfl)
          · exact (fun _ _ _ => rfl)
          refine GW.det (d := (some 31)) [] [] rfl (fun e => by rfl) ?_; apply Exists.intro; refine ⟨fun e w' F hs => ?_, ?_, ?_⟩
          · first | (go_simp; done) | (go_simp; rfl)
          · exact (fun _ _ _ => rfl)
          refine GW.det (d := (some 32)) [2] [] rfl (fun e => by rfl) ?_; apply Exists.intro; refine ⟨fun e w' F hs => ?_, ?_, ?_⟩
          · have y0 := (rowCell (show Sat w0 w' (rowB sb Sk * F) from hs) HSB.out).1; first | (go_simp; done) | (go_simp; rfl)
          · exact (fun _ _ _ => rfl)
          refine GW.det (d := (some 33)) [] [] rfl (fun e => by rfl) ?_; apply Exists.intro; refine ⟨fun e w' F hs => ?_, ?_, ?_⟩
          · first | (go_simp; done) | (go_simp; rfl)
          · exact (fun _ _ _ => rfl)
          refine GW.det (d := (some 34)) [] [] rfl (fun e => by rfl) ?_; apply Exists.intro; refine ⟨fun e w' F hs => ?_, ?_, ?_⟩
          · first | (go_simp; done) | (go_simp; rfl)
          · exact (fun _ _ _ => rfl)
          refine GW.done (sz := 43) [0, 1, 2, 3, 4] (by kernel_rfl) (by kernel_rfl) HA0.out.1 (by rfl) HS.out (by rfl) fun e w3 gg => ?_
          have ha := HA0.out.2
          subst ha
          clear HA0 hb2 hb3 hb8 hb9
          simp only [putL, Act.put, List.setIfInBounds_toArray, List.set_cons_zero, List.set_cons_succ]
          have h9 := show Sat w0 w3 (pt gb (.cells #[.slice ga n c] 24 (0, 0)) * (slc 3 1 (some ⟨g2, off2, none⟩) m rc (refs.map ival) * (rowB sb Sk * (SR * F)))) from gg
          clear gg HS
          obtain ⟨g', off', e', y0, _⟩ := intCells h9.p2 HRI.out
          cases e'
          have ⟨z0, z1⟩ := rowCell h9.p3 HSB.out
          have h10 := Lib.hid (h9.p3.rowSet j true)
          clear h9
          go_wp2_with fail
          go_roundw
          case rel => exact ⟨k + 1, by go_num, by omega, by rw [HM.out.1] <;> rfl, by rw [HM.out.2]; exact h10.out.cast (by ac_rfl)⟩
          case measure => simp [intOf]; omega
    · obtain rfl : k = m := by omega
      have e0 : refs.take k = refs := List.take_of_length_le (by rw [HPP.out.1]; exact Nat.le_refl _)
      rw [e0] at hs ⊢
      have HS := Lib.hid hs
      clear hs e0
      go_wp2_with fail
      go_ret
      exact ⟨rfl, HS.out.drop.drop⟩
end
end Go.Proofs.Ytmngkodejlhalaa.Tw
namespace Go.Proofs.Ytmngkodejlhalaa.Tw
set_option linter.unusedVariables false
set_option linter.unusedSimpArgs false
open Go Go.RowKit

theorem mem_thoseG {L : List AObj} {rs : List Int} {b : Bool} {n : Int} : n ∈ thoseG L rs b ↔ okG L = true ∧ thereG L n = true ∧ decide (n ∈ markL L rs) = b := by
  unfold thoseG
  by_cases hok : okG L = true
  · rw [if_pos hok]
    simp only [List.mem_filter, List.mem_map, List.mem_range, Bool.and_eq_true, beq_iff_eq]
    constructor
    · rintro ⟨_, h1, h2⟩; exact ⟨hok, h1, h2⟩
    · rintro ⟨_, h1, h2⟩
      have := thereG_range h1
      exact ⟨⟨(n - 1).toNat, by omega, by omega⟩, h1, h2⟩
  · rw [if_neg hok]
    simp [hok]
theorem mem_fromG {L : List AObj} {rs : List Int} {n : Int} : n ∈ thoseG L rs true ↔ okG L = true ∧ RS L rs n := by
  rw [mem_thoseG]
  constructor
  · rintro ⟨h1, h2, h3⟩
    exact ⟨h1, (mem_markL h1 rs n).1 (by simpa using h3)⟩
  · rintro ⟨h1, h2⟩
    exact ⟨h1, h2.there h1, by simpa using (mem_markL h1 rs n).2 h2⟩
theorem mem_lostG {L : List AObj} {rs : List Int} {n : Int} : n ∈ thoseG L rs false ↔ okG L = true ∧ thereG L n = true ∧ ¬ RS L rs n := by
  rw [mem_thoseG]
  constructor
  · rintro ⟨h1, h2, h3⟩
    refine ⟨h1, h2, fun h => ?_⟩
    have := (mem_markL h1 rs n).2 h
    simp [this] at h3
  · rintro ⟨h1, h2, h3⟩
    refine ⟨h1, h2, ?_⟩
    have : ¬ n ∈ markL L rs := fun h => h3 ((mem_markL h1 rs n).1 h)
    simp [this]
theorem thoseG_rising (L : List AObj) (rs : List Int) (b : Bool) : (thoseG L rs b).Pairwise (· < ·) := by
  unfold thoseG
  split
  · refine List.Pairwise.filter _ ?_
    rw [List.pairwise_map]
    refine List.Pairwise.imp ?_ List.pairwise_lt_range
    intro a b h; omega
  · exact .nil
/-- two rising lists with the same members are one -/
theorem rising_ext {l r : List Int} (hl : l.Pairwise (· < ·)) (hr : r.Pairwise (· < ·)) (h : ∀ x, x ∈ l ↔ x ∈ r) : l = r := by
  have hp : l.Perm r := (List.perm_ext_iff_of_nodup (hl.imp fun h => by omega) (hr.imp fun h => by omega)).2 h
  exact hp.eq_of_pairwise (fun a b _ _ h1 h2 => by omega) hl hr
theorem RS.more {L : List AObj} {r1 r2 : List Int} {n : Int} (h : RS L r1 n) : RS L (r1 ++ r2) n := by
  obtain ⟨r, h1, h2⟩ := h
  exact ⟨r, List.mem_append.2 (.inl h1), h2⟩
theorem from_more {L : List AObj} {r1 r2 : List Int} {n : Int} (h : n ∈ thoseG L r1 true) : n ∈ thoseG L (r1 ++ r2) true := by
  rw [mem_fromG] at *
  exact ⟨h.1, h.2.more⟩
theorem from_again (L : List AObj) (rs : List Int) : thoseG L (thoseG L rs true) true = thoseG L rs true := by
  refine rising_ext (thoseG_rising _ _ _) (thoseG_rising _ _ _) fun n => ?_
  rw [mem_fromG, mem_fromG]
  constructor
  · rintro ⟨h1, r, hr, ht, hg⟩
    obtain ⟨_, a, ha, ht', hg'⟩ := mem_fromG.1 hr
    exact ⟨h1, a, ha, ht', hg'.trans hg⟩
  · rintro ⟨h1, h2⟩
    exact ⟨h1, n, mem_fromG.2 ⟨h1, h2⟩, h2.there h1, .refl⟩
theorem refsV_append (l r : List AVal) : refsV (l ++ r) = refsV l ++ refsV r := by unfold refsV; rw [List.filter_append, List.map_append]
/-- numbers as the values of cells -/
theorem refsV_cells {l : List Int} (h : ∀ x ∈ l, 1 ≤ x ∧ x ≤ 2147483647) : refsV (l.map fun x => (⟨9, x⟩ : AVal)) = l := by
  unfold refsV
  rw [List.filter_eq_self.2, List.map_map]
  · exact (List.map_congr_left fun _ _ => rfl).trans (List.map_id _)
  · intro v hv
    obtain ⟨x, hx, rfl⟩ := List.mem_map.1 hv
    have := h x hx
    simp [refV, mayV, within, this]
theorem thoseG_in {L : List AObj} {rs : List Int} {b : Bool} {n : Int} (h : n ∈ thoseG L rs b) : 1 ≤ n ∧ n ≤ L.length := thereG_range (mem_thoseG.1 h).2.1
theorem thoseG_len (L : List AObj) (rs : List Int) (b : Bool) : (thoseG L rs b).length ≤ L.length := nodup_len L.length _ ((thoseG_rising L rs b).imp fun h => by omega) fun x hx => thoseG_in hx
end Go.Proofs.Ytmngkodejlhalaa.Tw
