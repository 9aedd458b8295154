/- tallowref10: obj, Check. No condition. -/
import Derived.Test.YtmngkodejlhalaaZRPaths16
import Derived.Test.YtmngkodejlhalaaZRPaths18
namespace Go.Proofs.Ytmngkodejlhalaa.Tw
set_option linter.unusedVariables false
set_option linter.unusedSimpArgs false
open Go Go.RowKit Go.MapKept

attribute [local go_sem] lookE lkE valUpon
section
variable {w0 w : World} {SR F : HP} {ga : Option Addr} {n c : Nat} {X : List XObj}
set_option maxRecDepth 100000 in
set_option maxHeartbeats 8000000 in
theorem ref_obj (h : Sat w0 w (SR * F)) (hG : SrcO w0 SR ga n c X) {k cc m : Int} {a : Option Addr} {sc : Nat} {tx : ByteArray} {l : List AVal} (hS : SrcV w0 SR a l.length sc l) (hn : l.length ≤ 1000000) :
    Calls Try.prog 84 #[.agg #[.slice ga n c], .agg #[.int .i64 k, .int .i64 cc, .slice a l.length sc, .string tx, .int .i64 m]] w fun e w' => e = .returned (.bool (objOk (X.map (·.1)) ⟨k, cc, l, tx, m⟩)) ∧ Sat w0 w' (SR * F) := by
  have hb := (h.alloc (.cells #[.slice ga n c] 24)).alloc (.cells #[.int .i64 k, .int .i64 cc, .slice a l.length sc, .string tx, .int .i64 m] 39)
  rw [size_alloc] at hb
  generalize hgb : w.heap.size = gb at *
  obtain ⟨c0, c1, c2, c3, c4⟩ := boxO hb
  by_cases k0 : k = 0
  · have hres : objOk (X.map (·.1)) ⟨k, cc, l, tx, m⟩ = (decide (cc = 0) && decide (l.length = 0) && noText tx && decide (m = 0)) := by unfold objOk; rw [if_pos k0]
    have HRES := Lib.hid hres
    subst k0
    clear hres hS hG
    have HF := Lib.hid (fun o1 o2 => ((h.alloc o1).alloc o2).drop.drop)
    clear hb h
    go_enter Try.func84, Try.ntmps84
    try rw [hgb]
    go_wp2
    all_goals
      go_ret
      refine ⟨?_, HF.out _ _⟩
      rw [HRES.out]
      simp [noText, *]
      try (rw [Bool.eq_iff_iff]; simp)
  · have hres : objOk (X.map (·.1)) ⟨k, cc, l, tx, m⟩ = ((decide (5 ≤ k) && decide (k ≤ 9) && decide (0 ≤ cc) && decide (-1 ≤ m)) && f2B (decide (k = 5)) l.length tx && l.all (slotOk (X.map (·.1)))) := by
      unfold objOk; rw [if_neg k0]; unfold f2B
      by_cases h5 : k = 5 <;> simp [h5]
    have HRES := Lib.hid hres
    have HF := Lib.hid hb
    have fk0 : (k == 0) = false := by simpa using k0
    have HK0 := Lib.hid k0
    clear hres k0
    by_cases k1 : k < 5
    · have f1 : decide (k < 5) = true := by simpa using k1
      have HN := Lib.hid (show objOk (X.map (·.1)) ⟨k, cc, l, tx, m⟩ = false by rw [HRES.out, show decide (5 ≤ k) = false by simp; omega]; simp)
      clear k1
      go_enter Try.func84, Try.ntmps84
      try rw [hgb]
      go_wp2_with fail
      go_ret
      exact ⟨by rw [HN.out]; rfl, HF.out.drop.drop⟩
    have f1 : decide (k < 5) = false := by simpa using k1
    by_cases k2 : 9 < k
    · have f2 : decide (9 < k) = true := by simpa using k2
      have HN := Lib.hid (show objOk (X.map (·.1)) ⟨k, cc, l, tx, m⟩ = false by rw [HRES.out, show decide (k ≤ 9) = false by simp; omega]; simp)
      clear k1 k2
      go_enter Try.func84, Try.ntmps84
      try rw [hgb]
      go_wp2_with fail
      go_ret
      exact ⟨by rw [HN.out]; rfl, HF.out.drop.drop⟩
    have f2 : decide (9 < k) = false := by simpa using k2
    by_cases k3 : cc < 0
    · have f3 : decide (cc < 0) = true := by simpa using k3
      have HN := Lib.hid (show objOk (X.map (·.1)) ⟨k, cc, l, tx, m⟩ = false by rw [HRES.out, show decide (0 ≤ cc) = false by simp; omega]; simp)
      clear k1 k2 k3
      go_enter Try.func84, Try.ntmps84
      try rw [hgb]
      go_wp2_with fail
      go_ret
      exact ⟨by rw [HN.out]; rfl, HF.out.drop.drop⟩
    have f3 : decide (cc < 0) = false := by simpa using k3
    by_cases k4 : m < -1
    · have f4 : decide (m < -1) = true := by simpa using k4
      have HN := Lib.hid (show objOk (X.map (·.1)) ⟨k, cc, l, tx, m⟩ = false by rw [HRES.out, show decide (-1 ≤ m) = false by simp; omega]; simp)
      clear k1 k2 k3 k4
      go_enter Try.func84, Try.ntmps84
      try rw [hgb]
      go_wp2_with fail
      go_ret
      exact ⟨by rw [HN.out]; rfl, HF.out.drop.drop⟩
    have f4 : decide (m < -1) = false := by simpa using k4
    have HT1 : Hid ((decide (5 ≤ k) && decide (k ≤ 9) && decide (0 ≤ cc) && decide (-1 ≤ m)) = true) := Lib.hid (by simp; omega)
    clear k1 k2 k3 k4
    by_cases hf2 : f2B (decide (k = 5)) l.length tx = true
    · -- the slots
      have g1 : k = 5 ∧ l.length = 0 ∨ k ≠ 5 ∧ noText tx = true := by
        unfold f2B at hf2
        by_cases h5 : k = 5
        · rw [if_pos (by simpa using h5)] at hf2; exact .inl ⟨h5, by simpa using hf2⟩
        · rw [if_neg (by simpa using h5)] at hf2; exact .inr ⟨h5, hf2⟩
      have HRES2 := Lib.hid (show objOk (X.map (·.1)) ⟨k, cc, l, tx, m⟩ = l.all (slotOk (X.map (·.1))) by rw [HRES.out, HT1.out, hf2]; rfl)
      obtain ⟨b5, hb5⟩ : ∃ b, (k == 5) = b := ⟨_, rfl⟩
      have hb5n : (k != 5) = !b5 := by rw [← hb5]; rfl
      have hlen : b5 = true → decide (0 < l.length) = false ∧ decide ((0 : Int) < (l.length : Int)) = false := fun e => by
        rw [e] at hb5
        have h5 : k = 5 := by simpa using hb5
        rcases g1 with ⟨_, h0⟩ | ⟨h0, _⟩
        · rw [h0]; exact ⟨rfl, rfl⟩
        · exact absurd h5 h0
      have htx : b5 = false → tx.toList = [] := fun e => by
        rw [e] at hb5
        have h5 : ¬ k = 5 := by simpa using hb5
        rcases g1 with ⟨h0, _⟩ | ⟨_, h0⟩
        · exact absurd h0 h5
        · unfold noText at h0; simpa using h0
      have HGA := Lib.hid hG
      have HSA := Lib.hid hS
      have hcap := hG.cap
      have hsm := hG.small
      clear g1 hf2 HT1 HRES hS hG h
      cases b5 with
      | true =>
        obtain ⟨l1, l2⟩ := hlen rfl
        clear hlen htx
        go_enter Try.func84, Try.ntmps84
        try rw [hgb]
        go_wp2_with fail
        clear c0 c1 c2 c3 c4 hb
        go_loopw [5] (fun iv wr => ∃ i : Nat, iv = .int .i64 i ∧ i ≤ l.length ∧ Hid ((l.take i).all (slotOk (X.map (·.1))) = true) ∧ Sat w0 wr (pt gb (.cells #[.slice ga n c] 24 (0, 0)) * (pt (gb + 1) (.cells #[.int .i64 k, .int .i64 cc, .slice a l.length sc, .string tx, .int .i64 m] 39 (0, 0)) * (SR * F)))) (fun iv _ => l.length - (intOf iv).toNat)
        case atStart => exact ⟨0, rfl, by omega, Lib.hid rfl, HF.out.p2⟩
        case round =>
          clear HF
          obtain ⟨i, rfl, hi, hall, hs⟩ := hrel
          obtain ⟨_, _, q2, _, _⟩ := boxO (hs.p2.cast (show _ = pt (gb + 1) _ * _ from rfl))
          by_cases hlt : i < l.length
          · have ex : l[i]? = some (l[i]) := List.getElem?_eq_getElem _
            generalize l[i] = v at ex
            obtain ⟨vk, vn⟩ := v
            have htk : l.take (i + 1) = l.take i ++ [⟨vk, vn⟩] := by rw [List.take_add_one, ex]; rfl
            obtain ⟨g2, off2, e2, d0, d1⟩ := HSA.out.1 _ _ hs.p3 i _ ex
            subst e2
            dsimp only at d0 d1
            have hv := hs.alloc (.cells #[.int .i64 vk, .int .i64 vn] 33)
            generalize hvb : wr.heap.size = vb at *
            have HM := Lib.hid (ref_May ⟨vk, vn⟩ hv)
            have HALL := Lib.hid (fun (e : slotOk (X.map (·.1)) ⟨vk, vn⟩ = true) => show (l.take (i + 1)).all (slotOk (X.map (·.1))) = true by rw [htk, List.all_append, hall.out]; simp [e])
            have HNOT := Lib.hid (fun (e : slotOk (X.map (·.1)) ⟨vk, vn⟩ = false) => show objOk (X.map (·.1)) ⟨k, cc, l, tx, m⟩ = false by
              rw [HRES2.out]
              cases hq : l.all (slotOk (X.map (·.1))) with
              | false => rfl
              | true =>
                have := List.all_eq_true.1 hq _ (List.mem_of_getElem? ex)
                rw [e] at this; cases this)
            obtain ⟨v0, v1⟩ := boxV hv
            have hs0p := hs.p3
            have hv1 := hv
            clear ex htk hall
            cases hmay : mayV ⟨vk, vn⟩ with
            | false =>
              rw [hmay] at HM
              have HNO := Lib.hid (HNOT.out (by unfold slotOk; rw [hmay]; rfl))
              clear hmay hv hv1 HNOT HALL hs
              go_wp2_with fail
              refine HM.out.mono ?_
              rintro e w1 ⟨rfl, h2⟩
              go_wp2_with fail
              go_ret
              exact ⟨by rw [HNO.out]; rfl, h2.drop.drop.drop⟩
            | true =>
              rw [hmay] at HM
              have HMAY := Lib.hid hmay
              clear hmay hv hs
              by_cases hk0 : vk = 0
              · have HNO := Lib.hid (HNOT.out (by unfold slotOk; rw [HMAY.out]; simp [hk0]))
                have z0 : (vk == 0) = true := by simpa using hk0
                clear hk0 hv1 HNOT HALL
                go_wp2_with fail
                refine HM.out.mono ?_
                rintro e w1 ⟨rfl, h2⟩
                obtain ⟨v0, v1⟩ := boxV h2
                go_wp2_with fail
                go_ret
                exact ⟨by rw [HNO.out]; rfl, h2.drop.drop.drop⟩
              · have z0 : (vk == 0) = false := by simpa using hk0
                have HK0 := Lib.hid (show decide (vk = 0) = false by simpa using hk0)
                clear hk0
                obtain ⟨RR, hRR⟩ : ∃ G : HP, G = pt (gb + 1) (.cells #[.int .i64 k, .int .i64 cc, .slice (some ⟨g2, off2, none⟩) l.length sc, .string tx, .int .i64 m] 39 (0, 0)) * F := ⟨_, rfl⟩
                have HRR := Lib.hid hRR
                have HRF0 := Lib.hid (fun (w' : World) (G : HP) (hh : Sat w0 w' G) => ref_Ref ⟨vk, vn⟩ hh)
                clear hv1
                cases href : refV ⟨vk, vn⟩ with
                | false =>
                  have HB := Lib.hid (Lib.hid (HALL.out (by unfold slotOk; rw [HMAY.out, href]; dsimp only; rw [HK0.out]; rfl)))
                  have HRF := Lib.hid (fun (w' : World) (G : HP) (hh : Sat w0 w' G) => href ▸ HRF0.out w' G hh)
                  clear HRF0 HNOT HALL href
                  go_wp2_with fail
                  refine HM.out.mono ?_
                  rintro e w1 ⟨rfl, h2⟩
                  obtain ⟨v0, v1⟩ := boxV h2
                  have HS := Lib.hid (show Sat w0 w1 (pt vb (.cells #[.int .i64 vk, .int .i64 vn] 33 (0, 0)) * (pt gb (.cells #[.slice ga n c] 24 (0, 0)) * (SR * RR))) from h2.cast (by rw [hRR]; ac_rfl))
                  clear h2 hRR HM
                  go_wp2_with fail
                  clear v0 v1 d0 d1 q2
                  refine wp_gen fun a0 ha => ?_
                  have hb2 : base a0 2 = .pointer (some ⟨gb, 0, none⟩) := by rw [ha]; rfl
                  have hb6 : base a0 6 = .pointer (some ⟨vb, 0, none⟩) := by rw [ha]; rfl
                  have hsz0 : a0.tmps.size = 109 := by rw [ha]; rfl
                  have HA0 := Lib.hid (And.intro hsz0 ha)
                  clear ha hsz0
                  refine GW.start (X := Option Addr × Nat) (w0 := w0) (B := [pt vb (.cells #[.int .i64 vk, .int .i64 vn] 33 (0, 0)), pt gb (.cells #[.slice ga n c] 24 (0, 0)), SR, RR]) (a0 := a0) ?_
                  refine GW.det (d := (some 86)) [0] [] rfl (fun e => by rfl) ?_; apply Exists.intro; refine ⟨fun e w' F hs => ?_, ?_, ?_⟩
                  · have ⟨y0, y1⟩ := boxV (show Sat w0 w' (pt vb (.cells #[.int .i64 vk, .int .i64 vn] 33 (0, 0)) * F) from hs); first | (go_simp; done) | (go_simp; rfl)
                  · exact (fun _ _ _ => rfl)
                  refine GW.keep (d := (some 87)) (fun e => .bool false) [] [] rfl (fun e => by rfl) (fun _ _ _ => rfl) (fun e w' F K hs hK => ?_) ?_
                  · go_simp; (refine (HRF.out _ _ hs).mono ?_; rintro e2 w2 ⟨rfl, h2⟩; exact ⟨_, rfl, hK _ h2⟩)
                  refine GW.det (d := (some 88)) [] [] rfl (fun e => by rfl) ?_; apply Exists.intro; refine ⟨fun e w' F hs => ?_, ?_, ?_⟩
                  · first | (go_simp; done) | (go_simp; rfl)
                  · exact (fun _ _ _ => rfl)
                  refine GW.skip (d := (some 89)) rfl (fun e => by rfl) ?_
                  refine GW.skip (d := (some 90)) rfl (fun e => by rfl) ?_
                  refine GW.skip (d := (some 91)) rfl (fun e => by rfl) ?_
                  refine GW.skip (d := (some 92)) rfl (fun e => by rfl) ?_
                  refine GW.skip (d := (some 93)) rfl (fun e => by rfl) ?_
                  refine GW.skip (d := (some 94)) rfl (fun e => by rfl) ?_
                  refine GW.skip (d := (some 95)) rfl (fun e => by rfl) ?_
                  refine GW.skip (d := (some 96)) rfl (fun e => by rfl) ?_
                  refine GW.skip (d := (some 97)) rfl (fun e => by rfl) ?_
                  refine GW.skip (d := (some 98)) rfl (fun e => by rfl) ?_
                  refine GW.skip (d := (some 99)) rfl (fun e => by rfl) ?_
                  refine GW.skip (d := (some 100)) rfl (fun e => by rfl) ?_
                  refine GW.skip (d := (some 101)) rfl (fun e => by rfl) ?_
                  refine GW.skip (d := (some 102)) rfl (fun e => by rfl) ?_
                  refine GW.skip (d := (some 103)) rfl (fun e => by rfl) ?_
                  refine GW.skip (d := (some 104)) rfl (fun e => by rfl) ?_
                  refine GW.skip (d := (some 105)) rfl (fun e => by rfl) ?_
                  refine GW.skip (d := (some 106)) rfl (fun e => by rfl) ?_
                  refine GW.skip (d := (some 107)) rfl (fun e => by rfl) ?_
                  refine GW.det (d := (some 108)) [] [] rfl (fun e => by rfl) ?_; apply Exists.intro; refine ⟨fun e w' F hs => ?_, ?_, ?_⟩
                  · first | (go_simp; done) | (go_simp; rfl)
                  · exact (fun _ _ _ => rfl)
                  refine GW.done (sz := 109) [0, 1, 2, 3] (by kernel_rfl) (by kernel_rfl) HA0.out.1 (by rfl) HS.out (by rfl) fun e w3 gg => ?_
                  have ha := HA0.out.2
                  subst ha
                  clear HA0 hb2 hb6
                  simp only [putL, Act.put, List.setIfInBounds_toArray, List.set_cons_zero, List.set_cons_succ]
                  have h9 := Lib.hid (show Sat w0 w3 (pt gb (.cells #[.slice ga n c] 24 (0, 0)) * (pt (gb + 1) (.cells #[.int .i64 k, .int .i64 cc, .slice (some ⟨g2, off2, none⟩) l.length sc, .string tx, .int .i64 m] 39 (0, 0)) * (SR * F))) from Sat.drop (P := pt vb (.cells #[.int .i64 vk, .int .i64 vn] 33 (0, 0))) ((show Sat w0 w3 (pt vb (.cells #[.int .i64 vk, .int .i64 vn] 33 (0, 0)) * (pt gb (.cells #[.slice ga n c] 24 (0, 0)) * (SR * RR))) from gg).cast (by rw [HRR.out]; ac_rfl)))
                  clear gg HS
                  go_wp2_with fail
                  go_roundw
                  case rel => exact ⟨i + 1, by go_num, by omega, HB.out, h9.out⟩
                  case measure => simp [intOf]; omega
                | true =>
                  have hpos := refV_kind href
                  dsimp only at hpos
                  have HRF := Lib.hid (fun (w' : World) (G : HP) (hh : Sat w0 w' G) => href ▸ HRF0.out w' G hh)
                  by_cases hhi : (n : Int) < vn
                  · have HNO := Lib.hid (HNOT.out (by
                      unfold slotOk; rw [HMAY.out, href]; dsimp only; rw [HK0.out]
                      have : objG (X.map (·.1)) vn = none := by
                        unfold objG; rw [if_pos (by omega)]
                        exact List.getElem?_eq_none (by rw [List.length_map, HGA.out.len]; omega)
                      rw [this]; rfl))
                    have f6 : decide ((n : Int) < vn) = true := by simpa using hhi
                    clear HRF0 HNOT HALL href hhi hpos
                    go_wp2_with fail
                    refine HM.out.mono ?_
                    rintro e w1 ⟨rfl, h2⟩
                    obtain ⟨v0, v1⟩ := boxV h2
                    have HS := Lib.hid (show Sat w0 w1 (pt vb (.cells #[.int .i64 vk, .int .i64 vn] 33 (0, 0)) * (pt gb (.cells #[.slice ga n c] 24 (0, 0)) * (SR * RR))) from h2.cast (by rw [hRR]; ac_rfl))
                    clear h2 hRR HM
                    go_wp2_with fail
                    clear v0 v1 d0 d1 q2
                    refine wp_gen fun a0 ha => ?_
                    have hb2 : base a0 2 = .pointer (some ⟨gb, 0, none⟩) := by rw [ha]; rfl
                    have hb6 : base a0 6 = .pointer (some ⟨vb, 0, none⟩) := by rw [ha]; rfl
                    have hsz0 : a0.tmps.size = 109 := by rw [ha]; rfl
                    have HA0 := Lib.hid (And.intro hsz0 ha)
                    clear ha hsz0
                    refine GW.start (X := Option Addr × Nat) (w0 := w0) (B := [pt vb (.cells #[.int .i64 vk, .int .i64 vn] 33 (0, 0)), pt gb (.cells #[.slice ga n c] 24 (0, 0)), SR, RR]) (a0 := a0) ?_
                    refine GW.det (d := (some 86)) [0] [] rfl (fun e => by rfl) ?_; apply Exists.intro; refine ⟨fun e w' F hs => ?_, ?_, ?_⟩
                    · have ⟨y0, y1⟩ := boxV (show Sat w0 w' (pt vb (.cells #[.int .i64 vk, .int .i64 vn] 33 (0, 0)) * F) from hs); first | (go_simp; done) | (go_simp; rfl)
                    · exact (fun _ _ _ => rfl)
                    refine GW.keep (d := (some 87)) (fun e => .bool true) [] [] rfl (fun e => by rfl) (fun _ _ _ => rfl) (fun e w' F K hs hK => ?_) ?_
                    · go_simp; (refine (HRF.out _ _ hs).mono ?_; rintro e2 w2 ⟨rfl, h2⟩; exact ⟨_, rfl, hK _ h2⟩)
                    refine GW.det (d := (some 88)) [] [] rfl (fun e => by rfl) ?_; apply Exists.intro; refine ⟨fun e w' F hs => ?_, ?_, ?_⟩
                    · first | (go_simp; done) | (go_simp; rfl)
                    · exact (fun _ _ _ => rfl)
                    refine GW.det (d := (some 89)) [] [] rfl (fun e => by rfl) ?_; apply Exists.intro; refine ⟨fun e w' F hs => ?_, ?_, ?_⟩
                    · first | (go_simp; done) | (go_simp; rfl)
                    · exact (fun _ _ _ => rfl)
                    refine GW.det (d := (some 90)) [0] [] rfl (fun e => by rfl) ?_; apply Exists.intro; refine ⟨fun e w' F hs => ?_, ?_, ?_⟩
                    · have ⟨y0, y1⟩ := boxV (show Sat w0 w' (pt vb (.cells #[.int .i64 vk, .int .i64 vn] 33 (0, 0)) * F) from hs); first | (go_simp; done) | (go_simp; rfl)
                    · exact (fun _ _ _ => rfl)
                    refine GW.det (d := (some 91)) [] [] rfl (fun e => by rfl) ?_; apply Exists.intro; refine ⟨fun e w' F hs => ?_, ?_, ?_⟩
                    · first | (go_simp; done) | (go_simp; rfl)
                    · exact (fun _ _ _ => rfl)
                    refine GW.det (d := (some 92)) [1] [] rfl (fun e => by rfl) ?_; apply Exists.intro; refine ⟨fun e w' F hs => ?_, ?_, ?_⟩
                    · have y0 := boxG (show Sat w0 w' (pt gb (.cells #[.slice ga n c] 24 (0, 0)) * F) from hs); first | (go_simp; done) | (go_simp; rfl)
                    · exact (fun _ _ _ => rfl)
                    refine GW.det (d := (some 93)) [] [] rfl (fun e => by rfl) ?_; apply Exists.intro; refine ⟨fun e w' F hs => ?_, ?_, ?_⟩
                    · first | (go_simp; done) | (go_simp; rfl)
                    · exact (fun _ _ _ => rfl)
                    refine GW.det (d := (some 94)) [] [] rfl (fun e => by rfl) ?_; apply Exists.intro; refine ⟨fun e w' F hs => ?_, ?_, ?_⟩
                    · first | (go_simp; done) | (go_simp; rfl)
                    · exact (fun _ _ _ => rfl)
                    refine GW.det (d := (some 95)) [] [] rfl (fun e => by rfl) ?_; apply Exists.intro; refine ⟨fun e w' F hs => ?_, ?_, ?_⟩
                    · first | (go_simp; done) | (go_simp; rfl)
                    · exact (fun _ _ _ => rfl)
                    refine GW.skip (d := (some 96)) rfl (fun e => by rfl) ?_
                    refine GW.skip (d := (some 97)) rfl (fun e => by rfl) ?_
                    refine GW.skip (d := (some 98)) rfl (fun e => by rfl) ?_
                    refine GW.skip (d := (some 99)) rfl (fun e => by rfl) ?_
                    refine GW.skip (d := (some 100)) rfl (fun e => by rfl) ?_
                    refine GW.skip (d := (some 101)) rfl (fun e => by rfl) ?_
                    refine GW.skip (d := (some 102)) rfl (fun e => by rfl) ?_
                    refine GW.skip (d := (some 103)) rfl (fun e => by rfl) ?_
                    refine GW.skip (d := (some 104)) rfl (fun e => by rfl) ?_
                    refine GW.skip (d := (some 105)) rfl (fun e => by rfl) ?_
                    refine GW.skip (d := (some 106)) rfl (fun e => by rfl) ?_
                    refine GW.det (d := (some 107)) [] [] rfl (fun e => by rfl) ?_; apply Exists.intro; refine ⟨fun e w' F hs => ?_, ?_, ?_⟩
                    · first | (go_simp; done) | (go_simp; rfl)
                    · exact (fun _ _ _ => rfl)
                    refine GW.det (d := (some 108)) [] [] rfl (fun e => by rfl) ?_; apply Exists.intro; refine ⟨fun e w' F hs => ?_, ?_, ?_⟩
                    · first | (go_simp; done) | (go_simp; rfl)
                    · exact (fun _ _ _ => rfl)
                    refine GW.done (sz := 109) [0, 1, 2, 3] (by kernel_rfl) (by kernel_rfl) HA0.out.1 (by rfl) HS.out (by rfl) fun e w3 gg => ?_
                    have ha := HA0.out.2
                    subst ha
                    clear HA0 hb2 hb6
                    simp only [putL, Act.put, List.setIfInBounds_toArray, List.set_cons_zero, List.set_cons_succ]
                    have h9 := Lib.hid (show Sat w0 w3 (pt gb (.cells #[.slice ga n c] 24 (0, 0)) * (pt (gb + 1) (.cells #[.int .i64 k, .int .i64 cc, .slice (some ⟨g2, off2, none⟩) l.length sc, .string tx, .int .i64 m] 39 (0, 0)) * (SR * F))) from Sat.drop (P := pt vb (.cells #[.int .i64 vk, .int .i64 vn] 33 (0, 0))) ((show Sat w0 w3 (pt vb (.cells #[.int .i64 vk, .int .i64 vn] 33 (0, 0)) * (pt gb (.cells #[.slice ga n c] 24 (0, 0)) * (SR * RR))) from gg).cast (by rw [HRR.out]; ac_rfl)))
                    clear gg HS
                    go_wp2_with fail
                    go_ret
                    exact ⟨by rw [HNO.out]; rfl, h9.out.drop.drop⟩
                  · obtain ⟨j, rfl⟩ : ∃ j : Nat, vn = (j : Int) + 1 := ⟨(vn - 1).toNat, by omega⟩
                    have hjn : j < n := by omega
                    have f6 : decide ((n : Int) < (j : Int) + 1) = false := by simp; omega
                    have hj1 : (j : Int) + 1 - 1 = j := by omega
                    have hj2 : (0 : Int) ≤ (j : Int) := by omega
                    have hj3 : (j : Int) < (n : Int) := by omega
                    have hj4 : IntKind.i64.wrap (j : Int) = j := IntWalk.i64_in _ (by omega)
                    obtain ⟨x, hx, g, off, ega, _⟩ := HGA.out.at hs0p hjn
                    subst ega
                    have HXC := Lib.hid (fun (w' : World) (G : HP) (hh : Sat w0 w' (SR * G)) => (show w'.cell? ⟨g, off + j * 5, none⟩ = some (.int .i64 x.1.kind) ∧ True from by
                      obtain ⟨x', hx', g', off', e', y0, _⟩ := HGA.out.at hh hjn
                      rw [hx] at hx'; cases hx'; cases e'
                      exact ⟨y0, trivial⟩))
                    have hob : objG (X.map (·.1)) ((j : Int) + 1) = some x.1 := by rw [objG_nat, List.getElem?_map, hx]; rfl
                    have hsl : slotOk (X.map (·.1)) ⟨vk, (j : Int) + 1⟩ = decide (x.1.kind = vk) := by
                      unfold slotOk; rw [HMAY.out, href]; dsimp only; rw [HK0.out, hob]; rfl
                    obtain ⟨xk, hxk⟩ : ∃ q, x.1.kind = q := ⟨_, rfl⟩
                    rw [hxk] at HXC hsl
                    by_cases hkk : xk = vk
                    · have HB := Lib.hid (Lib.hid (HALL.out (by rw [hsl]; simpa using hkk)))
                      have f7 : (xk != vk) = false := by simpa using hkk
                      clear HRF0 HNOT HALL href hhi hpos hx hob hsl hkk hxk
                      go_wp2_with fail
                      refine HM.out.mono ?_
                      rintro e w1 ⟨rfl, h2⟩
                      obtain ⟨v0, v1⟩ := boxV h2
                      have HS := Lib.hid (show Sat w0 w1 (pt vb (.cells #[.int .i64 vk, .int .i64 ((j : Int) + 1)] 33 (0, 0)) * (pt gb (.cells #[.slice (some ⟨g, off, none⟩) n c] 24 (0, 0)) * (SR * RR))) from h2.cast (by rw [hRR]; ac_rfl))
                      clear h2 hRR HM
                      go_wp2_with fail
                      clear v0 v1 d0 d1 q2
                      refine wp_gen fun a0 ha => ?_
                      have hb2 : base a0 2 = .pointer (some ⟨gb, 0, none⟩) := by rw [ha]; rfl
                      have hb6 : base a0 6 = .pointer (some ⟨vb, 0, none⟩) := by rw [ha]; rfl
                      have hsz0 : a0.tmps.size = 109 := by rw [ha]; rfl
                      have HA0 := Lib.hid (And.intro hsz0 ha)
                      clear ha hsz0
                      refine GW.start (X := Option Addr × Nat) (w0 := w0) (B := [pt vb (.cells #[.int .i64 vk, .int .i64 ((j : Int) + 1)] 33 (0, 0)), pt gb (.cells #[.slice (some ⟨g, off, none⟩) n c] 24 (0, 0)), SR, RR]) (a0 := a0) ?_
                      refine GW.det (d := (some 86)) [0] [] rfl (fun e => by rfl) ?_; apply Exists.intro; refine ⟨fun e w' F hs => ?_, ?_, ?_⟩
                      · have ⟨y0, y1⟩ := boxV (show Sat w0 w' (pt vb (.cells #[.int .i64 vk, .int .i64 ((j : Int) + 1)] 33 (0, 0)) * F) from hs); first | (go_simp; done) | (go_simp; rfl)
                      · exact (fun _ _ _ => rfl)
                      refine GW.keep (d := (some 87)) (fun e => .bool true) [] [] rfl (fun e => by rfl) (fun _ _ _ => rfl) (fun e w' F K hs hK => ?_) ?_
                      · go_simp; (refine (HRF.out _ _ hs).mono ?_; rintro e2 w2 ⟨rfl, h2⟩; exact ⟨_, rfl, hK _ h2⟩)
                      refine GW.det (d := (some 88)) [] [] rfl (fun e => by rfl) ?_; apply Exists.intro; refine ⟨fun e w' F hs => ?_, ?_, ?_⟩
                      · first | (go_simp; done) | (go_simp; rfl)
                      · exact (fun _ _ _ => rfl)
                      refine GW.det (d := (some 89)) [] [] rfl (fun e => by rfl) ?_; apply Exists.intro; refine ⟨fun e w' F hs => ?_, ?_, ?_⟩
                      · first | (go_simp; done) | (go_simp; rfl)
                      · exact (fun _ _ _ => rfl)
                      refine GW.det (d := (some 90)) [0] [] rfl (fun e => by rfl) ?_; apply Exists.intro; refine ⟨fun e w' F hs => ?_, ?_, ?_⟩
                      · have ⟨y0, y1⟩ := boxV (show Sat w0 w' (pt vb (.cells #[.int .i64 vk, .int .i64 ((j : Int) + 1)] 33 (0, 0)) * F) from hs); first | (go_simp; done) | (go_simp; rfl)
                      · exact (fun _ _ _ => rfl)
                      refine GW.det (d := (some 91)) [] [] rfl (fun e => by rfl) ?_; apply Exists.intro; refine ⟨fun e w' F hs => ?_, ?_, ?_⟩
                      · first | (go_simp; done) | (go_simp; rfl)
                      · exact (fun _ _ _ => rfl)
                      refine GW.det (d := (some 92)) [1] [] rfl (fun e => by rfl) ?_; apply Exists.intro; refine ⟨fun e w' F hs => ?_, ?_, ?_⟩
                      · have y0 := boxG (show Sat w0 w' (pt gb (.cells #[.slice (some ⟨g, off, none⟩) n c] 24 (0, 0)) * F) from hs); first | (go_simp; done) | (go_simp; rfl)
                      · exact (fun _ _ _ => rfl)
                      refine GW.det (d := (some 93)) [] [] rfl (fun e => by rfl) ?_; apply Exists.intro; refine ⟨fun e w' F hs => ?_, ?_, ?_⟩
                      · first | (go_simp; done) | (go_simp; rfl)
                      · exact (fun _ _ _ => rfl)
                      refine GW.det (d := (some 94)) [] [] rfl (fun e => by rfl) ?_; apply Exists.intro; refine ⟨fun e w' F hs => ?_, ?_, ?_⟩
                      · first | (go_simp; done) | (go_simp; rfl)
                      · exact (fun _ _ _ => rfl)
                      refine GW.det (d := (some 95)) [] [] rfl (fun e => by rfl) ?_; apply Exists.intro; refine ⟨fun e w' F hs => ?_, ?_, ?_⟩
                      · first | (go_simp; done) | (go_simp; rfl)
                      · exact (fun _ _ _ => rfl)
                      refine GW.det (d := (some 96)) [] [] rfl (fun e => by rfl) ?_; apply Exists.intro; refine ⟨fun e w' F hs => ?_, ?_, ?_⟩
                      · first | (go_simp; done) | (go_simp; rfl)
                      · exact (fun _ _ _ => rfl)
                      refine GW.det (d := (some 97)) [1] [] rfl (fun e => by rfl) ?_; apply Exists.intro; refine ⟨fun e w' F hs => ?_, ?_, ?_⟩
                      · have y0 := boxG (show Sat w0 w' (pt gb (.cells #[.slice (some ⟨g, off, none⟩) n c] 24 (0, 0)) * F) from hs); first | (go_simp; done) | (go_simp; rfl)
                      · exact (fun _ _ _ => rfl)
                      refine GW.det (d := (some 98)) [] [] rfl (fun e => by rfl) ?_; apply Exists.intro; refine ⟨fun e w' F hs => ?_, ?_, ?_⟩
                      · first | (go_simp; done) | (go_simp; rfl)
                      · exact (fun _ _ _ => rfl)
                      refine GW.det (d := (some 99)) [0] [] rfl (fun e => by rfl) ?_; apply Exists.intro; refine ⟨fun e w' F hs => ?_, ?_, ?_⟩
                      · have ⟨y0, y1⟩ := boxV (show Sat w0 w' (pt vb (.cells #[.int .i64 vk, .int .i64 ((j : Int) + 1)] 33 (0, 0)) * F) from hs); first | (go_simp; done) | (go_simp; rfl)
                      · exact (fun _ _ _ => rfl)
                      refine GW.det (d := (some 100)) [] [] rfl (fun e => by rfl) ?_; apply Exists.intro; refine ⟨fun e w' F hs => ?_, ?_, ?_⟩
                      · first | (go_simp; done) | (go_simp; rfl)
                      · exact (fun _ _ _ => rfl)
                      refine GW.det (d := (some 101)) [] [] rfl (fun e => by rfl) ?_; apply Exists.intro; refine ⟨fun e w' F hs => ?_, ?_, ?_⟩
                      · first | (go_simp; done) | (go_simp; rfl)
                      · exact (fun _ _ _ => rfl)
                      refine GW.det (d := (some 102)) [] [] rfl (fun e => by rfl) ?_; apply Exists.intro; refine ⟨fun e w' F hs => ?_, ?_, ?_⟩
                      · first | (go_simp; done) | (go_simp; rfl)
                      · exact (fun _ _ _ => rfl)
                      refine GW.det (d := (some 103)) [2] [] rfl (fun e => by rfl) ?_; apply Exists.intro; refine ⟨fun e w' F hs => ?_, ?_, ?_⟩
                      · obtain ⟨y0, _⟩ := HXC.out w' _ (show Sat w0 w' (SR * F) from hs); first | (go_simp; done) | (go_simp; rfl)
                      · exact (fun _ _ _ => rfl)
                      refine GW.det (d := (some 104)) [] [] rfl (fun e => by rfl) ?_; apply Exists.intro; refine ⟨fun e w' F hs => ?_, ?_, ?_⟩
                      · first | (go_simp; done) | (go_simp; rfl)
                      · exact (fun _ _ _ => rfl)
                      refine GW.det (d := (some 105)) [0] [] rfl (fun e => by rfl) ?_; apply Exists.intro; refine ⟨fun e w' F hs => ?_, ?_, ?_⟩
                      · have ⟨y0, y1⟩ := boxV (show Sat w0 w' (pt vb (.cells #[.int .i64 vk, .int .i64 ((j : Int) + 1)] 33 (0, 0)) * F) from hs); first | (go_simp; done) | (go_simp; rfl)
                      · exact (fun _ _ _ => rfl)
                      refine GW.det (d := (some 106)) [] [] rfl (fun e => by rfl) ?_; apply Exists.intro; refine ⟨fun e w' F hs => ?_, ?_, ?_⟩
                      · first | (go_simp; done) | (go_simp; rfl)
                      · exact (fun _ _ _ => rfl)
                      refine GW.det (d := (some 107)) [] [] rfl (fun e => by rfl) ?_; apply Exists.intro; refine ⟨fun e w' F hs => ?_, ?_, ?_⟩
                      · first | (go_simp; done) | (go_simp; rfl)
                      · exact (fun _ _ _ => rfl)
                      refine GW.det (d := (some 108)) [] [] rfl (fun e => by rfl) ?_; apply Exists.intro; refine ⟨fun e w' F hs => ?_, ?_, ?_⟩
                      · first | (go_simp; done) | (go_simp; rfl)
                      · exact (fun _ _ _ => rfl)
                      refine GW.done (sz := 109) [0, 1, 2, 3] (by kernel_rfl) (by kernel_rfl) HA0.out.1 (by rfl) HS.out (by rfl) fun e w3 gg => ?_
                      have ha := HA0.out.2
                      subst ha
                      clear HA0 hb2 hb6
                      simp only [putL, Act.put, List.setIfInBounds_toArray, List.set_cons_zero, List.set_cons_succ]
                      have h9 := Lib.hid (show Sat w0 w3 (pt gb (.cells #[.slice (some ⟨g, off, none⟩) n c] 24 (0, 0)) * (pt (gb + 1) (.cells #[.int .i64 k, .int .i64 cc, .slice (some ⟨g2, off2, none⟩) l.length sc, .string tx, .int .i64 m] 39 (0, 0)) * (SR * F))) from Sat.drop (P := pt vb (.cells #[.int .i64 vk, .int .i64 ((j : Int) + 1)] 33 (0, 0))) ((show Sat w0 w3 (pt vb (.cells #[.int .i64 vk, .int .i64 ((j : Int) + 1)] 33 (0, 0)) * (pt gb (.cells #[.slice (some ⟨g, off, none⟩) n c] 24 (0, 0)) * (SR * RR))) from gg).cast (by rw [HRR.out]; ac_rfl)))
                      clear gg HS
                      go_wp2_with fail
                      go_roundw
                      case rel => exact ⟨i + 1, by go_num, by omega, HB.out, h9.out⟩
                      case measure => simp [intOf]; omega
                    · have HNO := Lib.hid (HNOT.out (by rw [hsl]; simpa using hkk))
                      have f7 : (xk != vk) = true := by simpa using hkk
                      clear HRF0 HNOT HALL href hhi hpos hx hob hsl hkk hxk
                      go_wp2_with fail
                      refine HM.out.mono ?_
                      rintro e w1 ⟨rfl, h2⟩
                      obtain ⟨v0, v1⟩ := boxV h2
                      have HS := Lib.hid (show Sat w0 w1 (pt vb (.cells #[.int .i64 vk, .int .i64 ((j : Int) + 1)] 33 (0, 0)) * (pt gb (.cells #[.slice (some ⟨g, off, none⟩) n c] 24 (0, 0)) * (SR * RR))) from h2.cast (by rw [hRR]; ac_rfl))
                      clear h2 hRR HM
                      go_wp2_with fail
                      clear v0 v1 d0 d1 q2
                      refine wp_gen fun a0 ha => ?_
                      have hb2 : base a0 2 = .pointer (some ⟨gb, 0, none⟩) := by rw [ha]; rfl
                      have hb6 : base a0 6 = .pointer (some ⟨vb, 0, none⟩) := by rw [ha]; rfl
                      have hsz0 : a0.tmps.size = 109 := by rw [ha]; rfl
                      have HA0 := Lib.hid (And.intro hsz0 ha)
                      clear ha hsz0
                      refine GW.start (X := Option Addr × Nat) (w0 := w0) (B := [pt vb (.cells #[.int .i64 vk, .int .i64 ((j : Int) + 1)] 33 (0, 0)), pt gb (.cells #[.slice (some ⟨g, off, none⟩) n c] 24 (0, 0)), SR, RR]) (a0 := a0) ?_
                      refine GW.det (d := (some 86)) [0] [] rfl (fun e => by rfl) ?_; apply Exists.intro; refine ⟨fun e w' F hs => ?_, ?_, ?_⟩
                      · have ⟨y0, y1⟩ := boxV (show Sat w0 w' (pt vb (.cells #[.int .i64 vk, .int .i64 ((j : Int) + 1)] 33 (0, 0)) * F) from hs); first | (go_simp; done) | (go_simp; rfl)
                      · exact (fun _ _ _ => rfl)
                      refine GW.keep (d := (some 87)) (fun e => .bool true) [] [] rfl (fun e => by rfl) (fun _ _ _ => rfl) (fun e w' F K hs hK => ?_) ?_
                      · go_simp; (refine (HRF.out _ _ hs).mono ?_; rintro e2 w2 ⟨rfl, h2⟩; exact ⟨_, rfl, hK _ h2⟩)
                      refine GW.det (d := (some 88)) [] [] rfl (fun e => by rfl) ?_; apply Exists.intro; refine ⟨fun e w' F hs => ?_, ?_, ?_⟩
                      · first | (go_simp; done) | (go_simp; rfl)
                      · exact (fun _ _ _ => rfl)
                      refine GW.det (d := (some 89)) [] [] rfl (fun e => by rfl) ?_; apply Exists.intro; refine ⟨fun e w' F hs => ?_, ?_, ?_⟩
                      · first | (go_simp; done) | (go_simp; rfl)
                      · exact (fun _ _ _ => rfl)
                      refine GW.det (d := (some 90)) [0] [] rfl (fun e => by rfl) ?_; apply Exists.intro; refine ⟨fun e w' F hs => ?_, ?_, ?_⟩
                      · have ⟨y0, y1⟩ := boxV (show Sat w0 w' (pt vb (.cells #[.int .i64 vk, .int .i64 ((j : Int) + 1)] 33 (0, 0)) * F) from hs); first | (go_simp; done) | (go_simp; rfl)
                      · exact (fun _ _ _ => rfl)
                      refine GW.det (d := (some 91)) [] [] rfl (fun e => by rfl) ?_; apply Exists.intro; refine ⟨fun e w' F hs => ?_, ?_, ?_⟩
                      · first | (go_simp; done) | (go_simp; rfl)
                      · exact (fun _ _ _ => rfl)
                      refine GW.det (d := (some 92)) [1] [] rfl (fun e => by rfl) ?_; apply Exists.intro; refine ⟨fun e w' F hs => ?_, ?_, ?_⟩
                      · have y0 := boxG (show Sat w0 w' (pt gb (.cells #[.slice (some ⟨g, off, none⟩) n c] 24 (0, 0)) * F) from hs); first | (go_simp; done) | (go_simp; rfl)
                      · exact (fun _ _ _ => rfl)
                      refine GW.det (d := (some 93)) [] [] rfl (fun e => by rfl) ?_; apply Exists.intro; refine ⟨fun e w' F hs => ?_, ?_, ?_⟩
                      · first | (go_simp; done) | (go_simp; rfl)
                      · exact (fun _ _ _ => rfl)
                      refine GW.det (d := (some 94)) [] [] rfl (fun e => by rfl) ?_; apply Exists.intro; refine ⟨fun e w' F hs => ?_, ?_, ?_⟩
                      · first | (go_simp; done) | (go_simp; rfl)
                      · exact (fun _ _ _ => rfl)
                      refine GW.det (d := (some 95)) [] [] rfl (fun e => by rfl) ?_; apply Exists.intro; refine ⟨fun e w' F hs => ?_, ?_, ?_⟩
                      · first | (go_simp; done) | (go_simp; rfl)
                      · exact (fun _ _ _ => rfl)
                      refine GW.det (d := (some 96)) [] [] rfl (fun e => by rfl) ?_; apply Exists.intro; refine ⟨fun e w' F hs => ?_, ?_, ?_⟩
                      · first | (go_simp; done) | (go_simp; rfl)
                      · exact (fun _ _ _ => rfl)
                      refine GW.det (d := (some 97)) [1] [] rfl (fun e => by rfl) ?_; apply Exists.intro; refine ⟨fun e w' F hs => ?_, ?_, ?_⟩
                      · have y0 := boxG (show Sat w0 w' (pt gb (.cells #[.slice (some ⟨g, off, none⟩) n c] 24 (0, 0)) * F) from hs); first | (go_simp; done) | (go_simp; rfl)
                      · exact (fun _ _ _ => rfl)
                      refine GW.det (d := (some 98)) [] [] rfl (fun e => by rfl) ?_; apply Exists.intro; refine ⟨fun e w' F hs => ?_, ?_, ?_⟩
                      · first | (go_simp; done) | (go_simp; rfl)
                      · exact (fun _ _ _ => rfl)
                      refine GW.det (d := (some 99)) [0] [] rfl (fun e => by rfl) ?_; apply Exists.intro; refine ⟨fun e w' F hs => ?_, ?_, ?_⟩
                      · have ⟨y0, y1⟩ := boxV (show Sat w0 w' (pt vb (.cells #[.int .i64 vk, .int .i64 ((j : Int) + 1)] 33 (0, 0)) * F) from hs); first | (go_simp; done) | (go_simp; rfl)
                      · exact (fun _ _ _ => rfl)
                      refine GW.det (d := (some 100)) [] [] rfl (fun e => by rfl) ?_; apply Exists.intro; refine ⟨fun e w' F hs => ?_, ?_, ?_⟩
                      · first | (go_simp; done) | (go_simp; rfl)
                      · exact (fun _ _ _ => rfl)
                      refine GW.det (d := (some 101)) [] [] rfl (fun e => by rfl) ?_; apply Exists.intro; refine ⟨fun e w' F hs => ?_, ?_, ?_⟩
                      · first | (go_simp; done) | (go_simp; rfl)
                      · exact (fun _ _ _ => rfl)
                      refine GW.det (d := (some 102)) [] [] rfl (fun e => by rfl) ?_; apply Exists.intro; refine ⟨fun e w' F hs => ?_, ?_, ?_⟩
                      · first | (go_simp; done) | (go_simp; rfl)
                      · exact (fun _ _ _ => rfl)
                      refine GW.det (d := (some 103)) [2] [] rfl (fun e => by rfl) ?_; apply Exists.intro; refine ⟨fun e w' F hs => ?_, ?_, ?_⟩
                      · obtain ⟨y0, _⟩ := HXC.out w' _ (show Sat w0 w' (SR * F) from hs); first | (go_simp; done) | (go_simp; rfl)
                      · exact (fun _ _ _ => rfl)
                      refine GW.det (d := (some 104)) [] [] rfl (fun e => by rfl) ?_; apply Exists.intro; refine ⟨fun e w' F hs => ?_, ?_, ?_⟩
                      · first | (go_simp; done) | (go_simp; rfl)
                      · exact (fun _ _ _ => rfl)
                      refine GW.det (d := (some 105)) [0] [] rfl (fun e => by rfl) ?_; apply Exists.intro; refine ⟨fun e w' F hs => ?_, ?_, ?_⟩
                      · have ⟨y0, y1⟩ := boxV (show Sat w0 w' (pt vb (.cells #[.int .i64 vk, .int .i64 ((j : Int) + 1)] 33 (0, 0)) * F) from hs); first | (go_simp; done) | (go_simp; rfl)
                      · exact (fun _ _ _ => rfl)
                      refine GW.det (d := (some 106)) [] [] rfl (fun e => by rfl) ?_; apply Exists.intro; refine ⟨fun e w' F hs => ?_, ?_, ?_⟩
                      · first | (go_simp; done) | (go_simp; rfl)
                      · exact (fun _ _ _ => rfl)
                      refine GW.det (d := (some 107)) [] [] rfl (fun e => by rfl) ?_; apply Exists.intro; refine ⟨fun e w' F hs => ?_, ?_, ?_⟩
                      · first | (go_simp; done) | (go_simp; rfl)
                      · exact (fun _ _ _ => rfl)
                      refine GW.det (d := (some 108)) [] [] rfl (fun e => by rfl) ?_; apply Exists.intro; refine ⟨fun e w' F hs => ?_, ?_, ?_⟩
                      · first | (go_simp; done) | (go_simp; rfl)
                      · exact (fun _ _ _ => rfl)
                      refine GW.done (sz := 109) [0, 1, 2, 3] (by kernel_rfl) (by kernel_rfl) HA0.out.1 (by rfl) HS.out (by rfl) fun e w3 gg => ?_
                      have ha := HA0.out.2
                      subst ha
                      clear HA0 hb2 hb6
                      simp only [putL, Act.put, List.setIfInBounds_toArray, List.set_cons_zero, List.set_cons_succ]
                      have h9 := Lib.hid (show Sat w0 w3 (pt gb (.cells #[.slice (some ⟨g, off, none⟩) n c] 24 (0, 0)) * (pt (gb + 1) (.cells #[.int .i64 k, .int .i64 cc, .slice (some ⟨g2, off2, none⟩) l.length sc, .string tx, .int .i64 m] 39 (0, 0)) * (SR * F))) from Sat.drop (P := pt vb (.cells #[.int .i64 vk, .int .i64 ((j : Int) + 1)] 33 (0, 0))) ((show Sat w0 w3 (pt vb (.cells #[.int .i64 vk, .int .i64 ((j : Int) + 1)] 33 (0, 0)) * (pt gb (.cells #[.slice (some ⟨g, off, none⟩) n c] 24 (0, 0)) * (SR * RR))) from gg).cast (by rw [HRR.out]; ac_rfl)))
                      clear gg HS
                      go_wp2_with fail
                      go_ret
                      exact ⟨by rw [HNO.out]; rfl, h9.out.drop.drop⟩
          · obtain rfl : i = l.length := by omega
            have hA := Lib.hid (show l.all (slotOk (X.map (·.1))) = true by have := hall.out; rwa [List.take_length] at this)
            have HS := Lib.hid hs.drop.drop
            clear hs hall
            go_wp2_with fail
            go_ret
            exact ⟨by rw [HRES2.out, hA.out]; rfl, HS.out⟩
      | false =>
        have l1 := htx rfl
        have l2 : (tx.toList != []) = false := by rw [l1]; rfl
        have l3 : (tx.toList == []) = true := by rw [l1]; rfl
        clear hlen htx l1
        go_enter Try.func84, Try.ntmps84
        try rw [hgb]
        go_wp2_with fail
        clear c0 c1 c2 c3 c4 hb
        go_loopw [5] (fun iv wr => ∃ i : Nat, iv = .int .i64 i ∧ i ≤ l.length ∧ Hid ((l.take i).all (slotOk (X.map (·.1))) = true) ∧ Sat w0 wr (pt gb (.cells #[.slice ga n c] 24 (0, 0)) * (pt (gb + 1) (.cells #[.int .i64 k, .int .i64 cc, .slice a l.length sc, .string tx, .int .i64 m] 39 (0, 0)) * (SR * F)))) (fun iv _ => l.length - (intOf iv).toNat)
        case atStart => exact ⟨0, rfl, by omega, Lib.hid rfl, HF.out.p2⟩
        case round =>
          clear HF
          obtain ⟨i, rfl, hi, hall, hs⟩ := hrel
          obtain ⟨_, _, q2, _, _⟩ := boxO (hs.p2.cast (show _ = pt (gb + 1) _ * _ from rfl))
          by_cases hlt : i < l.length
          · have ex : l[i]? = some (l[i]) := List.getElem?_eq_getElem _
            generalize l[i] = v at ex
            obtain ⟨vk, vn⟩ := v
            have htk : l.take (i + 1) = l.take i ++ [⟨vk, vn⟩] := by rw [List.take_add_one, ex]; rfl
            obtain ⟨g2, off2, e2, d0, d1⟩ := HSA.out.1 _ _ hs.p3 i _ ex
            subst e2
            dsimp only at d0 d1
            have hv := hs.alloc (.cells #[.int .i64 vk, .int .i64 vn] 33)
            generalize hvb : wr.heap.size = vb at *
            have HM := Lib.hid (ref_May ⟨vk, vn⟩ hv)
            have HALL := Lib.hid (fun (e : slotOk (X.map (·.1)) ⟨vk, vn⟩ = true) => show (l.take (i + 1)).all (slotOk (X.map (·.1))) = true by rw [htk, List.all_append, hall.out]; simp [e])
            have HNOT := Lib.hid (fun (e : slotOk (X.map (·.1)) ⟨vk, vn⟩ = false) => show objOk (X.map (·.1)) ⟨k, cc, l, tx, m⟩ = false by
              rw [HRES2.out]
              cases hq : l.all (slotOk (X.map (·.1))) with
              | false => rfl
              | true =>
                have := List.all_eq_true.1 hq _ (List.mem_of_getElem? ex)
                rw [e] at this; cases this)
            obtain ⟨v0, v1⟩ := boxV hv
            have hs0p := hs.p3
            have hv1 := hv
            clear ex htk hall
            cases hmay : mayV ⟨vk, vn⟩ with
            | false =>
              rw [hmay] at HM
              have HNO := Lib.hid (HNOT.out (by unfold slotOk; rw [hmay]; rfl))
              clear hmay hv hv1 HNOT HALL hs
              go_wp2_with fail
              refine HM.out.mono ?_
              rintro e w1 ⟨rfl, h2⟩
              go_wp2_with fail
              go_ret
              exact ⟨by rw [HNO.out]; rfl, h2.drop.drop.drop⟩
            | true =>
              rw [hmay] at HM
              have HMAY := Lib.hid hmay
              clear hmay hv hs
              by_cases hk0 : vk = 0
              · have HNO := Lib.hid (HNOT.out (by unfold slotOk; rw [HMAY.out]; simp [hk0]))
                have z0 : (vk == 0) = true := by simpa using hk0
                clear hk0 hv1 HNOT HALL
                go_wp2_with fail
                refine HM.out.mono ?_
                rintro e w1 ⟨rfl, h2⟩
                obtain ⟨v0, v1⟩ := boxV h2
                go_wp2_with fail
                go_ret
                exact ⟨by rw [HNO.out]; rfl, h2.drop.drop.drop⟩
              · have z0 : (vk == 0) = false := by simpa using hk0
                have HK0 := Lib.hid (show decide (vk = 0) = false by simpa using hk0)
                clear hk0
                obtain ⟨RR, hRR⟩ : ∃ G : HP, G = pt (gb + 1) (.cells #[.int .i64 k, .int .i64 cc, .slice (some ⟨g2, off2, none⟩) l.length sc, .string tx, .int .i64 m] 39 (0, 0)) * F := ⟨_, rfl⟩
                have HRR := Lib.hid hRR
                have HRF0 := Lib.hid (fun (w' : World) (G : HP) (hh : Sat w0 w' G) => ref_Ref ⟨vk, vn⟩ hh)
                clear hv1
                cases href : refV ⟨vk, vn⟩ with
                | false =>
                  have HB := Lib.hid (Lib.hid (HALL.out (by unfold slotOk; rw [HMAY.out, href]; dsimp only; rw [HK0.out]; rfl)))
                  have HRF := Lib.hid (fun (w' : World) (G : HP) (hh : Sat w0 w' G) => href ▸ HRF0.out w' G hh)
                  clear HRF0 HNOT HALL href
                  go_wp2_with fail
                  refine HM.out.mono ?_
                  rintro e w1 ⟨rfl, h2⟩
                  obtain ⟨v0, v1⟩ := boxV h2
                  have HS := Lib.hid (show Sat w0 w1 (pt vb (.cells #[.int .i64 vk, .int .i64 vn] 33 (0, 0)) * (pt gb (.cells #[.slice ga n c] 24 (0, 0)) * (SR * RR))) from h2.cast (by rw [hRR]; ac_rfl))
                  clear h2 hRR HM
                  go_wp2_with fail
                  clear v0 v1 d0 d1 q2
                  refine wp_gen fun a0 ha => ?_
                  have hb2 : base a0 2 = .pointer (some ⟨gb, 0, none⟩) := by rw [ha]; rfl
                  have hb6 : base a0 6 = .pointer (some ⟨vb, 0, none⟩) := by rw [ha]; rfl
                  have hsz0 : a0.tmps.size = 109 := by rw [ha]; rfl
                  have HA0 := Lib.hid (And.intro hsz0 ha)
                  clear ha hsz0
                  refine GW.start (X := Option Addr × Nat) (w0 := w0) (B := [pt vb (.cells #[.int .i64 vk, .int .i64 vn] 33 (0, 0)), pt gb (.cells #[.slice ga n c] 24 (0, 0)), SR, RR]) (a0 := a0) ?_
                  refine GW.det (d := (some 86)) [0] [] rfl (fun e => by rfl) ?_; apply Exists.intro; refine ⟨fun e w' F hs => ?_, ?_, ?_⟩
                  · have ⟨y0, y1⟩ := boxV (show Sat w0 w' (pt vb (.cells #[.int .i64 vk, .int .i64 vn] 33 (0, 0)) * F) from hs); first | (go_simp; done) | (go_simp; rfl)
                  · exact (fun _ _ _ => rfl)
                  refine GW.keep (d := (some 87)) (fun e => .bool false) [] [] rfl (fun e => by rfl) (fun _ _ _ => rfl) (fun e w' F K hs hK => ?_) ?_
                  · go_simp; (refine (HRF.out _ _ hs).mono ?_; rintro e2 w2 ⟨rfl, h2⟩; exact ⟨_, rfl, hK _ h2⟩)
                  refine GW.det (d := (some 88)) [] [] rfl (fun e => by rfl) ?_; apply Exists.intro; refine ⟨fun e w' F hs => ?_, ?_, ?_⟩
                  · first | (go_simp; done) | (go_simp; rfl)
                  · exact (fun _ _ _ => rfl)
                  refine GW.skip (d := (some 89)) rfl (fun e => by rfl) ?_
                  refine GW.skip (d := (some 90)) rfl (fun e => by rfl) ?_
                  refine GW.skip (d := (some 91)) rfl (fun e => by rfl) ?_
                  refine GW.skip (d := (some 92)) rfl (fun e => by rfl) ?_
                  refine GW.skip (d := (some 93)) rfl (fun e => by rfl) ?_
                  refine GW.skip (d := (some 94)) rfl (fun e => by rfl) ?_
                  refine GW.skip (d := (some 95)) rfl (fun e => by rfl) ?_
                  refine GW.skip (d := (some 96)) rfl (fun e => by rfl) ?_
                  refine GW.skip (d := (some 97)) rfl (fun e => by rfl) ?_
                  refine GW.skip (d := (some 98)) rfl (fun e => by rfl) ?_
                  refine GW.skip (d := (some 99)) rfl (fun e => by rfl) ?_
                  refine GW.skip (d := (some 100)) rfl (fun e => by rfl) ?_
                  refine GW.skip (d := (some 101)) rfl (fun e => by rfl) ?_
                  refine GW.skip (d := (some 102)) rfl (fun e => by rfl) ?_
                  refine GW.skip (d := (some 103)) rfl (fun e => by rfl) ?_
                  refine GW.skip (d := (some 104)) rfl (fun e => by rfl) ?_
                  refine GW.skip (d := (some 105)) rfl (fun e => by rfl) ?_
                  refine GW.skip (d := (some 106)) rfl (fun e => by rfl) ?_
                  refine GW.skip (d := (some 107)) rfl (fun e => by rfl) ?_
                  refine GW.det (d := (some 108)) [] [] rfl (fun e => by rfl) ?_; apply Exists.intro; refine ⟨fun e w' F hs => ?_, ?_, ?_⟩
                  · first | (go_simp; done) | (go_simp; rfl)
                  · exact (fun _ _ _ => rfl)
                  refine GW.done (sz := 109) [0, 1, 2, 3] (by kernel_rfl) (by kernel_rfl) HA0.out.1 (by rfl) HS.out (by rfl) fun e w3 gg => ?_
                  have ha := HA0.out.2
                  subst ha
                  clear HA0 hb2 hb6
                  simp only [putL, Act.put, List.setIfInBounds_toArray, List.set_cons_zero, List.set_cons_succ]
                  have h9 := Lib.hid (show Sat w0 w3 (pt gb (.cells #[.slice ga n c] 24 (0, 0)) * (pt (gb + 1) (.cells #[.int .i64 k, .int .i64 cc, .slice (some ⟨g2, off2, none⟩) l.length sc, .string tx, .int .i64 m] 39 (0, 0)) * (SR * F))) from Sat.drop (P := pt vb (.cells #[.int .i64 vk, .int .i64 vn] 33 (0, 0))) ((show Sat w0 w3 (pt vb (.cells #[.int .i64 vk, .int .i64 vn] 33 (0, 0)) * (pt gb (.cells #[.slice ga n c] 24 (0, 0)) * (SR * RR))) from gg).cast (by rw [HRR.out]; ac_rfl)))
                  clear gg HS
                  go_wp2_with fail
                  go_roundw
                  case rel => exact ⟨i + 1, by go_num, by omega, HB.out, h9.out⟩
                  case measure => simp [intOf]; omega
                | true =>
                  have hpos := refV_kind href
                  dsimp only at hpos
                  have HRF := Lib.hid (fun (w' : World) (G : HP) (hh : Sat w0 w' G) => href ▸ HRF0.out w' G hh)
                  by_cases hhi : (n : Int) < vn
                  · have HNO := Lib.hid (HNOT.out (by
                      unfold slotOk; rw [HMAY.out, href]; dsimp only; rw [HK0.out]
                      have : objG (X.map (·.1)) vn = none := by
                        unfold objG; rw [if_pos (by omega)]
                        exact List.getElem?_eq_none (by rw [List.length_map, HGA.out.len]; omega)
                      rw [this]; rfl))
                    have f6 : decide ((n : Int) < vn) = true := by simpa using hhi
                    clear HRF0 HNOT HALL href hhi hpos
                    go_wp2_with fail
                    refine HM.out.mono ?_
                    rintro e w1 ⟨rfl, h2⟩
                    obtain ⟨v0, v1⟩ := boxV h2
                    have HS := Lib.hid (show Sat w0 w1 (pt vb (.cells #[.int .i64 vk, .int .i64 vn] 33 (0, 0)) * (pt gb (.cells #[.slice ga n c] 24 (0, 0)) * (SR * RR))) from h2.cast (by rw [hRR]; ac_rfl))
                    clear h2 hRR HM
                    go_wp2_with fail
                    clear v0 v1 d0 d1 q2
                    refine wp_gen fun a0 ha => ?_
                    have hb2 : base a0 2 = .pointer (some ⟨gb, 0, none⟩) := by rw [ha]; rfl
                    have hb6 : base a0 6 = .pointer (some ⟨vb, 0, none⟩) := by rw [ha]; rfl
                    have hsz0 : a0.tmps.size = 109 := by rw [ha]; rfl
                    have HA0 := Lib.hid (And.intro hsz0 ha)
                    clear ha hsz0
                    refine GW.start (X := Option Addr × Nat) (w0 := w0) (B := [pt vb (.cells #[.int .i64 vk, .int .i64 vn] 33 (0, 0)), pt gb (.cells #[.slice ga n c] 24 (0, 0)), SR, RR]) (a0 := a0) ?_
                    refine GW.det (d := (some 86)) [0] [] rfl (fun e => by rfl) ?_; apply Exists.intro; refine ⟨fun e w' F hs => ?_, ?_, ?_⟩
                    · have ⟨y0, y1⟩ := boxV (show Sat w0 w' (pt vb (.cells #[.int .i64 vk, .int .i64 vn] 33 (0, 0)) * F) from hs); first | (go_simp; done) | (go_simp; rfl)
                    · exact (fun _ _ _ => rfl)
                    refine GW.keep (d := (some 87)) (fun e => .bool true) [] [] rfl (fun e => by rfl) (fun _ _ _ => rfl) (fun e w' F K hs hK => ?_) ?_
                    · go_simp; (refine (HRF.out _ _ hs).mono ?_; rintro e2 w2 ⟨rfl, h2⟩; exact ⟨_, rfl, hK _ h2⟩)
                    refine GW.det (d := (some 88)) [] [] rfl (fun e => by rfl) ?_; apply Exists.intro; refine ⟨fun e w' F hs => ?_, ?_, ?_⟩
                    · first | (go_simp; done) | (go_simp; rfl)
                    · exact (fun _ _ _ => rfl)
                    refine GW.det (d := (some 89)) [] [] rfl (fun e => by rfl) ?_; apply Exists.intro; refine ⟨fun e w' F hs => ?_, ?_, ?_⟩
                    · first | (go_simp; done) | (go_simp; rfl)
                    · exact (fun _ _ _ => rfl)
                    refine GW.det (d := (some 90)) [0] [] rfl (fun e => by rfl) ?_; apply Exists.intro; refine ⟨fun e w' F hs => ?_, ?_, ?_⟩
                    · have ⟨y0, y1⟩ := boxV (show Sat w0 w' (pt vb (.cells #[.int .i64 vk, .int .i64 vn] 33 (0, 0)) * F) from hs); first | (go_simp; done) | (go_simp; rfl)
                    · exact (fun _ _ _ => rfl)
                    refine GW.det (d := (some 91)) [] [] rfl (fun e => by rfl) ?_; apply Exists.intro; refine ⟨fun e w' F hs => ?_, ?_, ?_⟩
                    · first | (go_simp; done) | (go_simp; rfl)
                    · exact (fun _ _ _ => rfl)
                    refine GW.det (d := (some 92)) [1] [] rfl (fun e => by rfl) ?_; apply Exists.intro; refine ⟨fun e w' F hs => ?_, ?_, ?_⟩
                    · have y0 := boxG (show Sat w0 w' (pt gb (.cells #[.slice ga n c] 24 (0, 0)) * F) from hs); first | (go_simp; done) | (go_simp; rfl)
                    · exact (fun _ _ _ => rfl)
                    refine GW.det (d := (some 93)) [] [] rfl (fun e => by rfl) ?_; apply Exists.intro; refine ⟨fun e w' F hs => ?_, ?_, ?_⟩
                    · first | (go_simp; done) | (go_simp; rfl)
                    · exact (fun _ _ _ => rfl)
                    refine GW.det (d := (some 94)) [] [] rfl (fun e => by rfl) ?_; apply Exists.intro; refine ⟨fun e w' F hs => ?_, ?_, ?_⟩
                    · first | (go_simp; done) | (go_simp; rfl)
                    · exact (fun _ _ _ => rfl)
                    refine GW.det (d := (some 95)) [] [] rfl (fun e => by rfl) ?_; apply Exists.intro; refine ⟨fun e w' F hs => ?_, ?_, ?_⟩
                    · first | (go_simp; done) | (go_simp; rfl)
                    · exact (fun _ _ _ => rfl)
                    refine GW.skip (d := (some 96)) rfl (fun e => by rfl) ?_
                    refine GW.skip (d := (some 97)) rfl (fun e => by rfl) ?_
                    refine GW.skip (d := (some 98)) rfl (fun e => by rfl) ?_
                    refine GW.skip (d := (some 99)) rfl (fun e => by rfl) ?_
                    refine GW.skip (d := (some 100)) rfl (fun e => by rfl) ?_
                    refine GW.skip (d := (some 101)) rfl (fun e => by rfl) ?_
                    refine GW.skip (d := (some 102)) rfl (fun e => by rfl) ?_
                    refine GW.skip (d := (some 103)) rfl (fun e => by rfl) ?_
                    refine GW.skip (d := (some 104)) rfl (fun e => by rfl) ?_
                    refine GW.skip (d := (some 105)) rfl (fun e => by rfl) ?_
                    refine GW.skip (d := (some 106)) rfl (fun e => by rfl) ?_
                    refine GW.det (d := (some 107)) [] [] rfl (fun e => by rfl) ?_; apply Exists.intro; refine ⟨fun e w' F hs => ?_, ?_, ?_⟩
                    · first | (go_simp; done) | (go_simp; rfl)
                    · exact (fun _ _ _ => rfl)
                    refine GW.det (d := (some 108)) [] [] rfl (fun e => by rfl) ?_; apply Exists.intro; refine ⟨fun e w' F hs => ?_, ?_, ?_⟩
                    · first | (go_simp; done) | (go_simp; rfl)
                    · exact (fun _ _ _ => rfl)
                    refine GW.done (sz := 109) [0, 1, 2, 3] (by kernel_rfl) (by kernel_rfl) HA0.out.1 (by rfl) HS.out (by rfl) fun e w3 gg => ?_
                    have ha := HA0.out.2
                    subst ha
                    clear HA0 hb2 hb6
                    simp only [putL, Act.put, List.setIfInBounds_toArray, List.set_cons_zero, List.set_cons_succ]
                    have h9 := Lib.hid (show Sat w0 w3 (pt gb (.cells #[.slice ga n c] 24 (0, 0)) * (pt (gb + 1) (.cells #[.int .i64 k, .int .i64 cc, .slice (some ⟨g2, off2, none⟩) l.length sc, .string tx, .int .i64 m] 39 (0, 0)) * (SR * F))) from Sat.drop (P := pt vb (.cells #[.int .i64 vk, .int .i64 vn] 33 (0, 0))) ((show Sat w0 w3 (pt vb (.cells #[.int .i64 vk, .int .i64 vn] 33 (0, 0)) * (pt gb (.cells #[.slice ga n c] 24 (0, 0)) * (SR * RR))) from gg).cast (by rw [HRR.out]; ac_rfl)))
                    clear gg HS
                    go_wp2_with fail
                    go_ret
                    exact ⟨by rw [HNO.out]; rfl, h9.out.drop.drop⟩
                  · obtain ⟨j, rfl⟩ : ∃ j : Nat, vn = (j : Int) + 1 := ⟨(vn - 1).toNat, by omega⟩
                    have hjn : j < n := by omega
                    have f6 : decide ((n : Int) < (j : Int) + 1) = false := by simp; omega
                    have hj1 : (j : Int) + 1 - 1 = j := by omega
                    have hj2 : (0 : Int) ≤ (j : Int) := by omega
                    have hj3 : (j : Int) < (n : Int) := by omega
                    have hj4 : IntKind.i64.wrap (j : Int) = j := IntWalk.i64_in _ (by omega)
                    obtain ⟨x, hx, g, off, ega, _⟩ := HGA.out.at hs0p hjn
                    subst ega
                    have HXC := Lib.hid (fun (w' : World) (G : HP) (hh : Sat w0 w' (SR * G)) => (show w'.cell? ⟨g, off + j * 5, none⟩ = some (.int .i64 x.1.kind) ∧ True from by
                      obtain ⟨x', hx', g', off', e', y0, _⟩ := HGA.out.at hh hjn
                      rw [hx] at hx'; cases hx'; cases e'
                      exact ⟨y0, trivial⟩))
                    have hob : objG (X.map (·.1)) ((j : Int) + 1) = some x.1 := by rw [objG_nat, List.getElem?_map, hx]; rfl
                    have hsl : slotOk (X.map (·.1)) ⟨vk, (j : Int) + 1⟩ = decide (x.1.kind = vk) := by
                      unfold slotOk; rw [HMAY.out, href]; dsimp only; rw [HK0.out, hob]; rfl
                    obtain ⟨xk, hxk⟩ : ∃ q, x.1.kind = q := ⟨_, rfl⟩
                    rw [hxk] at HXC hsl
                    by_cases hkk : xk = vk
                    · have HB := Lib.hid (Lib.hid (HALL.out (by rw [hsl]; simpa using hkk)))
                      have f7 : (xk != vk) = false := by simpa using hkk
                      clear HRF0 HNOT HALL href hhi hpos hx hob hsl hkk hxk
                      go_wp2_with fail
                      refine HM.out.mono ?_
                      rintro e w1 ⟨rfl, h2⟩
                      obtain ⟨v0, v1⟩ := boxV h2
                      have HS := Lib.hid (show Sat w0 w1 (pt vb (.cells #[.int .i64 vk, .int .i64 ((j : Int) + 1)] 33 (0, 0)) * (pt gb (.cells #[.slice (some ⟨g, off, none⟩) n c] 24 (0, 0)) * (SR * RR))) from h2.cast (by rw [hRR]; ac_rfl))
                      clear h2 hRR HM
                      go_wp2_with fail
                      clear v0 v1 d0 d1 q2
                      refine wp_gen fun a0 ha => ?_
                      have hb2 : base a0 2 = .pointer (some ⟨gb, 0, none⟩) := by rw [ha]; rfl
                      have hb6 : base a0 6 = .pointer (some ⟨vb, 0, none⟩) := by rw [ha]; rfl
                      have hsz0 : a0.tmps.size = 109 := by rw [ha]; rfl
                      have HA0 := Lib.hid (And.intro hsz0 ha)
                      clear ha hsz0
                      refine GW.start (X := Option Addr × Nat) (w0 := w0) (B := [pt vb (.cells #[.int .i64 vk, .int .i64 ((j : Int) + 1)] 33 (0, 0)), pt gb (.cells #[.slice (some ⟨g, off, none⟩) n c] 24 (0, 0)), SR, RR]) (a0 := a0) ?_
                      refine GW.det (d := (some 86)) [0] [] rfl (fun e => by rfl) ?_; apply Exists.intro; refine ⟨fun e w' F hs => ?_, ?_, ?_⟩
                      · have ⟨y0, y1⟩ := boxV (show Sat w0 w' (pt vb (.cells #[.int .i64 vk, .int .i64 ((j : Int) + 1)] 33 (0, 0)) * F) from hs); first | (go_simp; done) | (go_simp; rfl)
                      · exact (fun _ _ _ => rfl)
                      refine GW.keep (d := (some 87)) (fun e => .bool true) [] [] rfl (fun e => by rfl) (fun _ _ _ => rfl) (fun e w' F K hs hK => ?_) ?_
                      · go_simp; (refine (HRF.out _ _ hs).mono ?_; rintro e2 w2 ⟨rfl, h2⟩; exact ⟨_, rfl, hK _ h2⟩)
                      refine GW.det (d := (some 88)) [] [] rfl (fun e => by rfl) ?_; apply Exists.intro; refine ⟨fun e w' F hs => ?_, ?_, ?_⟩
                      · first | (go_simp; done) | (go_simp; rfl)
                      · exact (fun _ _ _ => rfl)
                      refine GW.det (d := (some 89)) [] [] rfl (fun e => by rfl) ?_; apply Exists.intro; refine ⟨fun e w' F hs => ?_, ?_, ?_⟩
                      · first | (go_simp; done) | (go_simp; rfl)
                      · exact (fun _ _ _ => rfl)
                      refine GW.det (d := (some 90)) [0] [] rfl (fun e => by rfl) ?_; apply Exists.intro; refine ⟨fun e w' F hs => ?_, ?_, ?_⟩
                      · have ⟨y0, y1⟩ := boxV (show Sat w0 w' (pt vb (.cells #[.int .i64 vk, .int .i64 ((j : Int) + 1)] 33 (0, 0)) * F) from hs); first | (go_simp; done) | (go_simp; rfl)
                      · exact (fun _ _ _ => rfl)
                      refine GW.det (d := (some 91)) [] [] rfl (fun e => by rfl) ?_; apply Exists.intro; refine ⟨fun e w' F hs => ?_, ?_, ?_⟩
                      · first | (go_simp; done) | (go_simp; rfl)
                      · exact (fun _ _ _ => rfl)
                      refine GW.det (d := (some 92)) [1] [] rfl (fun e => by rfl) ?_; apply Exists.intro; refine ⟨fun e w' F hs => ?_, ?_, ?_⟩
                      · have y0 := boxG (show Sat w0 w' (pt gb (.cells #[.slice (some ⟨g, off, none⟩) n c] 24 (0, 0)) * F) from hs); first | (go_simp; done) | (go_simp; rfl)
                      · exact (fun _ _ _ => rfl)
                      refine GW.det (d := (some 93)) [] [] rfl (fun e => by rfl) ?_; apply Exists.intro; refine ⟨fun e w' F hs => ?_, ?_, ?_⟩
                      · first | (go_simp; done) | (go_simp; rfl)
                      · exact (fun _ _ _ => rfl)
                      refine GW.det (d := (some 94)) [] [] rfl (fun e => by rfl) ?_; apply Exists.intro; refine ⟨fun e w' F hs => ?_, ?_, ?_⟩
                      · first | (go_simp; done) | (go_simp; rfl)
                      · exact (fun _ _ _ => rfl)
                      refine GW.det (d := (some 95)) [] [] rfl (fun e => by rfl) ?_; apply Exists.intro; refine ⟨fun e w' F hs => ?_, ?_, ?_⟩
                      · first | (go_simp; done) | (go_simp; rfl)
                      · exact (fun _ _ _ => rfl)
                      refine GW.det (d := (some 96)) [] [] rfl (fun e => by rfl) ?_; apply Exists.intro; refine ⟨fun e w' F hs => ?_, ?_, ?_⟩
                      · first | (go_simp; done) | (go_simp; rfl)
                      · exact (fun _ _ _ => rfl)
                      refine GW.det (d := (some 97)) [1] [] rfl (fun e => by rfl) ?_; apply Exists.intro; refine ⟨fun e w' F hs => ?_, ?_, ?_⟩
                      · have y0 := boxG (show Sat w0 w' (pt gb (.cells #[.slice (some ⟨g, off, none⟩) n c] 24 (0, 0)) * F) from hs); first | (go_simp; done) | (go_simp; rfl)
                      · exact (fun _ _ _ => rfl)
                      refine GW.det (d := (some 98)) [] [] rfl (fun e => by rfl) ?_; apply Exists.intro; refine ⟨fun e w' F hs => ?_, ?_, ?_⟩
                      · first | (go_simp; done) | (go_simp; rfl)
                      · exact (fun _ _ _ => rfl)
                      refine GW.det (d := (some 99)) [0] [] rfl (fun e => by rfl) ?_; apply Exists.intro; refine ⟨fun e w' F hs => ?_, ?_, ?_⟩
                      · have ⟨y0, y1⟩ := boxV (show Sat w0 w' (pt vb (.cells #[.int .i64 vk, .int .i64 ((j : Int) + 1)] 33 (0, 0)) * F) from hs); first | (go_simp; done) | (go_simp; rfl)
                      · exact (fun _ _ _ => rfl)
                      refine GW.det (d := (some 100)) [] [] rfl (fun e => by rfl) ?_; apply Exists.intro; refine ⟨fun e w' F hs => ?_, ?_, ?_⟩
                      · first | (go_simp; done) | (go_simp; rfl)
                      · exact (fun _ _ _ => rfl)
                      refine GW.det (d := (some 101)) [] [] rfl (fun e => by rfl) ?_; apply Exists.intro; refine ⟨fun e w' F hs => ?_, ?_, ?_⟩
                      · first | (go_simp; done) | (go_simp; rfl)
                      · exact (fun _ _ _ => rfl)
                      refine GW.det (d := (some 102)) [] [] rfl (fun e => by rfl) ?_; apply Exists.intro; refine ⟨fun e w' F hs => ?_, ?_, ?_⟩
                      · first | (go_simp; done) | (go_simp; rfl)
                      · exact (fun _ _ _ => rfl)
                      refine GW.det (d := (some 103)) [2] [] rfl (fun e => by rfl) ?_; apply Exists.intro; refine ⟨fun e w' F hs => ?_, ?_, ?_⟩
                      · obtain ⟨y0, _⟩ := HXC.out w' _ (show Sat w0 w' (SR * F) from hs); first | (go_simp; done) | (go_simp; rfl)
                      · exact (fun _ _ _ => rfl)
                      refine GW.det (d := (some 104)) [] [] rfl (fun e => by rfl) ?_; apply Exists.intro; refine ⟨fun e w' F hs => ?_, ?_, ?_⟩
                      · first | (go_simp; done) | (go_simp; rfl)
                      · exact (fun _ _ _ => rfl)
                      refine GW.det (d := (some 105)) [0] [] rfl (fun e => by rfl) ?_; apply Exists.intro; refine ⟨fun e w' F hs => ?_, ?_, ?_⟩
                      · have ⟨y0, y1⟩ := boxV (show Sat w0 w' (pt vb (.cells #[.int .i64 vk, .int .i64 ((j : Int) + 1)] 33 (0, 0)) * F) from hs); first | (go_simp; done) | (go_simp; rfl)
                      · exact (fun _ _ _ => rfl)
                      refine GW.det (d := (some 106)) [] [] rfl (fun e => by rfl) ?_; apply Exists.intro; refine ⟨fun e w' F hs => ?_, ?_, ?_⟩
                      · first | (go_simp; done) | (go_simp; rfl)
                      · exact (fun _ _ _ => rfl)
                      refine GW.det (d := (some 107)) [] [] rfl (fun e => by rfl) ?_; apply Exists.intro; refine ⟨fun e w' F hs => ?_, ?_, ?_⟩
                      · first | (go_simp; done) | (go_simp; rfl)
                      · exact (fun _ _ _ => rfl)
                      refine GW.det (d := (some 108)) [] [] rfl (fun e => by rfl) ?_; apply Exists.intro; refine ⟨fun e w' F hs => ?_, ?_, ?_⟩
                      · first | (go_simp; done) | (go_simp; rfl)
                      · exact (fun _ _ _ => rfl)
                      refine GW.done (sz := 109) [0, 1, 2, 3] (by kernel_rfl) (by kernel_rfl) HA0.out.1 (by rfl) HS.out (by rfl) fun e w3 gg => ?_
                      have ha := HA0.out.2
                      subst ha
                      clear HA0 hb2 hb6
                      simp only [putL, Act.put, List.setIfInBounds_toArray, List.set_cons_zero, List.set_cons_succ]
                      have h9 := Lib.hid (show Sat w0 w3 (pt gb (.cells #[.slice (some ⟨g, off, none⟩) n c] 24 (0, 0)) * (pt (gb + 1) (.cells #[.int .i64 k, .int .i64 cc, .slice (some ⟨g2, off2, none⟩) l.length sc, .string tx, .int .i64 m] 39 (0, 0)) * (SR * F))) from Sat.drop (P := pt vb (.cells #[.int .i64 vk, .int .i64 ((j : Int) + 1)] 33 (0, 0))) ((show Sat w0 w3 (pt vb (.cells #[.int .i64 vk, .int .i64 ((j : Int) + 1)] 33 (0, 0)) * (pt gb (.cells #[.slice (some ⟨g, off, none⟩) n c] 24 (0, 0)) * (SR * RR))) from gg).cast (by rw [HRR.out]; ac_rfl)))
                      clear gg HS
                      go_wp2_with fail
                      go_roundw
                      case rel => exact ⟨i + 1, by go_num, by omega, HB.out, h9.out⟩
                      case measure => simp [intOf]; omega
                    · have HNO := Lib.hid (HNOT.out (by rw [hsl]; simpa using hkk))
                      have f7 : (xk != vk) = true := by simpa using hkk
                      clear HRF0 HNOT HALL href hhi hpos hx hob hsl hkk hxk
                      go_wp2_with fail
                      refine HM.out.mono ?_
                      rintro e w1 ⟨rfl, h2⟩
                      obtain ⟨v0, v1⟩ := boxV h2
                      have HS := Lib.hid (show Sat w0 w1 (pt vb (.cells #[.int .i64 vk, .int .i64 ((j : Int) + 1)] 33 (0, 0)) * (pt gb (.cells #[.slice (some ⟨g, off, none⟩) n c] 24 (0, 0)) * (SR * RR))) from h2.cast (by rw [hRR]; ac_rfl))
                      clear h2 hRR HM
                      go_wp2_with fail
                      clear v0 v1 d0 d1 q2
                      refine wp_gen fun a0 ha => ?_
                      have hb2 : base a0 2 = .pointer (some ⟨gb, 0, none⟩) := by rw [ha]; rfl
                      have hb6 : base a0 6 = .pointer (some ⟨vb, 0, none⟩) := by rw [ha]; rfl
                      have hsz0 : a0.tmps.size = 109 := by rw [ha]; rfl
                      have HA0 := Lib.hid (And.intro hsz0 ha)
                      clear ha hsz0
                      refine GW.start (X := Option Addr × Nat) (w0 := w0) (B := [pt vb (.cells #[.int .i64 vk, .int .i64 ((j : Int) + 1)] 33 (0, 0)), pt gb (.cells #[.slice (some ⟨g, off, none⟩) n c] 24 (0, 0)), SR, RR]) (a0 := a0) ?_
                      refine GW.det (d := (some 86)) [0] [] rfl (fun e => by rfl) ?_; apply Exists.intro; refine ⟨fun e w' F hs => ?_, ?_, ?_⟩
                      · have ⟨y0, y1⟩ := boxV (show Sat w0 w' (pt vb (.cells #[.int .i64 vk, .int .i64 ((j : Int) + 1)] 33 (0, 0)) * F) from hs); first | (go_simp; done) | (go_simp; rfl)
                      · exact (fun _ _ _ => rfl)
                      refine GW.keep (d := (some 87)) (fun e => .bool true) [] [] rfl (fun e => by rfl) (fun _ _ _ => rfl) (fun e w' F K hs hK => ?_) ?_
                      · go_simp; (refine (HRF.out _ _ hs).mono ?_; rintro e2 w2 ⟨rfl, h2⟩; exact ⟨_, rfl, hK _ h2⟩)
                      refine GW.det (d := (some 88)) [] [] rfl (fun e => by rfl) ?_; apply Exists.intro; refine ⟨fun e w' F hs => ?_, ?_, ?_⟩
                      · first | (go_simp; done) | (go_simp; rfl)
                      · exact (fun _ _ _ => rfl)
                      refine GW.det (d := (some 89)) [] [] rfl (fun e => by rfl) ?_; apply Exists.intro; refine ⟨fun e w' F hs => ?_, ?_, ?_⟩
                      · first | (go_simp; done) | (go_simp; rfl)
                      · exact (fun _ _ _ => rfl)
                      refine GW.det (d := (some 90)) [0] [] rfl (fun e => by rfl) ?_; apply Exists.intro; refine ⟨fun e w' F hs => ?_, ?_, ?_⟩
                      · have ⟨y0, y1⟩ := boxV (show Sat w0 w' (pt vb (.cells #[.int .i64 vk, .int .i64 ((j : Int) + 1)] 33 (0, 0)) * F) from hs); first | (go_simp; done) | (go_simp; rfl)
                      · exact (fun _ _ _ => rfl)
                      refine GW.det (d := (some 91)) [] [] rfl (fun e => by rfl) ?_; apply Exists.intro; refine ⟨fun e w' F hs => ?_, ?_, ?_⟩
                      · first | (go_simp; done) | (go_simp; rfl)
                      · exact (fun _ _ _ => rfl)
                      refine GW.det (d := (some 92)) [1] [] rfl (fun e => by rfl) ?_; apply Exists.intro; refine ⟨fun e w' F hs => ?_, ?_, ?_⟩
                      · have y0 := boxG (show Sat w0 w' (pt gb (.cells #[.slice (some ⟨g, off, none⟩) n c] 24 (0, 0)) * F) from hs); first | (go_simp; done) | (go_simp; rfl)
                      · exact (fun _ _ _ => rfl)
                      refine GW.det (d := (some 93)) [] [] rfl (fun e => by rfl) ?_; apply Exists.intro; refine ⟨fun e w' F hs => ?_, ?_, ?_⟩
                      · first | (go_simp; done) | (go_simp; rfl)
                      · exact (fun _ _ _ => rfl)
                      refine GW.det (d := (some 94)) [] [] rfl (fun e => by rfl) ?_; apply Exists.intro; refine ⟨fun e w' F hs => ?_, ?_, ?_⟩
                      · first | (go_simp; done) | (go_simp; rfl)
                      · exact (fun _ _ _ => rfl)
                      refine GW.det (d := (some 95)) [] [] rfl (fun e => by rfl) ?_; apply Exists.intro; refine ⟨fun e w' F hs => ?_, ?_, ?_⟩
                      · first | (go_simp; done) | (go_simp; rfl)
                      · exact (fun _ _ _ => rfl)
                      refine GW.det (d := (some 96)) [] [] rfl (fun e => by rfl) ?_; apply Exists.intro; refine ⟨fun e w' F hs => ?_, ?_, ?_⟩
                      · first | (go_simp; done) | (go_simp; rfl)
                      · exact (fun _ _ _ => rfl)
                      refine GW.det (d := (some 97)) [1] [] rfl (fun e => by rfl) ?_; apply Exists.intro; refine ⟨fun e w' F hs => ?_, ?_, ?_⟩
                      · have y0 := boxG (show Sat w0 w' (pt gb (.cells #[.slice (some ⟨g, off, none⟩) n c] 24 (0, 0)) * F) from hs); first | (go_simp; done) | (go_simp; rfl)
                      · exact (fun _ _ _ => rfl)
                      refine GW.det (d := (some 98)) [] [] rfl (fun e => by rfl) ?_; apply Exists.intro; refine ⟨fun e w' F hs => ?_, ?_, ?_⟩
                      · first | (go_simp; done) | (go_simp; rfl)
                      · exact (fun _ _ _ => rfl)
                      refine GW.det (d := (some 99)) [0] [] rfl (fun e => by rfl) ?_; apply Exists.intro; refine ⟨fun e w' F hs => ?_, ?_, ?_⟩
                      · have ⟨y0, y1⟩ := boxV (show Sat w0 w' (pt vb (.cells #[.int .i64 vk, .int .i64 ((j : Int) + 1)] 33 (0, 0)) * F) from hs); first | (go_simp; done) | (go_simp; rfl)
                      · exact (fun _ _ _ => rfl)
                      refine GW.det (d := (some 100)) [] [] rfl (fun e => by rfl) ?_; apply Exists.intro; refine ⟨fun e w' F hs => ?_, ?_, ?_⟩
                      · first | (go_simp; done) | (go_simp; rfl)
                      · exact (fun _ _ _ => rfl)
                      refine GW.det (d := (some 101)) [] [] rfl (fun e => by rfl) ?_; apply Exists.intro; refine ⟨fun e w' F hs => ?_, ?_, ?_⟩
                      · first | (go_simp; done) | (go_simp; rfl)
                      · exact (fun _ _ _ => rfl)
                      refine GW.det (d := (some 102)) [] [] rfl (fun e => by rfl) ?_; apply Exists.intro; refine ⟨fun e w' F hs => ?_, ?_, ?_⟩
                      · first | (go_simp; done) | (go_simp; rfl)
                      · exact (fun _ _ _ => rfl)
                      refine GW.det (d := (some 103)) [2] [] rfl (fun e => by rfl) ?_; apply Exists.intro; refine ⟨fun e w' F hs => ?_, ?_, ?_⟩
                      · obtain ⟨y0, _⟩ := HXC.out w' _ (show Sat w0 w' (SR * F) from hs); first | (go_simp; done) | (go_simp; rfl)
                      · exact (fun _ _ _ => rfl)
                      refine GW.det (d := (some 104)) [] [] rfl (fun e => by rfl) ?_; apply Exists.intro; refine ⟨fun e w' F hs => ?_, ?_, ?_⟩
                      · first | (go_simp; done) | (go_simp; rfl)
                      · exact (fun _ _ _ => rfl)
                      refine GW.det (d := (some 105)) [0] [] rfl (fun e => by rfl) ?_; apply Exists.intro; refine ⟨fun e w' F hs => ?_, ?_, ?_⟩
                      · have ⟨y0, y1⟩ := boxV (show Sat w0 w' (pt vb (.cells #[.int .i64 vk, .int .i64 ((j : Int) + 1)] 33 (0, 0)) * F) from hs); first | (go_simp; done) | (go_simp; rfl)
                      · exact (fun _ _ _ => rfl)
                      refine GW.det (d := (some 106)) [] [] rfl (fun e => by rfl) ?_; apply Exists.intro; refine ⟨fun e w' F hs => ?_, ?_, ?_⟩
                      · first | (go_simp; done) | (go_simp; rfl)
                      · exact (fun _ _ _ => rfl)
                      refine GW.det (d := (some 107)) [] [] rfl (fun e => by rfl) ?_; apply Exists.intro; refine ⟨fun e w' F hs => ?_, ?_, ?_⟩
                      · first | (go_simp; done) | (go_simp; rfl)
                      · exact (fun _ _ _ => rfl)
                      refine GW.det (d := (some 108)) [] [] rfl (fun e => by rfl) ?_; apply Exists.intro; refine ⟨fun e w' F hs => ?_, ?_, ?_⟩
                      · first | (go_simp; done) | (go_simp; rfl)
                      · exact (fun _ _ _ => rfl)
                      refine GW.done (sz := 109) [0, 1, 2, 3] (by kernel_rfl) (by kernel_rfl) HA0.out.1 (by rfl) HS.out (by rfl) fun e w3 gg => ?_
                      have ha := HA0.out.2
                      subst ha
                      clear HA0 hb2 hb6
                      simp only [putL, Act.put, List.setIfInBounds_toArray, List.set_cons_zero, List.set_cons_succ]
                      have h9 := Lib.hid (show Sat w0 w3 (pt gb (.cells #[.slice (some ⟨g, off, none⟩) n c] 24 (0, 0)) * (pt (gb + 1) (.cells #[.int .i64 k, .int .i64 cc, .slice (some ⟨g2, off2, none⟩) l.length sc, .string tx, .int .i64 m] 39 (0, 0)) * (SR * F))) from Sat.drop (P := pt vb (.cells #[.int .i64 vk, .int .i64 ((j : Int) + 1)] 33 (0, 0))) ((show Sat w0 w3 (pt vb (.cells #[.int .i64 vk, .int .i64 ((j : Int) + 1)] 33 (0, 0)) * (pt gb (.cells #[.slice (some ⟨g, off, none⟩) n c] 24 (0, 0)) * (SR * RR))) from gg).cast (by rw [HRR.out]; ac_rfl)))
                      clear gg HS
                      go_wp2_with fail
                      go_ret
                      exact ⟨by rw [HNO.out]; rfl, h9.out.drop.drop⟩
          · obtain rfl : i = l.length := by omega
            have hA := Lib.hid (show l.all (slotOk (X.map (·.1))) = true by have := hall.out; rwa [List.take_length] at this)
            have HS := Lib.hid hs.drop.drop
            clear hs hall
            go_wp2_with fail
            go_ret
            exact ⟨by rw [HRES2.out, hA.out]; rfl, HS.out⟩
    · have HN := Lib.hid (show objOk (X.map (·.1)) ⟨k, cc, l, tx, m⟩ = false by rw [HRES.out, show f2B (decide (k = 5)) l.length tx = false by simpa using hf2]; simp)
      have hf2' : f2B (decide (k = 5)) l.length tx = false := by simpa using hf2
      unfold f2B at hf2'
      by_cases h5 : k = 5
      · rw [if_pos (by simpa using h5)] at hf2'
        have e0 : ¬ l.length = 0 := by simpa using hf2'
        have e1 : decide ((0 : Int) < (l.length : Int)) = true := by simp; omega
        have e2 : decide (0 < l.length) = true := by simp; omega
        have e3 : (k == 5) = true := by simpa using h5
        clear hf2' hf2 h5 e0
        go_enter Try.func84, Try.ntmps84
        try rw [hgb]
        go_wp2_with fail
        go_ret
        exact ⟨by rw [HN.out]; rfl, HF.out.drop.drop⟩
      · rw [if_neg (by simpa using h5)] at hf2'
        have e0 : ¬ tx.toList = [] := fun e => by unfold noText at hf2'; rw [e] at hf2'; exact absurd hf2' (by decide)
        have e1 : (tx.toList != []) = true := by simpa using e0
        have e2 : (tx.toList == []) = false := by simpa using e0
        have e3 : (k == 5) = false := by simpa using h5
        have e4 : (k != 5) = true := by simpa using h5
        clear hf2' hf2 h5 e0
        go_enter Try.func84, Try.ntmps84
        try rw [hgb]
        go_wp2_with fail
        go_ret
        exact ⟨by rw [HN.out]; rfl, HF.out.drop.drop⟩
end
section
variable {w0 w : World} {SR F : HP} {ga : Option Addr} {n c : Nat} {X : List XObj}
set_option maxRecDepth 100000 in
set_option maxHeartbeats 2000000 in
theorem ref_Check (h : Sat w0 w (SR * F)) (hG : SrcO w0 SR ga n c X) {b : Bool} (hb : okG (X.map (·.1)) = b) :
    Calls Try.prog 47 #[.agg #[.slice ga n c]] w fun e w' => e = .returned (.bool b) ∧ Sat w0 w' (SR * F) := by
  subst hb
  have h1 := h.alloc (.cells #[.slice ga n c] 24)
  generalize hgb : w.heap.size = gb at *
  have hcap := hG.cap
  have hsm := hG.small
  have HG := Lib.hid hG
  have H1 := Lib.hid h1
  have HO := Lib.hid (fun (w' : World) (G : HP) (hh : Sat w0 w' (SR * G)) (x : XObj) (hx : x ∈ X) => ref_obj (k := x.1.kind) (cc := x.1.count) (m := x.1.mark) (tx := x.1.text) hh hG (hG.slots x hx).1 (hG.slots x hx).2)
  clear h h1 hG
  go_enter Try.func47, Try.ntmps47
  go_wp2_with fail
  go_loopw [3] (fun iv wr => ∃ k : Nat, iv = .int .i64 k ∧ k ≤ n ∧ Hid (((X.map (·.1)).take k).all (objOk (X.map (·.1))) = true) ∧ Sat w0 wr (pt gb (.cells #[.slice ga n c] 24 (0, 0)) * (SR * F))) (fun iv _ => n - (intOf iv).toNat)
  case atStart => exact ⟨0, rfl, by omega, Lib.hid rfl, H1.out⟩
  case round =>
    clear H1
    obtain ⟨k, rfl, hk, hall, hs⟩ := hrel
    have c0 := boxG hs
    by_cases hlt : k < n
    · obtain ⟨x, hx, g, off, rfl, d0, d1, d2, d3, d4⟩ := HG.out.at hs.drew.p2 hlt
      have htk : (X.map (·.1)).take (k + 1) = (X.map (·.1)).take k ++ [x.1] := by rw [List.take_add_one, List.getElem?_map, hx]; rfl
      have hm := List.mem_of_getElem? hx
      have HC := Lib.hid (HO.out _ _ hs.drew.p2 x hm)
      obtain ⟨⟨ok, oc, osl, otx, om⟩, xa, xc⟩ := x
      dsimp only at d0 d1 d2 d3 d4 HC
      obtain ⟨q, hq⟩ : ∃ q, objOk (X.map (·.1)) ⟨ok, oc, osl, otx, om⟩ = q := ⟨_, rfl⟩
      rw [hq] at HC
      have HQ := Lib.hid hq
      have HTK := Lib.hid htk
      have HM := Lib.hid (show (⟨ok, oc, osl, otx, om⟩ : AObj) ∈ X.map (·.1) from List.mem_map_of_mem hm)
      clear hs htk hm hx hq
      cases q with
      | true =>
        go_wp2_with fail
        refine wp_region_tail 6 (by kernel_rfl) (by kernel_rfl) ?_
        simp only [List.take_succ_cons, List.take_zero, List.drop_succ_cons, List.drop_zero]
        iterate 6 still_step
        refine wpStill_nil ?_
        go_wp2_with fail
        refine HC.out.mono ?_
        rintro e w1 ⟨rfl, h2⟩
        go_wp2_with fail
        go_roundw
        case rel => exact ⟨k + 1, by go_num, by omega, Lib.hid (by rw [HTK.out, List.all_append, hall.out]; simp [HQ.out]), h2.p2⟩
        case measure => simp [intOf]; omega
      | false =>
        go_wp2_with fail
        refine wp_region_tail 6 (by kernel_rfl) (by kernel_rfl) ?_
        simp only [List.take_succ_cons, List.take_zero, List.drop_succ_cons, List.drop_zero]
        iterate 6 still_step
        refine wpStill_nil ?_
        go_wp2_with fail
        refine HC.out.mono ?_
        rintro e w1 ⟨rfl, h2⟩
        go_wp2_with fail
        go_ret
        refine ⟨?_, h2.p2.drop⟩
        have : okG (X.map (·.1)) = false := by
          cases hq : okG (X.map (·.1)) with
          | false => rfl
          | true =>
            have := List.all_eq_true.1 hq _ HM.out
            rw [HQ.out] at this; cases this
        rw [this]; rfl
    · obtain rfl : k = n := by omega
      have hA := Lib.hid (show okG (X.map (·.1)) = true by have := hall.out; rwa [List.take_of_length_le (by rw [List.length_map, HG.out.len]; exact Nat.le_refl _)] at this)
      have HS := Lib.hid hs.drop
      clear hs hall
      go_wp2_with fail
      go_ret
      exact ⟨by rw [hA.out]; rfl, HS.out⟩
end
end Go.Proofs.Ytmngkodejlhalaa.Tw
