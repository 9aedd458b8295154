/- graph: slot, obj, Check. No condition. -/
import Derived.Test.YtmngkodejlhalaaGvC
import Derived.IntWalk
namespace Go.Proofs.Ytmngkodejlhalaa.Tw
set_option linter.unusedVariables false
set_option linter.unusedSimpArgs false
open Go Go.RowKit Go.MapKept

section
variable {w0 w : World} {SR F : HP} {ga : Option Addr} {n c : Nat} {X : List XObj}
theorem boxG {w : World} {b : Nat} {F : HP} (h : Sat w0 w (pt b (.cells #[.slice ga n c] 24 (0, 0)) * F)) : w.cell? ⟨b, 0, none⟩ = some (.slice ga n c) := Sat.cell (T := 24) (cs := #[.slice ga n c]) h 0 rfl
theorem boxV {w : World} {b : Nat} {k x : Int} {F : HP} (h : Sat w0 w (pt b (.cells #[.int .i64 k, .int .i64 x] 33 (0, 0)) * F)) : w.cell? ⟨b, 0, none⟩ = some (.int .i64 k) ∧ w.cell? ⟨b, 1, none⟩ = some (.int .i64 x) :=
  ⟨Sat.cell (T := 33) (cs := #[.int .i64 k, .int .i64 x]) h 0 rfl, Sat.cell (T := 33) (cs := #[.int .i64 k, .int .i64 x]) h 1 rfl⟩
theorem SrcO.at (hG : SrcO w0 SR ga n c X) (hs : Sat w0 w (SR * F)) {k : Nat} (hk : k < n) : ∃ x, X[k]? = some x ∧ ∃ g off, ga = some ⟨g, off, none⟩ ∧ w.cell? ⟨g, off + k * 5, none⟩ = some (.int .i64 x.1.kind) ∧ w.cell? ⟨g, off + k * 5 + 1, none⟩ = some (.int .i64 x.1.count) ∧ w.cell? ⟨g, off + k * 5 + 2, none⟩ = some (.slice x.2.1 x.1.slots.length x.2.2) ∧ w.cell? ⟨g, off + k * 5 + 3, none⟩ = some (.string x.1.text) ∧ w.cell? ⟨g, off + k * 5 + 4, none⟩ = some (.int .i64 x.1.mark) := by
  have e : X[k]? = some (X[k]'(by rw [hG.len]; exact hk)) := List.getElem?_eq_getElem _
  exact ⟨_, e, hG.cell _ _ hs _ _ e⟩
set_option maxHeartbeats 1000000 in
theorem graph_slot (h : Sat w0 w (SR * F)) (hG : SrcO w0 SR ga n c X) (v : AVal) :
    Calls Try.prog 100 #[.agg #[.slice ga n c], .agg #[.int .i64 v.kind, .int .i64 v.n]] w fun e w' => e = .returned (.bool (slotOk (X.map (·.1)) v)) ∧ Sat w0 w' (SR * F) := by
  obtain ⟨k, x⟩ := v
  have hb := (h.alloc (.cells #[.slice ga n c] 24)).alloc (.cells #[.int .i64 k, .int .i64 x] 33)
  rw [size_alloc] at hb
  generalize hgb : w.heap.size = gb at *
  have HC := Lib.hid (fun w' (hs : Sat w0 w' (pt (gb + 1) (.cells #[.int .i64 k, .int .i64 x] 33 (0, 0)) * (pt gb (.cells #[.slice ga n c] 24 (0, 0)) * (SR * F)))) => And.intro (boxV hs).1 (And.intro (boxV hs).2 (boxG hs.p2)))
  have hM := val_May ⟨k, x⟩ hb
  cases hm : mayV ⟨k, x⟩ with
  | false =>
    have e : slotOk (X.map (·.1)) ⟨k, x⟩ = false := by simp [slotOk, hm]
    rw [e]
    rw [hm] at hM
    have HM := Lib.hid hM
    have ⟨f0, f1, f2⟩ := HC.out _ hb
    clear e hm hM hG
    go_enter Try.func100, Try.ntmps100
    try rw [hgb]
    go_wp2_with fail
    refine HM.out.mono ?_
    rintro e w1 ⟨rfl, h1⟩
    go_wp2_with fail
    go_ret
    exact ⟨rfl, h1.drop.drop⟩
  | true =>
    rw [hm] at hM
    have HM := Lib.hid hM
    have ⟨f0, f1, f2⟩ := HC.out _ hb
    by_cases k0 : k = 0
    · have e : slotOk (X.map (·.1)) ⟨k, x⟩ = false := by simp [slotOk, k0]
      rw [e]
      subst k0
      clear e hm hM hG
      go_enter Try.func100, Try.ntmps100
      try rw [hgb]
      go_wp2_with fail
      refine HM.out.mono ?_
      rintro e w1 ⟨rfl, h1⟩
      have ⟨g0, g1, g2⟩ := HC.out _ h1
      go_wp2_with fail
      go_ret
      exact ⟨rfl, h1.drop.drop⟩
    · have hk0 : (k == 0) = false := by simpa using k0
      have hres : slotOk (X.map (·.1)) ⟨k, x⟩ = (!refV ⟨k, x⟩ || match objG (X.map (·.1)) x with | some o => decide (o.kind = k) | none => false) := by
        show (mayV ⟨k, x⟩ && !decide (k = 0) && (!refV ⟨k, x⟩ || _)) = _
        rw [hm, decide_eq_false k0]; rfl
      have HRES := Lib.hid hres
      have hR : ∀ wx, Sat w0 wx (pt (gb + 1) (.cells #[.int .i64 k, .int .i64 x] 33 (0, 0)) * (pt gb (.cells #[.slice ga n c] 24 (0, 0)) * (SR * F))) → _ := fun wx hx => val_Ref ⟨k, x⟩ hx
      cases hr : refV ⟨k, x⟩ with
      | false =>
        rw [hr] at hR HRES
        have HR := Lib.hid hR
        clear hres hm hM hG hR hr k0
        go_enter Try.func100, Try.ntmps100
        try rw [hgb]
        go_wp2_with fail
        refine HM.out.mono ?_
        rintro e w1 ⟨rfl, h1⟩
        have ⟨g0, g1, g2⟩ := HC.out _ h1
        go_wp2_with fail
        refine wp_region_qq (fun w' => Sat w0 w' (pt (gb + 1) (.cells #[.int .i64 k, .int .i64 x] 33 (0, 0)) * (pt gb (.cells #[.slice ga n c] 24 (0, 0)) * (SR * F)))) (by kernel_rfl) (by kernel_rfl) h1.drew ?_
        iterate 25 (first
          | (refine QQ.skip (by rfl) ?_; simp only [Act.put, List.setIfInBounds_toArray, List.set_cons_zero, List.set_cons_succ])
          | (refine QQ.want (by rfl) ?_
             apply Exists.intro
             refine ⟨?_, ?_⟩
             · intro w hw
               have ⟨hd0, hd1, hd2⟩ := HC.out w hw
               first
                 | (go_simp; done)
                 | (go_simp; rfl)
                 | (go_simp; exact HR.out _ hw)
             simp only [Act.put, List.setIfInBounds_toArray, List.set_cons_zero, List.set_cons_succ]))
        refine QQ.nil ?_
        intro w3 h3
        go_wp2_with fail
        go_ret
        exact ⟨by rw [HRES.out]; rfl, h3.drop.drop⟩
      | true =>
        have hkr := refV_kind hr
        dsimp only at hkr
        by_cases hx : x ≤ n
        · obtain ⟨j, rfl⟩ : ∃ j : Nat, x = (j : Int) + 1 := ⟨(x - 1).toNat, by omega⟩
          have HY := Lib.hid (fun w' G (hs : Sat w0 w' (SR * G)) => hG.at hs (show j < n by omega))
          obtain ⟨y, hy, _⟩ := hG.at h (show j < n by omega)
          have hcap := hG.cap
          have hsm := hG.small
          have ho : objG (X.map (·.1)) ((j : Int) + 1) = some y.1 := by rw [objG_nat, List.getElem?_map, hy]; rfl
          rw [hr, ho] at HRES
          rw [hr] at hR
          have HD := Lib.hid (fun w' (hs : Sat w0 w' (pt (gb + 1) (.cells #[.int .i64 k, .int .i64 ((j : Int) + 1)] 33 (0, 0)) * (pt gb (.cells #[.slice ga n c] 24 (0, 0)) * (SR * F)))) => hG.cell w' _ (hs.drop.drop) j y hy)
          obtain ⟨g, off, rfl, _⟩ := hG.cell _ _ h j y hy
          obtain ⟨⟨yk, yc, ysl, ytx, ym⟩, sa, sc⟩ := y
          have HE := Lib.hid (fun w' (hs : Sat w0 w' (pt (gb + 1) (.cells #[.int .i64 k, .int .i64 ((j : Int) + 1)] 33 (0, 0)) * (pt gb (.cells #[.slice (some ⟨g, off, none⟩) n c] 24 (0, 0)) * (SR * F)))) => show w'.cell? ⟨g, off + j * 5, none⟩ = some (.int .i64 yk) from by
            obtain ⟨g', off', e, h0, _⟩ := HD.out w' hs
            cases e; exact h0)
          have HR := Lib.hid hR
          have hj1 : (j : Int) + 1 - 1 = j := by omega
          have hj2 : (0 : Int) ≤ (j : Int) := by omega
          have hj3 : (j : Int) < (n : Int) := by omega
          have hj4 : IntKind.i64.wrap (j : Int) = j := IntWalk.i64_in _ (by omega)
          clear hres hm hM hG hR hr k0 HD HY ho hy
          go_enter Try.func100, Try.ntmps100
          try rw [hgb]
          go_wp2_with fail
          refine HM.out.mono ?_
          rintro e w1 ⟨rfl, h1⟩
          have ⟨g0, g1, g2⟩ := HC.out _ h1
          go_wp2_with fail
          refine wp_region_qq (fun w' => Sat w0 w' (pt (gb + 1) (.cells #[.int .i64 k, .int .i64 ((j : Int) + 1)] 33 (0, 0)) * (pt gb (.cells #[.slice (some ⟨g, off, none⟩) n c] 24 (0, 0)) * (SR * F)))) (by kernel_rfl) (by kernel_rfl) h1.drew ?_
          iterate 25 (first
            | (refine QQ.skip (by rfl) ?_; simp only [Act.put, List.setIfInBounds_toArray, List.set_cons_zero, List.set_cons_succ])
            | (refine QQ.want (by rfl) ?_
               apply Exists.intro
               refine ⟨?_, ?_⟩
               · intro w hw
                 have ⟨hd0, hd1, hd2⟩ := HC.out w hw; have hd3 := HE.out w hw
                 first
                   | (go_simp; done)
                   | (go_simp; rfl)
                   | (go_simp; exact HR.out _ hw)
               simp only [Act.put, List.setIfInBounds_toArray, List.set_cons_zero, List.set_cons_succ]))
          refine QQ.nil ?_
          intro w3 h3
          go_wp2_with fail
          go_ret
          exact ⟨by rw [HRES.out]; rfl, h3.drop.drop⟩
        · have ho : objG (X.map (·.1)) x = none := by
            unfold objG
            rw [if_pos (by omega)]
            exact List.getElem?_eq_none (by rw [List.length_map, hG.len]; omega)
          rw [hr, ho] at HRES
          rw [hr] at hR
          have HR := Lib.hid hR
          have hx1 : decide (x ≤ (n : Int)) = false := by simpa using hx
          clear hres hm hM hG hR hr k0 ho hx
          go_enter Try.func100, Try.ntmps100
          try rw [hgb]
          go_wp2_with fail
          refine HM.out.mono ?_
          rintro e w1 ⟨rfl, h1⟩
          have ⟨g0, g1, g2⟩ := HC.out _ h1
          go_wp2_with fail
          refine wp_region_qq (fun w' => Sat w0 w' (pt (gb + 1) (.cells #[.int .i64 k, .int .i64 x] 33 (0, 0)) * (pt gb (.cells #[.slice ga n c] 24 (0, 0)) * (SR * F)))) (by kernel_rfl) (by kernel_rfl) h1.drew ?_
          iterate 25 (first
            | (refine QQ.skip (by rfl) ?_; simp only [Act.put, List.setIfInBounds_toArray, List.set_cons_zero, List.set_cons_succ])
            | (refine QQ.want (by rfl) ?_
               apply Exists.intro
               refine ⟨?_, ?_⟩
               · intro w hw
                 have ⟨hd0, hd1, hd2⟩ := HC.out w hw
                 first
                   | (go_simp; done)
                   | (go_simp; rfl)
                   | (go_simp; exact HR.out _ hw)
               simp only [Act.put, List.setIfInBounds_toArray, List.set_cons_zero, List.set_cons_succ]))
          refine QQ.nil ?_
          intro w3 h3
          go_wp2_with fail
          go_ret
          exact ⟨by rw [HRES.out]; rfl, h3.drop.drop⟩
set_option maxHeartbeats 1000000 in
theorem slot_fn (gb : Nat) (hG : SrcO w0 SR ga n c X) : AsksV w0 99 #[.pointer (some ⟨gb, 0, none⟩)] (pt gb (.cells #[.slice ga n c] 24 (0, 0)) * SR) (fun v => !slotOk (X.map (·.1)) v) := by
  intro w1 G v h
  obtain ⟨k, x⟩ := v
  have h1 := h.alloc (.cells #[.int .i64 k, .int .i64 x] 33)
  have h2 : Sat w0 _ (SR * (pt gb (.cells #[.slice ga n c] 24 (0, 0)) * (pt w1.heap.size (.cells #[.int .i64 k, .int .i64 x] 33 (0, 0)) * G))) := h1.cast (by ac_rfl)
  have c0 := boxG h2.p2
  have ⟨c1, c2⟩ := boxV h2.p3
  have HS := Lib.hid (graph_slot h2 hG ⟨k, x⟩)
  clear h hG h1
  show Calls Try.prog 99 #[.agg #[.int .i64 k, .int .i64 x], .pointer (some ⟨gb, 0, none⟩)] w1 _
  go_enter Try.func99, Try.ntmps99
  go_wp2_with fail
  refine HS.out.mono ?_
  rintro e w3 ⟨rfl, h3⟩
  go_wp2_with fail
  go_ret
  exact ⟨rfl, h3.p3.drop.cast (by ac_rfl)⟩
end
end Go.Proofs.Ytmngkodejlhalaa.Tw
