/- graph: slot, obj, Check. No condition. -/
import Derived.Test.YtmngkodejlhalaaZRPaths6
import Derived.IntWalk
namespace Go.Proofs.Ytmngkodejlhalaa.Tw
set_option linter.unusedVariables false
set_option linter.unusedSimpArgs false
open Go Go.RowKit Go.MapKept

section
variable {w0 w : World} {SR F : HP} {ga : Option Addr} {n c : Nat} {X : List XObj}
theorem boxG {w : World} {b : Nat} {F : HP} (h : Sat w0 w (pt b (.cells #[.slice ga n c] 24 (0, 0)) * F)) : w.cell? ⟨b, 0, none⟩ = some (.slice ga n c) := Sat.cell (T := 24) (cs := #[.slice ga n c]) h 0 rfl
theorem boxV {w : World} {b : Nat} {k x : Int} {F : HP} (h : Sat w0 w (pt b (.cells #[.int .i64 k, .int .i64 x] 33 (0, 0)) * F)) : w.cell? ⟨b, 0, none⟩ = some (.int .i64 k) ∧ w.cell? ⟨b, 1, none⟩ = some (.int .i64 x) :=
  ⟨Sat.cell (T := 33) (cs := #[.int .i64 k, .int .i64 x]) h 0 rfl, Sat.cell (T := 33) (cs := #[.int .i64 k, .int .i64 x]) h 1 rfl⟩
theorem SrcO.at (hG : SrcO w0 SR ga n c X) (hs : Sat w0 w (SR * F)) {k : Nat} (hk : k < n) : ∃ x, X[k]? = some x ∧ ∃ g off, ga = some ⟨g, off, none⟩ ∧ w.cell? ⟨g, off + k * 5, none⟩ = some (.int .i64 x.1.kind) ∧ w.cell? ⟨g, off + k * 5 + 1, none⟩ = some (.int .i64 x.1.count) ∧ w.cell? ⟨g, off + k * 5 + 2, none⟩ = some (.slice x.2.1 x.1.slots.length x.2.2) ∧ w.cell? ⟨g, off + k * 5 + 3, none⟩ = some (.string x.1.text) ∧ w.cell? ⟨g, off + k * 5 + 4, none⟩ = some (.int .i64 x.1.mark) := by
  have e : X[k]? = some (X[k]'(by rw [hG.len]; exact hk)) := List.getElem?_eq_getElem _
  exact ⟨_, e, hG.cell _ _ hs _ _ e⟩
set_option maxHeartbeats 1000000 in
theorem graph_slot (h : Sat w0 w (SR * F)) (hG : SrcO w0 SR ga n c X) (v : AVal) :
    Calls Try.prog 100 #[.agg #[.slice ga n c], .agg #[.int .i64 v.kind, .int .i64 v.n]] w fun e w' => e = .returned (.bool (slotOk (X.map (·.1)) v)) ∧ Sat w0 w' (SR * F) := by
  obtain ⟨k, x⟩ := v
  have hb := (h.alloc (.cells #[.slice ga n c] 24)).alloc (.cells #[.int .i64 k, .int .i64 x] 33)
  rw [size_alloc] at hb
  generalize hgb : w.heap.size = gb at *
  have HC := Lib.hid (fun w' (hs : Sat w0 w' (pt (gb + 1) (.cells #[.int .i64 k, .int .i64 x] 33 (0, 0)) * (pt gb (.cells #[.slice ga n c] 24 (0, 0)) * (SR * F)))) => And.intro (boxV hs).1 (And.intro (boxV hs).2 (boxG hs.p2)))
  have hM := val_May ⟨k, x⟩ hb
  cases hm : mayV ⟨k, x⟩ with
  | false =>
    have e : slotOk (X.map (·.1)) ⟨k, x⟩ = false := by simp [slotOk, hm]
    rw [e]
    rw [hm] at hM
    have HM := Lib.hid hM
    have ⟨f0, f1, f2⟩ := HC.out _ hb
    clear e hm hM hG
    go_enter Try.func100, Try.ntmps100
    try rw [hgb]
    go_wp2_with fail
    refine HM.out.mono ?_
    rintro e w1 ⟨rfl, h1⟩
    go_wp2_with fail
    go_ret
    exact ⟨rfl, h1.drop.drop⟩
  | true =>
    rw [hm] at hM
    have HM := Lib.hid hM
    have ⟨f0, f1, f2⟩ := HC.out _ hb
    by_cases k0 : k = 0
    · have e : slotOk (X.map (·.1)) ⟨k, x⟩ = false := by simp [slotOk, k0]
      rw [e]
      subst k0
      clear e hm hM hG
      go_enter Try.func100, Try.ntmps100
      try rw [hgb]
      go_wp2_with fail
      refine HM.out.mono ?_
      rintro e w1 ⟨rfl, h1⟩
      have ⟨g0, g1, g2⟩ := HC.out _ h1
      go_wp2_with fail
      go_ret
      exact ⟨rfl, h1.drop.drop⟩
    · have hk0 : (k == 0) = false := by simpa using k0
      have hres : slotOk (X.map (·.1)) ⟨k, x⟩ = (!refV ⟨k, x⟩ || match objG (X.map (·.1)) x with | some o => decide (o.kind = k) | none => false) := by
        show (mayV ⟨k, x⟩ && !decide (k = 0) && (!refV ⟨k, x⟩ || _)) = _
        rw [hm, decide_eq_false k0]; rfl
      have HRES := Lib.hid hres
      have hR : ∀ wx, Sat w0 wx (pt (gb + 1) (.cells #[.int .i64 k, .int .i64 x] 33 (0, 0)) * (pt gb (.cells #[.slice ga n c] 24 (0, 0)) * (SR * F))) → _ := fun wx hx => val_Ref ⟨k, x⟩ hx
      cases hr : refV ⟨k, x⟩ with
      | false =>
        rw [hr] at hR HRES
        have HR := Lib.hid hR
        clear hres hm hM hG hR hr k0
        go_enter Try.func100, Try.ntmps100
        try rw [hgb]
        go_wp2_with fail
        refine HM.out.mono ?_
        rintro e w1 ⟨rfl, h1⟩
        have ⟨g0, g1, g2⟩ := HC.out _ h1
        go_wp2_with fail
        refine wp_region_qq (fun w' => Sat w0 w' (pt (gb + 1) (.cells #[.int .i64 k, .int .i64 x] 33 (0, 0)) * (pt gb (.cells #[.slice ga n c] 24 (0, 0)) * (SR * F)))) (by kernel_rfl) (by kernel_rfl) h1.drew ?_
        iterate 25 (first
          | (refine QQ.skip (by rfl) ?_; simp only [Act.put, List.setIfInBounds_toArray, List.set_cons_zero, List.set_cons_succ])
          | (refine QQ.want (by rfl) ?_
             apply Exists.intro
             refine ⟨?_, ?_⟩
             · intro w hw
               have ⟨hd0, hd1, hd2⟩ := HC.out w hw
               first
                 | (go_simp; done)
                 | (go_simp; rfl)
                 | (go_simp; exact HR.out _ hw)
             simp only [Act.put, List.setIfInBounds_toArray, List.set_cons_zero, List.set_cons_succ]))
        refine QQ.nil ?_
        intro w3 h3
        go_wp2_with fail
        go_ret
        exact ⟨by rw [HRES.out]; rfl, h3.drop.drop⟩
      | true =>
        have hkr := refV_kind hr
        dsimp only at hkr
        by_cases hx : x ≤ n
        · obtain ⟨j, rfl⟩ : ∃ j : Nat, x = (j : Int) + 1 := ⟨(x - 1).toNat, by omega⟩
          have HY := Lib.hid (fun w' G (hs : Sat w0 w' (SR * G)) => hG.at hs (show j < n by omega))
          obtain ⟨y, hy, _⟩ := hG.at h (show j < n by omega)
          have hcap := hG.cap
          have hsm := hG.small
          have ho : objG (X.map (·.1)) ((j : Int) + 1) = some y.1 := by rw [objG_nat, List.getElem?_map, hy]; rfl
          rw [hr, ho] at HRES
          rw [hr] at hR
          have HD := Lib.hid (fun w' (hs : Sat w0 w' (pt (gb + 1) (.cells #[.int .i64 k, .int .i64 ((j : Int) + 1)] 33 (0, 0)) * (pt gb (.cells #[.slice ga n c] 24 (0, 0)) * (SR * F)))) => hG.cell w' _ (hs.drop.drop) j y hy)
          obtain ⟨g, off, rfl, _⟩ := hG.cell _ _ h j y hy
          obtain ⟨⟨yk, yc, ysl, ytx, ym⟩, sa, sc⟩ := y
          have HE := Lib.hid (fun w' (hs : Sat w0 w' (pt (gb + 1) (.cells #[.int .i64 k, .int .i64 ((j : Int) + 1)] 33 (0, 0)) * (pt gb (.cells #[.slice (some ⟨g, off, none⟩) n c] 24 (0, 0)) * (SR * F)))) => show w'.cell? ⟨g, off + j * 5, none⟩ = some (.int .i64 yk) from by
            obtain ⟨g', off', e, h0, _⟩ := HD.out w' hs
            cases e; exact h0)
          have HR := Lib.hid hR
          have hj1 : (j : Int) + 1 - 1 = j := by omega
          have hj2 : (0 : Int) ≤ (j : Int) := by omega
          have hj3 : (j : Int) < (n : Int) := by omega
          have hj4 : IntKind.i64.wrap (j : Int) = j := IntWalk.i64_in _ (by omega)
          clear hres hm hM hG hR hr k0 HD HY ho hy
          go_enter Try.func100, Try.ntmps100
          try rw [hgb]
          go_wp2_with fail
          refine HM.out.mono ?_
          rintro e w1 ⟨rfl, h1⟩
          have ⟨g0, g1, g2⟩ := HC.out _ h1
          go_wp2_with fail
          refine wp_region_qq (fun w' => Sat w0 w' (pt (gb + 1) (.cells #[.int .i64 k, .int .i64 ((j : Int) + 1)] 33 (0, 0)) * (pt gb (.cells #[.slice (some ⟨g, off, none⟩) n c] 24 (0, 0)) * (SR * F)))) (by kernel_rfl) (by kernel_rfl) h1.drew ?_
          iterate 25 (first
            | (refine QQ.skip (by rfl) ?_; simp only [Act.put, List.setIfInBounds_toArray, List.set_cons_zero, List.set_cons_succ])
            | (refine QQ.want (by rfl) ?_
               apply Exists.intro
               refine ⟨?_, ?_⟩
               · intro w hw
                 have ⟨hd0, hd1, hd2⟩ := HC.out w hw; have hd3 := HE.out w hw
                 first
                   | (go_simp; done)
                   | (go_simp; rfl)
                   | (go_simp; exact HR.out _ hw)
               simp only [Act.put, List.setIfInBounds_toArray, List.set_cons_zero, List.set_cons_succ]))
          refine QQ.nil ?_
          intro w3 h3
          go_wp2_with fail
          go_ret
          exact ⟨by rw [HRES.out]; rfl, h3.drop.drop⟩
        · have ho : objG (X.map (·.1)) x = none := by
            unfold objG
            rw [if_pos (by omega)]
            exact List.getElem?_eq_none (by rw [List.length_map, hG.len]; omega)
          rw [hr, ho] at HRES
          rw [hr] at hR
          have HR := Lib.hid hR
          have hx1 : decide (x ≤ (n : Int)) = false := by simpa using hx
          clear hres hm hM hG hR hr k0 ho hx
          go_enter Try.func100, Try.ntmps100
          try rw [hgb]
          go_wp2_with fail
          refine HM.out.mono ?_
          rintro e w1 ⟨rfl, h1⟩
          have ⟨g0, g1, g2⟩ := HC.out _ h1
          go_wp2_with fail
          refine wp_region_qq (fun w' => Sat w0 w' (pt (gb + 1) (.cells #[.int .i64 k, .int .i64 x] 33 (0, 0)) * (pt gb (.cells #[.slice ga n c] 24 (0, 0)) * (SR * F)))) (by kernel_rfl) (by kernel_rfl) h1.drew ?_
          iterate 25 (first
            | (refine QQ.skip (by rfl) ?_; simp only [Act.put, List.setIfInBounds_toArray, List.set_cons_zero, List.set_cons_succ])
            | (refine QQ.want (by rfl) ?_
               apply Exists.intro
               refine ⟨?_, ?_⟩
               · intro w hw
                 have ⟨hd0, hd1, hd2⟩ := HC.out w hw
                 first
                   | (go_simp; done)
                   | (go_simp; rfl)
                   | (go_simp; exact HR.out _ hw)
               simp only [Act.put, List.setIfInBounds_toArray, List.set_cons_zero, List.set_cons_succ]))
          refine QQ.nil ?_
          intro w3 h3
          go_wp2_with fail
          go_ret
          exact ⟨by rw [HRES.out]; rfl, h3.drop.drop⟩
set_option maxHeartbeats 1000000 in
theorem slot_fn (gb : Nat) (hG : SrcO w0 SR ga n c X) : AsksV w0 99 #[.pointer (some ⟨gb, 0, none⟩)] (pt gb (.cells #[.slice ga n c] 24 (0, 0)) * SR) (fun v => !slotOk (X.map (·.1)) v) := by
  intro w1 G v h
  obtain ⟨k, x⟩ := v
  have h1 := h.alloc (.cells #[.int .i64 k, .int .i64 x] 33)
  have h2 : Sat w0 _ (SR * (pt gb (.cells #[.slice ga n c] 24 (0, 0)) * (pt w1.heap.size (.cells #[.int .i64 k, .int .i64 x] 33 (0, 0)) * G))) := h1.cast (by ac_rfl)
  have c0 := boxG h2.p2
  have ⟨c1, c2⟩ := boxV h2.p3
  have HS := Lib.hid (graph_slot h2 hG ⟨k, x⟩)
  clear h hG h1
  show Calls Try.prog 99 #[.agg #[.int .i64 k, .int .i64 x], .pointer (some ⟨gb, 0, none⟩)] w1 _
  go_enter Try.func99, Try.ntmps99
  go_wp2_with fail
  refine HS.out.mono ?_
  rintro e w3 ⟨rfl, h3⟩
  go_wp2_with fail
  go_ret
  exact ⟨rfl, h3.p3.drop.cast (by ac_rfl)⟩
end
end Go.Proofs.Ytmngkodejlhalaa.Tw
namespace Go.Proofs.Ytmngkodejlhalaa.Tw
set_option linter.unusedVariables false
set_option linter.unusedSimpArgs false
open Go Go.RowKit Go.MapKept

section
variable {w0 w : World} {SR F : HP} {ga : Option Addr} {n c : Nat} {X : List XObj}
abbrev oV (y : XObj) : Value := .agg #[.int .i64 y.1.kind, .int .i64 y.1.count, .slice y.2.1 y.1.slots.length y.2.2, .string y.1.text, .int .i64 y.1.mark]
theorem boxO {b : Nat} {k c m : Int} {a : Option Addr} {sn sc : Nat} {tx : ByteArray} {F : HP} (h : Sat w0 w (pt b (.cells #[.int .i64 k, .int .i64 c, .slice a sn sc, .string tx, .int .i64 m] 39 (0, 0)) * F)) :
    w.cell? ⟨b, 0, none⟩ = some (.int .i64 k) ∧ w.cell? ⟨b, 1, none⟩ = some (.int .i64 c) ∧ w.cell? ⟨b, 2, none⟩ = some (.slice a sn sc) ∧ w.cell? ⟨b, 3, none⟩ = some (.string tx) ∧ w.cell? ⟨b, 4, none⟩ = some (.int .i64 m) :=
  ⟨Sat.cell (T := 39) (cs := #[.int .i64 k, .int .i64 c, .slice a sn sc, .string tx, .int .i64 m]) h 0 rfl, Sat.cell (T := 39) (cs := #[.int .i64 k, .int .i64 c, .slice a sn sc, .string tx, .int .i64 m]) h 1 rfl, Sat.cell (T := 39) (cs := #[.int .i64 k, .int .i64 c, .slice a sn sc, .string tx, .int .i64 m]) h 2 rfl, Sat.cell (T := 39) (cs := #[.int .i64 k, .int .i64 c, .slice a sn sc, .string tx, .int .i64 m]) h 3 rfl, Sat.cell (T := 39) (cs := #[.int .i64 k, .int .i64 c, .slice a sn sc, .string tx, .int .i64 m]) h 4 rfl⟩
theorem obj_f1 {b : Nat} {k cc m : Int} {a : Option Addr} {sn sc : Nat} {tx : ByteArray} (h : Sat w0 w (pt b (.cells #[.int .i64 k, .int .i64 cc, .slice a sn sc, .string tx, .int .i64 m] 39 (0, 0)) * F)) :
    Calls Try.prog 95 #[.pointer (some ⟨b, 0, none⟩)] w fun e w' => e = .returned (.bool (decide (5 ≤ k) && decide (k ≤ 9) && decide (0 ≤ cc) && decide (-1 ≤ m))) ∧ w = w' := by
  obtain ⟨c0, c1, c2, c3, c4⟩ := boxO h
  clear h
  go_enter Try.func95, Try.ntmps95
  go_wp2
  all_goals
    go_ret
    refine ⟨?_, rfl⟩
    simp [*]
    try omega
def f2B (is : Bool) (sn : Nat) (tx : ByteArray) : Bool := if is then decide (sn = 0) else noText tx
theorem obj_f2 {b ib : Nat} {k cc m : Int} {a : Option Addr} {sn sc : Nat} {tx : ByteArray} {is : Bool} (h : Sat w0 w (pt ib (.cells #[.bool is] 4 (0, 0)) * (pt b (.cells #[.int .i64 k, .int .i64 cc, .slice a sn sc, .string tx, .int .i64 m] 39 (0, 0)) * F))) :
    Calls Try.prog 96 #[.pointer (some ⟨ib, 0, none⟩), .pointer (some ⟨b, 0, none⟩)] w fun e w' => e = .returned (.bool (f2B is sn tx)) ∧ w = w' := by
  obtain ⟨c0, c1, c2, c3, c4⟩ := boxO h.p2
  have i0 : w.cell? ⟨ib, 0, none⟩ = some (.bool is) := Sat.cell (T := 4) (cs := #[.bool is]) h 0 rfl
  clear h
  cases is with
  | true =>
    by_cases h0 : sn = 0
    · subst h0
      go_enter Try.func96, Try.ntmps96
      go_wp2
      go_ret
      exact ⟨rfl, rfl⟩
    · have HE := Lib.hid (show f2B true sn tx = false from decide_eq_false h0)
      have h1 : ((sn : Int) == 0) = false := by simp; omega
      clear h0
      go_enter Try.func96, Try.ntmps96
      go_wp2
      go_ret
      exact ⟨by rw [HE.out]; rfl, rfl⟩
  | false =>
    have HE := Lib.hid (show f2B false sn tx = tx.toList.isEmpty from rfl)
    go_enter Try.func96, Try.ntmps96
    go_wp2
    go_ret
    exact ⟨by rw [HE.out]; rfl, rfl⟩
theorem SrcO.slotsOf (hG : SrcO w0 SR ga n c X) {y : XObj} (hy : y ∈ X) : SrcV w0 SR y.2.1 y.1.slots.length y.2.2 y.1.slots ∧ y.1.slots.length ≤ 1000000 := hG.slots y hy
theorem obj_f3 {b gb : Nat} {k cc m : Int} {a : Option Addr} {sn sc : Nat} {tx : ByteArray} {l : List AVal} (hG : SrcO w0 SR ga n c X) (hS : SrcV w0 SR a sn sc l) (hn : sn ≤ 1000000) (h : Sat w0 w (pt b (.cells #[.int .i64 k, .int .i64 cc, .slice a sn sc, .string tx, .int .i64 m] 39 (0, 0)) * (pt gb (.cells #[.slice ga n c] 24 (0, 0)) * (SR * F)))) :
    Calls Try.prog 97 #[.pointer (some ⟨b, 0, none⟩), .pointer (some ⟨gb, 0, none⟩)] w fun e w' => e = .returned (.bool (l.all (slotOk (X.map (·.1))))) ∧ Sat w0 w' (pt b (.cells #[.int .i64 k, .int .i64 cc, .slice a sn sc, .string tx, .int .i64 m] 39 (0, 0)) * (pt gb (.cells #[.slice ga n c] 24 (0, 0)) * (SR * F))) := by
  obtain ⟨c0, c1, c2, c3, c4⟩ := boxO h
  have h1 : Sat w0 w ((pt gb (.cells #[.slice ga n c] 24 (0, 0)) * SR) * (pt b (.cells #[.int .i64 k, .int .i64 cc, .slice a sn sc, .string tx, .int .i64 m] 39 (0, 0)) * F)) := h.cast (by ac_rfl)
  have hC := containsFunc_valC (fun v => !slotOk (X.map (·.1)) v) 99 #[.pointer (some ⟨gb, 0, none⟩)] (enters_of Try.func99 (by kernel_rfl) rfl) (slot_fn gb hG) h1 hS.mono' (by omega)
  have HA := Lib.hid (show (!l.any fun v => !slotOk (X.map (·.1)) v) = l.all (slotOk (X.map (·.1))) by rw [List.all_eq_not_any_not])
  have HC := Lib.hid hC
  clear hC h h1 hG hS
  generalize l.all (slotOk (X.map (·.1))) = r at *
  generalize l.any (fun v => !slotOk (X.map (·.1)) v) = q at *
  go_enter Try.func97, Try.ntmps97
  go_wp2_with fail
  refine HC.out.mono ?_
  rintro e w3 ⟨rfl, h3⟩
  go_wp2_with fail
  go_ret
  exact ⟨by rw [← HA.out]; rfl, h3.cast (by ac_rfl)⟩
def AllR (b1 b2 b3 : Bool) (k : Nat) : Prop := (1 ≤ k → b1 = true) ∧ (2 ≤ k → b2 = true) ∧ (3 ≤ k → b3 = true)
/-- three questions, one behind the other -/
theorem graph_all {C : HP} {ab : Nat} {g1 g2 g3 : Nat} {l1 l2 l3 : Array Value} {b1 b2 b3 : Bool} (h : Sat w0 w (pt ab (.cells #[.func (.func g1) #[] l1, .func (.func g2) #[] l2, .func (.func g3) #[] l3] 30 (0, 0)) * (C * F)))
    (e1 : ∀ args w, (callFunc g1 args).run Try.prog w = .ok (.enter g1 args) w) (e2 : ∀ args w, (callFunc g2 args).run Try.prog w = .ok (.enter g2 args) w) (e3 : ∀ args w, (callFunc g3 args).run Try.prog w = .ok (.enter g3 args) w)
    (q1 : ∀ w G, Sat w0 w (C * G) → Calls Try.prog g1 l1 w fun e w' => e = .returned (.bool b1) ∧ Sat w0 w' (C * G))
    (q2 : ∀ w G, Sat w0 w (C * G) → Calls Try.prog g2 l2 w fun e w' => e = .returned (.bool b2) ∧ Sat w0 w' (C * G))
    (q3 : ∀ w G, Sat w0 w (C * G) → Calls Try.prog g3 l3 w fun e w' => e = .returned (.bool b3) ∧ Sat w0 w' (C * G)) :
    Calls Try.prog 94 #[.slice (some ⟨ab, 0, none⟩) 3 3] w fun e w' => e = .returned (.bool (b1 && b2 && b3)) ∧ Sat w0 w' (pt ab (.cells #[.func (.func g1) #[] l1, .func (.func g2) #[] l2, .func (.func g3) #[] l3] 30 (0, 0)) * (C * F)) := by
  have fc : ∀ w', Sat w0 w' (pt ab (.cells #[.func (.func g1) #[] l1, .func (.func g2) #[] l2, .func (.func g3) #[] l3] 30 (0, 0)) * (C * F)) → w'.cell? ⟨ab, 0, none⟩ = some (.func (.func g1) #[] l1) ∧ w'.cell? ⟨ab, 1, none⟩ = some (.func (.func g2) #[] l2) ∧ w'.cell? ⟨ab, 2, none⟩ = some (.func (.func g3) #[] l3) := fun w' hs =>
    ⟨Sat.cell (T := 30) (cs := #[.func (.func g1) #[] l1, .func (.func g2) #[] l2, .func (.func g3) #[] l3]) hs 0 rfl, Sat.cell (T := 30) (cs := #[.func (.func g1) #[] l1, .func (.func g2) #[] l2, .func (.func g3) #[] l3]) hs 1 rfl, Sat.cell (T := 30) (cs := #[.func (.func g1) #[] l1, .func (.func g2) #[] l2, .func (.func g3) #[] l3]) hs 2 rfl⟩
  have FC := Lib.hid fc
  have HQ := Lib.hid (And.intro q1 (And.intro q2 q3))
  obtain ⟨f0, f1, f2⟩ := fc _ h
  clear fc q1 q2 q3
  go_enter Try.func94, Try.ntmps94
  go_wp2_with fail
  go_loopw [7] (fun iv wr => ∃ k : Nat, iv = .int .i64 k ∧ k ≤ 3 ∧ AllR b1 b2 b3 k ∧ Sat w0 wr (pt ab (.cells #[.func (.func g1) #[] l1, .func (.func g2) #[] l2, .func (.func g3) #[] l3] 30 (0, 0)) * (C * F))) (fun iv _ => 3 - (intOf iv).toNat)
  case atStart => exact ⟨0, rfl, by omega, ⟨fun h => absurd h (by omega), fun h => absurd h (by omega), fun h => absurd h (by omega)⟩, h⟩
  case round =>
    obtain ⟨k, rfl, hk, HH, hs⟩ := hrel
    obtain ⟨r0, r1, r2⟩ := FC.out _ hs
    by_cases hlt : k < 3
    · have hk3 : k = 0 ∨ k = 1 ∨ k = 2 := by omega
      rcases hk3 with rfl | rfl | rfl
      · skip
        have hc := HQ.out.1 wr _ hs.p2
        cases hb : b1 with
        | false =>
          rw [hb] at hc
          have HC := Lib.hid hc
          have HB := Lib.hid hb
          clear hc hb
          go_wp2_with fail
          go_at_fn g1
          refine HC.out.mono ?_
          rintro e w' ⟨rfl, h2⟩
          go_wp2_with fail
          go_ret
          exact ⟨by simp [HB.out], h2.p2⟩
        | true =>
          rw [hb] at hc
          have HC := Lib.hid hc
          have HB := Lib.hid hb
          clear hc hb
          go_wp2_with fail
          go_at_fn g1
          refine HC.out.mono ?_
          rintro e w' ⟨rfl, h2⟩
          go_wp2_with fail
          go_roundw
          case rel => exact ⟨1, rfl, by omega, ⟨fun _ => rfl, fun h => absurd h (by omega), fun h => absurd h (by omega)⟩, h2.p2⟩
          case measure => simp [intOf]
      · skip
        have hc := HQ.out.2.1 wr _ hs.p2
        cases hb : b2 with
        | false =>
          rw [hb] at hc
          have HC := Lib.hid hc
          have HB := Lib.hid hb
          clear hc hb
          go_wp2_with fail
          go_at_fn g2
          refine HC.out.mono ?_
          rintro e w' ⟨rfl, h2⟩
          go_wp2_with fail
          go_ret
          exact ⟨by simp [HB.out], h2.p2⟩
        | true =>
          rw [hb] at hc
          have HC := Lib.hid hc
          have HB := Lib.hid hb
          clear hc hb
          go_wp2_with fail
          go_at_fn g2
          refine HC.out.mono ?_
          rintro e w' ⟨rfl, h2⟩
          go_wp2_with fail
          go_roundw
          case rel => exact ⟨2, rfl, by omega, ⟨fun _ => HH.1 (by omega), fun _ => rfl, fun h => absurd h (by omega)⟩, h2.p2⟩
          case measure => simp [intOf]
      · skip
        have hc := HQ.out.2.2 wr _ hs.p2
        cases hb : b3 with
        | false =>
          rw [hb] at hc
          have HC := Lib.hid hc
          have HB := Lib.hid hb
          clear hc hb
          go_wp2_with fail
          go_at_fn g3
          refine HC.out.mono ?_
          rintro e w' ⟨rfl, h2⟩
          go_wp2_with fail
          go_ret
          exact ⟨by simp [HB.out], h2.p2⟩
        | true =>
          rw [hb] at hc
          have HC := Lib.hid hc
          have HB := Lib.hid hb
          clear hc hb
          go_wp2_with fail
          go_at_fn g3
          refine HC.out.mono ?_
          rintro e w' ⟨rfl, h2⟩
          go_wp2_with fail
          go_roundw
          case rel => exact ⟨3, rfl, by omega, ⟨fun _ => HH.1 (by omega), fun _ => HH.2.1 (by omega), fun _ => rfl⟩, h2.p2⟩
          case measure => simp [intOf]
    · obtain rfl : k = 3 := by omega
      have HB := Lib.hid (show (b1 && b2 && b3) = true by rw [HH.1 (by omega), HH.2.1 (by omega), HH.2.2 (by omega)]; rfl)
      go_wp2_with fail
      go_ret
      exact ⟨by rw [HB.out]; rfl, hs⟩
theorem Sat.in2 {A B C D : HP} (h : Sat w0 w ((A * (B * C)) * D)) : Sat w0 w (A * (B * (C * D))) := h.cast (by ac_rfl)
theorem zero_bool_and (b1 b2 b3 : Bool) : (b1 && b2 && b3) = (b1 && (b2 && b3)) := by cases b1 <;> rfl
def oval (k cc : Int) (a : Option Addr) (sn sc : Nat) (tx : ByteArray) (m : Int) : Value := .agg #[.int .i64 k, .int .i64 cc, .slice a sn sc, .string tx, .int .i64 m]
set_option maxHeartbeats 2000000 in
theorem graph_obj (h : Sat w0 w (SR * F)) (hG : SrcO w0 SR ga n c X) {k cc m : Int} {a : Option Addr} {sc : Nat} {tx : ByteArray} {l : List AVal} (hS : SrcV w0 SR a l.length sc l) (hn : l.length ≤ 1000000) :
    Calls Try.prog 63 #[.agg #[.slice ga n c], .agg #[.int .i64 k, .int .i64 cc, .slice a l.length sc, .string tx, .int .i64 m]] w fun e w' => e = .returned (.bool (objOk (X.map (·.1)) ⟨k, cc, l, tx, m⟩)) ∧ Sat w0 w' (SR * F) := by
  have hb := (h.alloc (.cells #[.slice ga n c] 24)).alloc (.cells #[.int .i64 k, .int .i64 cc, .slice a l.length sc, .string tx, .int .i64 m] 39)
  rw [size_alloc] at hb
  generalize hgb : w.heap.size = gb at *
  obtain ⟨c0, c1, c2, c3, c4⟩ := boxO hb
  by_cases k0 : k = 0
  · have hres : objOk (X.map (·.1)) ⟨k, cc, l, tx, m⟩ = (decide (cc = 0) && decide (l.length = 0) && noText tx && decide (m = 0)) := by unfold objOk; rw [if_pos k0]
    have HRES := Lib.hid hres
    subst k0
    clear hres hS hG
    have HF := Lib.hid (fun o1 o2 => ((h.alloc o1).alloc o2).drop.drop)
    clear hb h
    go_enter Try.func63, Try.ntmps63
    try rw [hgb]
    go_wp2
    all_goals
      go_ret
      refine ⟨?_, HF.out _ _⟩
      rw [HRES.out]
      simp [noText, *]
      try (rw [Bool.eq_iff_iff]; simp)
  · have hres : objOk (X.map (·.1)) ⟨k, cc, l, tx, m⟩ = ((decide (5 ≤ k) && decide (k ≤ 9) && decide (0 ≤ cc) && decide (-1 ≤ m)) && f2B (decide (k = 5)) l.length tx && l.all (slotOk (X.map (·.1)))) := by
      unfold objOk; rw [if_neg k0]; unfold f2B
      by_cases h5 : k = 5 <;> simp [h5]
    have HRES := Lib.hid hres
    have hk0 : (k == 0) = false := by simpa using k0
    have h5 : (k == 5) = decide (k = 5) := by rw [Bool.eq_iff_iff]; simp
    rw [← h5] at HRES
    have hb5 := (hb.alloc (.cells #[.bool (k == 5)] 4)).alloc (.cells #[.func (.func 95) #[] #[.pointer (some ⟨gb + 1, 0, none⟩)], .func (.func 96) #[] #[.pointer (some ⟨gb + 1 + 1, 0, none⟩), .pointer (some ⟨gb + 1, 0, none⟩)], .func (.func 97) #[] #[.pointer (some ⟨gb + 1, 0, none⟩), .pointer (some ⟨gb, 0, none⟩)]] 30)
    rw [size_alloc, size_alloc, size_alloc, hgb] at hb5
    have hA := graph_all (ab := gb + 1 + 1 + 1) (C := pt (gb + 1 + 1) (.cells #[.bool (k == 5)] 4 (0, 0)) * (pt (gb + 1) (.cells #[.int .i64 k, .int .i64 cc, .slice a l.length sc, .string tx, .int .i64 m] 39 (0, 0)) * (pt gb (.cells #[.slice ga n c] 24 (0, 0)) * SR))) (F := F) (w := _) (hb5.cast (by ac_rfl))
      (enters_of Try.func95 (by kernel_rfl) rfl) (enters_of Try.func96 (by kernel_rfl) rfl) (enters_of Try.func97 (by kernel_rfl) rfl)
      (fun w' G hs => (obj_f1 hs.assoc.p2.assoc).mono fun _ _ ⟨e, e2⟩ => ⟨e, e2 ▸ hs⟩)
      (fun w' G hs => (obj_f2 (hs.in2)).mono fun _ _ ⟨e, e2⟩ => ⟨e, e2 ▸ hs⟩)
      (fun w' G hs => (obj_f3 (b := gb + 1) (gb := gb) (k := k) (cc := cc) (tx := tx) (m := m) (w := w') (F := pt (gb + 1 + 1) (.cells #[.bool (k == 5)] 4 (0, 0)) * G) hG hS hn (hs.cast (by ac_rfl))).mono fun _ _ ⟨e, e2⟩ => ⟨e, e2.cast (by ac_rfl)⟩)
    have HA := Lib.hid hA
    clear hA hb5 hres hS hG k0 h5 h hb
    go_enter Try.func63, Try.ntmps63
    try rw [hgb]
    go_wp2_with fail
    refine HA.out.mono ?_
    rintro e w3 ⟨rfl, h3⟩
    go_wp2_with fail
    go_ret
    exact ⟨by rw [HRES.out]; rfl, (h3.drop.assoc.drop.assoc.drop.assoc.drop)⟩
end
end Go.Proofs.Ytmngkodejlhalaa.Tw
