/- FlowKnown: the chapter's examples; each operation once: proved, without a condition. -/
import Derived.Test.YtpeifcdfhhpdkaaFlow13
import Derived.ProofKit
import Derived.OpenShut
import Derived.ShutString
import Derived.ChangeOld
namespace Go.Proofs.Ytpeifcdfhhpdkaa.FKnown
set_option linter.unusedVariables false
set_option linter.unusedSimpArgs false
open Go Go.RowKit Go.MapKept Go.Proofs.Ytpeifcdfhhpdkaa.Tw
open Go.ChangeShapes Go.WideShapes Go.ChangeAt
open Go.ChangeMaps (open_string shut_string)

section
variable {w0 w : World} {F : HP} {b n : Nat} {l : List AIn}
abbrev codR (b : Nat) (l : List AIn) : HP := pt b (.cells (insV l).toArray 34 (0, 0))
theorem cod_Next {L : List Int} {k : Nat} (pc : Int) (hl : l.length = n) (hn : n ≤ 100000) (hL : sortI (nextL l pc) = L) (hk : L.length = k) (h : Sat w0 w (codR b l * F)) :
    Calls Try.prog 13 #[.slice (some ⟨b, 0, none⟩) n n, .int .i64 pc] w fun e w' => ∃ a c', e = .returned (.slice a k c') ∧ Sat w0 w' (slc 3 1 a k c' (L.map ival) * (codR b l * F)) := by
  refine (flow_Next (codeAt_row hl) (Nat.le_refl _) (by omega) pc h).mono ?_
  rintro e w' ⟨a, c', rfl, h2⟩
  have e2 : (nextL l pc).length = k := by rw [← hk, ← hL, sortI_length]
  rw [hL, e2] at h2
  rw [e2]
  exact ⟨a, c', rfl, h2⟩
theorem cod_From {L : List Int} {k : Nat} (pc : Int) (hl : l.length = n) (hn : n ≤ 100000) (hL : fromL l pc = L) (hk : L.length = k) (h : Sat w0 w (codR b l * F)) :
    Calls Try.prog 16 #[.slice (some ⟨b, 0, none⟩) n n, .int .i64 pc] w fun e w' => ∃ a c', e = .returned (.slice a k c') ∧ Sat w0 w' (slc 3 1 a k c' (L.map ival) * (codR b l * F)) := by
  refine (flow_From (codeAt_row hl) (Nat.le_refl _) (by omega) pc h).mono ?_
  rintro e w' ⟨a, c', rfl, h2⟩
  rw [hL, hk] at h2
  rw [hL, hk]
  exact ⟨a, c', rfl, h2⟩
theorem cod_Order {L : List Int} {k : Nat} (hl : l.length = n) (hn : n ≤ 100000) (hL : orderL l = L) (hk : L.length = k) (h : Sat w0 w (codR b l * F)) :
    Calls Try.prog 18 #[.slice (some ⟨b, 0, none⟩) n n] w fun e w' => ∃ a c', e = .returned (.slice a k c') ∧ Sat w0 w' (slc 3 1 a k c' (L.map ival) * (codR b l * F)) := by
  refine (flow_Order (codeAt_row hl) (Nat.le_refl _) (by omega) h).mono ?_
  rintro e w' ⟨a, c', rfl, h2⟩
  rw [hL, hk] at h2
  rw [hL, hk]
  exact ⟨a, c', rfl, h2⟩
theorem codeAt_nil : CodeAt w0 1 none 0 [] := ⟨rfl, fun W G h k x hx => by simp at hx⟩
theorem nil_From (pc : Int) (h : Sat w0 w F) : Calls Try.prog 16 #[.slice none 0 0, .int .i64 pc] w fun e w' => ∃ a c', e = .returned (.slice a 0 c') ∧ Sat w0 w' F := by
  refine (flow_From codeAt_nil (Nat.le_refl _) (by omega) pc (h.cast (one_mul F).symm)).mono ?_
  rintro e w' ⟨a, c', rfl, h2⟩
  have e : fromL [] pc = [] := by unfold fromL inr; rw [if_neg (by simp)]
  rw [e]
  exact ⟨a, c', rfl, h2.drop.drop⟩
theorem nil_Order (h : Sat w0 w F) : Calls Try.prog 18 #[.slice none 0 0] w fun e w' => ∃ a c', e = .returned (.slice a 0 c') ∧ Sat w0 w' F := by
  refine (flow_Order codeAt_nil (Nat.le_refl _) (by omega) (h.cast (one_mul F).symm)).mono ?_
  rintro e w' ⟨a, c', rfl, h2⟩
  exact ⟨a, c', rfl, h2.drop.drop⟩
end
def knL (op : Int) : List AIn := [⟨0, 0, 0⟩, ⟨op, 0, 3⟩, ⟨0, 0, 0⟩, ⟨0, 0, 0⟩]
def nx (op : Int) : List Int := if op = 19 then [] else if op = 20 then [3] else if isIf op then [2, 3] else [2]
theorem nx_next (op : Int) : sortI (nextL (knL op) 1) = nx op := by
  have h : nextL (knL op) 1 = nx op := by
    show (if op = 19 then [] else if op = 20 then wi 4 3 else if isIf op then wi 4 (1 + 1) ++ (if (3 : Int) = 1 + 1 then [] else wi 4 3) else wi 4 (1 + 1)) = _
    unfold nx
    rw [show wi 4 3 = [3] by decide, show wi 4 (1 + 1) = [2] by decide, if_neg (show ¬ (3 : Int) = 1 + 1 by decide)]
    rfl
  rw [h]
  refine sortI_of (List.Perm.refl _) ?_
  unfold nx
  split
  · simp
  · split
    · simp
    · split <;> simp
def outL : List AIn := [⟨21, 0, 2⟩, ⟨21, 0, -1⟩]
def sameL : List AIn := [⟨24, 0, 1⟩, ⟨20, 0, 1⟩]
def backL : List AIn := [⟨35, 0, 2⟩, ⟨19, 0, 0⟩, ⟨34, 0, 0⟩]
theorem out0 : sortI (nextL outL 0) = [1] := sortI_of (by decide) (by decide)
theorem out1 : sortI (nextL outL 1) = [] := sortI_of (by decide) (by decide)
theorem same0 : sortI (nextL sameL 0) = [1] := sortI_of (by decide) (by decide)
theorem same1 : sortI (nextL sameL 1) = [1] := sortI_of (by decide) (by decide)
theorem back0 : sortI (nextL backL 0) = [1, 2] := sortI_of (by decide) (by decide)
theorem back1 : sortI (nextL backL 1) = [] := sortI_of (by decide) (by decide)
theorem back2 : sortI (nextL backL 2) = [0] := sortI_of (by decide) (by decide)
theorem back3 : sortI (nextL backL 3) = [] := sortI_of (by decide) (by decide)
theorem sameOrder : orderL sameL = [0, 1] := by
  unfold orderL
  rw [if_neg (by decide)]
  show (dfs sameL 8 [(0, sortI (nextL sameL 0))] [0] []).reverse = _
  simp [dfs, same0, same1]
theorem backOrder : orderL backL = [0, 2, 1] := by
  unfold orderL
  rw [if_neg (by decide)]
  show (dfs backL 12 [(0, sortI (nextL backL 0))] [0] []).reverse = _
  simp [dfs, back0, back1, back2]
theorem backFrom2 : fromL backL 2 = [0, 1, 2] := by
  unfold fromL
  rw [if_pos (by decide)]
  exact sortI_of (by decide) (by decide)
theorem backFromNo : fromL backL (-1) = [] := by
  unfold fromL
  rw [if_neg (by decide)]
set_option maxRecDepth 100000 in
set_option maxHeartbeats 8000000 in
theorem walk (w : World) :
    Calls Try.prog 8 #[] w fun e w' => e = .returned (.bool true) ∧ Below w.heap.size w w' := by
  have h0 := Sat.refl w
  go_enter Try.func8, Try.ntmps8
  go_wp2
  go_loopw [1] (fun iv wr => ∃ k : Int, iv = .int .i64 k ∧ -1 ≤ k ∧ k ≤ 39 ∧ Sat w wr (Old w)) (fun iv _ => (39 - intOf iv).toNat)
  case atStart => exact ⟨-1, rfl, by omega, by omega, h0⟩
  case round =>
    obtain ⟨k, rfl, hk1, hk2, hs⟩ := hrel
    by_cases hlt : k < 39
    · have ha := hs.alloc (.cells (insV (knL k)).toArray 34)
      generalize hb : wr.heap.size = b at *
      have HA := Lib.hid ha
      clear ha hs
      have hlt' : decide (k < 39) = true := by simpa using hlt
      have hcase : k = 19 ∨ k = 20 ∨ (k = 21 ∨ k = 22 ∨ k = 23 ∨ k = 24 ∨ k = 33 ∨ k = 34 ∨ k = 35) ∨ (k < 19 ∨ (25 ≤ k ∧ k ≤ 32) ∨ 36 ≤ k) := by omega
      rcases hcase with rfl | rfl | hc | hc
      · go_wp2_with fail
        refine (cod_Next 1 (n := 4) (L := []) (k := 0) rfl (by decide) (nx_next 19) rfl HA.out).mono ?_
        rintro e w2 ⟨a, c, rfl, h2⟩
        go_wp2
        exact ⟨⟨20, rfl, by omega, by omega, h2.drop.drop⟩, by simp [intOf]⟩
      · go_wp2_with fail
        refine (cod_Next 1 (n := 4) (L := [3]) (k := 1) rfl (by decide) (nx_next 20) rfl HA.out).mono ?_
        rintro e w2 ⟨a, c, rfl, h2⟩
        have h3 := Sat.lit (L := [3]) (n := 1) (h2.alloc (.cells #[.int .i64 3] 3)) rfl (by decide)
        go_wp2_with fail
        refine (ints_same h3 rfl (by decide)).mono ?_
        rintro e w3 ⟨rfl, h4⟩
        go_wp2
        exact ⟨⟨21, rfl, by omega, by omega, h4.drop⟩, by simp [intOf]⟩
      · rcases hc with rfl | rfl | rfl | rfl | rfl | rfl | rfl
        all_goals
          go_wp2_with fail
          refine (cod_Next 1 (n := 4) (L := [2, 3]) (k := 2) rfl (by decide) (nx_next _) rfl HA.out).mono ?_
          rintro e w2 ⟨a, c, rfl, h2⟩
          have h3 := Sat.lit (L := [2, 3]) (n := 2) (h2.alloc (.cells #[.int .i64 2, .int .i64 3] 3)) rfl (by decide)
          go_wp2_with fail
          refine (ints_same h3 rfl (by decide)).mono ?_
          rintro e w3 ⟨rfl, h4⟩
          go_wp2
          exact ⟨⟨_, rfl, by omega, by omega, h4.drop⟩, by simp [intOf]⟩
      · have hx : nx k = [2] := by
          unfold nx isIf
          rw [if_neg (by omega), if_neg (by omega), if_neg (by simp; omega)]
        have HX := Lib.hid ((nx_next k).trans hx)
        clear hx
        have g1 : (k == 19) = false := by simp; omega
        have g2 : (k == 20) = false := by simp; omega
        rcases hc with hc | ⟨hc, hc'⟩ | hc
        · have f1 : decide (21 ≤ k) = false := by simp; omega
          have f3 : decide (33 ≤ k) = false := by simp; omega
          go_wp2_with fail
          refine (cod_Next 1 (n := 4) (L := [2]) (k := 1) rfl (by decide) HX.out rfl HA.out).mono ?_
          rintro e w2 ⟨a, c, rfl, h2⟩
          have h3 := Sat.lit (L := [2]) (n := 1) (h2.alloc (.cells #[.int .i64 2] 3)) rfl (by decide)
          go_wp2_with fail
          refine (ints_same h3 rfl (by decide)).mono ?_
          rintro e w3 ⟨rfl, h4⟩
          go_wp2
          exact ⟨⟨k + 1, rfl, by omega, by omega, h4.drop⟩, by simp [intOf]; omega⟩
        · have f1 : decide (21 ≤ k) = true := by simp; omega
          have f2 : decide (k ≤ 24) = false := by simp; omega
          have f3 : decide (33 ≤ k) = false := by simp; omega
          go_wp2_with fail
          refine (cod_Next 1 (n := 4) (L := [2]) (k := 1) rfl (by decide) HX.out rfl HA.out).mono ?_
          rintro e w2 ⟨a, c, rfl, h2⟩
          have h3 := Sat.lit (L := [2]) (n := 1) (h2.alloc (.cells #[.int .i64 2] 3)) rfl (by decide)
          go_wp2_with fail
          refine (ints_same h3 rfl (by decide)).mono ?_
          rintro e w3 ⟨rfl, h4⟩
          go_wp2
          exact ⟨⟨k + 1, rfl, by omega, by omega, h4.drop⟩, by simp [intOf]; omega⟩
        · have f1 : decide (21 ≤ k) = true := by simp; omega
          have f2 : decide (k ≤ 24) = false := by simp; omega
          have f3 : decide (33 ≤ k) = true := by simp; omega
          have f4 : decide (k ≤ 35) = false := by simp; omega
          go_wp2_with fail
          refine (cod_Next 1 (n := 4) (L := [2]) (k := 1) rfl (by decide) HX.out rfl HA.out).mono ?_
          rintro e w2 ⟨a, c, rfl, h2⟩
          have h3 := Sat.lit (L := [2]) (n := 1) (h2.alloc (.cells #[.int .i64 2] 3)) rfl (by decide)
          go_wp2_with fail
          refine (ints_same h3 rfl (by decide)).mono ?_
          rintro e w3 ⟨rfl, h4⟩
          go_wp2
          exact ⟨⟨k + 1, rfl, by omega, by omega, h4.drop⟩, by simp [intOf]; omega⟩
    · have hkn : k = 39 := by omega
      subst hkn
      have h1 := hs.alloc (.cells (insV outL).toArray 34)
      have h2 := h1.alloc (.cells (insV sameL).toArray 34)
      have h3 := h2.alloc (.cells (insV backL).toArray 34)
      rw [size_alloc', size_alloc'] at h3
      generalize hb : wr.heap.size = b at *
      have HA := Lib.hid h3
      clear h1 h2 h3 hs
      go_wp2_with fail
      refine (law_works HA.out).mono ?_
      rintro e w4 ⟨rfl, h4⟩
      go_wp2_with fail
      refine (cod_Next 0 (n := 2) (L := [1]) (k := 1) rfl (by decide) out0 rfl h4.p3).mono ?_
      rintro e w5 ⟨a, c, rfl, h5⟩
      clear h4
      have h6 := Sat.lit (L := [1]) (n := 1) (h5.alloc (.cells #[.int .i64 1] 3)) rfl (by decide)
      go_wp2_with fail
      refine (ints_same h6 rfl (by decide)).mono ?_
      rintro e w4 ⟨rfl, h7⟩
      have h4 := h7.q3
      clear h5 h6 h7
      go_wp2_with fail
      refine (cod_Next 1 (n := 2) (L := []) (k := 0) rfl (by decide) out1 rfl h4.p3).mono ?_
      rintro e w5 ⟨a, c, rfl, h5⟩
      clear h4
      have h4 := h5.drop.q3
      clear h5
      go_wp2_with fail
      refine (cod_Next 0 (n := 2) (L := [1]) (k := 1) rfl (by decide) same0 rfl h4.p2).mono ?_
      rintro e w5 ⟨a, c, rfl, h5⟩
      clear h4
      have h6 := Sat.lit (L := [1]) (n := 1) (h5.alloc (.cells #[.int .i64 1] 3)) rfl (by decide)
      go_wp2_with fail
      refine (ints_same h6 rfl (by decide)).mono ?_
      rintro e w4 ⟨rfl, h7⟩
      have h4 := h7.p2
      clear h5 h6 h7
      go_wp2_with fail
      refine (cod_Next 1 (n := 2) (L := [1]) (k := 1) rfl (by decide) same1 rfl h4.p2).mono ?_
      rintro e w5 ⟨a, c, rfl, h5⟩
      clear h4
      have h6 := Sat.lit (L := [1]) (n := 1) (h5.alloc (.cells #[.int .i64 1] 3)) rfl (by decide)
      go_wp2_with fail
      refine (ints_same h6 rfl (by decide)).mono ?_
      rintro e w4 ⟨rfl, h7⟩
      have h4 := h7.p2
      clear h5 h6 h7
      go_wp2_with fail
      refine (cod_Order (n := 2) (L := [0, 1]) (k := 2) rfl (by decide) sameOrder rfl h4.p2).mono ?_
      rintro e w5 ⟨a, c, rfl, h5⟩
      clear h4
      have h6 := Sat.lit (L := [0, 1]) (n := 2) (h5.alloc (.cells #[.int .i64 0, .int .i64 1] 3)) rfl (by decide)
      go_wp2_with fail
      refine (ints_same h6 rfl (by decide)).mono ?_
      rintro e w4 ⟨rfl, h7⟩
      have h4 := h7.p2
      clear h5 h6 h7
      go_wp2_with fail
      refine (cod_Order (n := 3) (L := [0, 2, 1]) (k := 3) rfl (by decide) backOrder rfl h4).mono ?_
      rintro e w5 ⟨a, c, rfl, h5⟩
      clear h4
      have h6 := Sat.lit (L := [0, 2, 1]) (n := 3) (h5.alloc (.cells #[.int .i64 0, .int .i64 2, .int .i64 1] 3)) rfl (by decide)
      go_wp2_with fail
      refine (ints_same h6 rfl (by decide)).mono ?_
      rintro e w4 ⟨rfl, h7⟩
      have h4 := h7
      clear h5 h6 h7
      go_wp2_with fail
      refine (nil_Order h4).mono ?_
      rintro e w5 ⟨a, c, rfl, h5⟩
      clear h4
      go_wp2_with fail
      refine (nil_From 0 h5).mono ?_
      rintro e w6 ⟨a1, c1, rfl, h4⟩
      clear h5
      go_wp2_with fail
      refine (cod_From (-1) (n := 3) (L := []) (k := 0) rfl (by decide) backFromNo rfl h4).mono ?_
      rintro e w5 ⟨a, c, rfl, h5⟩
      clear h4
      have h4 := h5.drop
      clear h5
      go_wp2_with fail
      refine (cod_Next 3 (n := 3) (L := []) (k := 0) rfl (by decide) back3 rfl h4).mono ?_
      rintro e w5 ⟨a, c, rfl, h5⟩
      clear h4
      have h4 := h5.drop
      clear h5
      go_wp2_with fail
      refine (cod_From 2 (n := 3) (L := [0, 1, 2]) (k := 3) rfl (by decide) backFrom2 rfl h4).mono ?_
      rintro e w5 ⟨a, c, rfl, h5⟩
      clear h4
      have h6 := Sat.lit (L := [0, 1, 2]) (n := 3) (h5.alloc (.cells #[.int .i64 0, .int .i64 1, .int .i64 2] 3)) rfl (by decide)
      go_wp2_with fail
      refine (ints_same h6 rfl (by decide)).mono ?_
      rintro e w4 ⟨rfl, h7⟩
      have h4 := h7
      clear h5 h6 h7
      go_wp2
      go_ret
      exact ⟨rfl, (h4.drop.drop.drop.cast (mul_one _).symm).below⟩
theorem own : ownKnob Try.prog.godebug = none := by kernel_rfl
theorem laidOut : laidOutB Try.prog = true := by kernel_rfl
set_option maxRecDepth 100000 in
theorem lifted (os : Os) (started : os.Started) (H : Type) (enc : TypeId × Value → H) :
    ReturnsInHanded {} Try.checked os 8 .any (Rows.flowKnownSpec.pre6 enc Try.prog Try.f8 Rows.flowKnownRow.domain false) (Rows.flowKnownSpec.post enc Try.prog Try.f8 false true false false) := by
  refine returnsInHanded_of_change (C := Try.checked) own started (by kernel_rfl) Try.func8
    (ChangeSpec.witness6 (enc := enc) (C := Try.checked) false ⟨#[], #[], []⟩ 8 (by kernel_rfl) (by kernel_rfl) (by kernel_rfl) (by kernel_rfl)) ?_
  intro W base args ds gs before hval0 hW hcnd _
  have hval : ∀ (j : Nat) t v, Try.f8.params[j]? = some t → args[j]? = some v → Value.okWide Try.prog W .any base t v := hval0
  have hW' := hW
  obtain ⟨p, q, hA0, hV, rfl, hfz, hnd⟩ := hW
  have hA : DataW.TrodAll enc Try.prog W 0 (fun _ => true) true Try.f8.params.toList args.toList ds p := hA0
  rw [Try.params8] at hA hval
  obtain ⟨hargs, rfl, rfl⟩ := trodAll_nil hA
  obtain rfl : args = #[] := by cases args; simp_all
  obtain ⟨rfl, rfl⟩ := trodVars_none hV
  clear hA0 hval0
  refine (walk W).mono fun e W' ⟨he, bel⟩ => ?_
  subst he
  exact ⟨_, rfl, _, _, _, [], _, [], hW', trodAll_mk1 (shut_bool Try.underlying4 _), trodAll_mk0, rfl, bel.frame _, fun h => by cases h⟩
theorem over : Rows.flowKnownRow.holds Try.pinned (OpenSpec.ofChange Rows.flowKnownSpec) :=
  OpenClaim.holds_of_wide 8 Try.f8 rfl rfl rfl rfl rfl rfl rfl ⟨rfl, rfl, rfl, rfl, rfl⟩ rfl rfl rfl rfl rfl (by kernel_rfl) Try.func8 (by kernel_rfl)
    (of_decide_eq_true (by kernel_rfl)) (by unfold Func.isWrapper; first | (rw [if_pos (by decide +kernel)]; kernel_rfl) | (rw [if_neg (by decide +kernel)]; exact ⟨rfl, rfl⟩))
    (fun os started H enc _ => lifted os started H enc)
theorem flowKnown_holds : Rows.FlowKnownSaid := over
#print axioms flowKnown_holds
end Go.Proofs.Ytpeifcdfhhpdkaa.FKnown
