/- FlowClosed: what can be reached from a place is that place, and what can be reached from its next ones, nothing more: proved for all codes and places, without a condition. -/
import Derived.Test.YtpeifcdfhhpdkaaFlow18
import Derived.Deep.QuietTactic
import Derived.BigQuiet
import Derived.ProofKit
import Derived.OpenShut
import Derived.ShutString
import Derived.ChangeOld
namespace Go.Proofs.Ytpeifcdfhhpdkaa.FClosed
set_option linter.unusedVariables false
set_option linter.unusedSimpArgs false
open Go Go.RowKit Go.MapKept Go.Proofs.Ytpeifcdfhhpdkaa.Tw
open Go.ChangeShapes Go.WideShapes Go.ChangeAt
open Go.ChangeMaps (open_string shut_string)

/-- what is marked: the next ones of the first k of from -/
def Marks (l : List AIn) (from_ : List Int) (bs : List Bool) (k : Nat) : Prop := ∀ (j : Nat) (x : Int), j < k → from_[j]? = some x → ∀ y ∈ nextL l x, bs[y.toNat]? = some true
theorem bset_true {bs : List Bool} {i j : Nat} (h : bs[j]? = some true) : (bs.set i true)[j]? = some true := by
  rw [List.getElem?_set]
  split
  · rename_i e; subst e
    rw [if_pos (List.getElem?_eq_some_iff.1 h).1]
  · exact h
theorem Marks.set {l : List AIn} {L : List Int} {bs : List Bool} {k : Nat} (h : Marks l L bs k) (i : Nat) : Marks l L (bs.set i true) k := fun j x hj hx y hy => bset_true (h j x hj hx y hy)
theorem Sat.c23 {w0 w : World} {A B F : HP} (h : Sat w0 w (A * (B * F))) : Sat w0 w (A * F) := h.p2.drop
set_option maxRecDepth 100000 in
set_option maxHeartbeats 8000000 in
theorem walk (a0 : Option Addr) (len0 cap0 : Nat) (l0 : List AIn) (pc : Int) (w : World) (w0 : IsCode w a0 len0 cap0 l0) (r1 : (Lit.int .i64 pc).wf = true) :
    Calls Try.prog 5 #[.slice a0 len0 cap0, .int .i64 pc] w fun e w' => e = .returned (.bool true) ∧ Below w.heap.size w w' := by
  have hlc1 := w0.2.1
  have hlc2 := w0.2.2.1
  obtain ⟨n, hmin, hn1, hn2⟩ : ∃ n : Nat, min (len0 : Int) 200 = (n : Int) ∧ n ≤ 200 ∧ n ≤ len0 := ⟨min len0 200, by omega, by omega, by omega⟩
  have hn3 : (n : Int) ≤ cap0 := by omega
  have hC := codeAt_old w0 hn2
  generalize l0.take n = l at *
  have hln := hC.1
  have HC := Lib.hid hC
  have HL := Lib.hid hln
  clear w0 r1 hC hln
  go_enter Try.func5, Try.ntmps5
  go_wp2_with fail
  refine (law_works (Sat.refl w)).mono ?_
  rintro e w1 ⟨rfl, h1⟩
  go_wp2_with fail
  refine (flow_From HC.out (by omega) (by omega) pc (F := 1) (h1.cast (mul_one _).symm)).mono ?_
  rintro e w2 ⟨a, c, rfl, h2⟩
  clear h1
  by_cases hin : inr l.length pc = true
  · obtain ⟨hf1, hf2, hf3⟩ := fromL_in hin
    have hpos : 0 ≤ pc ∧ pc < n := by unfold inr at hin; simp at hin; have := HL.out; omega
    obtain ⟨hp0, hp1⟩ := hpos
    have hmem : pc ∈ fromL l pc := (hf2 pc).2 .refl
    have hPl : Places l.length (fromL l pc) := ⟨hf1.imp fun h => by omega, hf3⟩
    have hle := hPl.le
    rw [HL.out] at hle
    have hcl : ∀ x ∈ fromL l pc, ∀ y ∈ nextL l x, y ∈ fromL l pc := fun x hx y hy => (hf2 y).2 (.step ((hf2 x).1 hx) hy)
    have hsrc : ∀ x ∈ fromL l pc, x = pc ∨ ∃ z ∈ fromL l pc, x ∈ nextL l z := fun x hx => by
      cases (hf2 x).1 hx with
      | refl => exact .inl rfl
      | step r hz => exact .inr ⟨_, (hf2 _).2 r, hz⟩
    have HF := Lib.hid (And.intro hf1 (And.intro hf3 (And.intro hcl (And.intro hsrc hmem))))
    clear hf1 hf2 hf3 hcl hsrc hmem hPl hin
    have HM := Lib.hid (rfl : (fromL l pc).length = (fromL l pc).length)
    generalize hm : (fromL l pc).length = m at h2 hle HM ⊢
    have HM2 := Lib.hid hm
    clear hm HM
    obtain ⟨i0, hi, hz0, hz1, hz2⟩ := info_parts info_boolF
    go_wp2_with fail
    refine (has_yes pc h2 HM2.out (by omega) HF.out.2.2.2.2).mono ?_
    rintro e w3 ⟨rfl, rfl⟩
    have hmk := run_makeSlice (P := Try.prog) (w := w2) 30 4 i0 _ Try.underlying30 hi hz0 .i64 .i64 (n : Int) (n : Int) (by omega) (by omega) (by rw [hz1]; omega) (by rw [hz2]; omega) (by omega)
    have h3 := h2.alloc (.cells (madeCells #[.bool false] n) 4)
    generalize hb : w2.heap.size = sb at *
    have h4 := Sat.madeBools (by omega) h3
    have HS := Lib.hid h4
    clear h2 h3 h4
    go_wp2_with fail
    go_loopw [7] (fun iv wr => ∃ (k : Nat) (bs : List Bool), iv = .int .i64 k ∧ k ≤ m ∧ Hid (Marks l (fromL l pc) bs k) ∧ Sat w wr (boolR sb n bs * (slc 3 1 a m c ((fromL l pc).map ival) * (Old w * 1)))) (fun iv _ => m - (intOf iv).toNat)
    case atStart => exact ⟨0, _, rfl, by omega, Lib.hid (fun j x hj => by omega), HS.out⟩
    case round =>
      obtain ⟨k, bs, rfl, hk, hmk2, hs⟩ := hrel
      by_cases hlt : k < m
      · have hx : (fromL l pc)[k]? = some ((fromL l pc)[k]'(by rw [HM2.out]; exact hlt)) := List.getElem?_eq_getElem _
        generalize (fromL l pc)[k]'(by rw [HM2.out]; exact hlt) = x at hx
        obtain ⟨g, off, rfl, cx, _⟩ := intCells hs.p2 hx
        have hxm := List.mem_of_getElem? hx
        have hxr : 0 ≤ x ∧ x < n := by have := HF.out.2.1 x hxm; have e := HL.out; unfold inr at this; simp at this; omega
        obtain ⟨hx0, hx1⟩ := hxr
        have HX := Lib.hid hx
        clear hx hxm
        by_cases hk0 : k = 0
        · have g0 : decide (0 < k) = false := by simp; omega
          have g1 : decide (0 < (k : Int)) = false := by simp; omega
          have g2 : decide (x < 0) = false := by simp; omega
          have g3 : decide ((n : Int) ≤ x) = false := by simp; omega
          clear hk0
          go_wp2_with fail
          go_quiet (fail)
          have HS2 := Lib.hid (hs.drewN nq)
          clear hs
          go_wp2_with fail
          refine (flow_Next HC.out (by omega) (by omega) x HS2.out.p3).mono ?_
          rintro e w4 ⟨a2, c2, rfl, h4⟩
          have hnx := Lib.hid (fun (y : Int) (hy : y ∈ sortI (nextL l x)) => HF.out.2.2.1 x (List.mem_of_getElem? HX.out) y (mem_sortI.1 hy))
          have hrl := nextL_length l x
          have hsl := Lib.hid (sortI_length (nextL l x))
          generalize hr : (nextL l x).length = r at *
          have HR := Lib.hid hr
          clear hr
          have h5 : Sat w w4 (boolR sb n bs * (slc 3 1 a2 r c2 ((sortI (nextL l x)).map ival) * (slc 3 1 (some ⟨g, off, none⟩) m c ((fromL l pc).map ival) * (Old w * 1)))) := h4.cast (by ac_rfl)
          have HS3 := Lib.hid h5
          clear h4 h5
          go_wp2_with fail
          go_loopw [9] (fun iv wr2 => ∃ (q : Nat) (bs2 : List Bool), iv = .int .i64 q ∧ q ≤ r ∧ Hid (Marks l (fromL l pc) bs2 k ∧ ∀ j y, j < q → (sortI (nextL l x))[j]? = some y → bs2[y.toNat]? = some true) ∧ Sat w wr2 (boolR sb n bs2 * (slc 3 1 a2 r c2 ((sortI (nextL l x)).map ival) * (slc 3 1 (some ⟨g, off, none⟩) m c ((fromL l pc).map ival) * (Old w * 1))))) (fun iv _ => r - (intOf iv).toNat)
          case atStart => exact ⟨0, bs, rfl, by omega, Lib.hid ⟨hmk2.out, fun j y hj => by omega⟩, HS3.out⟩
          case round =>
            obtain ⟨q, bs2, rfl, hq, hin2, hs2⟩ := hrel
            by_cases hlt2 : q < r
            · have hy : (sortI (nextL l x))[q]? = some ((sortI (nextL l x))[q]'(by rw [hsl.out]; exact hlt2)) := List.getElem?_eq_getElem _
              generalize (sortI (nextL l x))[q]'(by rw [hsl.out]; exact hlt2) = y at hy
              obtain ⟨g2, off2, rfl, cy, _⟩ := intCells hs2.p2 hy
              have hym := hnx.out y (List.mem_of_getElem? hy)
              have hyr : 0 ≤ y ∧ y < n := by have := HF.out.2.1 y hym; have e := HL.out; unfold inr at this; simp at this; omega
              obtain ⟨yn, rfl⟩ : ∃ yn : Nat, y = (yn : Int) := ⟨y.toNat, by omega⟩
              have hyn : yn < n := by omega
              have HY := Lib.hid hy
              have hbl := hs2.boolLen
              obtain ⟨bv, hbv⟩ : ∃ b, bs2[yn]? = some b := ⟨_, List.getElem?_eq_getElem (by omega)⟩
              obtain ⟨cb, fb⟩ := boolCell hs2 hbv
              have HH := Lib.hid (has_yes (yn : Int) hs2.p3 HM2.out (by omega) hym)
              clear hy hym hyr hbl hbv
              go_wp2_with fail
              refine HH.out.mono ?_
              rintro e w5 ⟨rfl, rfl⟩
              go_wp2_with fail
              refine ⟨⟨q + 1, bs2.set yn true, by go_num, by omega, Lib.hid ⟨hin2.out.1.set yn, ?_⟩, hs2.boolStore true hyn⟩, by simp [intOf]; omega⟩
              intro j y hj hy
              rcases Nat.lt_or_ge j q with h | h
              · exact bset_true (hin2.out.2 j y h hy)
              · obtain rfl : j = q := by omega
                rw [HY.out] at hy
                cases hy
                rw [Int.toNat_natCast, List.getElem?_set_self (by have := hs2.boolLen; omega)]
            · have hqr : q = r := by omega
              subst hqr
              go_wp2_with fail
              refine ⟨⟨k + 1, bs2, by go_num, by omega, Lib.hid ?_, Sat.c23 hs2⟩, by simp [intOf]; omega⟩
              intro j z hj hz y hy
              rcases Nat.lt_or_ge j k with h | h
              · exact hin2.out.1 j z h hz y hy
              · obtain rfl : j = k := by omega
                rw [HX.out] at hz
                cases hz
                obtain ⟨i, hi⟩ := List.mem_iff_getElem?.1 (mem_sortI.2 hy)
                exact hin2.out.2 i y (by have := (List.getElem?_eq_some_iff.1 hi).1; have e := hsl.out; omega) hi
        · have hx' : (fromL l pc)[k - 1]? = some ((fromL l pc)[k - 1]'(by rw [HM2.out]; omega)) := List.getElem?_eq_getElem _
          generalize (fromL l pc)[k - 1]'(by rw [HM2.out]; omega) = x' at hx'
          obtain ⟨g', off', e', cx', _⟩ := intCells hs.p2 hx'
          cases e'
          have hxx : x' < x := by
            have := (List.pairwise_iff_getElem.1 HF.out.1) (k - 1) k (List.getElem?_eq_some_iff.1 hx').1 (List.getElem?_eq_some_iff.1 HX.out).1 (by omega)
            rw [(List.getElem?_eq_some_iff.1 hx').2, (List.getElem?_eq_some_iff.1 HX.out).2] at this
            exact this
          have g1 : decide (0 < (k : Int)) = true := by simp; omega
          have g2 : decide (x < 0) = false := by simp; omega
          have g3 : decide ((n : Int) ≤ x) = false := by simp; omega
          have g4 : decide (x ≤ x') = false := by simp; omega
          obtain ⟨k, rfl⟩ : ∃ j, k = j + 1 := ⟨k - 1, by omega⟩
          rw [Nat.add_sub_cancel] at cx' hx'
          clear hx'
          go_wp2_with fail
          go_quiet (fail)
          have HS2 := Lib.hid (hs.drewN nq)
          clear hs
          go_wp2_with fail
          refine (flow_Next HC.out (by omega) (by omega) x HS2.out.p3).mono ?_
          rintro e w4 ⟨a2, c2, rfl, h4⟩
          have hnx := Lib.hid (fun (y : Int) (hy : y ∈ sortI (nextL l x)) => HF.out.2.2.1 x (List.mem_of_getElem? HX.out) y (mem_sortI.1 hy))
          have hrl := nextL_length l x
          have hsl := Lib.hid (sortI_length (nextL l x))
          generalize hr : (nextL l x).length = r at *
          have HR := Lib.hid hr
          clear hr
          have h5 : Sat w w4 (boolR sb n bs * (slc 3 1 a2 r c2 ((sortI (nextL l x)).map ival) * (slc 3 1 (some ⟨g, off, none⟩) m c ((fromL l pc).map ival) * (Old w * 1)))) := h4.cast (by ac_rfl)
          have HS3 := Lib.hid h5
          clear h4 h5
          go_wp2_with fail
          go_loopw [9] (fun iv wr2 => ∃ (q : Nat) (bs2 : List Bool), iv = .int .i64 q ∧ q ≤ r ∧ Hid (Marks l (fromL l pc) bs2 (k + 1) ∧ ∀ j y, j < q → (sortI (nextL l x))[j]? = some y → bs2[y.toNat]? = some true) ∧ Sat w wr2 (boolR sb n bs2 * (slc 3 1 a2 r c2 ((sortI (nextL l x)).map ival) * (slc 3 1 (some ⟨g, off, none⟩) m c ((fromL l pc).map ival) * (Old w * 1))))) (fun iv _ => r - (intOf iv).toNat)
          case atStart => exact ⟨0, bs, rfl, by omega, Lib.hid ⟨hmk2.out, fun j y hj => by omega⟩, HS3.out⟩
          case round =>
            obtain ⟨q, bs2, rfl, hq, hin2, hs2⟩ := hrel
            by_cases hlt2 : q < r
            · have hy : (sortI (nextL l x))[q]? = some ((sortI (nextL l x))[q]'(by rw [hsl.out]; exact hlt2)) := List.getElem?_eq_getElem _
              generalize (sortI (nextL l x))[q]'(by rw [hsl.out]; exact hlt2) = y at hy
              obtain ⟨g2, off2, rfl, cy, _⟩ := intCells hs2.p2 hy
              have hym := hnx.out y (List.mem_of_getElem? hy)
              have hyr : 0 ≤ y ∧ y < n := by have := HF.out.2.1 y hym; have e := HL.out; unfold inr at this; simp at this; omega
              obtain ⟨yn, rfl⟩ : ∃ yn : Nat, y = (yn : Int) := ⟨y.toNat, by omega⟩
              have hyn : yn < n := by omega
              have HY := Lib.hid hy
              have hbl := hs2.boolLen
              obtain ⟨bv, hbv⟩ : ∃ b, bs2[yn]? = some b := ⟨_, List.getElem?_eq_getElem (by omega)⟩
              obtain ⟨cb, fb⟩ := boolCell hs2 hbv
              have HH := Lib.hid (has_yes (yn : Int) hs2.p3 HM2.out (by omega) hym)
              clear hy hym hyr hbl hbv
              go_wp2_with fail
              refine HH.out.mono ?_
              rintro e w5 ⟨rfl, rfl⟩
              go_wp2_with fail
              refine ⟨⟨q + 1, bs2.set yn true, by go_num, by omega, Lib.hid ⟨hin2.out.1.set yn, ?_⟩, hs2.boolStore true hyn⟩, by simp [intOf]; omega⟩
              intro j y hj hy
              rcases Nat.lt_or_ge j q with h | h
              · exact bset_true (hin2.out.2 j y h hy)
              · obtain rfl : j = q := by omega
                rw [HY.out] at hy
                cases hy
                rw [Int.toNat_natCast, List.getElem?_set_self (by have := hs2.boolLen; omega)]
            · have hqr : q = r := by omega
              subst hqr
              go_wp2_with fail
              refine ⟨⟨(k + 1) + 1, bs2, by go_num, by omega, Lib.hid ?_, Sat.c23 hs2⟩, by simp [intOf]; omega⟩
              intro j z hj hz y hy
              rcases Nat.lt_or_ge j (k + 1) with h | h
              · exact hin2.out.1 j z h hz y hy
              · obtain rfl : j = (k + 1) := by omega
                rw [HX.out] at hz
                cases hz
                obtain ⟨i, hi⟩ := List.mem_iff_getElem?.1 (mem_sortI.2 hy)
                exact hin2.out.2 i y (by have := (List.getElem?_eq_some_iff.1 hi).1; have e := hsl.out; omega) hi
      · have hkm : k = m := by omega
        subst hkm
        have HS4 := Lib.hid hs
        clear hs
        go_wp2_with fail
        go_loop [10] (fun iv => ∃ q : Nat, iv = .int .i64 q ∧ q ≤ k) (fun iv => k - (intOf iv).toNat)
        case atStart => exact ⟨0, rfl, by omega⟩
        case round =>
          obtain ⟨q, rfl, hq⟩ := hrel
          by_cases hlt2 : q < k
          · have hy : (fromL l pc)[q]? = some ((fromL l pc)[q]'(by rw [HM2.out]; exact hlt2)) := List.getElem?_eq_getElem _
            generalize (fromL l pc)[q]'(by rw [HM2.out]; exact hlt2) = y at hy
            obtain ⟨g2, off2, rfl, cy, _⟩ := intCells HS4.out.p2 hy
            have hym := List.mem_of_getElem? hy
            have hyr : 0 ≤ y ∧ y < n := by have := HF.out.2.1 y hym; have e := HL.out; unfold inr at this; simp at this; omega
            obtain ⟨yn, rfl⟩ : ∃ yn : Nat, y = (yn : Int) := ⟨y.toNat, by omega⟩
            have hyn : yn < n := by omega
            rcases HF.out.2.2.2.1 _ hym with e | ⟨z, hz, hyz⟩
            · have f1 : ((yn : Int) != pc) = false := by simp [e]
              clear hyr hym hy e
              go_wp2
              go_round
              case rel => exact ⟨q + 1, by go_num, by omega⟩
              case measure => simp [intOf]; omega
            · obtain ⟨j, hj⟩ := List.mem_iff_getElem?.1 hz
              have hbv := hmk2.out j z (by have := (List.getElem?_eq_some_iff.1 hj).1; have e := HM2.out; omega) hj _ hyz
              rw [Int.toNat_natCast] at hbv
              obtain ⟨cb, fb⟩ := boolCell HS4.out hbv
              clear hyr hym hy hbv hj hz hyz
              by_cases e : (yn : Int) = pc
              · have f1 : ((yn : Int) != pc) = false := by simp [e]
                clear e
                go_wp2
                go_round
                case rel => exact ⟨q + 1, by go_num, by omega⟩
                case measure => simp [intOf]; omega
              · have f1 : ((yn : Int) != pc) = true := by simp [e]
                clear e
                go_wp2
                go_round
                case rel => exact ⟨q + 1, by go_num, by omega⟩
                case measure => simp [intOf]; omega
          · have hqk : q = k := by omega
            subst hqk
            go_wp2
            go_ret
            exact ⟨rfl, HS4.out.drop.drop.below⟩
  · have hout : inr l.length pc = false := by simpa using hin
    rw [fromL_out hout] at h2 ⊢
    have HO := Lib.hid hout
    have hl := HL.out
    clear hin hout
    by_cases h0 : pc < 0
    · go_wp2
      go_ret
      exact ⟨rfl, h2.drop.below⟩
    · have hge : (n : Int) ≤ pc := by have := HO.out; unfold inr at this; simp at this; omega
      clear hl
      go_wp2
      go_ret
      exact ⟨rfl, h2.drop.below⟩
theorem own : ownKnob Try.prog.godebug = none := by kernel_rfl
theorem laidOut : laidOutB Try.prog = true := by kernel_rfl
set_option maxRecDepth 100000 in
theorem lifted (os : Os) (started : os.Started) (H : Type) (enc : TypeId × Value → H) :
    ReturnsInHanded {} Try.checked os 5 .any (Rows.flowClosedSpec.pre6 enc Try.prog Try.f5 Rows.flowClosedRow.domain false) (Rows.flowClosedSpec.post enc Try.prog Try.f5 false true false false) := by
  refine returnsInHanded_of_change (C := Try.checked) own started (by kernel_rfl) Try.func5
    (ChangeSpec.witness6 (enc := enc) (C := Try.checked) false ⟨#[], #[.slice none 0 0, .int .i64 0], []⟩ 8 (by kernel_rfl) (by kernel_rfl) (by kernel_rfl) (by kernel_rfl)) ?_
  intro W base args ds gs before hval0 hW hcnd _
  have hval : ∀ (j : Nat) t v, Try.f5.params[j]? = some t → args[j]? = some v → Value.okWide Try.prog W .any base t v := hval0
  have hW' := hW
  obtain ⟨p, q, hA0, hV, rfl, hfz, hnd⟩ := hW
  have hA : DataW.TrodAll enc Try.prog W 0 (fun _ => true) true Try.f5.params.toList args.toList ds p := hA0
  rw [Try.params5] at hA hval
  obtain ⟨v0, vs0, d0, ds0, p0, q0, hargs, rfl, rfl, h0, r0⟩ := trodAll_cons hA
  obtain ⟨v1, vs1, d1, ds1, p1, q1, rfl, rfl, rfl, h1, r1⟩ := trodAll_cons r0
  obtain ⟨rfl, rfl, rfl⟩ := trodAll_nil r1
  obtain rfl : args = #[v0, v1] := by cases args; simp_all
  obtain ⟨rfl, rfl⟩ := trodVars_none hV
  obtain ⟨a0, len0, cap0, rfl⟩ := okWide_slice Try.underlying22 (hval 0 22 v0 rfl rfl)
  have k0 := h0
  have lt0 : ∀ x ∈ p0, x.block < W.heap.size := by obtain ⟨m, hm⟩ := k0; exact DataW.trod_lt m _ _ _ hm
  obtain ⟨z0, w0⟩ : ∃ zs, IsCode W a0 len0 cap0 zs := by
    obtain ⟨fuel, hf⟩ := h0
    exact open_code hf
  obtain ⟨a1, rfl, rfl, rfl, w1⟩ := open_int Try.underlying3 (hval 1 3 v1 rfl rfl) h1
  clear hA0 hval0
  refine (walk a0 len0 cap0 z0 a1 W w0 w1).mono fun e W' ⟨he, bel⟩ => ?_
  subst he
  exact ⟨_, rfl, _, _, _, [], _, [], hW', trodAll_mk1 (shut_bool Try.underlying4 _), (trodAll_cons_mk (Below.trod laidOut (by kernel_rfl) (of_decide_eq_true (by kernel_rfl)) k0 bel lt0) (trodAll_cons_mk (shut_int Try.underlying3 w1) trodAll_mk0)), rfl, bel.frame _, fun h => by cases h⟩
theorem over : Rows.flowClosedRow.holds Try.pinned (OpenSpec.ofChange Rows.flowClosedSpec) :=
  OpenClaim.holds_of_wide 5 Try.f5 rfl rfl rfl rfl rfl rfl rfl ⟨rfl, rfl, rfl, rfl, rfl⟩ rfl rfl rfl rfl rfl (by kernel_rfl) Try.func5 (by kernel_rfl)
    (of_decide_eq_true (by kernel_rfl)) (by unfold Func.isWrapper; first | (rw [if_pos (by decide +kernel)]; kernel_rfl) | (rw [if_neg (by decide +kernel)]; exact ⟨rfl, rfl⟩))
    (fun os started H enc _ => lifted os started H enc)
theorem flowClosed_holds : Rows.FlowClosedSaid := over
#print axioms flowClosed_holds
end Go.Proofs.Ytpeifcdfhhpdkaa.FClosed
