/- FlowLine: a line of instructions that do not jump is done from its first one to its last one: proved for all numbers, without a condition. -/
import Derived.Test.YtpeifcdfhhpdkaaFlow12
import Derived.ProofKit
import Derived.DataShut
import Derived.OpenShut
import Derived.ShutString
import Derived.ChangeOld
namespace Go.Proofs.Ytpeifcdfhhpdkaa.FLine
set_option linter.unusedVariables false
set_option linter.unusedSimpArgs false
open Go Go.RowKit Go.MapKept Go.Proofs.Ytpeifcdfhhpdkaa.Tw
open Go.ChangeShapes Go.WideShapes Go.ChangeAt
open Go.ChangeMaps (open_string shut_string)

theorem u16_len {a0 : Int} (r0 : (Lit.int .u16 a0).wf = true) : ∃ N : Nat, wrap64 (1 + wrap64 (a0.tmod 300)) = (N : Int) ∧ 1 ≤ N ∧ N ≤ 300 := by
  have h := (Lit.wf_int_iff .u16 a0).1 r0
  simp only [IntKind.min_u16, IntKind.max_u16, IntKind.min_u8, IntKind.max_u8] at h
  have e : a0.tmod 300 = a0 % 300 := Int.tmod_eq_emod_of_nonneg h.1
  rw [e]
  refine ⟨(1 + a0 % 300).toNat, ?_, by omega, by omega⟩
  unfold wrap64
  omega
theorem u8_op {a1 : Int} (r1 : (Lit.int .u8 a1).wf = true) : ∃ op : Int, wrap64 (a1.tmod 19) = op ∧ 0 ≤ op ∧ op < 19 := by
  have h := (Lit.wf_int_iff .u8 a1).1 r1
  simp only [IntKind.min_u16, IntKind.max_u16, IntKind.min_u8, IntKind.max_u8] at h
  have e : a1.tmod 19 = a1 % 19 := Int.tmod_eq_emod_of_nonneg h.1
  rw [e]
  refine ⟨a1 % 19, ?_, by omega, by omega⟩
  unfold wrap64
  omega
theorem fill0 (op : Int) (N : Nat) : fillL op N 0 = List.replicate N ⟨0, 0, 0⟩ := by
  refine List.ext_getElem (by simp [fillL]) fun i h1 h2 => ?_
  simp [fillL]
theorem fillN (op : Int) (N : Nat) : fillL op N N = lineL op N := by
  refine List.ext_getElem (by simp [fillL, lineL]) fun i h1 h2 => ?_
  simp [fillL] at h1
  simp [fillL, lineL, h1]
theorem fillS (op : Int) (N k : Nat) (hk : k < N) : (fillL op N k).set k ⟨op, 0, (k : Int)⟩ = fillL op N (k + 1) := by
  refine List.ext_getElem (by simp [fillL]) fun i h1 h2 => ?_
  rw [List.getElem_set]
  simp only [fillL, List.getElem_map, List.getElem_range]
  by_cases e : k = i
  · subst e; simp
  · rw [if_neg e]
    by_cases h : i < k
    · rw [if_pos h, if_pos (by omega)]
    · rw [if_neg h, if_neg (by omega)]
set_option maxRecDepth 100000 in
set_option maxHeartbeats 2000000 in
theorem walk (a0 a1 : Int) (w : World) (r0 : (Lit.int .u16 a0).wf = true) (r1 : (Lit.int .u8 a1).wf = true) :
    Calls Try.prog 7 #[.int .u16 a0, .int .u8 a1] w fun e w' => e = .returned (.bool true) ∧ Below w.heap.size w w' := by
  go_enter Try.func7, Try.ntmps7
  go_wp2_with fail
  refine (law_works (Sat.refl w)).mono ?_
  rintro e w1 ⟨rfl, h1⟩
  obtain ⟨N, hN, hN1, hN2⟩ := u16_len r0
  obtain ⟨op, hop, hop1, hop2⟩ := u8_op r1
  obtain ⟨i0, hi, hz0, hz1, hz2⟩ := info_parts info_instr
  have hmk := run_makeSlice (P := Try.prog) (w := w1) 22 34 i0 _ Try.underlying22 hi hz0 .i64 .i64 (N : Int) (N : Int) (by omega) (by omega) (by rw [hz1]; omega) (by rw [hz2]; omega) (by omega)
  have h2 := h1.alloc (.cells (madeCells #[.int .i64 0, .int .i64 0, .int .i64 0] (N * 3)) 34)
  go_wp2_with fail
  generalize hb : w1.heap.size = b at *
  go_loopw [6] (fun iv wr => ∃ k : Nat, iv = .int .i64 k ∧ k ≤ N ∧ Sat w wr (slc 34 3 (some ⟨b, 0, none⟩) N N (insV (fillL op N k)) * Old w)) (fun iv _ => N - (intOf iv).toNat)
  case atStart =>
    refine ⟨0, rfl, by omega, ?_⟩
    rw [fill0, ← made_insV]
    exact Sat.shutSlc h2 (Nat.le_refl _) (by unfold maxLen; omega) (by simp [madeCells]) (by simp only [List.drop_zero]; exact List.take_of_length_le (by simp [madeCells]))
  case round =>
    obtain ⟨k, rfl, hk, hs⟩ := hrel
    by_cases hlt : k < N
    · have hlen : (insV (fillL op N k)).length = N * 3 := by rw [insV_length]; simp [fillL]
      have at3 : ∀ j, j < N * 3 → ∃ v, wr.cell? ⟨b, j, none⟩ = some v ∧ wr.frozen? ⟨b, j, none⟩ = false := fun j hj => by
        have e : (insV (fillL op N k))[j]? = some ((insV (fillL op N k))[j]'(by omega)) := List.getElem?_eq_getElem _
        obtain ⟨g, off, e1, e2, e3⟩ := hs.slcAt e
        cases e1
        rw [Nat.zero_add] at e2 e3
        exact ⟨_, e2, e3⟩
      obtain ⟨v0, c0, f0⟩ := at3 (k * 3) (by omega)
      obtain ⟨v1, c1, f1⟩ := at3 (k * 3 + 1) (by omega)
      obtain ⟨v2, c2, f2⟩ := at3 (k * 3 + 2) (by omega)
      clear at3
      go_wp2_with fail
      refine ⟨⟨k + 1, by go_num, by omega, ?_⟩, by simp [intOf]; omega⟩
      have s1 := hs.slcStore (j := k * 3) (by omega) (ival op)
      have s2 := s1.slcStore (j := k * 3 + 1) (by omega) (ival 0)
      have s3 := s2.slcStore (j := k * 3 + 2) (by omega) (ival k)
      simp only [Nat.zero_add] at s3
      rw [insV_set (fillL op N k) k ⟨op, 0, k⟩ (by simp [fillL]; omega), fillS op N k hlt] at s3
      exact s3
    · have hkn : k = N := by omega
      subst hkn
      rw [fillN] at hs
      have hC : CodeAt w (slc 34 3 (some ⟨b, 0, none⟩) k k (insV (lineL op k))) (some ⟨b, 0, none⟩) k (lineL op k) := codeAt_slc (lineL_length op k)
      have HC := Lib.hid hC
      clear hC
      go_wp2_with fail
      refine (flow_Order HC.out (Nat.le_refl _) (by omega) hs).mono ?_
      rintro e w3 ⟨a, c, rfl, h3⟩
      rw [order_line hop1 hop2 (by omega), upto_length] at h3
      rw [order_line hop1 hop2 (by omega), upto_length]
      go_wp2_with fail
      refine (flow_From HC.out (Nat.le_refl _) (by omega) 0 h3.q2).mono ?_
      rintro e w4 ⟨a', c', rfl, h4⟩
      rw [from_line hop1 hop2 (by omega), upto_length] at h4
      rw [from_line hop1 hop2 (by omega), upto_length]
      have hget : ∀ j, j < k → ∃ g off g' off', a = some ⟨g, off, none⟩ ∧ a' = some ⟨g', off', none⟩ ∧ w4.cell? ⟨g, off + j, none⟩ = some (.int .i64 (j : Int)) ∧ w4.cell? ⟨g', off' + j, none⟩ = some (.int .i64 (j : Int)) := fun j hj => by
        have e : (upto k)[j]? = some (j : Int) := by simp [upto, hj]
        obtain ⟨g', off', e1, e2, _⟩ := intCells h4 e
        obtain ⟨g, off, e3, e4, _⟩ := intCells h4.p3 e
        exact ⟨g, off, g', off', e3, e1, e4, e2⟩
      have HG := Lib.hid hget
      clear hget h3 hs h1 h2
      go_wp2_with fail
      go_loop [9] (fun iv => ∃ i : Nat, iv = .int .i64 i ∧ i ≤ k) (fun iv => k - (intOf iv).toNat)
      case atStart => exact ⟨0, rfl, by omega⟩
      case round =>
        obtain ⟨i, rfl, hi⟩ := hrel
        by_cases hlt2 : i < k
        · obtain ⟨g, off, g', off', rfl, rfl, c1, c2⟩ := HG.out i hlt2
          go_wp2
          go_round
          case rel => exact ⟨i + 1, by go_num, by omega⟩
          case measure => simp [intOf]; omega
        · go_wp2
          go_ret
          exact ⟨rfl, (h4.drop.drop.swap).below⟩
theorem own : ownKnob Try.prog.godebug = none := by kernel_rfl
theorem laidOut : laidOutB Try.prog = true := by kernel_rfl
set_option maxRecDepth 100000 in
theorem lifted (os : Os) (started : os.Started) (H : Type) (enc : TypeId × Value → H) :
    ReturnsInHanded {} Try.checked os 7 .any (Rows.flowLineSpec.pre6 enc Try.prog Try.f7 Rows.flowLineRow.domain false) (Rows.flowLineSpec.post enc Try.prog Try.f7 false true false false) := by
  refine returnsInHanded_of_change (C := Try.checked) own started (by kernel_rfl) Try.func7
    (ChangeSpec.witness6 (enc := enc) (C := Try.checked) false ⟨#[], #[.int .u16 0, .int .u8 0], []⟩ 8 (by kernel_rfl) (by kernel_rfl) (by kernel_rfl) (by kernel_rfl)) ?_
  intro W base args ds gs before hval0 hW hcnd _
  have hval : ∀ (j : Nat) t v, Try.f7.params[j]? = some t → args[j]? = some v → Value.okWide Try.prog W .any base t v := hval0
  have hW' := hW
  obtain ⟨p, q, hA0, hV, rfl, hfz, hnd⟩ := hW
  have hA : DataW.TrodAll enc Try.prog W 0 (fun _ => true) true Try.f7.params.toList args.toList ds p := hA0
  rw [Try.params7] at hA hval
  obtain ⟨v0, vs0, d0, ds0, p0, q0, hargs, rfl, rfl, h0, r0⟩ := trodAll_cons hA
  obtain ⟨v1, vs1, d1, ds1, p1, q1, rfl, rfl, rfl, h1, r1⟩ := trodAll_cons r0
  obtain ⟨rfl, rfl, rfl⟩ := trodAll_nil r1
  obtain rfl : args = #[v0, v1] := by cases args; simp_all
  obtain ⟨rfl, rfl⟩ := trodVars_none hV
  obtain ⟨a0, rfl, rfl, rfl, w0⟩ := open_int Try.underlying32 (hval 0 32 v0 rfl rfl) h0
  obtain ⟨a1, rfl, rfl, rfl, w1⟩ := open_int Try.underlying5 (hval 1 5 v1 rfl rfl) h1
  clear hA0 hval0
  refine (walk a0 a1 W w0 w1).mono fun e W' ⟨he, bel⟩ => ?_
  subst he
  exact ⟨_, rfl, _, _, _, [], _, [], hW', trodAll_mk1 (shut_bool Try.underlying4 _), (trodAll_cons_mk (shut_int Try.underlying32 w0) (trodAll_cons_mk (shut_int Try.underlying5 w1) trodAll_mk0)), rfl, bel.frame _, fun h => by cases h⟩
theorem over : Rows.flowLineRow.holds Try.pinned (OpenSpec.ofChange Rows.flowLineSpec) :=
  OpenClaim.holds_of_wide 7 Try.f7 rfl rfl rfl rfl rfl rfl rfl ⟨rfl, rfl, rfl, rfl, rfl⟩ rfl rfl rfl rfl rfl (by kernel_rfl) Try.func7 (by kernel_rfl)
    (of_decide_eq_true (by kernel_rfl)) (by unfold Func.isWrapper; first | (rw [if_pos (by decide +kernel)]; kernel_rfl) | (rw [if_neg (by decide +kernel)]; exact ⟨rfl, rfl⟩))
    (fun os started H enc _ => lifted os started H enc)
theorem flowLine_holds : Rows.FlowLineSaid := over
#print axioms flowLine_holds
end Go.Proofs.Ytpeifcdfhhpdkaa.FLine
