/- DrainPlays: whatever is done to a heap, by steps too, it answers, and all of it is then, as the document says: proved for every slice of acts, without a condition. -/
import Derived.Test.YtkpcngcegipalaaZPDw44
import Derived.Test.YtkpcngcegipalaaZPDw45
namespace Go.Proofs.Ytkpcngcegipalaa.PDw
set_option linter.unusedVariables false
set_option linter.unusedSimpArgs false
open Go Go.RowKit Go.MapKept Go.Proofs.Ytkpcngcegipalaa.Tw
open Go.ChangeShapes Go.WideShapes Go.ChangeAt Go.Deep

def Ok14 (x : Act14) : Prop := x.n ≤ 9223372036854775807
def cells14 (x : Act14) : List Value := [.int .i64 x.what, .int .i64 x.n, .int .i64 x.v.kind, .int .i64 x.v.n]
def acells14 (l : List Act14) : List Value := (l.map cells14).flatten
theorem acells14_get : ∀ {rs : List Act14} {k : Nat} {r : Act14}, rs[k]? = some r → ∀ j v, (cells14 r)[j]? = some v → (acells14 rs)[k * 4 + j]? = some v
  | [], k, r, h, _, _, _ => by simp at h
  | y :: rs, 0, r, h, j, v, hj => by
    simp at h; subst h
    show (cells14 y ++ acells14 rs)[0 * 4 + j]? = _
    rw [List.getElem?_append_left (by have := (List.getElem?_eq_some_iff.1 hj).1; omega), Nat.zero_mul, Nat.zero_add]; exact hj
  | y :: rs, k + 1, r, h, j, v, hj => by
    simp at h
    have := acells14_get h j v hj
    show (cells14 y ++ acells14 rs)[(k + 1) * 4 + j]? = _
    rw [List.getElem?_append_right (by show 4 ≤ _; omega)]
    show (acells14 rs)[(k + 1) * 4 + j - 4]? = _
    rw [show (k + 1) * 4 + j - 4 = k * 4 + j by omega]; exact this
theorem wf_i64' {n : Int} (h : (Lit.int .i64 n).wf = true) : n ≤ 9223372036854775807 := by
  simp only [Lit.wf, IntKind.min, IntKind.max, IntKind.signed, IntKind.bits, Bool.and_eq_true, decide_eq_true_eq, if_true, Bool.false_eq_true, if_false] at h
  omega
section
variable {H : Type} {enc : TypeId × Value → H} {w : World} {base : Nat} {held : Bool} {fuel : Nat} {cs : List Value} {x : DataW H × List MemPlace}
theorem act14_cells (h : DataW.trod enc Try.prog w base (fun _ => true) held fuel 94 cs = some x) : ∃ r : Act14, Ok14 r ∧ cs = cells14 r := by
  obtain ⟨y0, y1, y2, n, _, hl, g0, g1, g2⟩ := trod_struct3 Try.underlying94 h
  have h3 : Try.prog.cellsOf 94 = 4 := by kernel_rfl
  have h1 : Try.prog.cellsOf 3 = 1 := by kernel_rfl
  have h2 : Try.prog.cellsOf 28 = 2 := by kernel_rfl
  rw [h3] at hl
  obtain ⟨v0, v1, v2, v3, rfl⟩ : ∃ v0 v1 v2 v3, cs = [v0, v1, v2, v3] := by
    rcases cs with _ | ⟨v0, _ | ⟨v1, _ | ⟨v2, _ | ⟨v3, _ | ⟨v4, r⟩⟩⟩⟩⟩ <;> simp at hl
    exact ⟨v0, v1, v2, v3, rfl⟩
  simp only [h1, h2, List.drop_zero, List.drop_succ_cons, List.take_succ_cons, List.take_zero] at g0 g1 g2
  obtain ⟨p, e0, _, k0⟩ := DataW.trod_int Try.underlying3 g0
  obtain ⟨q, e1, _, k1⟩ := DataW.trod_int Try.underlying3 g1
  obtain ⟨v, e2⟩ := val_cells g2
  simp [AVal.cells] at e0 e1 e2
  exact ⟨⟨p, q, v⟩, wf_i64' k1, by rw [e0, e1, e2.1, e2.2]; rfl⟩
end
/-- an argument: acts in a slice -/
def IsActs14 (w : World) (a : Option Addr) (len cap : Nat) (rs : List Act14) : Prop :=
  rs.length = len ∧ len ≤ cap ∧ cap ≤ maxLen ∧ (∀ r ∈ rs, Ok14 r) ∧ ArgAt w (Old w) a (acells14 rs)
theorem open_acts14 {H : Type} {enc : TypeId × Value → H} {w : World} {base : Nat} {held : Bool} {fuel : Nat} {x : DataW H × List MemPlace} {a : Option Addr} {len cap : Nat} (h : DataW.trod enc Try.prog w base (fun _ => true) held fuel 91 [.slice a len cap] = some x) : ∃ rs, IsActs14 w a len cap rs := by
  obtain ⟨h1, h2, css, h3, h4, h5⟩ := open_recs Try.underlying91 (show Try.prog.cellsOf 94 = 4 by kernel_rfl) (by omega) (fun _ _ _ hh => act14_cells hh) h
  obtain ⟨rs, rfl, hr⟩ := of_forall_ex (f := cells14) (R := Ok14) css h4
  rw [List.length_map] at h3
  exact ⟨rs, h3, h1, h2, hr, h5⟩
set_option maxRecDepth 100000 in
set_option maxHeartbeats 4000000 in
theorem walk (a0 : Option Addr) (len0 cap0 : Nat) (rs : List Act14) (w0 : World) (wa : IsActs14 w0 a0 len0 cap0 rs) :
    Calls Try.prog 10 #[.slice a0 len0 cap0] w0 fun e w' => e = .returned (.bool true) ∧ Below w0.heap.size w0 w' := by
  have h0 := (Sat.refl w0).cast (mul_one _).symm
  obtain ⟨hl, hc1, hc2, hrs, hAA⟩ := wa
  have hlen : len0 ≤ 9223372036854775807 := by unfold maxLen at hc2; omega
  have HAL := Lib.hid (And.intro hl (And.intro hrs hAA))
  have HPL := Lib.hid (play14_ok rs)
  clear hl hrs hAA hc1 hc2
  go_enter Try.func10, Try.ntmps10
  go_wp2_with fail
  refine (heap_New h0).mono ?_
  rintro e w1 ⟨p, rfl, h1⟩
  have h2 := empty_ref ((h1 mN).alloc (.cells #[.slice none 0 0, .slice none 0 0, .slice none 0 0, .slice none 0 0, .int .i64 0, .slice none 0 0, .bool false] 51))
  generalize hq : w1.heap.size = q at *
  have h3 : Sat w0 _ (heapR mN p (play14 rs 0) * (refR13 q (play14 rs 0) * (Old w0 * 1))) := h2.p2
  have H4 := Lib.hid h3
  clear h0 h1 h2 h3
  go_wp2_with fail
  go_loopw [5] (fun iv wr => ∃ k : Nat, iv = .int .i64 k ∧ k ≤ len0 ∧ k ≤ 80 ∧ Sat w0 wr (heapR mN p (play14 rs k) * (refR13 q (play14 rs k) * (Old w0 * 1)))) (fun iv _ => len0 - (intOf iv).toNat)
  case atStart => exact ⟨0, rfl, by omega, by omega, H4.out⟩
  case round =>
    clear H4
    obtain ⟨k, rfl, hk, hk6, hs⟩ := hrel
    by_cases hlt : k < len0
    · by_cases hl6 : k < 80
      · have hx : rs[k]? = some (rs[k]'(by rw [HAL.out.1]; exact hlt)) := List.getElem?_eq_getElem _
        generalize rs[k]'(by rw [HAL.out.1]; exact hlt) = r at hx
        have hok := HAL.out.2.1 r (List.mem_of_getElem? hx)
        have hget := acells14_get hx
        have hsucc := play14_succ hx
        obtain ⟨i1, i2⟩ := HPL.out k
        obtain ⟨j1, j2⟩ := HPL.out (k + 1)
        obtain ⟨what, xn, ⟨vk, vn⟩⟩ := r
        have hok : xn ≤ 9223372036854775807 := hok
        obtain ⟨g, off, rfl, _⟩ := HAL.out.2.2 _ _ _ _ hs.p3 (hget 0 _ rfl)
        have cc : ∀ i v, (cells14 ⟨what, xn, ⟨vk, vn⟩⟩)[i]? = some v → wr.cell? ⟨g, off + k * 4 + i, none⟩ = some v := fun i v hj => by
          obtain ⟨g', off', e', h'⟩ := HAL.out.2.2 _ _ _ _ hs.p3 (hget i v hj)
          cases e'
          rw [Nat.add_assoc]; exact h'
        have d0 : wr.cell? ⟨g, off + k * 4, none⟩ = some (.int .i64 what) := cc 0 _ rfl
        have d1 : wr.cell? ⟨g, off + k * 4 + 1, none⟩ = some (.int .i64 xn) := cc 1 _ rfl
        have d2 : wr.cell? ⟨g, off + k * 4 + 2, none⟩ = some (.int .i64 vk) := cc 2 _ rfl
        have d3 : wr.cell? ⟨g, off + k * 4 + 3, none⟩ = some (.int .i64 vn) := cc 3 _ rfl
        have HDO := Lib.hid (d_do i1 (show (1 : Int) + k ≤ 100000 by omega) i2 hs what xn vk vn hok)
        have H1 := Lib.hid j1
        have HSU := Lib.hid hsucc
        clear hget hsucc i1 i2 j1 j2 hok hx cc hs
        go_wp2_with fail
        refine HDO.out.mono ?_
        rintro e w6 ⟨rfl, h6⟩
        rw [← HSU.out] at h6
        have HLI := Lib.hid (p_same H1.out (show (1 : Int) + ((k + 1 : Nat) : Int) ≤ 1000000 by omega) h6)
        clear h6
        go_wp2_with fail
        refine HLI.out.mono ?_
        rintro e w7 ⟨rfl, h7⟩
        go_wp2_with fail
        go_roundw
        case rel => exact ⟨k + 1, by go_num, by omega, by omega, h7⟩
        case measure => simp [intOf]; omega
      · obtain rfl : k = 80 := by omega
        have HB1 := Lib.hid (c_Bound (HPL.out 80).1 (show (1 : Int) + ((80 : Nat) : Int) ≤ 100000 by omega) hs rfl)
        clear hs
        go_wp2_with fail
        refine HB1.out.mono ?_
        rintro e w6 ⟨rfl, h6⟩
        have HB2 := Lib.hid (r_Bound (HPL.out 80).1 (show (1 : Int) + ((80 : Nat) : Int) ≤ 100000 by omega) h6.p2 rfl)
        clear h6
        go_wp2_with fail
        refine HB2.out.mono ?_
        rintro e w7 ⟨rfl, h7⟩
        go_wp2_with fail
        refine (law_works14 h7).mono ?_
        rintro e w8 ⟨rfl, h8⟩
        go_wp2_with fail
        go_ret
        exact ⟨by simp, Sat.below (F := 1) h8.drop.drop⟩
    · obtain rfl : k = len0 := by omega
      have HB1 := Lib.hid (c_Bound (HPL.out k).1 (show (1 : Int) + ((k : Nat) : Int) ≤ 100000 by omega) hs rfl)
      clear hs
      go_wp2_with fail
      refine HB1.out.mono ?_
      rintro e w6 ⟨rfl, h6⟩
      have HB2 := Lib.hid (r_Bound (HPL.out k).1 (show (1 : Int) + ((k : Nat) : Int) ≤ 100000 by omega) h6.p2 rfl)
      clear h6
      go_wp2_with fail
      refine HB2.out.mono ?_
      rintro e w7 ⟨rfl, h7⟩
      go_wp2_with fail
      refine (law_works14 h7).mono ?_
      rintro e w8 ⟨rfl, h8⟩
      go_wp2_with fail
      go_ret
      exact ⟨by simp, Sat.below (F := 1) h8.drop.drop⟩
theorem own : ownKnob Try.prog.godebug = none := by kernel_rfl
theorem laidOut : laidOutB Try.prog = true := by kernel_rfl
set_option maxRecDepth 100000 in
theorem lifted (os : Os) (started : os.Started) (H : Type) (enc : TypeId × Value → H) :
    ReturnsInHanded {} Try.checked os 10 .any (Rows.drainPlaysSpec.pre6 enc Try.prog Try.f10 Rows.drainPlaysRow.domain false) (Rows.drainPlaysSpec.post enc Try.prog Try.f10 false true false false) := by
  refine returnsInHanded_of_change (C := Try.checked) own started (by kernel_rfl) Try.func10
    (ChangeSpec.witness6 (enc := enc) (C := Try.checked) false ⟨#[], #[.slice none 0 0], []⟩ 8 (by kernel_rfl) (by kernel_rfl) (by kernel_rfl) (by kernel_rfl)) ?_
  intro W base args ds gs before hval0 hW hcnd _
  have hval : ∀ (j : Nat) t v, Try.f10.params[j]? = some t → args[j]? = some v → Value.okWide Try.prog W .any base t v := hval0
  have hW' := hW
  obtain ⟨p, q, hA0, hV, rfl, hfz, hnd⟩ := hW
  have hA : DataW.TrodAll enc Try.prog W 0 (fun _ => true) true Try.f10.params.toList args.toList ds p := hA0
  rw [Try.params10] at hA hval
  obtain ⟨v0, vs0, d0, ds0, p0, q0, hargs, rfl, rfl, h0, r0⟩ := trodAll_cons hA
  obtain ⟨rfl, rfl, rfl⟩ := trodAll_nil r0
  obtain rfl : args = #[v0] := by cases args; simp_all
  obtain ⟨rfl, rfl⟩ := trodVars_none hV
  obtain ⟨a0, len0, cap0, rfl⟩ := okWide_slice Try.underlying91 (hval 0 91 v0 rfl rfl)
  have k0 := h0
  have lt0 : ∀ x ∈ p0, x.block < W.heap.size := by obtain ⟨m, hm⟩ := k0; exact DataW.trod_lt m _ _ _ hm
  obtain ⟨z0, w0⟩ : ∃ zs, IsActs14 W a0 len0 cap0 zs := by
    obtain ⟨fuel, hf⟩ := h0
    exact open_acts14 hf
  clear hA0 hval0
  refine (walk a0 len0 cap0 z0 W w0).mono fun e W' ⟨he, bel⟩ => ?_
  subst he
  exact ⟨_, rfl, _, _, _, [], _, [], hW', trodAll_mk1 (shut_bool Try.underlying4 _), (trodAll_cons_mk (Below.trod laidOut (by kernel_rfl) (of_decide_eq_true (by kernel_rfl)) k0 bel lt0) trodAll_mk0), rfl, bel.frame _, fun h => by cases h⟩
theorem over : Rows.drainPlaysRow.holds Try.pinned (OpenSpec.ofChange Rows.drainPlaysSpec) :=
  OpenClaim.holds_of_wide 10 Try.f10 rfl rfl rfl rfl rfl rfl rfl ⟨rfl, rfl, rfl, rfl, rfl⟩ rfl rfl rfl rfl rfl (by kernel_rfl) Try.func10 (by kernel_rfl)
    (of_decide_eq_true (by kernel_rfl)) (by unfold Func.isWrapper; first | (rw [if_pos (by decide +kernel)]; kernel_rfl) | (rw [if_neg (by decide +kernel)]; exact ⟨rfl, rfl⟩))
    (fun os started H enc _ => lifted os started H enc)
theorem drainPlays_holds : Rows.DrainPlaysSaid := over
#print axioms drainPlays_holds
end Go.Proofs.Ytkpcngcegipalaa.PDw
