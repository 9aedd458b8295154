/- CellsPlay: whatever is done to a heap, it answers, and all of it is then, as the document says, and a copy goes its own way: proved for every slice of acts and every place of the copy, without a condition. -/
import Derived.Test.YtkpcngcegipalaaZPCells43
import Derived.Test.YtkpcngcegipalaaZPCells30
import Derived.ProofKit
import Derived.OpenShut
import Derived.ChangeOld
namespace Go.Proofs.Ytkpcngcegipalaa.PCells
set_option linter.unusedVariables false
set_option linter.unusedSimpArgs false
open Go Go.RowKit Go.MapKept Go.Proofs.Ytkpcngcegipalaa.Tw
open Go.ChangeShapes Go.WideShapes Go.ChangeAt

attribute [local go_sem] lookE lkE valUpon
theorem wf_u8' {n : Int} (h : (Lit.int .u8 n).wf = true) : ∃ k : Nat, n = k ∧ k < 256 := by
  simp only [Lit.wf, IntKind.min, IntKind.max, IntKind.signed, IntKind.bits, Bool.and_eq_true, decide_eq_true_eq, if_true, Bool.false_eq_true, if_false] at h
  exact ⟨n.toNat, by omega, by omega⟩
theorem run_field_obj1 (k c m : Int) (a : Option Addr) (n sc : Nat) (t : ByteArray) (w : World) : (Instr.field 39 (Value.agg #[.int .i64 k, .int .i64 c, .slice a n sc, .string t, .int .i64 m]) 1).run Try.prog w = .ok (.int .i64 c) w := by kernel_rfl
theorem empty_ref {w0 w : World} {F : HP} {q : Nat} (h : Sat w0 w (pt q (.cells #[.slice none 0 0, .slice none 0 0, .slice none 0 0, .slice none 0 0, .int .i64 0, .slice none 0 0, .bool false] 51 (0, 0)) * F)) : Sat w0 w (refR13 q AHeap.empty * F) := by
  have h1 := h.nilSlc (T := 3) (sz := 1)
  have h2 := h1.nilSlc (T := 3) (sz := 1)
  have h3 := h2.nilSlc (T := 176) (sz := 2)
  have h4 := h3.nilSlc (T := 3) (sz := 1)
  have h5 := h4.nilSlc (T := 39) (sz := 5)
  refine ROpen.shut (X := []) (oa := none) (oc := 0) (qa := none) (qc := 0) (ba := none) (bc := 0) (fa := none) (fc := 0) (sa := none) (sc := 0) ⟨rfl, h5.cast ?_⟩
  unfold rrest rcellsH AHeap.empty xslotsR xscells row
  simp only [List.length_nil, List.map_nil, List.flatMap_nil, finCells, one_mul]
  ac_rfl
theorem tt_copy {w0 w : World} {F : HP} {p q : Nat} {A : AHeap} {B : Int} (H0 : HW A B) (hB : B ≤ 1000000) (hW : A.watch.length ≤ 1000000) (h : Sat w0 w (TT p q A none * F)) :
    Calls Try.prog 26 #[.pointer (some ⟨p, 0, none⟩)] w fun e w' => ∃ p2, e = .returned (.pointer (some ⟨p2, 0, none⟩)) ∧ Calls Try.prog 55 #[.pointer (some ⟨q, 0, none⟩)] w' fun e w' => ∃ q2, e = .returned (.pointer (some ⟨q2, 0, none⟩)) ∧ Sat w0 w' (TT p q A (some (p2, q2, A)) * F) := by
  obtain ⟨m, m2, X, k1, k2, h2⟩ := h.openTT
  refine (x_Copy H0 hB h2).mono ?_
  rintro e w1 ⟨p2, rfl, h3⟩
  refine ⟨p2, rfl, ?_⟩
  refine (r_Copy H0 hB hW h3.p3).mono ?_
  rintro e w2 ⟨q2, rfl, h4⟩
  exact ⟨q2, rfl, Sat.shutTT k1 k1 (h4.cast (by unfold othR; dsimp only; rw [one_mul]; ac_rfl))⟩
set_option maxRecDepth 100000 in
set_option maxHeartbeats 8000000 in
theorem walk (a0 : Option Addr) (len0 cap0 : Nat) (rs : List RAct) (cI : Int) (w0 : World) (wa : IsActs13 w0 a0 len0 cap0 rs) (r1 : (Lit.int .u8 cI).wf = true) :
    Calls Try.prog 13 #[.slice a0 len0 cap0, .int .u8 cI] w0 fun e w' => e = .returned (.bool true) ∧ Below w0.heap.size w0 w' := by
  have h0 := (Sat.refl w0).cast (mul_one _).symm
  obtain ⟨ci, rfl, hci⟩ := wf_u8' r1
  obtain ⟨hl, hc1, hc2, hrs, hAA⟩ := wa
  have hlen : len0 ≤ 9223372036854775807 := by unfold maxLen at hc2; omega
  have HAL := Lib.hid (And.intro hl (And.intro hrs hAA))
  have HPL := Lib.hid (playPl_ok (rs.map (·.x)))
  clear hl hrs hAA r1 hc1 hc2
  go_enter Try.func13, Try.ntmps13
  go_wp2_with fail
  refine (heap_New h0).mono ?_
  rintro e w1 ⟨p, rfl, h1⟩
  have h2 := empty_ref ((h1 (fun _ => none)).alloc (.cells #[.slice none 0 0, .slice none 0 0, .slice none 0 0, .slice none 0 0, .int .i64 0, .slice none 0 0, .bool false] 51))
  generalize hq : w1.heap.size = q at *
  have h3 : Sat w0 _ (TT p q (playPl (rs.map (·.x)) 0) none * (Old w0 * 1)) := Sat.shutTT (m := fun _ => none) (m2 := fun _ => none) (X := 1) (Knows.none _) (Knows.none _) (h2.p2.cast (by unfold othR; dsimp only; rw [one_mul, one_mul]; rfl))
  have HL0 := Lib.hid (tt_lists (HPL.out 0).1 (by omega) h3)
  clear h0 h1 h2 h3
  go_wp2_with fail
  refine HL0.out.mono ?_
  rintro e w2 ⟨rfl, h4⟩
  clear HL0
  have H4 := Lib.hid h4
  clear h4
  go_wp2_with fail
  go_loopw [7, 8, 9] (fun cv dv iv wr => ∃ (k : Nat) (cp : Option (Nat × Nat)), iv = .int .i64 k ∧ k ≤ len0 ∧ k ≤ 60 ∧ cv = .pointer (cp.map fun x => ⟨x.1, 0, none⟩) ∧ dv = .pointer (cp.map fun x => ⟨x.2, 0, none⟩) ∧ Hid (cp.isSome = decide (ci < k)) ∧ Sat w0 wr (TT p q (playPl (rs.map (·.x)) k) (cp.map fun x => (x.1, x.2, playPl (rs.map (·.x)) ci)) * (Old w0 * 1))) (fun _ _ iv _ => len0 - (intOf iv).toNat)
  case atStart => exact ⟨0, none, rfl, by omega, by omega, rfl, rfl, Lib.hid rfl, H4.out⟩
  case round =>
    clear H4
    obtain ⟨k, cp, rfl, hk, hk6, rfl, rfl, hcp, hs⟩ := hrel
    by_cases hlt : k < len0
    · by_cases hl6 : k < 60
      · have hx : rs[k]? = some (rs[k]'(by rw [HAL.out.1]; exact hlt)) := List.getElem?_eq_getElem _
        generalize rs[k]'(by rw [HAL.out.1]; exact hlt) = r at hx
        have hsv := HAL.out.2.1 r (List.mem_of_getElem? hx)
        have hget := racells_get hx
        have hmap : (rs.map (·.x))[k]? = some r.x := by rw [List.getElem?_map, hx]; rfl
        have hsucc := playPl_succ hmap
        obtain ⟨i1, i2⟩ := HPL.out k
        obtain ⟨j1, j2⟩ := HPL.out (k + 1)
        obtain ⟨⟨what, xn, xi, ⟨vk, vn⟩, xl, xtx⟩, la, lc⟩ := r
        dsimp only at hsv hget hsucc
        obtain ⟨g, off, rfl, _⟩ := HAL.out.2.2 _ _ _ _ hs.p2 (hget 0 _ rfl)
        have HD := Lib.hid (fun (w' : World) (F : HP) (hh : Sat w0 w' (Old w0 * F)) => (show w'.cell? ⟨g, off + k * 7, none⟩ = some (.int .i64 what) ∧ w'.cell? ⟨g, off + k * 7 + 1, none⟩ = some (.int .i64 xn) ∧ w'.cell? ⟨g, off + k * 7 + 2, none⟩ = some (.int .i64 xi) ∧ w'.cell? ⟨g, off + k * 7 + 3, none⟩ = some (.int .i64 vk) ∧ w'.cell? ⟨g, off + k * 7 + 4, none⟩ = some (.int .i64 vn) ∧ w'.cell? ⟨g, off + k * 7 + 5, none⟩ = some (.slice la xl.length lc) ∧ w'.cell? ⟨g, off + k * 7 + 6, none⟩ = some (.string xtx) from by
          have cc : ∀ j v, (rcells ⟨⟨what, xn, xi, ⟨vk, vn⟩, xl, xtx⟩, la, lc⟩)[j]? = some v → w'.cell? ⟨g, off + k * 7 + j, none⟩ = some v := fun j v hj => by
            obtain ⟨g', off', e', h'⟩ := HAL.out.2.2 _ _ _ _ hh (hget j v hj)
            cases e'
            rw [Nat.add_assoc]; exact h'
          exact ⟨cc 0 _ rfl, cc 1 _ rfl, cc 2 _ rfl, cc 3 _ rfl, cc 4 _ rfl, cc 5 _ rfl, cc 6 _ rfl⟩))
        obtain ⟨A1, hA1⟩ : ∃ A1, playPl (rs.map (·.x)) (k + 1) = A1 := ⟨_, rfl⟩
        rw [hA1] at hsucc j1
        obtain ⟨A, hA⟩ : ∃ A, playPl (rs.map (·.x)) k = A := ⟨_, rfl⟩
        rw [hA] at hsucc i1 i2 hs
        obtain ⟨⟨bk, bc, bs, bt, bm⟩, hob⟩ : ∃ ob, A1.obj xn = ob := ⟨_, rfl⟩
        have H : Hid (HW A 100) := Lib.hid (i1.mono (by omega))
        have H1 : Hid (HW A1 100) := Lib.hid (j1.mono (by omega))
        have HW2 : Hid (A.watch.length ≤ 1000000) := Lib.hid (by omega)
        have hB : (100 : Int) ≤ 1000000 := by omega
        have HSV := Lib.hid hsv
        have HA1 := Lib.hid hsucc.symm
        have HAK := Lib.hid hA1
        have HAA0 := Lib.hid hA
        have HO := Lib.hid hob
        clear hget hmap hsucc i1 i2 j1 j2 hsv hA1 hx hA hob
        by_cases hce : k = ci
        · -- the copy
          obtain rfl : cp = none := by
            have := hcp.out
            rw [hce] at this
            simpa using this
          have HC := Lib.hid (tt_copy H.out hB HW2.out hs)
          clear hs hcp
          subst hce
          go_wp2_with fail
          refine HC.out.mono ?_
          rintro e w3 ⟨p2, rfl, h5⟩
          have HC2 := Lib.hid h5
          clear h5 HC
          go_wp2_with fail
          refine HC2.out.mono ?_
          rintro e w4 ⟨q2, rfl, h6⟩
          clear HC2
          obtain ⟨cq, hcq⟩ : ∃ cq : Option (Nat × Nat), cq = some (p2, q2) := ⟨_, rfl⟩
          have HCQ := Lib.hid hcq
          have HCP : Hid (cq.isSome = decide (k < k + 1)) := Lib.hid (by rw [hcq]; simp)
          obtain ⟨cc, hcc⟩ : ∃ cc : Option (Nat × Nat × AHeap), cc = some (p2, q2, A) := ⟨_, rfl⟩
          have HCC : Hid (cc = cq.map fun x => (x.1, x.2, playPl (rs.map (·.x)) k)) := Lib.hid (by rw [hcc, hcq, HAA0.out]; rfl)
          rw [← hcc] at h6
          have HS := Lib.hid h6
          clear h6 hcq hcc
          go_wp2_with fail
          refine wp_gen fun a0 ha => ?_
          have hb0 : base a0 0 = .slice (some ⟨g, off, none⟩) len0 cap0 := by rw [ha]; rfl
          have hb5 : base a0 5 = .pointer (some ⟨p, 0, none⟩) := by rw [ha]; rfl
          have hb6 : base a0 6 = .pointer (some ⟨q, 0, none⟩) := by rw [ha]; rfl
          have hb9 : base a0 9 = .int .i64 k := by rw [ha]; rfl
          have hsz0 : a0.tmps.size = 116 := by rw [ha]; rfl
          have HA0 := Lib.hid (And.intro hsz0 ha)
          clear ha hsz0
          refine GW.start (X := Option Addr × Nat) (w0 := w0) (B := [TT p q A cc, Old w0, 1]) (a0 := a0) ?_
          refine GW.det (d := (some 40)) [] [] rfl (fun e => by rfl) ?_; apply Exists.intro; refine ⟨fun e w' F hs => ?_, ?_, ?_⟩
          · first | (go_simp; done) | (go_simp; rfl)
          · exact (fun _ _ _ => rfl)
          refine GW.det (d := (some 41)) [] [] rfl (fun e => by rfl) ?_; apply Exists.intro; refine ⟨fun e w' F hs => ?_, ?_, ?_⟩
          · first | (go_simp; done) | (go_simp; rfl)
          · exact (fun _ _ _ => rfl)
          refine GW.det (d := (some 42)) [] [] rfl (fun e => by rfl) ?_; apply Exists.intro; refine ⟨fun e w' F hs => ?_, ?_, ?_⟩
          · first | (go_simp; done) | (go_simp; rfl)
          · exact (fun _ _ _ => rfl)
          refine GW.det (d := (some 43)) [] [] rfl (fun e => by rfl) ?_; apply Exists.intro; refine ⟨fun e w' F hs => ?_, ?_, ?_⟩
          · first | (go_simp; done) | (go_simp; rfl)
          · exact (fun _ _ _ => rfl)
          refine GW.det (d := (some 44)) [] [] rfl (fun e => by rfl) ?_; apply Exists.intro; refine ⟨fun e w' F hs => ?_, ?_, ?_⟩
          · first | (go_simp; done) | (go_simp; rfl)
          · exact (fun _ _ _ => rfl)
          refine GW.det (d := (some 45)) [1] [] rfl (fun e => by rfl) ?_; apply Exists.intro; refine ⟨fun e w' F hs => ?_, ?_, ?_⟩
          · have ⟨d0, d1, d2, d3, d4, d5, d6⟩ := HD.out w' _ (show Sat w0 w' (Old w0 * F) from hs); first | (go_simp; done) | (go_simp; rfl)
          · exact (fun _ _ _ => rfl)
          refine GW.take (d := (some 46)) 6 (fun e => .bool true) (fun e => TT p q A1 cc) [1] [0] [] rfl rfl (fun e => by rfl) (fun e e' hl => by exact ⟨rfl, rfl⟩) (fun e w' F K hs hK => ?_) ?_
          · go_simp; (refine (tt_do H.out hB HW2.out ((show Sat w0 w' (Old w0 * (TT p q A cc * F)) from hs).p2) what xn xi vk vn la lc xtx HSV.out).mono ?_; rintro e2 w2 ⟨rfl, h2⟩; rw [HA1.out] at h2; exact ⟨_, rfl, hK default _ h2.p2⟩)
          refine GW.det (d := (some 47)) [] [] rfl (fun e => by rfl) ?_; apply Exists.intro; refine ⟨fun e w' F hs => ?_, ?_, ?_⟩
          · first | (go_simp; done) | (go_simp; rfl)
          · exact (fun _ _ _ => rfl)
          refine GW.det (d := (some 48)) [] [] rfl (fun e => by rfl) ?_; apply Exists.intro; refine ⟨fun e w' F hs => ?_, ?_, ?_⟩
          · first | (go_simp; done) | (go_simp; rfl)
          · exact (fun _ _ _ => rfl)
          refine GW.det (d := (some 49)) [] [] rfl (fun e => by rfl) ?_; apply Exists.intro; refine ⟨fun e w' F hs => ?_, ?_, ?_⟩
          · first | (go_simp; done) | (go_simp; rfl)
          · exact (fun _ _ _ => rfl)
          refine GW.det (d := (some 50)) [] [] rfl (fun e => by rfl) ?_; apply Exists.intro; refine ⟨fun e w' F hs => ?_, ?_, ?_⟩
          · first | (go_simp; done) | (go_simp; rfl)
          · exact (fun _ _ _ => rfl)
          refine GW.keep (d := (some 51)) (fun e => .bool true) [9] [] rfl (fun e => by rfl) (fun _ _ _ => rfl) (fun e w' F K hs hK => ?_) ?_
          · go_simp; (refine (tt_lists H1.out hB (show Sat w0 w' (TT p q A1 cc * F) from hs)).mono ?_; rintro e2 w2 ⟨rfl, h2⟩; exact ⟨_, rfl, hK _ h2⟩)
          refine GW.det (d := (some 52)) [] [] rfl (fun e => by rfl) ?_; apply Exists.intro; refine ⟨fun e w' F hs => ?_, ?_, ?_⟩
          · first | (go_simp; done) | (go_simp; rfl)
          · exact (fun _ _ _ => rfl)
          refine GW.det (d := (some 53)) [] [] rfl (fun e => by rfl) ?_; apply Exists.intro; refine ⟨fun e w' F hs => ?_, ?_, ?_⟩
          · first | (go_simp; done) | (go_simp; rfl)
          · exact (fun _ _ _ => rfl)
          refine GW.det (d := (some 54)) [] [] rfl (fun e => by rfl) ?_; apply Exists.intro; refine ⟨fun e w' F hs => ?_, ?_, ?_⟩
          · first | (go_simp; done) | (go_simp; rfl)
          · exact (fun _ _ _ => rfl)
          refine GW.det (d := (some 55)) [] [] rfl (fun e => by rfl) ?_; apply Exists.intro; refine ⟨fun e w' F hs => ?_, ?_, ?_⟩
          · first | (go_simp; done) | (go_simp; rfl)
          · exact (fun _ _ _ => rfl)
          refine GW.det (d := (some 56)) [] [] rfl (fun e => by rfl) ?_; apply Exists.intro; refine ⟨fun e w' F hs => ?_, ?_, ?_⟩
          · first | (go_simp; done) | (go_simp; rfl)
          · exact (fun _ _ _ => rfl)
          refine GW.det (d := (some 57)) [] [] rfl (fun e => by rfl) ?_; apply Exists.intro; refine ⟨fun e w' F hs => ?_, ?_, ?_⟩
          · first | (go_simp; done) | (go_simp; rfl)
          · exact (fun _ _ _ => rfl)
          refine GW.det (d := (some 58)) [] [] rfl (fun e => by rfl) ?_; apply Exists.intro; refine ⟨fun e w' F hs => ?_, ?_, ?_⟩
          · first | (go_simp; done) | (go_simp; rfl)
          · exact (fun _ _ _ => rfl)
          refine GW.det (d := (some 59)) [] [] rfl (fun e => by rfl) ?_; apply Exists.intro; refine ⟨fun e w' F hs => ?_, ?_, ?_⟩
          · first | (go_simp; done) | (go_simp; rfl)
          · exact (fun _ _ _ => rfl)
          refine GW.det (d := (some 60)) [1] [] rfl (fun e => by rfl) ?_; apply Exists.intro; refine ⟨fun e w' F hs => ?_, ?_, ?_⟩
          · have ⟨d0, d1, d2, d3, d4, d5, d6⟩ := HD.out w' _ (show Sat w0 w' (Old w0 * F) from hs); first | (go_simp; done) | (go_simp; rfl)
          · exact (fun _ _ _ => rfl)
          refine GW.new (d := (some 61)) 21 (fun x => .agg #[.int .i64 bk, .int .i64 bc, .slice x.1 bs.length x.2, .string bt, .int .i64 bm]) (fun x => 1) [9] rfl rfl (fun e => by rfl) (fun e w' F K hs hK => ?_) ?_
          · go_simp; (refine (tt_Obj H1.out hB (show Sat w0 w' (TT p q A1 cc * F) from hs) xn HO.out rfl).mono ?_; rintro e2 w2 ⟨a2, c2, rfl, h2⟩; exact ⟨_, rfl, hK (a2, c2) _ (h2.cast (by rw [one_mul]; rfl))⟩)
          refine GW.det (d := (some 62)) [] [21] rfl (fun e => by rfl) ?_; apply Exists.intro; refine ⟨fun e w' F hs => ?_, ?_, ?_⟩
          · have hf := run_field_obj1 bk bc bm (e 21).1 bs.length (e 21).2 bt; first | (go_simp; done) | (go_simp; rfl)
          · exact (fun e e' hl => by first | rfl | simp only [hl 21 (by decide)])
          refine GW.det (d := (some 63)) [] [] rfl (fun e => by rfl) ?_; apply Exists.intro; refine ⟨fun e w' F hs => ?_, ?_, ?_⟩
          · first | (go_simp; done) | (go_simp; rfl)
          · exact (fun _ _ _ => rfl)
          refine GW.det (d := (some 64)) [] [] rfl (fun e => by rfl) ?_; apply Exists.intro; refine ⟨fun e w' F hs => ?_, ?_, ?_⟩
          · first | (go_simp; done) | (go_simp; rfl)
          · exact (fun _ _ _ => rfl)
          refine GW.det (d := (some 65)) [] [] rfl (fun e => by rfl) ?_; apply Exists.intro; refine ⟨fun e w' F hs => ?_, ?_, ?_⟩
          · first | (go_simp; done) | (go_simp; rfl)
          · exact (fun _ _ _ => rfl)
          refine GW.det (d := (some 66)) [] [] rfl (fun e => by rfl) ?_; apply Exists.intro; refine ⟨fun e w' F hs => ?_, ?_, ?_⟩
          · first | (go_simp; done) | (go_simp; rfl)
          · exact (fun _ _ _ => rfl)
          refine GW.det (d := (some 67)) [] [] rfl (fun e => by rfl) ?_; apply Exists.intro; refine ⟨fun e w' F hs => ?_, ?_, ?_⟩
          · first | (go_simp; done) | (go_simp; rfl)
          · exact (fun _ _ _ => rfl)
          refine GW.det (d := (some 68)) [1] [] rfl (fun e => by rfl) ?_; apply Exists.intro; refine ⟨fun e w' F hs => ?_, ?_, ?_⟩
          · have ⟨d0, d1, d2, d3, d4, d5, d6⟩ := HD.out w' _ (show Sat w0 w' (Old w0 * F) from hs); first | (go_simp; done) | (go_simp; rfl)
          · exact (fun _ _ _ => rfl)
          refine GW.new (d := (some 69)) 29 (fun x => .agg #[.int .i64 bk, .int .i64 bc, .slice x.1 bs.length x.2, .string bt, .int .i64 bm]) (fun x => 1) [9] rfl rfl (fun e => by rfl) (fun e w' F K hs hK => ?_) ?_
          · go_simp; (refine (tt_rObj H1.out hB (show Sat w0 w' (TT p q A1 cc * F) from hs) xn HO.out rfl).mono ?_; rintro e2 w2 ⟨a2, c2, rfl, h2⟩; exact ⟨_, rfl, hK (a2, c2) _ (h2.cast (by rw [one_mul]; rfl))⟩)
          refine GW.det (d := (some 70)) [] [29] rfl (fun e => by rfl) ?_; apply Exists.intro; refine ⟨fun e w' F hs => ?_, ?_, ?_⟩
          · have hf := run_field_obj1 bk bc bm (e 29).1 bs.length (e 29).2 bt; first | (go_simp; done) | (go_simp; rfl)
          · exact (fun e e' hl => by first | rfl | simp only [hl 29 (by decide)])
          refine GW.det (d := (some 71)) [] [21, 29] rfl (fun e => by rfl) ?_; apply Exists.intro; refine ⟨fun e w' F hs => ?_, ?_, ?_⟩
          · first | (go_simp; done) | (go_simp; rfl)
          · exact (fun e e' hl => by first | rfl | simp only [hl 21 (by decide), hl 29 (by decide)])
          refine GW.det (d := (some 72)) [] [21, 29] rfl (fun e => by rfl) ?_; apply Exists.intro; refine ⟨fun e w' F hs => ?_, ?_, ?_⟩
          · first | (go_simp; done) | (go_simp; rfl)
          · exact (fun e e' hl => by first | rfl | simp only [hl 21 (by decide), hl 29 (by decide)])
          refine GW.done (sz := 116) [3 + 6, 1, 2] (by kernel_rfl) (by kernel_rfl) HA0.out.1 (by rfl) HS.out (by rfl) fun e w8 gg => ?_
          have ha := HA0.out.2
          subst ha
          clear HA0 HS hb0 hb5 hb6 hb9
          simp only [putL, Act.put, List.setIfInBounds_toArray, List.set_cons_zero, List.set_cons_succ]
          have h9 : Sat w0 w8 (TT p q A1 cc * (Old w0 * 1)) := gg
          clear gg
          go_wp2_with fail
          go_roundw
          case rel => exact ⟨k + 1, cq, by go_num, by omega, by omega, by rw [HCQ.out]; rfl, by rw [HCQ.out]; rfl, HCP, by rw [HAK.out, ← HCC.out]; exact h9⟩
          case measure => simp [intOf]; omega
        · have hci3 : ((k : Int) == (ci : Int)) = false := by simp; omega
          obtain ⟨cc, hcc⟩ : ∃ cc : Option (Nat × Nat × AHeap), cc = cp.map fun x => (x.1, x.2, playPl (rs.map (·.x)) ci) := ⟨_, rfl⟩
          have HCC := Lib.hid hcc
          have HCP : Hid (cp.isSome = decide (ci < k + 1)) := Lib.hid (by rw [hcp.out]; congr 1; apply propext; omega)
          rw [← hcc] at hs
          have HS := Lib.hid hs
          clear hs hcp hcc
          go_wp2_with fail
          refine wp_gen fun a0 ha => ?_
          have hb0 : base a0 0 = .slice (some ⟨g, off, none⟩) len0 cap0 := by rw [ha]; rfl
          have hb5 : base a0 5 = .pointer (some ⟨p, 0, none⟩) := by rw [ha]; rfl
          have hb6 : base a0 6 = .pointer (some ⟨q, 0, none⟩) := by rw [ha]; rfl
          have hb9 : base a0 9 = .int .i64 k := by rw [ha]; rfl
          have hsz0 : a0.tmps.size = 116 := by rw [ha]; rfl
          have HA0 := Lib.hid (And.intro hsz0 ha)
          clear ha hsz0
          refine GW.start (X := Option Addr × Nat) (w0 := w0) (B := [TT p q A cc, Old w0, 1]) (a0 := a0) ?_
          refine GW.det (d := (some 40)) [] [] rfl (fun e => by rfl) ?_; apply Exists.intro; refine ⟨fun e w' F hs => ?_, ?_, ?_⟩
          · first | (go_simp; done) | (go_simp; rfl)
          · exact (fun _ _ _ => rfl)
          refine GW.det (d := (some 41)) [] [] rfl (fun e => by rfl) ?_; apply Exists.intro; refine ⟨fun e w' F hs => ?_, ?_, ?_⟩
          · first | (go_simp; done) | (go_simp; rfl)
          · exact (fun _ _ _ => rfl)
          refine GW.det (d := (some 42)) [] [] rfl (fun e => by rfl) ?_; apply Exists.intro; refine ⟨fun e w' F hs => ?_, ?_, ?_⟩
          · first | (go_simp; done) | (go_simp; rfl)
          · exact (fun _ _ _ => rfl)
          refine GW.det (d := (some 43)) [] [] rfl (fun e => by rfl) ?_; apply Exists.intro; refine ⟨fun e w' F hs => ?_, ?_, ?_⟩
          · first | (go_simp; done) | (go_simp; rfl)
          · exact (fun _ _ _ => rfl)
          refine GW.det (d := (some 44)) [] [] rfl (fun e => by rfl) ?_; apply Exists.intro; refine ⟨fun e w' F hs => ?_, ?_, ?_⟩
          · first | (go_simp; done) | (go_simp; rfl)
          · exact (fun _ _ _ => rfl)
          refine GW.det (d := (some 45)) [1] [] rfl (fun e => by rfl) ?_; apply Exists.intro; refine ⟨fun e w' F hs => ?_, ?_, ?_⟩
          · have ⟨d0, d1, d2, d3, d4, d5, d6⟩ := HD.out w' _ (show Sat w0 w' (Old w0 * F) from hs); first | (go_simp; done) | (go_simp; rfl)
          · exact (fun _ _ _ => rfl)
          refine GW.take (d := (some 46)) 6 (fun e => .bool true) (fun e => TT p q A1 cc) [1] [0] [] rfl rfl (fun e => by rfl) (fun e e' hl => by exact ⟨rfl, rfl⟩) (fun e w' F K hs hK => ?_) ?_
          · go_simp; (refine (tt_do H.out hB HW2.out ((show Sat w0 w' (Old w0 * (TT p q A cc * F)) from hs).p2) what xn xi vk vn la lc xtx HSV.out).mono ?_; rintro e2 w2 ⟨rfl, h2⟩; rw [HA1.out] at h2; exact ⟨_, rfl, hK default _ h2.p2⟩)
          refine GW.det (d := (some 47)) [] [] rfl (fun e => by rfl) ?_; apply Exists.intro; refine ⟨fun e w' F hs => ?_, ?_, ?_⟩
          · first | (go_simp; done) | (go_simp; rfl)
          · exact (fun _ _ _ => rfl)
          refine GW.det (d := (some 48)) [] [] rfl (fun e => by rfl) ?_; apply Exists.intro; refine ⟨fun e w' F hs => ?_, ?_, ?_⟩
          · first | (go_simp; done) | (go_simp; rfl)
          · exact (fun _ _ _ => rfl)
          refine GW.det (d := (some 49)) [] [] rfl (fun e => by rfl) ?_; apply Exists.intro; refine ⟨fun e w' F hs => ?_, ?_, ?_⟩
          · first | (go_simp; done) | (go_simp; rfl)
          · exact (fun _ _ _ => rfl)
          refine GW.det (d := (some 50)) [] [] rfl (fun e => by rfl) ?_; apply Exists.intro; refine ⟨fun e w' F hs => ?_, ?_, ?_⟩
          · first | (go_simp; done) | (go_simp; rfl)
          · exact (fun _ _ _ => rfl)
          refine GW.keep (d := (some 51)) (fun e => .bool true) [9] [] rfl (fun e => by rfl) (fun _ _ _ => rfl) (fun e w' F K hs hK => ?_) ?_
          · go_simp; (refine (tt_lists H1.out hB (show Sat w0 w' (TT p q A1 cc * F) from hs)).mono ?_; rintro e2 w2 ⟨rfl, h2⟩; exact ⟨_, rfl, hK _ h2⟩)
          refine GW.det (d := (some 52)) [] [] rfl (fun e => by rfl) ?_; apply Exists.intro; refine ⟨fun e w' F hs => ?_, ?_, ?_⟩
          · first | (go_simp; done) | (go_simp; rfl)
          · exact (fun _ _ _ => rfl)
          refine GW.det (d := (some 53)) [] [] rfl (fun e => by rfl) ?_; apply Exists.intro; refine ⟨fun e w' F hs => ?_, ?_, ?_⟩
          · first | (go_simp; done) | (go_simp; rfl)
          · exact (fun _ _ _ => rfl)
          refine GW.det (d := (some 54)) [] [] rfl (fun e => by rfl) ?_; apply Exists.intro; refine ⟨fun e w' F hs => ?_, ?_, ?_⟩
          · first | (go_simp; done) | (go_simp; rfl)
          · exact (fun _ _ _ => rfl)
          refine GW.det (d := (some 55)) [] [] rfl (fun e => by rfl) ?_; apply Exists.intro; refine ⟨fun e w' F hs => ?_, ?_, ?_⟩
          · first | (go_simp; done) | (go_simp; rfl)
          · exact (fun _ _ _ => rfl)
          refine GW.det (d := (some 56)) [] [] rfl (fun e => by rfl) ?_; apply Exists.intro; refine ⟨fun e w' F hs => ?_, ?_, ?_⟩
          · first | (go_simp; done) | (go_simp; rfl)
          · exact (fun _ _ _ => rfl)
          refine GW.det (d := (some 57)) [] [] rfl (fun e => by rfl) ?_; apply Exists.intro; refine ⟨fun e w' F hs => ?_, ?_, ?_⟩
          · first | (go_simp; done) | (go_simp; rfl)
          · exact (fun _ _ _ => rfl)
          refine GW.det (d := (some 58)) [] [] rfl (fun e => by rfl) ?_; apply Exists.intro; refine ⟨fun e w' F hs => ?_, ?_, ?_⟩
          · first | (go_simp; done) | (go_simp; rfl)
          · exact (fun _ _ _ => rfl)
          refine GW.det (d := (some 59)) [] [] rfl (fun e => by rfl) ?_; apply Exists.intro; refine ⟨fun e w' F hs => ?_, ?_, ?_⟩
          · first | (go_simp; done) | (go_simp; rfl)
          · exact (fun _ _ _ => rfl)
          refine GW.det (d := (some 60)) [1] [] rfl (fun e => by rfl) ?_; apply Exists.intro; refine ⟨fun e w' F hs => ?_, ?_, ?_⟩
          · have ⟨d0, d1, d2, d3, d4, d5, d6⟩ := HD.out w' _ (show Sat w0 w' (Old w0 * F) from hs); first | (go_simp; done) | (go_simp; rfl)
          · exact (fun _ _ _ => rfl)
          refine GW.new (d := (some 61)) 21 (fun x => .agg #[.int .i64 bk, .int .i64 bc, .slice x.1 bs.length x.2, .string bt, .int .i64 bm]) (fun x => 1) [9] rfl rfl (fun e => by rfl) (fun e w' F K hs hK => ?_) ?_
          · go_simp; (refine (tt_Obj H1.out hB (show Sat w0 w' (TT p q A1 cc * F) from hs) xn HO.out rfl).mono ?_; rintro e2 w2 ⟨a2, c2, rfl, h2⟩; exact ⟨_, rfl, hK (a2, c2) _ (h2.cast (by rw [one_mul]; rfl))⟩)
          refine GW.det (d := (some 62)) [] [21] rfl (fun e => by rfl) ?_; apply Exists.intro; refine ⟨fun e w' F hs => ?_, ?_, ?_⟩
          · have hf := run_field_obj1 bk bc bm (e 21).1 bs.length (e 21).2 bt; first | (go_simp; done) | (go_simp; rfl)
          · exact (fun e e' hl => by first | rfl | simp only [hl 21 (by decide)])
          refine GW.det (d := (some 63)) [] [] rfl (fun e => by rfl) ?_; apply Exists.intro; refine ⟨fun e w' F hs => ?_, ?_, ?_⟩
          · first | (go_simp; done) | (go_simp; rfl)
          · exact (fun _ _ _ => rfl)
          refine GW.det (d := (some 64)) [] [] rfl (fun e => by rfl) ?_; apply Exists.intro; refine ⟨fun e w' F hs => ?_, ?_, ?_⟩
          · first | (go_simp; done) | (go_simp; rfl)
          · exact (fun _ _ _ => rfl)
          refine GW.det (d := (some 65)) [] [] rfl (fun e => by rfl) ?_; apply Exists.intro; refine ⟨fun e w' F hs => ?_, ?_, ?_⟩
          · first | (go_simp; done) | (go_simp; rfl)
          · exact (fun _ _ _ => rfl)
          refine GW.det (d := (some 66)) [] [] rfl (fun e => by rfl) ?_; apply Exists.intro; refine ⟨fun e w' F hs => ?_, ?_, ?_⟩
          · first | (go_simp; done) | (go_simp; rfl)
          · exact (fun _ _ _ => rfl)
          refine GW.det (d := (some 67)) [] [] rfl (fun e => by rfl) ?_; apply Exists.intro; refine ⟨fun e w' F hs => ?_, ?_, ?_⟩
          · first | (go_simp; done) | (go_simp; rfl)
          · exact (fun _ _ _ => rfl)
          refine GW.det (d := (some 68)) [1] [] rfl (fun e => by rfl) ?_; apply Exists.intro; refine ⟨fun e w' F hs => ?_, ?_, ?_⟩
          · have ⟨d0, d1, d2, d3, d4, d5, d6⟩ := HD.out w' _ (show Sat w0 w' (Old w0 * F) from hs); first | (go_simp; done) | (go_simp; rfl)
          · exact (fun _ _ _ => rfl)
          refine GW.new (d := (some 69)) 29 (fun x => .agg #[.int .i64 bk, .int .i64 bc, .slice x.1 bs.length x.2, .string bt, .int .i64 bm]) (fun x => 1) [9] rfl rfl (fun e => by rfl) (fun e w' F K hs hK => ?_) ?_
          · go_simp; (refine (tt_rObj H1.out hB (show Sat w0 w' (TT p q A1 cc * F) from hs) xn HO.out rfl).mono ?_; rintro e2 w2 ⟨a2, c2, rfl, h2⟩; exact ⟨_, rfl, hK (a2, c2) _ (h2.cast (by rw [one_mul]; rfl))⟩)
          refine GW.det (d := (some 70)) [] [29] rfl (fun e => by rfl) ?_; apply Exists.intro; refine ⟨fun e w' F hs => ?_, ?_, ?_⟩
          · have hf := run_field_obj1 bk bc bm (e 29).1 bs.length (e 29).2 bt; first | (go_simp; done) | (go_simp; rfl)
          · exact (fun e e' hl => by first | rfl | simp only [hl 29 (by decide)])
          refine GW.det (d := (some 71)) [] [21, 29] rfl (fun e => by rfl) ?_; apply Exists.intro; refine ⟨fun e w' F hs => ?_, ?_, ?_⟩
          · first | (go_simp; done) | (go_simp; rfl)
          · exact (fun e e' hl => by first | rfl | simp only [hl 21 (by decide), hl 29 (by decide)])
          refine GW.det (d := (some 72)) [] [21, 29] rfl (fun e => by rfl) ?_; apply Exists.intro; refine ⟨fun e w' F hs => ?_, ?_, ?_⟩
          · first | (go_simp; done) | (go_simp; rfl)
          · exact (fun e e' hl => by first | rfl | simp only [hl 21 (by decide), hl 29 (by decide)])
          refine GW.done (sz := 116) [3 + 6, 1, 2] (by kernel_rfl) (by kernel_rfl) HA0.out.1 (by rfl) HS.out (by rfl) fun e w8 gg => ?_
          have ha := HA0.out.2
          subst ha
          clear HA0 HS hb0 hb5 hb6 hb9
          simp only [putL, Act.put, List.setIfInBounds_toArray, List.set_cons_zero, List.set_cons_succ]
          have h9 : Sat w0 w8 (TT p q A1 cc * (Old w0 * 1)) := gg
          clear gg
          go_wp2_with fail
          go_roundw
          case rel => exact ⟨k + 1, cp, by go_num, by omega, by omega, rfl, rfl, HCP, by rw [HAK.out, ← HCC.out]; exact h9⟩
          case measure => simp [intOf]; omega
      · obtain rfl : k = 60 := by omega
        obtain ⟨i1, i2⟩ := HPL.out 60
        obtain ⟨A, hA⟩ : ∃ A, playPl (rs.map (·.x)) 60 = A := ⟨_, rfl⟩
        rw [hA] at i1 i2 hs
        have H : Hid (HW A 100) := Lib.hid (i1.mono (by omega))
        have hB : (100 : Int) ≤ 1000000 := by omega
        have HAK := Lib.hid hA
        have HS := Lib.hid hs
        clear i1 i2 hA hs
        cases cp with
        | none =>
          clear hcp
          go_wp2_with fail
          refine (law_works13 HS.out).mono ?_
          rintro e w5 ⟨rfl, h5⟩
          go_wp2_with fail
          go_ret
          exact ⟨rfl, Sat.below (F := 1) h5.drop⟩
        | some pq =>
          obtain ⟨p2, q2⟩ := pq
          have hck : ci < 60 := by have := hcp.out; simpa using this.symm
          clear hcp
          obtain ⟨j1, j2⟩ := HPL.out ci
          have HS2 := Lib.hid (tt_lists (j1.mono (show (20 : Int) + ci ≤ 100 by omega)) hB (HS.out.flipTT))
          clear j1 j2 HS
          go_wp2_with fail
          refine HS2.out.mono ?_
          rintro e w5 ⟨rfl, h5⟩
          clear HS2
          have HS := Lib.hid h5
          clear h5
          go_wp2_with fail
          go_loopw [10] (fun iv wr => ∃ j : Nat, iv = .int .i64 j ∧ ci ≤ j ∧ j ≤ len0 ∧ j ≤ 60 ∧ Sat w0 wr (TT p2 q2 (playPl (rs.map (·.x)) j) (some (p, q, A)) * (Old w0 * 1))) (fun iv _ => len0 - (intOf iv).toNat)
          case atStart => exact ⟨ci, rfl, by omega, by omega, by omega, HS.out⟩
          case round =>
            clear HS
            obtain ⟨j, rfl, hj1, hj2, hj3, hs⟩ := hrel
            by_cases hlt : j < len0
            · by_cases hl6 : j < 60
              · have hx : rs[j]? = some (rs[j]'(by rw [HAL.out.1]; exact hlt)) := List.getElem?_eq_getElem _
                generalize rs[j]'(by rw [HAL.out.1]; exact hlt) = r at hx
                have hsv := HAL.out.2.1 r (List.mem_of_getElem? hx)
                have hget := racells_get hx
                have hmap : (rs.map (·.x))[j]? = some r.x := by rw [List.getElem?_map, hx]; rfl
                have hsucc := playPl_succ hmap
                obtain ⟨i1, i2⟩ := HPL.out j
                obtain ⟨j1, j2⟩ := HPL.out (j + 1)
                obtain ⟨⟨what, xn, xi, ⟨vk, vn⟩, xl, xtx⟩, la, lc⟩ := r
                dsimp only at hsv hget hsucc
                obtain ⟨g, off, rfl, _⟩ := HAL.out.2.2 _ _ _ _ hs.p2 (hget 0 _ rfl)
                have cc : ∀ i v, (rcells ⟨⟨what, xn, xi, ⟨vk, vn⟩, xl, xtx⟩, la, lc⟩)[i]? = some v → wr.cell? ⟨g, off + j * 7 + i, none⟩ = some v := fun i v hj => by
                  obtain ⟨g', off', e', h'⟩ := HAL.out.2.2 _ _ _ _ hs.p2 (hget i v hj)
                  cases e'
                  rw [Nat.add_assoc]; exact h'
                have d0 : wr.cell? ⟨g, off + j * 7, none⟩ = some (.int .i64 what) := cc 0 _ rfl
                have d1 : wr.cell? ⟨g, off + j * 7 + 1, none⟩ = some (.int .i64 xn) := cc 1 _ rfl
                have d2 : wr.cell? ⟨g, off + j * 7 + 2, none⟩ = some (.int .i64 xi) := cc 2 _ rfl
                have d3 : wr.cell? ⟨g, off + j * 7 + 3, none⟩ = some (.int .i64 vk) := cc 3 _ rfl
                have d4 : wr.cell? ⟨g, off + j * 7 + 4, none⟩ = some (.int .i64 vn) := cc 4 _ rfl
                have d5 : wr.cell? ⟨g, off + j * 7 + 5, none⟩ = some (.slice la xl.length lc) := cc 5 _ rfl
                have d6 : wr.cell? ⟨g, off + j * 7 + 6, none⟩ = some (.string xtx) := cc 6 _ rfl
                have HDO := Lib.hid (tt_do (i1.mono (show (20 : Int) + j ≤ 100 by omega)) hB (show _ ≤ 1000000 by omega) hs what xn xi vk vn la lc xtx hsv)
                have H1 : Hid (HW (playPl (rs.map (·.x)) (j + 1)) 100) := Lib.hid (j1.mono (by omega))
                have HSU := Lib.hid hsucc
                clear hget hmap hsucc i1 i2 j1 j2 hsv hx cc hs
                go_wp2_with fail
                refine HDO.out.mono ?_
                rintro e w6 ⟨rfl, h6⟩
                rw [← HSU.out] at h6
                have HLI := Lib.hid (tt_lists H1.out hB h6)
                clear h6
                go_wp2_with fail
                refine HLI.out.mono ?_
                rintro e w7 ⟨rfl, h7⟩
                go_wp2_with fail
                go_roundw
                case rel => exact ⟨j + 1, by go_num, by omega, by omega, by omega, h7⟩
                case measure => simp [intOf]; omega
              · obtain rfl : j = 60 := by omega
                have HLI := Lib.hid (tt_lists H.out hB hs.flipTT)
                clear hs
                go_wp2_with fail
                refine HLI.out.mono ?_
                rintro e w6 ⟨rfl, h6⟩
                go_wp2_with fail
                refine (law_works13 h6).mono ?_
                rintro e w7 ⟨rfl, h7⟩
                go_wp2_with fail
                go_ret
                exact ⟨rfl, Sat.below (F := 1) h7.drop⟩
            · obtain rfl : j = len0 := by omega
              have HLI := Lib.hid (tt_lists H.out hB hs.flipTT)
              clear hs
              go_wp2_with fail
              refine HLI.out.mono ?_
              rintro e w6 ⟨rfl, h6⟩
              go_wp2_with fail
              refine (law_works13 h6).mono ?_
              rintro e w7 ⟨rfl, h7⟩
              go_wp2_with fail
              go_ret
              exact ⟨rfl, Sat.below (F := 1) h7.drop⟩
    · obtain rfl : k = len0 := by omega
      obtain ⟨i1, i2⟩ := HPL.out k
      obtain ⟨A, hA⟩ : ∃ A, playPl (rs.map (·.x)) k = A := ⟨_, rfl⟩
      rw [hA] at i1 i2 hs
      have H : Hid (HW A 100) := Lib.hid (i1.mono (by omega))
      have hB : (100 : Int) ≤ 1000000 := by omega
      have HAK := Lib.hid hA
      have HS := Lib.hid hs
      clear i1 i2 hA hs
      cases cp with
      | none =>
        clear hcp
        go_wp2_with fail
        refine (law_works13 HS.out).mono ?_
        rintro e w5 ⟨rfl, h5⟩
        go_wp2_with fail
        go_ret
        exact ⟨rfl, Sat.below (F := 1) h5.drop⟩
      | some pq =>
        obtain ⟨p2, q2⟩ := pq
        have hck : ci < k := by have := hcp.out; simpa using this.symm
        clear hcp
        obtain ⟨j1, j2⟩ := HPL.out ci
        have HS2 := Lib.hid (tt_lists (j1.mono (show (20 : Int) + ci ≤ 100 by omega)) hB (HS.out.flipTT))
        clear j1 j2 HS
        go_wp2_with fail
        refine HS2.out.mono ?_
        rintro e w5 ⟨rfl, h5⟩
        clear HS2
        have HS := Lib.hid h5
        clear h5
        go_wp2_with fail
        go_loopw [10] (fun iv wr => ∃ j : Nat, iv = .int .i64 j ∧ ci ≤ j ∧ j ≤ k ∧ j ≤ 60 ∧ Sat w0 wr (TT p2 q2 (playPl (rs.map (·.x)) j) (some (p, q, A)) * (Old w0 * 1))) (fun iv _ => k - (intOf iv).toNat)
        case atStart => exact ⟨ci, rfl, by omega, by omega, by omega, HS.out⟩
        case round =>
          clear HS
          obtain ⟨j, rfl, hj1, hj2, hj3, hs⟩ := hrel
          by_cases hlt : j < k
          · by_cases hl6 : j < 60
            · have hx : rs[j]? = some (rs[j]'(by rw [HAL.out.1]; exact hlt)) := List.getElem?_eq_getElem _
              generalize rs[j]'(by rw [HAL.out.1]; exact hlt) = r at hx
              have hsv := HAL.out.2.1 r (List.mem_of_getElem? hx)
              have hget := racells_get hx
              have hmap : (rs.map (·.x))[j]? = some r.x := by rw [List.getElem?_map, hx]; rfl
              have hsucc := playPl_succ hmap
              obtain ⟨i1, i2⟩ := HPL.out j
              obtain ⟨j1, j2⟩ := HPL.out (j + 1)
              obtain ⟨⟨what, xn, xi, ⟨vk, vn⟩, xl, xtx⟩, la, lc⟩ := r
              dsimp only at hsv hget hsucc
              obtain ⟨g, off, rfl, _⟩ := HAL.out.2.2 _ _ _ _ hs.p2 (hget 0 _ rfl)
              have cc : ∀ i v, (rcells ⟨⟨what, xn, xi, ⟨vk, vn⟩, xl, xtx⟩, la, lc⟩)[i]? = some v → wr.cell? ⟨g, off + j * 7 + i, none⟩ = some v := fun i v hj => by
                obtain ⟨g', off', e', h'⟩ := HAL.out.2.2 _ _ _ _ hs.p2 (hget i v hj)
                cases e'
                rw [Nat.add_assoc]; exact h'
              have d0 : wr.cell? ⟨g, off + j * 7, none⟩ = some (.int .i64 what) := cc 0 _ rfl
              have d1 : wr.cell? ⟨g, off + j * 7 + 1, none⟩ = some (.int .i64 xn) := cc 1 _ rfl
              have d2 : wr.cell? ⟨g, off + j * 7 + 2, none⟩ = some (.int .i64 xi) := cc 2 _ rfl
              have d3 : wr.cell? ⟨g, off + j * 7 + 3, none⟩ = some (.int .i64 vk) := cc 3 _ rfl
              have d4 : wr.cell? ⟨g, off + j * 7 + 4, none⟩ = some (.int .i64 vn) := cc 4 _ rfl
              have d5 : wr.cell? ⟨g, off + j * 7 + 5, none⟩ = some (.slice la xl.length lc) := cc 5 _ rfl
              have d6 : wr.cell? ⟨g, off + j * 7 + 6, none⟩ = some (.string xtx) := cc 6 _ rfl
              have HDO := Lib.hid (tt_do (i1.mono (show (20 : Int) + j ≤ 100 by omega)) hB (show _ ≤ 1000000 by omega) hs what xn xi vk vn la lc xtx hsv)
              have H1 : Hid (HW (playPl (rs.map (·.x)) (j + 1)) 100) := Lib.hid (j1.mono (by omega))
              have HSU := Lib.hid hsucc
              clear hget hmap hsucc i1 i2 j1 j2 hsv hx cc hs
              go_wp2_with fail
              refine HDO.out.mono ?_
              rintro e w6 ⟨rfl, h6⟩
              rw [← HSU.out] at h6
              have HLI := Lib.hid (tt_lists H1.out hB h6)
              clear h6
              go_wp2_with fail
              refine HLI.out.mono ?_
              rintro e w7 ⟨rfl, h7⟩
              go_wp2_with fail
              go_roundw
              case rel => exact ⟨j + 1, by go_num, by omega, by omega, by omega, h7⟩
              case measure => simp [intOf]; omega
            · exfalso; omega
          · obtain rfl : j = k := by omega
            have HLI := Lib.hid (tt_lists H.out hB hs.flipTT)
            clear hs
            go_wp2_with fail
            refine HLI.out.mono ?_
            rintro e w6 ⟨rfl, h6⟩
            go_wp2_with fail
            refine (law_works13 h6).mono ?_
            rintro e w7 ⟨rfl, h7⟩
            go_wp2_with fail
            go_ret
            exact ⟨rfl, Sat.below (F := 1) h7.drop⟩
theorem own : ownKnob Try.prog.godebug = none := by kernel_rfl
theorem laidOut : laidOutB Try.prog = true := by kernel_rfl
set_option maxRecDepth 100000 in
theorem lifted (os : Os) (started : os.Started) (H : Type) (enc : TypeId × Value → H) :
    ReturnsInHanded {} Try.checked os 13 .any (Rows.cellsPlaySpec.pre6 enc Try.prog Try.f13 Rows.cellsPlayRow.domain false) (Rows.cellsPlaySpec.post enc Try.prog Try.f13 false true false false) := by
  refine returnsInHanded_of_change (C := Try.checked) own started (by kernel_rfl) Try.func13
    (ChangeSpec.witness6 (enc := enc) (C := Try.checked) false ⟨#[], #[.slice none 0 0, .int .u8 0], []⟩ 8 (by kernel_rfl) (by kernel_rfl) (by kernel_rfl) (by kernel_rfl)) ?_
  intro W base args ds gs before hval0 hW hcnd _
  have hval : ∀ (j : Nat) t v, Try.f13.params[j]? = some t → args[j]? = some v → Value.okWide Try.prog W .any base t v := hval0
  have hW' := hW
  obtain ⟨p, q, hA0, hV, rfl, hfz, hnd⟩ := hW
  have hA : DataW.TrodAll enc Try.prog W 0 (fun _ => true) true Try.f13.params.toList args.toList ds p := hA0
  rw [Try.params13] at hA hval
  obtain ⟨v0, vs0, d0, ds0, p0, q0, hargs, rfl, rfl, h0, r0⟩ := trodAll_cons hA
  obtain ⟨v1, vs1, d1, ds1, p1, q1, rfl, rfl, rfl, h1, r1⟩ := trodAll_cons r0
  obtain ⟨rfl, rfl, rfl⟩ := trodAll_nil r1
  obtain rfl : args = #[v0, v1] := by cases args; simp_all
  obtain ⟨rfl, rfl⟩ := trodVars_none hV
  obtain ⟨a0, len0, cap0, rfl⟩ := okWide_slice Try.underlying98 (hval 0 98 v0 rfl rfl)
  have k0 := h0
  have lt0 : ∀ x ∈ p0, x.block < W.heap.size := by obtain ⟨m, hm⟩ := k0; exact DataW.trod_lt m _ _ _ hm
  obtain ⟨z0, w0⟩ : ∃ zs, IsActs13 W a0 len0 cap0 zs := by
    obtain ⟨fuel, hf⟩ := h0
    exact open_acts13 hf
  obtain ⟨a1, rfl, rfl, rfl, w1⟩ := open_int Try.underlying5 (hval 1 5 v1 rfl rfl) h1
  clear hA0 hval0
  refine (walk a0 len0 cap0 z0 a1 W w0 w1).mono fun e W' ⟨he, bel⟩ => ?_
  subst he
  exact ⟨_, rfl, _, _, _, [], _, [], hW', trodAll_mk1 (shut_bool Try.underlying4 _), (trodAll_cons_mk (Below.trod laidOut (by kernel_rfl) (of_decide_eq_true (by kernel_rfl)) k0 bel lt0) (trodAll_cons_mk (shut_int Try.underlying5 w1) trodAll_mk0)), rfl, bel.frame _, fun h => by cases h⟩
theorem over : Rows.cellsPlayRow.holds Try.pinned (OpenSpec.ofChange Rows.cellsPlaySpec) :=
  OpenClaim.holds_of_wide 13 Try.f13 rfl rfl rfl rfl rfl rfl rfl ⟨rfl, rfl, rfl, rfl, rfl⟩ rfl rfl rfl rfl rfl (by kernel_rfl) Try.func13 (by kernel_rfl)
    (of_decide_eq_true (by kernel_rfl)) (by unfold Func.isWrapper; first | (rw [if_pos (by decide +kernel)]; kernel_rfl) | (rw [if_neg (by decide +kernel)]; exact ⟨rfl, rfl⟩))
    (fun os started H enc _ => lifted os started H enc)
theorem cellsPlay_holds : Rows.CellsPlaySaid := over
#print axioms cellsPlay_holds
end Go.Proofs.Ytkpcngcegipalaa.PCells
