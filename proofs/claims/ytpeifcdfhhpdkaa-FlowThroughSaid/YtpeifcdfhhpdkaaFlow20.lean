/- the document's From: its walk. No condition. -/
import Derived.Test.YtpeifcdfhhpdkaaFlow19
namespace Go.Proofs.Ytpeifcdfhhpdkaa.Tw
set_option linter.unusedVariables false
set_option linter.unusedSimpArgs false
open Go Go.RowKit Go.MapKept
section
variable {w0 w : World} {CR F : HP} {sa : Option Addr} {n c : Nat} {l : List AIn}
set_option maxRecDepth 100000 in
set_option maxHeartbeats 8000000 in
theorem ref_From_in (hC : CodeAt w0 CR sa n l) (hcap : n ≤ c) (hn : n ≤ 10000000) (pc : Int) (hin : inr l.length pc = true) (h : Sat w0 w (CR * F)) :
    Calls Try.prog 17 #[.slice sa n c, .int .i64 pc] w fun e w' => ∃ a c', e = .returned (.slice a (fromL l pc).length c') ∧ Sat w0 w' (slc 3 1 a (fromL l pc).length c' ((fromL l pc).map ival) * (CR * F)) := by
  have hln := hC.1
  have hpos : 0 ≤ pc ∧ pc < n := by unfold inr at hin; simp at hin; omega
  obtain ⟨pn, rfl⟩ : ∃ pn : Nat, pc = (pn : Int) := ⟨pc.toNat, by omega⟩
  have hpn : pn < n := by omega
  have hp1 : (pn : Int) < (n : Int) := by omega
  have HC := Lib.hid hC
  have HL := Lib.hid hln
  have HI := Lib.hid hin
  clear hC hln hin hpos
  obtain ⟨i0, hi, hz0, hz1, hz2⟩ := info_parts info_boolF
  have hmk := run_makeSlice (P := Try.prog) (w := w) 30 4 i0 _ Try.underlying30 hi hz0 .i64 .i64 (n : Int) (n : Int) (by omega) (by omega) (by rw [hz1]; omega) (by rw [hz2]; omega) (by omega)
  have h3 := h.alloc (.cells ((madeCells #[.bool false] n).setIfInBounds pn (.bool true)) 4)
  have c3 := ((h.alloc (.cells (madeCells #[.bool false] n) 4)).madeRow)
  generalize hb : w.heap.size = sb at *
  obtain ⟨cb, fb⟩ := rowCell c3 (j := pn) (b := false) (by rw [List.getElem?_replicate, if_pos hpn])
  have h4 := h3.madeRowSet.alloc (.cells #[.int .i64 pn] 3)
  rw [size_alloc', hb] at h4
  have h5 := (Sat.lit (L := [(pn : Int)]) (n := 1) h4 rfl (by decide)).p2
  have HH := Lib.hid h5
  clear h h3 h4 h5 c3
  have q1 : decide (n ≤ pn) = false := by simp; omega
  have q2 : decide ((pn : Int) < 0) = false := by simp
  have q3 : decide ((n : Int) ≤ (pn : Int)) = false := by simp; omega
  go_enter Try.func17, Try.ntmps17
  go_wp2_with fail
  go_loopw [6] (fun wv wr => ∃ (W : List Int) (bs : List Bool) (a : Option Addr) (m c' : Nat), wv = .slice a m c' ∧ m ≤ n ∧ Hid (FR l pn bs W ∧ W.length = m ∧ bs.length = n ∧ m + fls bs ≤ n) ∧ Sat w0 wr (rowB sb bs * (slc 3 1 a m c' (W.map ival) * (CR * F)))) (fun wv wr => 2 * falses wr sb + lenOf wv)
  case atStart =>
    refine ⟨[(pn : Int)], _, _, 1, 1, rfl, by omega, Lib.hid ⟨FR.first hpn, rfl, by simp, ?_⟩, HH.out⟩
    have := fls_set (List.replicate n false) pn (by rw [List.getElem?_replicate, if_pos hpn])
    have e : fls (List.replicate n false) = n := by unfold fls; simp
    omega
  case round =>
    obtain ⟨W, bs, a, m, c', rfl, hmn, hI, hs⟩ := hrel
    by_cases hm0 : 0 < m
    · obtain ⟨m, rfl⟩ : ∃ j, m = j + 1 := ⟨m - 1, by omega⟩
      obtain ⟨W, x, rfl⟩ : ∃ W' x, W = W' ++ [x] := ⟨W.dropLast, W.getLast (by intro e; subst e; have := hI.out.2.1; simp at this), (List.dropLast_concat_getLast _).symm⟩
      have hWl : W.length = m := by have := hI.out.2.1; simp at this; exact this
      obtain ⟨g, off, rfl, cx, _⟩ := intCells hs.p2 (k := m) (x := x) (by rw [List.getElem?_append_right (by omega), hWl]; simp)
      have hfl := falses_row hs
      have h6 := hs.p2
      rw [List.map_append] at h6
      have h7 := (h6.slcPop (by simp [hWl])).p2
      have HS := Lib.hid h7
      have hFi := hI.out.1.pop
      have hxr : inr l.length x = true := by
        have := hFi.me
        have h1 := (List.getElem?_eq_some_iff.1 this.2).1
        have h2 := hI.out.2.2.1
        have h3 := HL.out
        unfold inr; simp; exact ⟨this.1, by have := this.1; omega⟩
      have HFi := Lib.hid hFi
      have HWl := Lib.hid hWl
      have HFL := Lib.hid hfl
      clear h6 h7 hFi hWl hfl hm0
      have hcc : (m : Int) ≤ (c' : Int) := by have := hs.p2.slcCap.1; omega
      go_wp2_with fail
      refine (ref_Next HC.out (by omega) (by omega) x (HS.out.p3)).mono ?_
      rintro e w4 ⟨a2, c2, rfl, h4⟩
      have hrl := nextL_length l x
      have hsl := Lib.hid (sortI_length (nextL l x))
      generalize hr : (nextL l x).length = r at *
      have HR := Lib.hid hr
      clear hr
      have h5 : Sat w0 w4 (rowB sb bs * (slc 3 1 (some ⟨g, off, none⟩) m c' (W.map ival) * (slc 3 1 a2 r c2 ((sortI (nextL l x)).map ival) * (CR * F)))) := h4.cast (by ac_rfl)
      have HS3 := Lib.hid h5
      have hnr := Lib.hid (fun (y : Int) (hy : y ∈ sortI (nextL l x)) => nextL_inr (mem_sortI.1 hy))
      have h1I := hI.out.2.2.2
      obtain ⟨M, hM⟩ : ∃ M, m + 1 + fls bs = M := ⟨_, rfl⟩
      have HM := Lib.hid hM
      have hMn : M ≤ n := by omega
      clear h4 h5 hM h1I
      go_wp2_with fail
      go_loopw [6, 9] (fun wv iv wr2 => ∃ (W2 : List Int) (bs2 : List Bool) (a : Option Addr) (m2 c'' q : Nat), wv = .slice a m2 c'' ∧ iv = .int .i64 q ∧ q ≤ r ∧ m2 ≤ n ∧ Hid (FRi l pn x bs2 W2 q ∧ W2.length = m2 ∧ bs2.length = n ∧ m2 + fls bs2 + 1 = M ∧ 2 * fls bs2 + m2 + 1 ≤ 2 * fls bs + (m + 1)) ∧ Sat w0 wr2 (rowB sb bs2 * (slc 3 1 a m2 c'' (W2.map ival) * (slc 3 1 a2 r c2 ((sortI (nextL l x)).map ival) * (CR * F))))) (fun _ iv _ => r - (intOf iv).toNat)
      case atStart => exact ⟨W, bs, _, m, c', 0, rfl, rfl, by omega, by omega, Lib.hid ⟨HFi.out, HWl.out, hI.out.2.2.1, by have := HM.out; omega, by omega⟩, HS3.out⟩
      case round =>
        obtain ⟨W2, bs2, a3, m2, c3, q, rfl, rfl, hq, hm2, hI2, hs2⟩ := hrel
        by_cases hlt2 : q < r
        · have hy : (sortI (nextL l x))[q]? = some ((sortI (nextL l x))[q]'(by rw [hsl.out]; exact hlt2)) := List.getElem?_eq_getElem _
          generalize (sortI (nextL l x))[q]'(by rw [hsl.out]; exact hlt2) = y at hy
          obtain ⟨g2, off2, rfl, cy, _⟩ := intCells hs2.p3 hy
          have hyr : 0 ≤ y ∧ y < n := by have := hnr.out y (List.mem_of_getElem? hy); have e := HL.out; unfold inr at this; simp at this; omega
          obtain ⟨yn, rfl⟩ : ∃ yn : Nat, y = (yn : Int) := ⟨y.toNat, by omega⟩
          have hyn : yn < n := by omega
          have HY := Lib.hid hy
          obtain ⟨bv, hbv⟩ : ∃ b, bs2[yn]? = some b := ⟨_, List.getElem?_eq_getElem (by have := hI2.out.2.2.1; omega)⟩
          obtain ⟨cb2, fb2⟩ := rowCell hs2 hbv
          have HB := Lib.hid hbv
          clear hy hyr hbv
          cases bv with
          | true =>
            go_wp2_with fail
            refine ⟨⟨W2, bs2, _, m2, c3, q + 1, rfl, by go_num, by omega, hm2, Lib.hid ⟨hI2.out.1.skip HY.out ⟨by omega, by rw [Int.toNat_natCast]; exact HB.out⟩, hI2.out.2⟩, hs2⟩, by simp [intOf]; omega⟩
          | false =>
            have h8 := (hs2.rowSet yn true).alloc (.cells #[.int .i64 yn] 3)
            have hsz : (wr.setCell ⟨sb, yn, none⟩ (.bool true)).heap.size = wr.heap.size := by simp
            rw [hsz] at h8
            have b0 := Sat.cell (T := 3) (cs := #[.int .i64 yn]) h8 0 rfl
            obtain ⟨_, _, e', cy2, _⟩ := intCells (hs2.rowSet yn true).p3 HY.out
            cases e'
            have h9 := Lib.hid h8.p3
            clear h8
            go_wp2_with (at_builtin; refine wpList_push' rfl _ _ rfl a3 m2 c3 W2 rfl h9.out wr.heap.size 1 yn rfl b0 (by omega) ?_; intro a4 c4 w6 h10)
            have hfs := fls_set bs2 yn HB.out
            have hM2 := hI2.out.2.2.2.1
            have hM3 := hI2.out.2.2.2.2
            have hM4 := HM.out
            go_round
            case rel => exact ⟨W2 ++ [(yn : Int)], bs2.set yn true, a4, m2 + 1, c4, q + 1, rfl, by go_num, by omega, by omega, Lib.hid ⟨hI2.out.1.add HY.out (by have := hI2.out.2.2.1; omega), by simp [hI2.out.2.1], by rw [List.length_set]; exact hI2.out.2.2.1, by omega, by omega⟩, h10.p2.drop.p2⟩
            case measure => simp [intOf]; omega
        · have hqr : q = r := by omega
          subst hqr
          go_wp2_with fail
          have hf2 := falses_row hs2
          refine ⟨⟨W2, bs2, _, m2, c3, rfl, hm2, Lib.hid ⟨hI2.out.1.done (by have := hsl.out; omega), hI2.out.2.1, hI2.out.2.2.1, by have := hI2.out.2.2.2.1; omega⟩, hs2.p3.drop⟩, ?_⟩
          have h1 := HFL.out
          have h2 := hI2.out.2.2.2.2
          simp only [lenOf]
          omega
    · have hm00 : m = 0 := by omega
      subst hm00
      have hW0 : W = [] := List.eq_nil_of_length_eq_zero hI.out.2.1
      subst hW0
      have hend := hI.out.1.end_ HI.out (by rw [hI.out.2.2.1]; exact HL.out.symm)
      rw [HL.out] at hend
      have HE := Lib.hid hend
      have hbl := Lib.hid hI.out.2.2.1
      have HS6 := Lib.hid ((hs.p2.drop).nilSlc (T := 3) (sz := 1))
      clear hs hend hI hm0
      go_wp2_with fail
      go_loopw [10, 11] (fun ov iv wr2 => ∃ (a : Option Addr) (m k c' : Nat), ov = .slice a m c' ∧ iv = .int .i64 k ∧ k ≤ n ∧ Hid ((truesL bs k).length = m) ∧ Sat w0 wr2 (slc 3 1 a m c' ((truesL bs k).map ival) * (rowB sb bs * (CR * F)))) (fun _ iv _ => n - (intOf iv).toNat)
      case atStart => exact ⟨none, 0, 0, 0, rfl, rfl, by omega, Lib.hid rfl, HS6.out⟩
      case round =>
        obtain ⟨a, m, k, cc, rfl, rfl, hk, hm, hs⟩ := hrel
        by_cases hlt : k < n
        · have hml : m ≤ n := by have := truesL_le bs k; have := hm.out; omega
          obtain ⟨bv, hbv⟩ : ∃ b, bs[k]? = some b := ⟨_, List.getElem?_eq_getElem (by have := hbl.out; omega)⟩
          obtain ⟨cb2, fb2⟩ := rowCell hs.p2 hbv
          cases bv with
          | true =>
            have HY := Lib.hid (truesL_yes hbv)
            have h5 := hs.alloc (.cells #[.int .i64 k] 3)
            have b0 : (wr.alloc (.cells #[.int .i64 k] 3)).cell? ⟨wr.heap.size, 0, none⟩ = some (.int .i64 k) := Sat.cell (T := 3) (cs := #[.int .i64 k]) h5 0 rfl
            have HS := Lib.hid h5.p2
            clear h5 hbv
            go_wp2_with (at_builtin; refine wpList_push' rfl _ _ rfl a m cc (truesL bs k) rfl HS.out wr.heap.size 1 k rfl b0 (by omega) ?_; intro a2 c2 w4 h6)
            go_round
            case rel => exact ⟨a2, m + 1, k + 1, c2, rfl, by go_num, by omega, Lib.hid (by rw [HY.out, List.length_append, hm.out]; rfl), by rw [HY.out]; exact h6.p2.drop⟩
            case measure => simp [intOf]; omega
          | false =>
            have HY := Lib.hid (truesL_no hbv)
            clear hbv
            go_wp2
            go_round
            case rel => exact ⟨a, m, k + 1, cc, rfl, by go_num, by omega, Lib.hid (by rw [HY.out, hm.out]), by rw [HY.out]; exact hs⟩
            case measure => simp [intOf]; omega
        · have hkn : k = n := by omega
          subst hkn
          go_wp2
          go_ret
          have := hm.out
          subst this
          rw [HE.out] at hs ⊢
          exact ⟨a, cc, rfl, hs.p2.drop⟩
theorem ref_From (hC : CodeAt w0 CR sa n l) (hcap : n ≤ c) (hn : n ≤ 10000000) (pc : Int) (h : Sat w0 w (CR * F)) :
    Calls Try.prog 17 #[.slice sa n c, .int .i64 pc] w fun e w' => ∃ a c', e = .returned (.slice a (fromL l pc).length c') ∧ Sat w0 w' (slc 3 1 a (fromL l pc).length c' ((fromL l pc).map ival) * (CR * F)) := by
  by_cases hin : inr l.length pc = true
  · exact ref_From_in hC hcap hn pc hin h
  · have hout : inr l.length pc = false := by simpa using hin
    have hln := hC.1
    rw [fromL_out hout]
    have hno := h.nilSlc (T := 3) (sz := 1)
    unfold inr at hout
    rw [hln] at hout
    clear hin hC hln
    by_cases h0 : pc < 0
    · clear hout
      go_enter Try.func17, Try.ntmps17
      go_wp2
      go_ret
      exact ⟨none, 0, rfl, hno⟩
    · have hge : (n : Int) ≤ pc := by simp at hout; omega
      clear hout
      go_enter Try.func17, Try.ntmps17
      go_wp2
      go_ret
      exact ⟨none, 0, rfl, hno⟩
end
end Go.Proofs.Ytpeifcdfhhpdkaa.Tw
