/- the document's through and Order: their walks. No condition. -/
import Derived.Test.YtpeifcdfhhpdkaaFlow21
import Derived.Test.YtpeifcdfhhpdkaaFlow20
namespace Go.Proofs.Ytpeifcdfhhpdkaa.Tw
set_option linter.unusedVariables false
set_option linter.unusedSimpArgs false
open Go Go.RowKit Go.MapKept
section
variable {w0 : World} {CR : HP} {sa : Option Addr} {n c : Nat} {l : List AIn}
set_option maxRecDepth 100000 in
set_option maxHeartbeats 8000000 in
theorem ref_through (hC : CodeAt w0 CR sa n l) (hcap : n ≤ c) (hn : n ≤ 10000000) (sb : Nat) : ∀ (f : Nat) (pc : Int) (bs : List Bool) (done : List Int) (w : World) (F : HP) (da : Option Addr) (dn dc : Nat),
    fls bs ≤ f → bs.length = n → inr n pc = true → bs[pc.toNat]? = some false → done.length = dn → dn + fls bs ≤ n →
    Sat w0 w (slc 3 1 da dn dc (done.map ival) * (rowB sb bs * (CR * F))) →
    Calls Try.prog 32 #[.slice sa n c, .int .i64 pc, .slice (some ⟨sb, 0, none⟩) n n, .slice da dn dc] w fun e w' => ∃ a c', e = .returned (.slice a (thr l f pc bs done).2.length c') ∧ ((thr l f pc bs done).2.length + fls (thr l f pc bs done).1 ≤ dn + fls bs ∧ (thr l f pc bs done).1.length = n) ∧
      Sat w0 w' (slc 3 1 a (thr l f pc bs done).2.length c' ((thr l f pc bs done).2.map ival) * (rowB sb (thr l f pc bs done).1 * (CR * F))) := by
  intro f
  induction f with
  | zero =>
    intro pc bs done w F da dn dc hf hl hr hb
    have := fls_pos hb
    omega
  | succ f ih =>
    intro pc bs done w F da dn dc hf hl hr hb hd hdn h
    have hpos : 0 ≤ pc ∧ pc < n := by unfold inr at hr; simp at hr; exact hr
    obtain ⟨pn, rfl⟩ : ∃ pn : Nat, pc = (pn : Int) := ⟨pc.toNat, by omega⟩
    have hpn : pn < n := by omega
    have hp1 : (pn : Int) < (n : Int) := by omega
    rw [Int.toNat_natCast] at hb
    have hfs := fls_set bs pn hb
    have hln := hC.1
    rw [thr_succ, Int.toNat_natCast]
    obtain ⟨cb, fb⟩ := rowCell h.p2 hb
    have h2 := h.p2.rowSet pn true
    have h3 : Sat w0 (w.setCell ⟨sb, pn, none⟩ (.bool true)) (CR * (slc 3 1 da dn dc (done.map ival) * (rowB sb (bs.set pn true) * F))) := h2.cast (by ac_rfl)
    have HN := Lib.hid (ref_Next hC hcap (by omega) pn h3)
    have hrl := nextL_length l pn
    have hsl := Lib.hid (sortI_length (nextL l pn))
    have hnr := Lib.hid (fun (y : Int) (hy : y ∈ sortI (nextL l pn)) => nextL_inr (mem_sortI.1 hy))
    generalize hr' : (nextL l pn).length = r at *
    have HR := Lib.hid hr'
    have HIH := Lib.hid ih
    have HL := Lib.hid hln
    have HB := Lib.hid (And.intro hf (And.intro hl (And.intro hb (And.intro hd (And.intro hdn hfs)))))
    have hdn2 : dn ≤ n := by omega
    clear hr' ih hln hf hl hr hb hd hdn hfs hpos h h2 h3 hC
    go_enter Try.func32, Try.ntmps32
    go_wp2_with fail
    refine HN.out.mono ?_
    rintro e w4 ⟨a2, c2, rfl, h4⟩
    have h5 : Sat w0 w4 (slc 3 1 da dn dc (done.map ival) * (rowB sb (bs.set pn true) * (CR * (slc 3 1 a2 r c2 ((sortI (nextL l pn)).map ival) * F)))) := h4.cast (by ac_rfl)
    have HS := Lib.hid h5
    clear h4 h5
    go_wp2_with fail
    go_loopw [3, 10] (fun dv iv wr => ∃ (s : List Bool × List Int) (a : Option Addr) (m c' q : Nat), dv = .slice a m c' ∧ iv = .int .i64 q ∧ q ≤ r ∧ m ≤ n ∧ Hid (s = ((sortI (nextL l pn)).take q).foldl (thrStep l f) (bs.set pn true, done) ∧ s.2.length = m ∧ s.1.length = n ∧ m + fls s.1 + 1 ≤ dn + fls bs ∧ fls s.1 ≤ f) ∧ Sat w0 wr (slc 3 1 a m c' (s.2.map ival) * (rowB sb s.1 * (CR * (slc 3 1 a2 r c2 ((sortI (nextL l pn)).map ival) * F))))) (fun _ iv _ => r - (intOf iv).toNat)
    case atStart =>
      obtain ⟨b1, b2, b3, b4, b5, b6⟩ := HB.out
      exact ⟨(bs.set pn true, done), da, dn, dc, 0, rfl, rfl, by omega, hdn2, Lib.hid ⟨rfl, b4, by rw [List.length_set]; exact b2, by show dn + fls (bs.set pn true) + 1 ≤ _; omega, by show fls (bs.set pn true) ≤ f; omega⟩, HS.out⟩
    case round =>
      obtain ⟨s, a, m, c', q, rfl, rfl, hq, hm, hI, hs⟩ := hrel
      by_cases hlt : q < r
      · have hy : (sortI (nextL l pn))[q]? = some ((sortI (nextL l pn))[q]'(by rw [hsl.out]; exact hlt)) := List.getElem?_eq_getElem _
        generalize (sortI (nextL l pn))[q]'(by rw [hsl.out]; exact hlt) = y at hy
        have htk : (sortI (nextL l pn)).take (q + 1) = (sortI (nextL l pn)).take q ++ [y] := by rw [List.take_add_one, hy]; rfl
        obtain ⟨g2, off2, rfl, cy, _⟩ := intCells (hs.cast (show _ = slc 3 1 a2 r c2 ((sortI (nextL l pn)).map ival) * (slc 3 1 a m c' (s.2.map ival) * (rowB sb s.1 * (CR * F))) by ac_rfl)) hy
        have hyi := hnr.out y (List.mem_of_getElem? hy)
        rw [HL.out] at hyi
        have hyr : 0 ≤ y ∧ y < n := by unfold inr at hyi; simp at hyi; exact hyi
        obtain ⟨yn, rfl⟩ : ∃ yn : Nat, y = (yn : Int) := ⟨y.toNat, by omega⟩
        have hyn : yn < n := by omega
        obtain ⟨bv, hbv⟩ : ∃ b, s.1[yn]? = some b := ⟨_, List.getElem?_eq_getElem (by have := hI.out.2.2.1; omega)⟩
        obtain ⟨cb2, fb2⟩ := rowCell hs.p2 hbv
        have HY := Lib.hid htk
        have HBV := Lib.hid hbv
        have HYI := Lib.hid hyi
        clear hy hyr hbv htk hyi
        cases bv with
        | true =>
          go_wp2_with fail
          refine ⟨⟨s, a, m, c', q + 1, rfl, by go_num, by omega, hm, Lib.hid ⟨?_, hI.out.2⟩, hs⟩, by simp [intOf]; omega⟩
          rw [HY.out, List.foldl_append, ← hI.out.1]
          show s = thrStep l f s yn
          unfold thrStep
          rw [if_pos (by rw [Int.toNat_natCast]; exact HBV.out)]
        | false =>
          obtain ⟨i1, i2, i3, i4, i5⟩ := hI.out
          obtain ⟨b1, b2, b3, b4, b5, b6⟩ := HB.out
          have HC2 := Lib.hid (HIH.out (yn : Int) s.1 s.2 wr (slc 3 1 (some ⟨g2, off2, none⟩) r c2 ((sortI (nextL l pn)).map ival) * F) a m c' i5 i3 HYI.out (by rw [Int.toNat_natCast]; exact HBV.out) i2 (by omega) hs)
          clear i1 i2 i3 i4 i5 b1 b2 b3 b4 b5 b6
          go_wp2_with fail
          refine HC2.out.mono ?_
          rintro e w5 ⟨a5, c5, rfl, ⟨hk1, hk2⟩, h6⟩
          obtain ⟨i1, i2, i3, i4, i5⟩ := hI.out
          obtain ⟨b1, b2, b3, b4, b5, b6⟩ := HB.out
          have hmo := (thr_more l f yn s.1 s.2).fls
          have HK := Lib.hid (And.intro hk1 (And.intro hk2 (And.intro i4 (And.intro i5 (And.intro b5 hmo)))))
          have hk3 : (thr l f yn s.1 s.2).2.length ≤ n := by omega
          clear hk1 hk2 i1 i2 i3 i4 i5 b1 b2 b3 b4 b5 b6 hmo
          go_wp2_with fail
          refine ⟨⟨thr l f yn s.1 s.2, a5, _, c5, q + 1, rfl, by go_num, by omega, hk3, Lib.hid ⟨?_, rfl, HK.out.2.1, ?_, ?_⟩, h6⟩, by simp [intOf]; omega⟩
          · rw [HY.out, List.foldl_append, ← hI.out.1]
            show thr l f yn s.1 s.2 = thrStep l f s yn
            unfold thrStep
            rw [if_neg (by rw [Int.toNat_natCast, HBV.out]; simp)]
          · have := HK.out; omega
          · have := HK.out; omega
      · have hqr : q = r := by omega
        subst hqr
        have hend := hI.out.1
        rw [List.take_of_length_le (by have := hsl.out; omega)] at hend
        have HE := Lib.hid hend
        have h5 := hs.alloc (.cells #[.int .i64 pn] 3)
        have b0 : (wr.alloc (.cells #[.int .i64 pn] 3)).cell? ⟨wr.heap.size, 0, none⟩ = some (.int .i64 pn) := Sat.cell (T := 3) (cs := #[.int .i64 pn]) h5 0 rfl
        have HS7 := Lib.hid h5.p2
        clear h5 hend
        go_wp2_with (at_builtin; refine wpList_push' rfl _ _ rfl a m c' s.2 rfl HS7.out wr.heap.size 1 pn rfl b0 (by omega) ?_; intro a4 c4 w6 h6)
        go_ret
        obtain ⟨i1, i2, i3, i4, i5⟩ := hI.out
        rw [← HE.out]
        refine ⟨a4, c4, by rw [List.length_append, i2]; rfl, ⟨?_, i3⟩, ?_⟩
        · simp only [List.length_append, List.length_cons, List.length_nil]; omega
        · rw [List.length_append, i2]
          have h7 : Sat w0 w6 (slc 3 1 a2 q c2 ((sortI (nextL l pn)).map ival) * (slc 3 1 a4 (m + 1) c4 ((s.2 ++ [(pn : Int)]).map ival) * (rowB sb s.1 * (CR * F)))) := h6.p2.drop.cast (by ac_rfl)
          exact h7.drop
set_option maxRecDepth 100000 in
set_option maxHeartbeats 8000000 in
theorem ref_Order {w : World} {F : HP} (hC : CodeAt w0 CR sa n l) (hcap : n ≤ c) (hn : n ≤ 10000000) (h : Sat w0 w (CR * F)) :
    Calls Try.prog 19 #[.slice sa n c] w fun e w' => ∃ a c', e = .returned (.slice a (orderL l).length c') ∧ Sat w0 w' (slc 3 1 a (orderL l).length c' ((orderL l).map ival) * (CR * F)) := by
  have hln := hC.1
  by_cases hz : n = 0
  · have e : orderL l = [] := by unfold orderL; rw [hln, if_pos hz]
    rw [e]
    subst hz
    go_enter Try.func19, Try.ntmps19
    go_wp2
    go_ret
    exact ⟨none, 0, rfl, h.nilSlc⟩
  have e : orderL l = (thr l n 0 (List.replicate n false) []).2.reverse := by rw [order_thr (by omega), hln]
  have hfl : fls (List.replicate n false) = n := by unfold fls; simp
  have hz' : decide ((n : Int) = 0) = false := by simp; omega
  obtain ⟨i0, hi, hz0, hz1, hz2⟩ := info_parts info_boolF
  have hmk := run_makeSlice (P := Try.prog) (w := w) 30 4 i0 _ Try.underlying30 hi hz0 .i64 .i64 (n : Int) (n : Int) (by omega) (by omega) (by rw [hz1]; omega) (by rw [hz2]; omega) (by omega)
  have h3 := ((h.alloc (.cells (madeCells #[.bool false] n) 4)).madeRow).nilSlc (T := 3) (sz := 1)
  generalize hb : w.heap.size = sb at *
  have HT := Lib.hid (ref_through hC hcap hn sb n 0 (List.replicate n false) [] _ F none 0 0 (by omega) (by simp) (by unfold inr; simp; omega) (by rw [List.getElem?_replicate, if_pos (by show (0 : Int).toNat < n; simp; omega)]) rfl (by omega) h3)
  have HE := Lib.hid e
  have HFL := Lib.hid hfl
  generalize hD : thr l n 0 (List.replicate n false) [] = D at *
  rw [e, List.length_reverse]
  have hz2' : ((n : Int) == 0) = false := by simp; omega
  clear e hfl h3 hD hC hln
  go_enter Try.func19, Try.ntmps19
  go_wp2_with fail
  refine HT.out.mono ?_
  rintro e w4 ⟨a2, c2, rfl, ⟨hk1, hk2⟩, h4⟩
  have hDn : D.2.length ≤ n := by have := HFL.out; omega
  generalize hm : D.2.length = m at *
  have HM := Lib.hid hm
  have HS := Lib.hid (h4.nilSlc (T := 3) (sz := 1))
  clear hk1 hk2 h4 hm HT
  go_wp2_with fail
  go_loopw [4, 5] (fun ov iv wr => ∃ (a : Option Addr) (k j c' : Nat), ov = .slice a j c' ∧ iv = .int .i64 ((k : Int) - 1) ∧ k + j = m ∧ Sat w0 wr (slc 3 1 a j c' ((D.2.drop k).reverse.map ival) * (slc 3 1 a2 m c2 (D.2.map ival) * (rowB sb D.1 * (CR * F))))) (fun _ iv _ => (intOf iv + 1).toNat)
  case atStart => exact ⟨none, m, 0, 0, rfl, rfl, rfl, by rw [List.drop_of_length_le (by have := HM.out; omega)]; exact HS.out⟩
  case round =>
    obtain ⟨a, k, j, c', rfl, rfl, hkj, hs⟩ := hrel
    by_cases hlt : 0 < k
    · obtain ⟨k, rfl⟩ : ∃ i, k = i + 1 := ⟨k - 1, by omega⟩
      have hkm : k < D.2.length := by have := HM.out; omega
      have hx : D.2[k]? = some (D.2[k]) := List.getElem?_eq_getElem hkm
      have hdr : (D.2.drop k).reverse = (D.2.drop (k + 1)).reverse ++ [D.2[k]] := by rw [List.drop_eq_getElem_cons hkm]; simp
      generalize D.2[k] = x at hx hdr
      obtain ⟨g2, off2, rfl, cy, _⟩ := intCells hs.p2 hx
      have hk9 : ((k + 1 : Nat) : Int) - 1 = (k : Int) := by omega
      rw [hk9]
      have h5 := hs.alloc (.cells #[.int .i64 x] 3)
      have b0 : (wr.alloc (.cells #[.int .i64 x] 3)).cell? ⟨wr.heap.size, 0, none⟩ = some (.int .i64 x) := Sat.cell (T := 3) (cs := #[.int .i64 x]) h5 0 rfl
      have HS7 := Lib.hid h5.p2
      have HDR := Lib.hid hdr
      have hjn : j ≤ n := by omega
      clear h5 hx hdr hk9
      go_wp2_with (at_builtin; refine wpList_push' rfl _ _ rfl a j c' _ rfl HS7.out wr.heap.size 1 x rfl b0 (by omega) ?_; intro a4 c4 w6 h6)
      go_round
      case rel => exact ⟨a4, k, j + 1, c4, rfl, rfl, by omega, by rw [HDR.out]; exact h6.p2.drop⟩
      case measure => simp [intOf]
    · have hk0 : k = 0 := by omega
      subst hk0
      have hjm : j = m := by omega
      subst hjm
      go_wp2
      go_ret
      rw [List.drop_zero] at hs
      rw [HM.out]
      exact ⟨a, c', rfl, (hs.p2.drop).p2.drop⟩
end
end Go.Proofs.Ytpeifcdfhhpdkaa.Tw
