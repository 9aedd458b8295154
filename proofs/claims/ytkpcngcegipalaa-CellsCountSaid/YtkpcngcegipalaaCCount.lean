/- CellsCount: whatever was done, each object's Count is 1 and how often it was kept less how often it was dropped; and the lists hold what they should: proved for every slice of acts, without a condition. -/
import Derived.Test.YtkpcngcegipalaaCkA
import Derived.Test.YtkpcngcegipalaaCkC
namespace Go.Proofs.Ytkpcngcegipalaa.CCount
set_option linter.unusedVariables false
set_option linter.unusedSimpArgs false
open Go Go.RowKit Go.MapKept Go.Proofs.Ytkpcngcegipalaa.Tw
open Go.ChangeShapes Go.WideShapes Go.ChangeAt

section
variable {w0 w : World} {F : HP}
theorem obAt {ob : Nat} {ok oc om : Int} {sa : Option Addr} {sn sc : Nat} {tx : ByteArray} (h : Sat w0 w (pt ob (.cells #[.int .i64 ok, .int .i64 oc, .slice sa sn sc, .string tx, .int .i64 om] 39 (0, 0)) * F)) :
    w.cell? ⟨ob, 0, none⟩ = some (.int .i64 ok) ∧ w.cell? ⟨ob, 1, none⟩ = some (.int .i64 oc) :=
  ⟨Sat.cell (T := 39) (cs := #[.int .i64 ok, .int .i64 oc, .slice sa sn sc, .string tx, .int .i64 om]) h 0 rfl, Sat.cell (T := 39) (cs := #[.int .i64 ok, .int .i64 oc, .slice sa sn sc, .string tx, .int .i64 om]) h 1 rfl⟩
theorem netIn {ng noff nc j : Nat} {net : List Int} {z : Int} (h : Sat w0 w (slc 3 1 (some ⟨ng, noff, none⟩) 80 nc (net.map ival) * F)) (hk : net[j]? = some z) : w.cell? ⟨ng, noff + j, none⟩ = some (.int .i64 z) := by
  obtain ⟨g, off, e, c, _⟩ := intCells h hk
  cases e
  exact c
end
set_option maxRecDepth 100000 in
set_option maxHeartbeats 8000000 in
theorem walk (a0 : Option Addr) (len0 cap0 : Nat) (rs : List RAct) (w : World) (w0 : IsActs13 w a0 len0 cap0 rs) :
    Calls Try.prog 12 #[.slice a0 len0 cap0] w fun e w' => e = .returned (.bool true) ∧ Below w.heap.size w w' := by
  have h0 := Sat.refl w
  obtain ⟨hl, hc1, hc2, hrs, hA⟩ := w0
  have hlen : len0 ≤ 9223372036854775807 := by unfold maxLen at hc2; omega
  have HP := Lib.hid (ck_play (c := cap0) hl hlen hrs hA (h0.cast (mul_one _).symm))
  obtain ⟨i1, i2, i3, _⟩ := play13_hw (rs.map (·.x)) 60
  have inv := play13_inv (rs.map (·.x)) 60 (Nat.le_refl _)
  generalize play13 (rs.map (·.x)) 60 = s at *
  obtain ⟨A, net⟩ := s
  dsimp only at *
  have i1 : HW A 80 := i1
  have hN := lastT_le A.T
  have hNb : lastT A.T ≤ 60 := by omega
  generalize hNN : lastT A.T = N at *
  generalize hLL : graphL A N = L at *
  have hLk : ∀ (k : Nat) (o : AObj), L[k]? = some o → o = A.obj ((k : Int) + 1) := fun k o hk => by
    rw [← hLL] at hk
    unfold graphL at hk
    rw [List.getElem?_map] at hk
    cases hr : (List.range N)[k]? with
    | none => rw [hr] at hk; cases hk
    | some i =>
      have hi := List.getElem?_eq_some_iff.1 hr
      obtain ⟨hi1, hi2⟩ := hi
      rw [List.getElem_range] at hi2
      rw [hr, ← hi2] at hk
      cases hk; rfl
  have hLl : L.length = N := by rw [← hLL]; simp [graphL]
  have HI := Lib.hid (And.intro i1 (And.intro hNN (And.intro hLL (And.intro hLk (And.intro hLl (And.intro i3 inv))))))
  clear i1 i2 i3 inv hNN hLL hLk hLl hA hrs hl hN
  go_enter Try.func12, Try.ntmps12
  go_wp2_with fail
  refine HP.out.mono ?_
  rintro e w1 ⟨p, na, nc, m, X0, hX, rfl, h1⟩
  unfold actP at h1
  clear h0
  go_wp2_with fail
  refine (x_Graph HI.out.1 (by omega) h1 HI.out.2.1 HI.out.2.2.1).mono ?_
  rintro e w2 ⟨ga, gc, rfl, h2⟩
  have h3 := h2.alloc (.cells #[.slice ga N gc] 64)
  generalize hgb : w2.heap.size = gb at *
  clear h1 h2
  go_wp2_with fail
  refine (x_Queue HI.out.1 (by omega) h3.p3 rfl rfl).mono ?_
  rintro e w3 ⟨qa, qc, rfl, h4⟩
  clear h3
  go_wp2_with fail
  refine (x_Buf HI.out.1 (by omega) h4.p2 rfl rfl).mono ?_
  rintro e w4 ⟨ba, bc, rfl, h5⟩
  clear h4
  have hql := HI.out.1.ql
  have hbl := HI.out.1.bl
  have hfl := HI.out.1.fl
  generalize hQ : A.queue = Q at *
  generalize hBu : A.buf = Bu at *
  have HQB := Lib.hid (And.intro hQ hBu)
  clear hQ hBu
  generalize hqn : Q.length = qn at *
  generalize hbn : Bu.length = bn at *
  go_wp2_with fail
  refine (law_once h5.p3 hqn (by omega) (by rw [← HQB.out.1]; exact HI.out.1.qn)).mono ?_
  rintro e w5 ⟨rfl, h6⟩
  clear h5
  go_wp2_with fail
  refine (law_once h6.p2 hbn (by omega) (by rw [← HQB.out.2]; exact HI.out.1.bn)).mono ?_
  rintro e w6 ⟨rfl, h7⟩
  clear h6
  go_wp2_with fail
  refine (x_Fins HI.out.1 (by omega) h7.p3 rfl rfl).mono ?_
  rintro e w7 ⟨fa, fc, rfl, h8⟩
  clear h7
  generalize hfn : (A.fins.map (·.1)).length = fn at *
  have hfn2 : (fn : Int) ≤ 80 := by rw [← hfn, List.length_map]; exact hfl
  go_wp2_with fail
  refine (law_once h8 hfn (by omega) HI.out.1.fn).mono ?_
  rintro e w8 ⟨rfl, h9⟩
  clear h8
  have h10 := h9.drop
  obtain ⟨X, ⟨hX1, hX2⟩, h11⟩ := (h10.p5).openObjs
  have h12 : Sat w w8 (heapR m p A * (slc 3 1 ba bn bc (Bu.map ival) * (slc 3 1 qa qn qc (Q.map ival) * (pt gb (.cells #[.slice ga N gc] 64 (0, 0)) * (slc 39 5 ga N gc (xscells X) * (xslotsR X * (X0 * (slc 3 1 na 80 nc (net.map ival) * (Old w * 1))))))))) := h11.cast (by ac_rfl)
  have H12 := Lib.hid h12
  have HX := Lib.hid hX1
  clear h9 h10 h11 h12 hX1 hX2
  go_wp2
  go_loopw [8] (fun iv wr => ∃ k : Nat, iv = .int .i64 k ∧ k ≤ N ∧ Sat w wr (heapR m p A * (slc 3 1 ba bn bc (Bu.map ival) * (slc 3 1 qa qn qc (Q.map ival) * (pt gb (.cells #[.slice ga N gc] 64 (0, 0)) * (slc 39 5 ga N gc (xscells X) * (xslotsR X * (X0 * (slc 3 1 na 80 nc (net.map ival) * (Old w * 1)))))))))) (fun iv _ => N - (intOf iv).toNat)
  case atStart => exact ⟨0, rfl, by omega, H12.out⟩
  case round =>
    obtain ⟨k, rfl, hk, hs⟩ := hrel
    have g0 : wr.cell? ⟨gb, 0, none⟩ = some (.slice ga N gc) := Sat.cell (T := 64) (cs := #[.slice ga N gc]) hs.p4 0 rfl
    by_cases hlt : k < N
    · have h79 : k < 79 := by omega
      have hXl : X.length = N := by have e := HI.out.2.2.2.2.1; rw [← HX.out, List.length_map] at e; exact e
      have hx : X[k]? = some (X[k]'(by omega)) := List.getElem?_eq_getElem _
      generalize X[k]'(by omega) = x at hx
      have hLx : L[k]? = some x.1 := by rw [← HX.out, List.getElem?_map, hx]; rfl
      obtain ⟨g, off, e1, d0, d1, d2, d3, d4⟩ := objAtX hs.p5 hx
      have hrow := count_row HI.out.1 HI.out.2.2.2.2.2.2 (n := (k : Int) + 1) (by omega) (by omega)
      rw [← HI.out.2.2.2.1 k x.1 hLx, HQB.out.1, HQB.out.2] at hrow
      have hn1 : net[k + 1]? = some (net[k + 1]'(by have := HI.out.2.2.2.2.2.1; omega)) := List.getElem?_eq_getElem _
      obtain ⟨ng, noff, e2, n0, _⟩ := intCells hs.p8 hn1
      have hnd : net.getD ((k : Int) + 1).toNat 0 = net[k + 1]'(by have := HI.out.2.2.2.2.2.1; omega) := by
        rw [show ((k : Int) + 1).toNat = k + 1 by omega]; simp [List.getD, hn1]
      rw [hnd] at hrow
      generalize net[k + 1]'(by have := HI.out.2.2.2.2.2.1; omega) = z at *
      obtain ⟨⟨ok, oc, osl, otx, om⟩, sa, sc⟩ := x
      dsimp only at *
      cases e1
      subst e2
      obtain ⟨hz, hrq, hrb⟩ := hrow
      subst hz
      have HN := Lib.hid hn1
      clear hLx hx hn1 hnd n0
      have ha := hs.alloc (.cells #[.int .i64 ok, .int .i64 oc, .slice sa osl.length sc, .string otx, .int .i64 om] 39)
      have o0 := (obAt ha).1
      have o1 := (obAt ha).2
      have n1 := netIn ha.p9 HN.out
      have HW9 := Lib.hid (show HW A 80 from HI.out.1)
      generalize hob : wr.heap.size = ob at *
      have hkz : ∀ z : Int, (z != z) = false := fun z => by simp
      have hcc := hkz oc
      have hk0 : (0 : Int) ≤ (k : Int) + 1 := by omega
      have hk1 : (k : Int) + 1 < 80 := by omega
      have hk2 : (k : Int) + 1 < ((80 : Nat) : Int) := by omega
      have hk4 : IntKind.i64.wrap ((k : Int) + 1) = (k : Int) + 1 := IntWalk.i64_in _ (by omega)
      have hk3 : ((k : Int) + 1).toNat = k + 1 := by omega
      by_cases hok : ok = 0
      · have hok1 : (ok != 0) = false := by simp [hok]
        have hok2 : (ok == 0) = true := by simp [hok]
        have hok3 : decide (ok = 0) = true := by simp [hok]
        have hq : decide ((k : Int) + 1 ∈ Q) = false := decide_eq_false (fun hm => (hrq.2 hm).1 hok)
        replace hok := Lib.hid hok
        go_wp2_with fail
        generalize hw9 : wr.alloc (.cells #[.int .i64 ok, .int .i64 oc, .slice sa osl.length sc, .string otx, .int .i64 om] 39) = w9 at *
        have hb := ha.p4.drew
        have HR := Lib.hid (show ∀ wx, Sat w wx (slc 3 1 qa qn qc (Q.map ival) * (pt ob (.cells #[.int .i64 ok, .int .i64 oc, .slice sa osl.length sc, .string otx, .int .i64 om] 39 (0, 0)) * (heapR m p A * (slc 3 1 ba bn bc (Bu.map ival) * (pt gb (.cells #[.slice (some ⟨g, off, none⟩) N gc] 64 (0, 0)) * (slc 39 5 (some ⟨g, off, none⟩) N gc (xscells X) * (xslotsR X * (X0 * (slc 3 1 (some ⟨ng, noff, none⟩) 80 nc (net.map ival) * (Old w * 1)))))))))) → Calls Try.prog 53 #[.slice qa qn qc, .int .i64 ((k : Int) + 1)] wx fun e w' => e = .returned (.bool false) ∧ Sat w w' (slc 3 1 qa qn qc (Q.map ival) * (pt ob (.cells #[.int .i64 ok, .int .i64 oc, .slice sa osl.length sc, .string otx, .int .i64 om] 39 (0, 0)) * (heapR m p A * (slc 3 1 ba bn bc (Bu.map ival) * (pt gb (.cells #[.slice (some ⟨g, off, none⟩) N gc] 64 (0, 0)) * (slc 39 5 (some ⟨g, off, none⟩) N gc (xscells X) * (xslotsR X * (X0 * (slc 3 1 (some ⟨ng, noff, none⟩) 80 nc (net.map ival) * (Old w * 1)))))))))) from fun wx hx => (law_has hx hqn (by omega) _).mono fun _ _ ⟨e, h⟩ => ⟨by rw [e, hq], h⟩)
        have HC := Lib.hid (show ∀ wx, Sat w wx (slc 3 1 qa qn qc (Q.map ival) * (pt ob (.cells #[.int .i64 ok, .int .i64 oc, .slice sa osl.length sc, .string otx, .int .i64 om] 39 (0, 0)) * (heapR m p A * (slc 3 1 ba bn bc (Bu.map ival) * (pt gb (.cells #[.slice (some ⟨g, off, none⟩) N gc] 64 (0, 0)) * (slc 39 5 (some ⟨g, off, none⟩) N gc (xscells X) * (xslotsR X * (X0 * (slc 3 1 (some ⟨ng, noff, none⟩) 80 nc (net.map ival) * (Old w * 1)))))))))) → wx.cell? ⟨ob, 0, none⟩ = some (.int .i64 ok) ∧ wx.cell? ⟨ob, 1, none⟩ = some (.int .i64 oc) ∧ wx.cell? ⟨ng, noff + (k + 1), none⟩ = some (.int .i64 oc) from fun wx hx => ⟨(obAt hx.p2).1, (obAt hx.p2).2, netIn hx.p9 HN.out⟩)
        refine wp_region_qq (fun w' => Sat w w' (slc 3 1 qa qn qc (Q.map ival) * (pt ob (.cells #[.int .i64 ok, .int .i64 oc, .slice sa osl.length sc, .string otx, .int .i64 om] 39 (0, 0)) * (heapR m p A * (slc 3 1 ba bn bc (Bu.map ival) * (pt gb (.cells #[.slice (some ⟨g, off, none⟩) N gc] 64 (0, 0)) * (slc 39 5 (some ⟨g, off, none⟩) N gc (xscells X) * (xslotsR X * (X0 * (slc 3 1 (some ⟨ng, noff, none⟩) 80 nc (net.map ival) * (Old w * 1))))))))))) (by kernel_rfl) (by kernel_rfl) hb ?_
        clear ha hb o0 o1 n1 hw9 hs d0 d1 d2 d3 d4
        iterate 23 (first
          | (refine QQ.skip (by rfl) ?_; simp only [Act.put, List.setIfInBounds_toArray, List.set_cons_zero, List.set_cons_succ])
          | (refine QQ.want (by rfl) ?_
             apply Exists.intro
             refine ⟨?_, ?_⟩
             · intro w hw
               have ⟨hd0, hd1, hd2⟩ := HC.out w hw
               first
                 | (go_simp; done)
                 | (go_simp; rfl)
                 | (go_simp; exact HR.out _ hw)
             simp only [Act.put, List.setIfInBounds_toArray, List.set_cons_zero, List.set_cons_succ]))
        refine QQ.nil ?_
        intro w10 h10
        by_cases hin : (k : Int) + 1 ∈ Bu
        · exact absurd hok.out (hrb hin).1
        · have hin1 := decide_eq_false hin
          go_wp2_with fail
          refine (law_has h10.p4 hbn (by omega) ((k : Int) + 1)).mono ?_
          rintro e w11 ⟨he, h11⟩
          rw [hin1] at he
          subst he
          go_wp2
          go_round
          case rel => exact ⟨k + 1, by go_num, by omega, h11.p3.drop.p3⟩
          case measure => simp [intOf]; omega
      · have hok1 : (ok != 0) = true := by simpa using hok
        have hok2 : (ok == 0) = false := by simpa using hok
        have hok3 : decide (ok = 0) = false := by simpa using hok
        by_cases hoc : oc = 0
        · have hq : decide ((k : Int) + 1 ∈ Q) = true := decide_eq_true (hrq.1 ⟨hok, hoc⟩)
          have hoc1 : (oc == 0) = true := by simp [hoc]
          have hoc3 : decide (oc = 0) = true := by simp [hoc]
          replace hoc := Lib.hid hoc
          go_wp2_with fail
          generalize hw9 : wr.alloc (.cells #[.int .i64 ok, .int .i64 oc, .slice sa osl.length sc, .string otx, .int .i64 om] 39) = w9 at *
          have hb := ha.p4.drew
          have HR := Lib.hid (show ∀ wx, Sat w wx (slc 3 1 qa qn qc (Q.map ival) * (pt ob (.cells #[.int .i64 ok, .int .i64 oc, .slice sa osl.length sc, .string otx, .int .i64 om] 39 (0, 0)) * (heapR m p A * (slc 3 1 ba bn bc (Bu.map ival) * (pt gb (.cells #[.slice (some ⟨g, off, none⟩) N gc] 64 (0, 0)) * (slc 39 5 (some ⟨g, off, none⟩) N gc (xscells X) * (xslotsR X * (X0 * (slc 3 1 (some ⟨ng, noff, none⟩) 80 nc (net.map ival) * (Old w * 1)))))))))) → Calls Try.prog 53 #[.slice qa qn qc, .int .i64 ((k : Int) + 1)] wx fun e w' => e = .returned (.bool true) ∧ Sat w w' (slc 3 1 qa qn qc (Q.map ival) * (pt ob (.cells #[.int .i64 ok, .int .i64 oc, .slice sa osl.length sc, .string otx, .int .i64 om] 39 (0, 0)) * (heapR m p A * (slc 3 1 ba bn bc (Bu.map ival) * (pt gb (.cells #[.slice (some ⟨g, off, none⟩) N gc] 64 (0, 0)) * (slc 39 5 (some ⟨g, off, none⟩) N gc (xscells X) * (xslotsR X * (X0 * (slc 3 1 (some ⟨ng, noff, none⟩) 80 nc (net.map ival) * (Old w * 1)))))))))) from fun wx hx => (law_has hx hqn (by omega) _).mono fun _ _ ⟨e, h⟩ => ⟨by rw [e, hq], h⟩)
          have HC := Lib.hid (show ∀ wx, Sat w wx (slc 3 1 qa qn qc (Q.map ival) * (pt ob (.cells #[.int .i64 ok, .int .i64 oc, .slice sa osl.length sc, .string otx, .int .i64 om] 39 (0, 0)) * (heapR m p A * (slc 3 1 ba bn bc (Bu.map ival) * (pt gb (.cells #[.slice (some ⟨g, off, none⟩) N gc] 64 (0, 0)) * (slc 39 5 (some ⟨g, off, none⟩) N gc (xscells X) * (xslotsR X * (X0 * (slc 3 1 (some ⟨ng, noff, none⟩) 80 nc (net.map ival) * (Old w * 1)))))))))) → wx.cell? ⟨ob, 0, none⟩ = some (.int .i64 ok) ∧ wx.cell? ⟨ob, 1, none⟩ = some (.int .i64 oc) ∧ wx.cell? ⟨ng, noff + (k + 1), none⟩ = some (.int .i64 oc) from fun wx hx => ⟨(obAt hx.p2).1, (obAt hx.p2).2, netIn hx.p9 HN.out⟩)
          refine wp_region_qq (fun w' => Sat w w' (slc 3 1 qa qn qc (Q.map ival) * (pt ob (.cells #[.int .i64 ok, .int .i64 oc, .slice sa osl.length sc, .string otx, .int .i64 om] 39 (0, 0)) * (heapR m p A * (slc 3 1 ba bn bc (Bu.map ival) * (pt gb (.cells #[.slice (some ⟨g, off, none⟩) N gc] 64 (0, 0)) * (slc 39 5 (some ⟨g, off, none⟩) N gc (xscells X) * (xslotsR X * (X0 * (slc 3 1 (some ⟨ng, noff, none⟩) 80 nc (net.map ival) * (Old w * 1))))))))))) (by kernel_rfl) (by kernel_rfl) hb ?_
          clear ha hb o0 o1 n1 hw9 hs d0 d1 d2 d3 d4
          iterate 23 (first
            | (refine QQ.skip (by rfl) ?_; simp only [Act.put, List.setIfInBounds_toArray, List.set_cons_zero, List.set_cons_succ])
            | (refine QQ.want (by rfl) ?_
               apply Exists.intro
               refine ⟨?_, ?_⟩
               · intro w hw
                 have ⟨hd0, hd1, hd2⟩ := HC.out w hw
                 first
                   | (go_simp; done)
                   | (go_simp; rfl)
                   | (go_simp; exact HR.out _ hw)
               simp only [Act.put, List.setIfInBounds_toArray, List.set_cons_zero, List.set_cons_succ]))
          refine QQ.nil ?_
          intro w10 h10
          by_cases hin : (k : Int) + 1 ∈ Bu
          · exact absurd hoc.out (hrb hin).2.2
          · have hin1 := decide_eq_false hin
            go_wp2_with fail
            refine (law_has h10.p4 hbn (by omega) ((k : Int) + 1)).mono ?_
            rintro e w11 ⟨he, h11⟩
            rw [hin1] at he
            subst he
            go_wp2
            go_round
            case rel => exact ⟨k + 1, by go_num, by omega, h11.p3.drop.p3⟩
            case measure => simp [intOf]; omega
        · have hoc1 : (oc == 0) = false := by simpa using hoc
          have hoc3 : decide (oc = 0) = false := by simpa using hoc
          have hq : decide ((k : Int) + 1 ∈ Q) = false := decide_eq_false (fun hm => hoc (hrq.2 hm).2)
          go_wp2_with fail
          generalize hw9 : wr.alloc (.cells #[.int .i64 ok, .int .i64 oc, .slice sa osl.length sc, .string otx, .int .i64 om] 39) = w9 at *
          have hb := ha.p4.drew
          have HR := Lib.hid (show ∀ wx, Sat w wx (slc 3 1 qa qn qc (Q.map ival) * (pt ob (.cells #[.int .i64 ok, .int .i64 oc, .slice sa osl.length sc, .string otx, .int .i64 om] 39 (0, 0)) * (heapR m p A * (slc 3 1 ba bn bc (Bu.map ival) * (pt gb (.cells #[.slice (some ⟨g, off, none⟩) N gc] 64 (0, 0)) * (slc 39 5 (some ⟨g, off, none⟩) N gc (xscells X) * (xslotsR X * (X0 * (slc 3 1 (some ⟨ng, noff, none⟩) 80 nc (net.map ival) * (Old w * 1)))))))))) → Calls Try.prog 53 #[.slice qa qn qc, .int .i64 ((k : Int) + 1)] wx fun e w' => e = .returned (.bool false) ∧ Sat w w' (slc 3 1 qa qn qc (Q.map ival) * (pt ob (.cells #[.int .i64 ok, .int .i64 oc, .slice sa osl.length sc, .string otx, .int .i64 om] 39 (0, 0)) * (heapR m p A * (slc 3 1 ba bn bc (Bu.map ival) * (pt gb (.cells #[.slice (some ⟨g, off, none⟩) N gc] 64 (0, 0)) * (slc 39 5 (some ⟨g, off, none⟩) N gc (xscells X) * (xslotsR X * (X0 * (slc 3 1 (some ⟨ng, noff, none⟩) 80 nc (net.map ival) * (Old w * 1)))))))))) from fun wx hx => (law_has hx hqn (by omega) _).mono fun _ _ ⟨e, h⟩ => ⟨by rw [e, hq], h⟩)
          have HC := Lib.hid (show ∀ wx, Sat w wx (slc 3 1 qa qn qc (Q.map ival) * (pt ob (.cells #[.int .i64 ok, .int .i64 oc, .slice sa osl.length sc, .string otx, .int .i64 om] 39 (0, 0)) * (heapR m p A * (slc 3 1 ba bn bc (Bu.map ival) * (pt gb (.cells #[.slice (some ⟨g, off, none⟩) N gc] 64 (0, 0)) * (slc 39 5 (some ⟨g, off, none⟩) N gc (xscells X) * (xslotsR X * (X0 * (slc 3 1 (some ⟨ng, noff, none⟩) 80 nc (net.map ival) * (Old w * 1)))))))))) → wx.cell? ⟨ob, 0, none⟩ = some (.int .i64 ok) ∧ wx.cell? ⟨ob, 1, none⟩ = some (.int .i64 oc) ∧ wx.cell? ⟨ng, noff + (k + 1), none⟩ = some (.int .i64 oc) from fun wx hx => ⟨(obAt hx.p2).1, (obAt hx.p2).2, netIn hx.p9 HN.out⟩)
          refine wp_region_qq (fun w' => Sat w w' (slc 3 1 qa qn qc (Q.map ival) * (pt ob (.cells #[.int .i64 ok, .int .i64 oc, .slice sa osl.length sc, .string otx, .int .i64 om] 39 (0, 0)) * (heapR m p A * (slc 3 1 ba bn bc (Bu.map ival) * (pt gb (.cells #[.slice (some ⟨g, off, none⟩) N gc] 64 (0, 0)) * (slc 39 5 (some ⟨g, off, none⟩) N gc (xscells X) * (xslotsR X * (X0 * (slc 3 1 (some ⟨ng, noff, none⟩) 80 nc (net.map ival) * (Old w * 1))))))))))) (by kernel_rfl) (by kernel_rfl) hb ?_
          clear ha hb o0 o1 n1 hw9 hs d0 d1 d2 d3 d4
          iterate 23 (first
            | (refine QQ.skip (by rfl) ?_; simp only [Act.put, List.setIfInBounds_toArray, List.set_cons_zero, List.set_cons_succ])
            | (refine QQ.want (by rfl) ?_
               apply Exists.intro
               refine ⟨?_, ?_⟩
               · intro w hw
                 have ⟨hd0, hd1, hd2⟩ := HC.out w hw
                 first
                   | (go_simp; done)
                   | (go_simp; rfl)
                   | (go_simp; exact HR.out _ hw)
               simp only [Act.put, List.setIfInBounds_toArray, List.set_cons_zero, List.set_cons_succ]))
          refine QQ.nil ?_
          intro w10 h10
          by_cases hin : (k : Int) + 1 ∈ Bu
          · have hin1 := decide_eq_true hin
            have hk5 : (ok == 5) = false := by have := (hrb hin).2.1; simpa using this
            have hk6 : decide (ok = 5) = false := by have := (hrb hin).2.1; simpa using this
            go_wp2_with fail
            refine (law_has h10.p4 hbn (by omega) ((k : Int) + 1)).mono ?_
            rintro e w11 ⟨he, h11⟩
            rw [hin1] at he
            subst he
            have y0 := (obAt h11.p3).1
            have y1 := (obAt h11.p3).2
            go_wp2
            go_round
            case rel => exact ⟨k + 1, by go_num, by omega, h11.p3.drop.p3⟩
            case measure => simp [intOf]; omega
          · have hin1 := decide_eq_false hin
            go_wp2_with fail
            refine (law_has h10.p4 hbn (by omega) ((k : Int) + 1)).mono ?_
            rintro e w11 ⟨he, h11⟩
            rw [hin1] at he
            subst he
            go_wp2
            go_round
            case rel => exact ⟨k + 1, by go_num, by omega, h11.p3.drop.p3⟩
            case measure => simp [intOf]; omega
    · have hkn : k = N := by omega
      subst hkn
      go_wp2_with fail
      refine (law_works13 hs).mono ?_
      rintro e w9 ⟨rfl, h9⟩
      go_wp2
      go_ret
      exact ⟨rfl, Sat.below (F := 1) (h9.drop.drop.drop.drop.drop.drop.drop.drop)⟩
theorem own : ownKnob Try.prog.godebug = none := by kernel_rfl
theorem laidOut : laidOutB Try.prog = true := by kernel_rfl
set_option maxRecDepth 100000 in
theorem lifted (os : Os) (started : os.Started) (H : Type) (enc : TypeId × Value → H) :
    ReturnsInHanded {} Try.checked os 12 .any (Rows.cellsCountSpec.pre6 enc Try.prog Try.f12 Rows.cellsCountRow.domain false) (Rows.cellsCountSpec.post enc Try.prog Try.f12 false true false false) := by
  refine returnsInHanded_of_change (C := Try.checked) own started (by kernel_rfl) Try.func12
    (ChangeSpec.witness6 (enc := enc) (C := Try.checked) false ⟨#[], #[.slice none 0 0], []⟩ 8 (by kernel_rfl) (by kernel_rfl) (by kernel_rfl) (by kernel_rfl)) ?_
  intro W base args ds gs before hval0 hW hcnd _
  have hval : ∀ (j : Nat) t v, Try.f12.params[j]? = some t → args[j]? = some v → Value.okWide Try.prog W .any base t v := hval0
  have hW' := hW
  obtain ⟨p, q, hA0, hV, rfl, hfz, hnd⟩ := hW
  have hA : DataW.TrodAll enc Try.prog W 0 (fun _ => true) true Try.f12.params.toList args.toList ds p := hA0
  rw [Try.params12] at hA hval
  obtain ⟨v0, vs0, d0, ds0, p0, q0, hargs, rfl, rfl, h0, r0⟩ := trodAll_cons hA
  obtain ⟨rfl, rfl, rfl⟩ := trodAll_nil r0
  obtain rfl : args = #[v0] := by cases args; simp_all
  obtain ⟨rfl, rfl⟩ := trodVars_none hV
  obtain ⟨a0, len0, cap0, rfl⟩ := okWide_slice Try.underlying98 (hval 0 98 v0 rfl rfl)
  have k0 := h0
  have lt0 : ∀ x ∈ p0, x.block < W.heap.size := by obtain ⟨m, hm⟩ := k0; exact DataW.trod_lt m _ _ _ hm
  obtain ⟨z0, w0⟩ : ∃ zs, IsActs13 W a0 len0 cap0 zs := by
    obtain ⟨fuel, hf⟩ := h0
    exact open_acts13 hf
  clear hA0 hval0
  refine (walk a0 len0 cap0 z0 W w0).mono fun e W' ⟨he, bel⟩ => ?_
  subst he
  exact ⟨_, rfl, _, _, _, [], _, [], hW', trodAll_mk1 (shut_bool Try.underlying4 _), (trodAll_cons_mk (Below.trod laidOut (by kernel_rfl) (of_decide_eq_true (by kernel_rfl)) k0 bel lt0) trodAll_mk0), rfl, bel.frame _, fun h => by cases h⟩
theorem over : Rows.cellsCountRow.holds Try.pinned (OpenSpec.ofChange Rows.cellsCountSpec) :=
  OpenClaim.holds_of_wide 12 Try.f12 rfl rfl rfl rfl rfl rfl rfl ⟨rfl, rfl, rfl, rfl, rfl⟩ rfl rfl rfl rfl rfl (by kernel_rfl) Try.func12 (by kernel_rfl)
    (of_decide_eq_true (by kernel_rfl)) (by unfold Func.isWrapper; first | (rw [if_pos (by decide +kernel)]; kernel_rfl) | (rw [if_neg (by decide +kernel)]; exact ⟨rfl, rfl⟩))
    (fun os started H enc _ => lifted os started H enc)
theorem cellsCount_holds : Rows.CellsCountSaid := over
#print axioms cellsCount_holds
end Go.Proofs.Ytkpcngcegipalaa.CCount
