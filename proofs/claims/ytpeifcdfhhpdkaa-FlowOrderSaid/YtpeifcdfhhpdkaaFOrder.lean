/- FlowOrder: the order holds just what can be reached from the first instruction, each once, that one first; each other one behind one whose next one it is; and where there is no way back, behind all of these: proved for all codes, without a condition. -/
import Derived.Test.YtpeifcdfhhpdkaaFlow23
import Derived.Test.YtpeifcdfhhpdkaaFlow18
import Derived.Test.YtpeifcdfhhpdkaaQuiet
import Derived.Deep.QuietTactic
import Derived.BigQuiet
import Derived.StillTailTactics
import Derived.ProofKit
import Derived.OpenShut
import Derived.ShutString
import Derived.ChangeOld
namespace Go.Proofs.Ytpeifcdfhhpdkaa.FOrder
set_option linter.unusedVariables false
set_option linter.unusedSimpArgs false
open Go Go.RowKit Go.MapKept Go.Proofs.Ytpeifcdfhhpdkaa.Tw
open Go.ChangeShapes Go.WideShapes Go.ChangeAt
open Go.ChangeMaps (open_string shut_string)

/-- the places of the first k of an order -/
def Placed (O : List Int) (n k : Nat) (ps : List Int) : Prop := ps.length = n ∧ ∀ (i : Nat) (x : Int), O[i]? = some x → ps[x.toNat]? = some (if i < k then (i : Int) + 1 else 0)
/-- what is marked: who comes behind one of the first k, and is its next one -/
def Marked (l : List AIn) (O : List Int) (n k : Nat) (sm : List Bool) : Prop := sm.length = n ∧ ∀ (i j : Nat) (x y : Int), i < k → O[i]? = some x → O[j]? = some y → y ∈ nextL l x → i < j → sm[y.toNat]? = some true
def Ups (l : List AIn) (k : Nat) : Prop := ∀ (j : Nat) (y : Int), j < k → y ∈ nextL l j → (j : Int) < y
theorem placed0 {O : List Int} {n : Nat} (h : ∀ x ∈ O, inr n x = true) : Placed O n 0 (List.replicate n 0) := by
  refine ⟨by simp, fun i x hx => ?_⟩
  have := h x (List.mem_of_getElem? hx)
  unfold inr at this
  simp at this
  rw [List.getElem?_replicate, if_pos (by omega), if_neg (by omega)]
theorem Placed.next {O : List Int} {n k : Nat} {ps : List Int} {x : Nat} (h : Placed O n k ps) (hn : O.Nodup) (hr : ∀ x ∈ O, inr n x = true) (hx : O[k]? = some (x : Int)) : Placed O n (k + 1) (ps.set x ((k : Int) + 1)) := by
  refine ⟨by rw [List.length_set]; exact h.1, fun i y hy => ?_⟩
  have hxr := hr _ (List.mem_of_getElem? hx)
  have hyr := hr _ (List.mem_of_getElem? hy)
  unfold inr at hxr hyr
  simp at hxr hyr
  by_cases e : i = k
  · subst e
    rw [hx] at hy; cases hy
    rw [Int.toNat_natCast, List.getElem?_set_self (by rw [h.1]; omega), if_pos (by omega)]
  · have hne : y ≠ (x : Int) := by
      rintro rfl
      exact e ((List.getElem?_inj (List.getElem?_eq_some_iff.1 hy).1 hn).1 (hy.trans hx.symm))
    rw [List.getElem?_set_ne (by omega), h.2 i y hy]
    by_cases h1 : i < k
    · rw [if_pos h1, if_pos (by omega)]
    · rw [if_neg h1, if_neg (by omega)]
theorem Marked.set {l : List AIn} {O : List Int} {n k : Nat} {sm : List Bool} (h : Marked l O n k sm) (j : Nat) : Marked l O n k (sm.set j true) := by
  refine ⟨by rw [List.length_set]; exact h.1, fun i q x y h1 h2 h3 h4 h5 => ?_⟩
  have := h.2 i q x y h1 h2 h3 h4 h5
  rw [List.getElem?_set]
  split
  · rename_i e; rw [if_pos (by rw [e]; exact (List.getElem?_eq_some_iff.1 this).1)]
  · exact this
/-- in the midst of a place's next ones -/
def Vs (l : List AIn) (O : List Int) (n u : Nat) (xn : Nat) (q : Nat) (sm : List Bool) : Prop := Marked l O n u sm ∧ ∀ (p j : Nat) (y : Int), p < q → (sortI (nextL l xn))[p]? = some y → O[j]? = some y → u < j → sm[y.toNat]? = some true
theorem Vs.yes {l : List AIn} {O : List Int} {n u xn q yn : Nat} {sm : List Bool} (h : Vs l O n u xn q sm) (hy : (sortI (nextL l xn))[q]? = some (yn : Int)) (hn : yn < n) : Vs l O n u xn (q + 1) (sm.set yn true) := by
  refine ⟨h.1.set yn, fun p j y hp h1 h2 h3 => ?_⟩
  by_cases e : p = q
  · subst e
    rw [hy] at h1; cases h1
    rw [Int.toNat_natCast, List.getElem?_set_self (by rw [h.1.1]; exact hn)]
  · have := h.2 p j y (by omega) h1 h2 h3
    rw [List.getElem?_set]
    split
    · rename_i e; rw [if_pos (by rw [e]; exact (List.getElem?_eq_some_iff.1 this).1)]
    · exact this
theorem Vs.no {l : List AIn} {O : List Int} {n u xn q yn j0 : Nat} {sm : List Bool} {bv : Bool} (h : Vs l O n u xn q sm) (hy : (sortI (nextL l xn))[q]? = some (yn : Int)) (hO : O.Nodup) (hj : O[j0]? = some (yn : Int)) (hle : ¬ u < j0) (hb : sm[yn]? = some bv) : Vs l O n u xn (q + 1) (sm.set yn bv) := by
  have e : sm.set yn bv = sm := by
    obtain ⟨hl, rfl⟩ := List.getElem?_eq_some_iff.1 hb
    exact List.set_getElem_self hl
  rw [e]
  refine ⟨h.1, fun p j y hp h1 h2 h3 => ?_⟩
  by_cases e : p = q
  · subst e
    rw [hy] at h1; cases h1
    have := (List.getElem?_inj (List.getElem?_eq_some_iff.1 h2).1 hO).1 (h2.trans hj.symm)
    omega
  · exact h.2 p j y (by omega) h1 h2 h3
theorem Vs.done {l : List AIn} {O : List Int} {n u xn q : Nat} {sm : List Bool} (h : Vs l O n u xn q sm) (hx : O[u]? = some (xn : Int)) (hq : (sortI (nextL l xn)).length ≤ q) : Marked l O n (u + 1) sm := by
  refine ⟨h.1.1, fun i j x y h1 h2 h3 h4 h5 => ?_⟩
  rcases Nat.lt_or_ge i u with h6 | h6
  · exact h.1.2 i j x y h6 h2 h3 h4 h5
  · obtain rfl : i = u := by omega
    rw [hx] at h2; cases h2
    obtain ⟨p, hp⟩ := List.mem_iff_getElem?.1 (mem_sortI.2 h4)
    exact h.2 p j y (by have := (List.getElem?_eq_some_iff.1 hp).1; omega) hp h3 h5
set_option maxRecDepth 100000 in
set_option maxHeartbeats 16000000 in
theorem walk (a0 : Option Addr) (len0 cap0 : Nat) (l0 : List AIn) (w : World) (w0 : IsCode w a0 len0 cap0 l0) :
    Calls Try.prog 6 #[.slice a0 len0 cap0] w fun e w' => e = .returned (.bool true) ∧ Below w.heap.size w w' := by
  have hlc1 := w0.2.1
  have hlc2 := w0.2.2.1
  obtain ⟨n, hmin, hn1, hn2⟩ : ∃ n : Nat, min (len0 : Int) 200 = (n : Int) ∧ n ≤ 200 ∧ n ≤ len0 := ⟨min len0 200, by omega, by omega, by omega⟩
  have hn3 : (n : Int) ≤ cap0 := by omega
  have hC := codeAt_old w0 hn2
  generalize l0.take n = l at *
  have hln := hC.1
  have HC := Lib.hid hC
  have HL := Lib.hid hln
  have hS := ord_spec l
  have HS := Lib.hid hS
  have hle : (orderL l).length ≤ n := by
    have := Places.le (n := l.length) (out := orderL l) ⟨hS.nodup, hS.rng⟩
    omega
  have HZ := Lib.hid hS.zero
  have HFL := Lib.hid hS.len
  clear w0 hC hln hS
  go_enter Try.func6, Try.ntmps6
  go_wp2_with fail
  refine (law_works (Sat.refl w)).mono ?_
  rintro e w1 ⟨rfl, h1⟩
  go_wp2_with fail
  refine (flow_Order HC.out (by omega) (by omega) (F := 1) (h1.cast (mul_one _).symm)).mono ?_
  rintro e w2 ⟨a, c, rfl, h2⟩
  clear h1
  go_wp2_with fail
  refine (flow_From HC.out (by omega) (by omega) 0 h2.p2).mono ?_
  rintro e w3 ⟨b, c', rfl, h3⟩
  rw [← HFL.out] at h3 ⊢
  generalize hm : (orderL l).length = m at *
  have HM := Lib.hid hm
  have h4 : Sat w w3 (slc 3 1 a m c ((orderL l).map ival) * (slc 3 1 b m c' ((fromL l 0).map ival) * (Old w * 1))) := h3.cast (by ac_rfl)
  have hmF : (fromL l 0).length = m := HFL.out.symm
  have HMF := Lib.hid hmF
  clear h2 h3 hm hmF
  obtain ⟨i1, hi1, hy0, hy1, hy2⟩ := info_parts info_intF
  have hmk := run_makeSlice (P := Try.prog) (w := w3) 24 3 i1 _ Try.underlying24 hi1 hy0 .i64 .i64 (n : Int) (n : Int) (by omega) (by omega) (by rw [hy1]; omega) (by rw [hy2]; omega) (by omega)
  have h5 := (h4.alloc (.cells (madeCells #[.int .i64 0] n) 3)).madeRowI
  generalize hb : w3.heap.size = pb at *
  have H5 := Lib.hid h5
  have hn0 : n = 0 ∨ (0 < n ∧ ∃ g off, a = some ⟨g, off, none⟩ ∧ w3.cell? ⟨g, off, none⟩ = some (.int .i64 0) ∧ 0 < m) := by
    by_cases h0 : n = 0
    · exact .inl h0
    · have h6 := HZ.out (by have := HL.out; omega)
      obtain ⟨g, off, e1, e2, _⟩ := intCells h4 h6
      refine .inr ⟨by omega, g, off, e1, by simpa using e2, ?_⟩
      have := (List.getElem?_eq_some_iff.1 h6).1
      have e := HM.out
      omega
  clear h4 h5
  have hRO : ∃ RO : HP, RO = slc 3 1 a m c ((orderL l).map ival) := ⟨_, rfl⟩
  obtain ⟨RO, hRO⟩ := hRO
  have hRF : ∃ RF : HP, RF = slc 3 1 b m c' ((fromL l 0).map ival) := ⟨_, rfl⟩
  obtain ⟨RF, hRF⟩ := hRF
  have CO : Hid (∀ W G, Sat w W (RO * G) → ∀ (i : Nat) (x : Int), (orderL l)[i]? = some x → ∃ g off, a = some ⟨g, off, none⟩ ∧ W.cell? ⟨g, off + i, none⟩ = some (.int .i64 x)) := Lib.hid fun W G h i x hx => by
    rw [hRO] at h
    obtain ⟨g, off, e1, e2, _⟩ := intCells h hx
    exact ⟨g, off, e1, e2⟩
  have CF : Hid (∀ W G (x : Int), Sat w W (RF * G) → x ∈ orderL l → Calls Try.prog 20 #[.slice b m c', .int .i64 x] W fun e w' => e = .returned (.bool true) ∧ W = w') := Lib.hid fun W G x h hx => by
    rw [hRF] at h
    exact has_yes x h HMF.out (by omega) (HS.out.mem x hx)
  have H6 : Hid (Sat w (w3.alloc (.cells (madeCells #[.int .i64 0] n) 3)) (rowI pb (List.replicate n 0) * (RO * (RF * (Old w * 1))))) := Lib.hid (by rw [hRO, hRF]; exact H5.out)
  have HR : Hid (∀ x ∈ orderL l, inr n x = true) := Lib.hid fun x hx => by have := HS.out.rng x hx; rw [HL.out] at this; exact this
  have HND : Hid (orderL l).Nodup := Lib.hid HS.out.nodup
  obtain ⟨i0, hi, hz0, hz1, hz2⟩ := info_parts info_boolF
  clear hRO hRF H5
  rcases hn0 with hn0 | ⟨hn0, g, off, rfl, cz, hm0⟩
  · have f1 : decide (0 < (n : Int)) = false := by simp; omega
    have f2 : decide (0 < n) = false := by simp; omega
    clear hn0
    go_wp2_with fail
    go_loopw [6] (fun iv wr => ∃ (k : Nat) (ps : List Int), iv = .int .i64 k ∧ k ≤ m ∧ Hid (Placed (orderL l) n k ps) ∧ Sat w wr (rowI pb ps * (RO * (RF * (Old w * 1))))) (fun iv _ => m - (intOf iv).toNat)
    case atStart => exact ⟨0, _, rfl, by omega, Lib.hid (placed0 HR.out), H6.out⟩
    case round =>
      obtain ⟨k, ps, rfl, hk, hP, hs⟩ := hrel
      by_cases hlt : k < m
      · have hx : (orderL l)[k]? = some ((orderL l)[k]'(by rw [HM.out]; exact hlt)) := List.getElem?_eq_getElem _
        generalize (orderL l)[k]'(by rw [HM.out]; exact hlt) = x at hx
        have hxm := List.mem_of_getElem? hx
        have hxr : 0 ≤ x ∧ x < n := by have := HR.out x hxm; unfold inr at this; simp at this; exact this
        obtain ⟨xn, rfl⟩ : ∃ xn : Nat, x = (xn : Int) := ⟨x.toNat, by omega⟩
        have hxn : xn < n := by omega
        obtain ⟨g2, off2, e2, cx⟩ := CO.out _ _ hs.p2 k _ hx
        cases e2
        have hpl := hP.out.2 k _ hx
        rw [if_neg (by omega), Int.toNat_natCast] at hpl
        obtain ⟨cp, fp⟩ := rowICell hs hpl
        have HH := Lib.hid (CF.out wr _ (xn : Int) hs.p3 hxm)
        have HX := Lib.hid hx
        clear hx hxm hxr hpl
        go_wp2_with fail
        refine HH.out.mono ?_
        rintro e w5 ⟨rfl, rfl⟩
        go_wp2_with fail
        exact ⟨⟨k + 1, ps.set xn ((k : Int) + 1), by go_num, by omega, Lib.hid (hP.out.next HND.out HR.out HX.out), hs.rowISet xn ((k : Int) + 1)⟩, by simp [intOf]; omega⟩
      · have hkm : k = m := by omega
        subst hkm
        have HSA := Lib.hid hs
        clear hs hlt
        go_wp2_with fail
        go_loopw [7, 8] (fun bv iv wr => ∃ (bk : Bool) (i : Nat), bv = .bool bk ∧ iv = .int .i64 i ∧ i ≤ n ∧ Hid (bk = false → Ups l i) ∧ Sat w wr (rowI pb ps * (RO * (RF * (Old w * 1))))) (fun _ iv _ => n - (intOf iv).toNat)
        case atStart => exact ⟨false, 0, rfl, rfl, by omega, Lib.hid (fun _ j y hj => by omega), HSA.out⟩
        case round =>
          obtain ⟨bk, i, rfl, rfl, hin, hU, hs⟩ := hrel
          by_cases hlt : i < n
          · have HSB := Lib.hid hs.p4
            have hrl := nextL_length l i
            have hsl := Lib.hid (sortI_length (nextL l i))
            clear hs
            go_wp2_with fail
            refine (flow_Next HC.out (by omega) (by omega) i HSB.out).mono ?_
            rintro e w4 ⟨a2, c2, rfl, h4⟩
            generalize hr : (nextL l i).length = r at *
            have HR2 := Lib.hid hr
            have HSC := Lib.hid h4
            clear hr h4
            go_wp2_with fail
            go_loopw [7, 10] (fun bv iv wr => ∃ (bk2 : Bool) (q : Nat), bv = .bool bk2 ∧ iv = .int .i64 q ∧ q ≤ r ∧ Hid (bk2 = false → Ups l i ∧ ∀ (j : Nat) (y : Int), j < q → (sortI (nextL l i))[j]? = some y → (i : Int) < y) ∧ Sat w wr (slc 3 1 a2 r c2 ((sortI (nextL l i)).map ival) * (Old w * (rowI pb ps * (RO * (RF * 1)))))) (fun _ iv _ => r - (intOf iv).toNat)
            case atStart => exact ⟨bk, 0, rfl, rfl, by omega, Lib.hid (fun e => ⟨hU.out e, fun j y hj => by omega⟩), HSC.out⟩
            case round =>
              obtain ⟨bk2, q, rfl, rfl, hq, hV, hs⟩ := hrel
              by_cases hlt2 : q < r
              · have hy : (sortI (nextL l i))[q]? = some ((sortI (nextL l i))[q]'(by rw [hsl.out]; exact hlt2)) := List.getElem?_eq_getElem _
                generalize (sortI (nextL l i))[q]'(by rw [hsl.out]; exact hlt2) = y at hy
                obtain ⟨g3, off3, rfl, cy, _⟩ := intCells hs hy
                have HY := Lib.hid hy
                clear hy
                cases bk2 with
                | true =>
                  go_wp2_with fail
                  exact ⟨⟨true, q + 1, rfl, by go_num, by omega, Lib.hid (fun e => by cases e), hs⟩, by simp [intOf]; omega⟩
                | false =>
                  by_cases hle2 : y ≤ (i : Int)
                  · have f9 : decide (y ≤ (i : Int)) = true := decide_eq_true hle2
                    clear hle2
                    go_wp2_with fail
                    exact ⟨⟨true, q + 1, rfl, by go_num, by omega, Lib.hid (fun e => by cases e), hs⟩, by simp [intOf]; omega⟩
                  · have f9 : decide (y ≤ (i : Int)) = false := decide_eq_false hle2
                    have HLE := Lib.hid hle2
                    clear hle2
                    go_wp2_with fail
                    refine ⟨⟨false, q + 1, rfl, by go_num, by omega, Lib.hid (fun e => ⟨(hV.out rfl).1, fun j z hj hz => ?_⟩), hs⟩, by simp [intOf]; omega⟩
                    rcases Nat.lt_or_ge j q with h | h
                    · exact (hV.out rfl).2 j z h hz
                    · obtain rfl : j = q := by omega
                      rw [HY.out] at hz; cases hz
                      have := HLE.out
                      omega
              · have hqr : q = r := by omega
                subst hqr
                go_wp2_with fail
                have hs5 : Sat w wr (rowI pb ps * (RO * (RF * (Old w * 1)))) := hs.drop.cast (by ac_rfl)
                refine ⟨⟨bk2, i + 1, rfl, by go_num, by omega, Lib.hid (fun e j y hj hy => ?_), hs5⟩, by simp [intOf]; omega⟩
                obtain ⟨u1, u2⟩ := hV.out e
                rcases Nat.lt_or_ge j i with h | h
                · exact u1 j y h hy
                · obtain rfl : j = i := by omega
                  obtain ⟨p, hp⟩ := List.mem_iff_getElem?.1 (mem_sortI.2 hy)
                  exact u2 p y (by have := (List.getElem?_eq_some_iff.1 hp).1; have e := hsl.out; omega) hp
          · have hin2 : i = n := by omega
            subst hin2
            have hAH : bk = false → ∀ (i j : Nat) (x y : Int), (orderL l)[i]? = some x → (orderL l)[j]? = some y → y ∈ nextL l x → i < j := fun e => HS.out.ahead (by rw [HL.out]; exact hU.out e)
            have HAH := Lib.hid hAH
            have hmk2 := run_makeSlice (P := Try.prog) (w := wr) 30 4 i0 _ Try.underlying30 hi hz0 .i64 .i64 (i : Int) (i : Int) (by omega) (by omega) (by rw [hz1]; omega) (by rw [hz2]; omega) (by omega)
            have h7 := (hs.alloc (.cells (madeCells #[.bool false] i) 4)).madeRow
            generalize hsb : wr.heap.size = sb at *
            have HSD := Lib.hid h7
            clear h7 hAH hs hlt
            go_wp2_with fail
            go_loopw [12] (fun iv wr => ∃ (u : Nat) (sm : List Bool), iv = .int .i64 u ∧ u ≤ k ∧ Hid (Marked l (orderL l) i u sm) ∧ Sat w wr (rowB sb sm * (rowI pb ps * (RO * (RF * (Old w * 1)))))) (fun iv _ => k - (intOf iv).toNat)
            case atStart => exact ⟨0, _, rfl, by omega, Lib.hid ⟨by simp, fun i j x y h => by omega⟩, HSD.out⟩
            case round =>
              obtain ⟨u, sm, rfl, hu, hMk, hs⟩ := hrel
              by_cases hlt : u < k
              · have hx : (orderL l)[u]? = some ((orderL l)[u]'(by rw [HM.out]; exact hlt)) := List.getElem?_eq_getElem _
                generalize (orderL l)[u]'(by rw [HM.out]; exact hlt) = x at hx
                have hxm := List.mem_of_getElem? hx
                have hxr : 0 ≤ x ∧ x < i := by have := HR.out x hxm; unfold inr at this; simp at this; exact this
                obtain ⟨xn, rfl⟩ : ∃ xn : Nat, x = (xn : Int) := ⟨x.toNat, by omega⟩
                have hxn : xn < i := by omega
                obtain ⟨g2, off2, e2, cx⟩ := CO.out _ _ hs.p3 u _ hx
                cases e2
                have HX := Lib.hid hx
                have HSE := Lib.hid hs.p5
                have hrl := nextL_length l xn
                have hsl := Lib.hid (sortI_length (nextL l xn))
                have HCL := Lib.hid (fun (y : Int) (hy : y ∈ sortI (nextL l xn)) => HS.out.closed _ hxm y (mem_sortI.1 hy))
                clear hx hxm hxr hs
                go_wp2_with fail
                refine (flow_Next HC.out (by omega) (by omega) xn HSE.out).mono ?_
                rintro e w4 ⟨a2, c2, rfl, h4⟩
                generalize hr : (nextL l xn).length = r at *
                have HR2 := Lib.hid hr
                have h5 : Sat w w4 (rowB sb sm * (slc 3 1 a2 r c2 ((sortI (nextL l xn)).map ival) * (rowI pb ps * (RO * (RF * (Old w * 1)))))) := h4.cast (by ac_rfl)
                have HSF := Lib.hid h5
                clear hr h4 h5
                go_wp2_with fail
                go_loopw [14] (fun iv wr => ∃ (q : Nat) (sm2 : List Bool), iv = .int .i64 q ∧ q ≤ r ∧ Hid (Vs l (orderL l) i u xn q sm2) ∧ Sat w wr (rowB sb sm2 * (slc 3 1 a2 r c2 ((sortI (nextL l xn)).map ival) * (rowI pb ps * (RO * (RF * (Old w * 1))))))) (fun iv _ => r - (intOf iv).toNat)
                case atStart => exact ⟨0, sm, rfl, by omega, Lib.hid ⟨hMk.out, fun p j y hp => by omega⟩, HSF.out⟩
                case round =>
                  obtain ⟨q, sm2, rfl, hq, hV, hs⟩ := hrel
                  by_cases hlt2 : q < r
                  · have hy : (sortI (nextL l xn))[q]? = some ((sortI (nextL l xn))[q]'(by rw [hsl.out]; exact hlt2)) := List.getElem?_eq_getElem _
                    generalize (sortI (nextL l xn))[q]'(by rw [hsl.out]; exact hlt2) = y at hy
                    obtain ⟨g3, off3, e3, cy, _⟩ := intCells hs.p2 hy
                    cases e3
                    have hyO := HCL.out y (List.mem_of_getElem? hy)
                    have hyr : 0 ≤ y ∧ y < i := by have := HR.out y hyO; unfold inr at this; simp at this; exact this
                    obtain ⟨yn, rfl⟩ : ∃ yn : Nat, y = (yn : Int) := ⟨y.toNat, by omega⟩
                    have hyn : yn < i := by omega
                    obtain ⟨j, hj⟩ := List.mem_iff_getElem?.1 hyO
                    have hjk : j < k := by have := (List.getElem?_eq_some_iff.1 hj).1; have e := HM.out; omega
                    have hp1 := hP.out.2 u _ HX.out
                    rw [if_pos (by omega), Int.toNat_natCast] at hp1
                    have hp2 := hP.out.2 j _ hj
                    rw [if_pos (by omega), Int.toNat_natCast] at hp2
                    obtain ⟨cp1, _⟩ := rowICell hs.p3 hp1
                    obtain ⟨cp2, _⟩ := rowICell hs.p3 hp2
                    obtain ⟨_, _, e4, cx2⟩ := CO.out _ _ hs.p4 u _ HX.out
                    cases e4
                    obtain ⟨bv, hbv⟩ : ∃ b, sm2[yn]? = some b := ⟨_, List.getElem?_eq_getElem (by have := hV.out.1.1; omega)⟩
                    obtain ⟨cb, fb⟩ := rowCell hs hbv
                    have HY := Lib.hid hy
                    have HJ := Lib.hid hj
                    have HBV := Lib.hid hbv
                    have hab : u < j ∨ bk = true := by
                      cases hb9 : bk with
                      | true => exact .inr rfl
                      | false => exact .inl (HAH.out hb9 u j _ _ HX.out hj (mem_sortI.1 (List.mem_of_getElem? hy)))
                    clear hy hyO hyr hj hp1 hp2 hbv
                    have hab2 : (u < j ∧ bk = true) ∨ (u < j ∧ bk = false) ∨ (¬ u < j ∧ bk = true) := by
                      cases bk <;> simp at hab ⊢ <;> omega
                    clear hab
                    rcases hab2 with ⟨hij, hbk⟩ | ⟨hij, hbk⟩ | ⟨hij, hbk⟩
                    · subst hbk
                      have HNJ := Lib.hid hij
                      have g1 : decide ((u : Int) + 1 < (j : Int) + 1) = true := by simp; omega
                      have g2 : decide (u < j) = true := by simp; omega
                      have g3 : decide ((u : Int) < (j : Int)) = true := by simp; omega
                      clear hij
                      cases bv with
                      | true =>
                        go_wp2_with fail
                        go_quiet (fail)
                        go_wp2_with fail
                        refine wp_region_tail 16 (by kernel_rfl) (by kernel_rfl) ?_
                        simp only [List.take_succ_cons, List.take_zero, List.drop_succ_cons, List.drop_zero]
                        iterate 16 still_step
                        refine wpStill_nil ?_
                        go_wp2_with fail
                        exact ⟨⟨q + 1, sm2.set yn true, by go_num, by omega, Lib.hid (hV.out.yes HY.out hyn), hs.rowSet yn true⟩, by simp [intOf]; omega⟩
                      | false =>
                        go_wp2_with fail
                        go_quiet (fail)
                        go_wp2_with fail
                        refine wp_region_tail 16 (by kernel_rfl) (by kernel_rfl) ?_
                        simp only [List.take_succ_cons, List.take_zero, List.drop_succ_cons, List.drop_zero]
                        iterate 16 still_step
                        refine wpStill_nil ?_
                        go_wp2_with fail
                        exact ⟨⟨q + 1, sm2.set yn true, by go_num, by omega, Lib.hid (hV.out.yes HY.out hyn), hs.rowSet yn true⟩, by simp [intOf]; omega⟩
                    · subst hbk
                      have HNJ := Lib.hid hij
                      have g1 : decide ((u : Int) + 1 < (j : Int) + 1) = true := by simp; omega
                      have g2 : decide (u < j) = true := by simp; omega
                      have g3 : decide ((u : Int) < (j : Int)) = true := by simp; omega
                      clear hij
                      cases bv with
                      | true =>
                        go_wp2_with fail
                        go_quiet (fail)
                        go_wp2_with fail
                        refine wp_region_tail 16 (by kernel_rfl) (by kernel_rfl) ?_
                        simp only [List.take_succ_cons, List.take_zero, List.drop_succ_cons, List.drop_zero]
                        iterate 16 still_step
                        refine wpStill_nil ?_
                        go_wp2_with fail
                        exact ⟨⟨q + 1, sm2.set yn true, by go_num, by omega, Lib.hid (hV.out.yes HY.out hyn), hs.rowSet yn true⟩, by simp [intOf]; omega⟩
                      | false =>
                        go_wp2_with fail
                        go_quiet (fail)
                        go_wp2_with fail
                        refine wp_region_tail 16 (by kernel_rfl) (by kernel_rfl) ?_
                        simp only [List.take_succ_cons, List.take_zero, List.drop_succ_cons, List.drop_zero]
                        iterate 16 still_step
                        refine wpStill_nil ?_
                        go_wp2_with fail
                        exact ⟨⟨q + 1, sm2.set yn true, by go_num, by omega, Lib.hid (hV.out.yes HY.out hyn), hs.rowSet yn true⟩, by simp [intOf]; omega⟩
                    · subst hbk
                      have HNJ := Lib.hid hij
                      have g1 : decide ((u : Int) + 1 < (j : Int) + 1) = false := by simp; omega
                      have g2 : decide (u < j) = false := by simp; omega
                      have g3 : decide ((u : Int) < (j : Int)) = false := by simp; omega
                      clear hij
                      cases bv with
                      | true =>
                        go_wp2_with fail
                        go_quiet (fail)
                        go_wp2_with fail
                        refine wp_region_tail 16 (by kernel_rfl) (by kernel_rfl) ?_
                        simp only [List.take_succ_cons, List.take_zero, List.drop_succ_cons, List.drop_zero]
                        iterate 16 still_step
                        refine wpStill_nil ?_
                        go_wp2_with fail
                        exact ⟨⟨q + 1, sm2.set yn true, by go_num, by omega, Lib.hid (hV.out.no HY.out HND.out HJ.out HNJ.out HBV.out), hs.rowSet yn true⟩, by simp [intOf]; omega⟩
                      | false =>
                        go_wp2_with fail
                        go_quiet (fail)
                        go_wp2_with fail
                        refine wp_region_tail 16 (by kernel_rfl) (by kernel_rfl) ?_
                        simp only [List.take_succ_cons, List.take_zero, List.drop_succ_cons, List.drop_zero]
                        iterate 16 still_step
                        refine wpStill_nil ?_
                        go_wp2_with fail
                        exact ⟨⟨q + 1, sm2.set yn false, by go_num, by omega, Lib.hid (hV.out.no HY.out HND.out HJ.out HNJ.out HBV.out), hs.rowSet yn false⟩, by simp [intOf]; omega⟩
                  · have hqr : q = r := by omega
                    subst hqr
                    go_wp2_with fail
                    have hs5 : Sat w wr (rowB sb sm2 * (rowI pb ps * (RO * (RF * (Old w * 1))))) := hs.p2.drop
                    exact ⟨⟨u + 1, sm2, by go_num, by omega, Lib.hid (hV.out.done HX.out (by have := hsl.out; omega)), hs5⟩, by simp [intOf]; omega⟩
              · have huk : u = k := by omega
                subst huk
                have HSG := Lib.hid hs
                clear hs hlt
                go_wp2_with fail
                go_loop [16] (fun iv => ∃ v : Nat, iv = .int .i64 v ∧ 1 ≤ v ∧ v ≤ u + 1) (fun iv => u + 1 - (intOf iv).toNat)
                case atStart => exact ⟨1, rfl, by omega, by omega⟩
                case round =>
                  obtain ⟨v, rfl, hv1, hv⟩ := hrel
                  by_cases hlt : v < u
                  · have hx : (orderL l)[v]? = some ((orderL l)[v]'(by rw [HM.out]; exact hlt)) := List.getElem?_eq_getElem _
                    generalize (orderL l)[v]'(by rw [HM.out]; exact hlt) = x at hx
                    have hxm := List.mem_of_getElem? hx
                    have hxr : 0 ≤ x ∧ x < i := by have := HR.out x hxm; unfold inr at this; simp at this; exact this
                    obtain ⟨xn, rfl⟩ : ∃ xn : Nat, x = (xn : Int) := ⟨x.toNat, by omega⟩
                    have hxn : xn < i := by omega
                    obtain ⟨g2, off2, e2, cx⟩ := CO.out _ _ HSG.out.p3 v _ hx
                    cases e2
                    obtain ⟨j, z, hj, hz, hxz⟩ := HS.out.up v _ (by omega) hx
                    have hb := hMk.out.2 j v z _ (by omega) hz hx hxz hj
                    rw [Int.toNat_natCast] at hb
                    obtain ⟨cb, fb⟩ := rowCell HSG.out hb
                    clear hx hxm hxr hj hz hxz hb
                    go_wp2
                    go_round
                    case rel => exact ⟨v + 1, by go_num, by omega, by omega⟩
                    case measure => simp [intOf]; omega
                  · have hge : decide ((v : Int) < (u : Int)) = false := by simp; omega
                    go_wp2
                    go_ret
                    exact ⟨rfl, (HSG.out.drop.drop.drop.drop).below⟩
  · have f1 : decide (0 < (n : Int)) = true := by simp; omega
    have f2 : decide (0 < n) = true := by simp; omega
    have f3 : decide ((m : Int) = 0) = false := by simp; omega
    have f4 : decide (m = 0) = false := by simp; omega
    have f5 : ((m : Int) == 0) = false := by simp; omega
    have f6 : (m == 0) = false := by simp; omega
    go_wp2_with fail
    go_loopw [6] (fun iv wr => ∃ (k : Nat) (ps : List Int), iv = .int .i64 k ∧ k ≤ m ∧ Hid (Placed (orderL l) n k ps) ∧ Sat w wr (rowI pb ps * (RO * (RF * (Old w * 1))))) (fun iv _ => m - (intOf iv).toNat)
    case atStart => exact ⟨0, _, rfl, by omega, Lib.hid (placed0 HR.out), H6.out⟩
    case round =>
      obtain ⟨k, ps, rfl, hk, hP, hs⟩ := hrel
      by_cases hlt : k < m
      · have hx : (orderL l)[k]? = some ((orderL l)[k]'(by rw [HM.out]; exact hlt)) := List.getElem?_eq_getElem _
        generalize (orderL l)[k]'(by rw [HM.out]; exact hlt) = x at hx
        have hxm := List.mem_of_getElem? hx
        have hxr : 0 ≤ x ∧ x < n := by have := HR.out x hxm; unfold inr at this; simp at this; exact this
        obtain ⟨xn, rfl⟩ : ∃ xn : Nat, x = (xn : Int) := ⟨x.toNat, by omega⟩
        have hxn : xn < n := by omega
        obtain ⟨g2, off2, e2, cx⟩ := CO.out _ _ hs.p2 k _ hx
        cases e2
        have hpl := hP.out.2 k _ hx
        rw [if_neg (by omega), Int.toNat_natCast] at hpl
        obtain ⟨cp, fp⟩ := rowICell hs hpl
        have HH := Lib.hid (CF.out wr _ (xn : Int) hs.p3 hxm)
        have HX := Lib.hid hx
        clear hx hxm hxr hpl
        go_wp2_with fail
        refine HH.out.mono ?_
        rintro e w5 ⟨rfl, rfl⟩
        go_wp2_with fail
        exact ⟨⟨k + 1, ps.set xn ((k : Int) + 1), by go_num, by omega, Lib.hid (hP.out.next HND.out HR.out HX.out), hs.rowISet xn ((k : Int) + 1)⟩, by simp [intOf]; omega⟩
      · have hkm : k = m := by omega
        subst hkm
        have HSA := Lib.hid hs
        clear hs hlt
        go_wp2_with fail
        go_loopw [7, 8] (fun bv iv wr => ∃ (bk : Bool) (i : Nat), bv = .bool bk ∧ iv = .int .i64 i ∧ i ≤ n ∧ Hid (bk = false → Ups l i) ∧ Sat w wr (rowI pb ps * (RO * (RF * (Old w * 1))))) (fun _ iv _ => n - (intOf iv).toNat)
        case atStart => exact ⟨false, 0, rfl, rfl, by omega, Lib.hid (fun _ j y hj => by omega), HSA.out⟩
        case round =>
          obtain ⟨bk, i, rfl, rfl, hin, hU, hs⟩ := hrel
          by_cases hlt : i < n
          · have HSB := Lib.hid hs.p4
            have hrl := nextL_length l i
            have hsl := Lib.hid (sortI_length (nextL l i))
            clear hs
            go_wp2_with fail
            refine (flow_Next HC.out (by omega) (by omega) i HSB.out).mono ?_
            rintro e w4 ⟨a2, c2, rfl, h4⟩
            generalize hr : (nextL l i).length = r at *
            have HR2 := Lib.hid hr
            have HSC := Lib.hid h4
            clear hr h4
            go_wp2_with fail
            go_loopw [7, 10] (fun bv iv wr => ∃ (bk2 : Bool) (q : Nat), bv = .bool bk2 ∧ iv = .int .i64 q ∧ q ≤ r ∧ Hid (bk2 = false → Ups l i ∧ ∀ (j : Nat) (y : Int), j < q → (sortI (nextL l i))[j]? = some y → (i : Int) < y) ∧ Sat w wr (slc 3 1 a2 r c2 ((sortI (nextL l i)).map ival) * (Old w * (rowI pb ps * (RO * (RF * 1)))))) (fun _ iv _ => r - (intOf iv).toNat)
            case atStart => exact ⟨bk, 0, rfl, rfl, by omega, Lib.hid (fun e => ⟨hU.out e, fun j y hj => by omega⟩), HSC.out⟩
            case round =>
              obtain ⟨bk2, q, rfl, rfl, hq, hV, hs⟩ := hrel
              by_cases hlt2 : q < r
              · have hy : (sortI (nextL l i))[q]? = some ((sortI (nextL l i))[q]'(by rw [hsl.out]; exact hlt2)) := List.getElem?_eq_getElem _
                generalize (sortI (nextL l i))[q]'(by rw [hsl.out]; exact hlt2) = y at hy
                obtain ⟨g3, off3, rfl, cy, _⟩ := intCells hs hy
                have HY := Lib.hid hy
                clear hy
                cases bk2 with
                | true =>
                  go_wp2_with fail
                  exact ⟨⟨true, q + 1, rfl, by go_num, by omega, Lib.hid (fun e => by cases e), hs⟩, by simp [intOf]; omega⟩
                | false =>
                  by_cases hle2 : y ≤ (i : Int)
                  · have f9 : decide (y ≤ (i : Int)) = true := decide_eq_true hle2
                    clear hle2
                    go_wp2_with fail
                    exact ⟨⟨true, q + 1, rfl, by go_num, by omega, Lib.hid (fun e => by cases e), hs⟩, by simp [intOf]; omega⟩
                  · have f9 : decide (y ≤ (i : Int)) = false := decide_eq_false hle2
                    have HLE := Lib.hid hle2
                    clear hle2
                    go_wp2_with fail
                    refine ⟨⟨false, q + 1, rfl, by go_num, by omega, Lib.hid (fun e => ⟨(hV.out rfl).1, fun j z hj hz => ?_⟩), hs⟩, by simp [intOf]; omega⟩
                    rcases Nat.lt_or_ge j q with h | h
                    · exact (hV.out rfl).2 j z h hz
                    · obtain rfl : j = q := by omega
                      rw [HY.out] at hz; cases hz
                      have := HLE.out
                      omega
              · have hqr : q = r := by omega
                subst hqr
                go_wp2_with fail
                have hs5 : Sat w wr (rowI pb ps * (RO * (RF * (Old w * 1)))) := hs.drop.cast (by ac_rfl)
                refine ⟨⟨bk2, i + 1, rfl, by go_num, by omega, Lib.hid (fun e j y hj hy => ?_), hs5⟩, by simp [intOf]; omega⟩
                obtain ⟨u1, u2⟩ := hV.out e
                rcases Nat.lt_or_ge j i with h | h
                · exact u1 j y h hy
                · obtain rfl : j = i := by omega
                  obtain ⟨p, hp⟩ := List.mem_iff_getElem?.1 (mem_sortI.2 hy)
                  exact u2 p y (by have := (List.getElem?_eq_some_iff.1 hp).1; have e := hsl.out; omega) hp
          · have hin2 : i = n := by omega
            subst hin2
            have hAH : bk = false → ∀ (i j : Nat) (x y : Int), (orderL l)[i]? = some x → (orderL l)[j]? = some y → y ∈ nextL l x → i < j := fun e => HS.out.ahead (by rw [HL.out]; exact hU.out e)
            have HAH := Lib.hid hAH
            have hmk2 := run_makeSlice (P := Try.prog) (w := wr) 30 4 i0 _ Try.underlying30 hi hz0 .i64 .i64 (i : Int) (i : Int) (by omega) (by omega) (by rw [hz1]; omega) (by rw [hz2]; omega) (by omega)
            have h7 := (hs.alloc (.cells (madeCells #[.bool false] i) 4)).madeRow
            generalize hsb : wr.heap.size = sb at *
            have HSD := Lib.hid h7
            clear h7 hAH hs hlt
            go_wp2_with fail
            go_loopw [12] (fun iv wr => ∃ (u : Nat) (sm : List Bool), iv = .int .i64 u ∧ u ≤ k ∧ Hid (Marked l (orderL l) i u sm) ∧ Sat w wr (rowB sb sm * (rowI pb ps * (RO * (RF * (Old w * 1)))))) (fun iv _ => k - (intOf iv).toNat)
            case atStart => exact ⟨0, _, rfl, by omega, Lib.hid ⟨by simp, fun i j x y h => by omega⟩, HSD.out⟩
            case round =>
              obtain ⟨u, sm, rfl, hu, hMk, hs⟩ := hrel
              by_cases hlt : u < k
              · have hx : (orderL l)[u]? = some ((orderL l)[u]'(by rw [HM.out]; exact hlt)) := List.getElem?_eq_getElem _
                generalize (orderL l)[u]'(by rw [HM.out]; exact hlt) = x at hx
                have hxm := List.mem_of_getElem? hx
                have hxr : 0 ≤ x ∧ x < i := by have := HR.out x hxm; unfold inr at this; simp at this; exact this
                obtain ⟨xn, rfl⟩ : ∃ xn : Nat, x = (xn : Int) := ⟨x.toNat, by omega⟩
                have hxn : xn < i := by omega
                obtain ⟨g2, off2, e2, cx⟩ := CO.out _ _ hs.p3 u _ hx
                cases e2
                have HX := Lib.hid hx
                have HSE := Lib.hid hs.p5
                have hrl := nextL_length l xn
                have hsl := Lib.hid (sortI_length (nextL l xn))
                have HCL := Lib.hid (fun (y : Int) (hy : y ∈ sortI (nextL l xn)) => HS.out.closed _ hxm y (mem_sortI.1 hy))
                clear hx hxm hxr hs
                go_wp2_with fail
                refine (flow_Next HC.out (by omega) (by omega) xn HSE.out).mono ?_
                rintro e w4 ⟨a2, c2, rfl, h4⟩
                generalize hr : (nextL l xn).length = r at *
                have HR2 := Lib.hid hr
                have h5 : Sat w w4 (rowB sb sm * (slc 3 1 a2 r c2 ((sortI (nextL l xn)).map ival) * (rowI pb ps * (RO * (RF * (Old w * 1)))))) := h4.cast (by ac_rfl)
                have HSF := Lib.hid h5
                clear hr h4 h5
                go_wp2_with fail
                go_loopw [14] (fun iv wr => ∃ (q : Nat) (sm2 : List Bool), iv = .int .i64 q ∧ q ≤ r ∧ Hid (Vs l (orderL l) i u xn q sm2) ∧ Sat w wr (rowB sb sm2 * (slc 3 1 a2 r c2 ((sortI (nextL l xn)).map ival) * (rowI pb ps * (RO * (RF * (Old w * 1))))))) (fun iv _ => r - (intOf iv).toNat)
                case atStart => exact ⟨0, sm, rfl, by omega, Lib.hid ⟨hMk.out, fun p j y hp => by omega⟩, HSF.out⟩
                case round =>
                  obtain ⟨q, sm2, rfl, hq, hV, hs⟩ := hrel
                  by_cases hlt2 : q < r
                  · have hy : (sortI (nextL l xn))[q]? = some ((sortI (nextL l xn))[q]'(by rw [hsl.out]; exact hlt2)) := List.getElem?_eq_getElem _
                    generalize (sortI (nextL l xn))[q]'(by rw [hsl.out]; exact hlt2) = y at hy
                    obtain ⟨g3, off3, e3, cy, _⟩ := intCells hs.p2 hy
                    cases e3
                    have hyO := HCL.out y (List.mem_of_getElem? hy)
                    have hyr : 0 ≤ y ∧ y < i := by have := HR.out y hyO; unfold inr at this; simp at this; exact this
                    obtain ⟨yn, rfl⟩ : ∃ yn : Nat, y = (yn : Int) := ⟨y.toNat, by omega⟩
                    have hyn : yn < i := by omega
                    obtain ⟨j, hj⟩ := List.mem_iff_getElem?.1 hyO
                    have hjk : j < k := by have := (List.getElem?_eq_some_iff.1 hj).1; have e := HM.out; omega
                    have hp1 := hP.out.2 u _ HX.out
                    rw [if_pos (by omega), Int.toNat_natCast] at hp1
                    have hp2 := hP.out.2 j _ hj
                    rw [if_pos (by omega), Int.toNat_natCast] at hp2
                    obtain ⟨cp1, _⟩ := rowICell hs.p3 hp1
                    obtain ⟨cp2, _⟩ := rowICell hs.p3 hp2
                    obtain ⟨_, _, e4, cx2⟩ := CO.out _ _ hs.p4 u _ HX.out
                    cases e4
                    obtain ⟨bv, hbv⟩ : ∃ b, sm2[yn]? = some b := ⟨_, List.getElem?_eq_getElem (by have := hV.out.1.1; omega)⟩
                    obtain ⟨cb, fb⟩ := rowCell hs hbv
                    have HY := Lib.hid hy
                    have HJ := Lib.hid hj
                    have HBV := Lib.hid hbv
                    have hab : u < j ∨ bk = true := by
                      cases hb9 : bk with
                      | true => exact .inr rfl
                      | false => exact .inl (HAH.out hb9 u j _ _ HX.out hj (mem_sortI.1 (List.mem_of_getElem? hy)))
                    clear hy hyO hyr hj hp1 hp2 hbv
                    have hab2 : (u < j ∧ bk = true) ∨ (u < j ∧ bk = false) ∨ (¬ u < j ∧ bk = true) := by
                      cases bk <;> simp at hab ⊢ <;> omega
                    clear hab
                    rcases hab2 with ⟨hij, hbk⟩ | ⟨hij, hbk⟩ | ⟨hij, hbk⟩
                    · subst hbk
                      have HNJ := Lib.hid hij
                      have g1 : decide ((u : Int) + 1 < (j : Int) + 1) = true := by simp; omega
                      have g2 : decide (u < j) = true := by simp; omega
                      have g3 : decide ((u : Int) < (j : Int)) = true := by simp; omega
                      clear hij
                      cases bv with
                      | true =>
                        go_wp2_with fail
                        go_quiet (fail)
                        go_wp2_with fail
                        refine wp_region_tail 16 (by kernel_rfl) (by kernel_rfl) ?_
                        simp only [List.take_succ_cons, List.take_zero, List.drop_succ_cons, List.drop_zero]
                        iterate 16 still_step
                        refine wpStill_nil ?_
                        go_wp2_with fail
                        exact ⟨⟨q + 1, sm2.set yn true, by go_num, by omega, Lib.hid (hV.out.yes HY.out hyn), hs.rowSet yn true⟩, by simp [intOf]; omega⟩
                      | false =>
                        go_wp2_with fail
                        go_quiet (fail)
                        go_wp2_with fail
                        refine wp_region_tail 16 (by kernel_rfl) (by kernel_rfl) ?_
                        simp only [List.take_succ_cons, List.take_zero, List.drop_succ_cons, List.drop_zero]
                        iterate 16 still_step
                        refine wpStill_nil ?_
                        go_wp2_with fail
                        exact ⟨⟨q + 1, sm2.set yn true, by go_num, by omega, Lib.hid (hV.out.yes HY.out hyn), hs.rowSet yn true⟩, by simp [intOf]; omega⟩
                    · subst hbk
                      have HNJ := Lib.hid hij
                      have g1 : decide ((u : Int) + 1 < (j : Int) + 1) = true := by simp; omega
                      have g2 : decide (u < j) = true := by simp; omega
                      have g3 : decide ((u : Int) < (j : Int)) = true := by simp; omega
                      clear hij
                      cases bv with
                      | true =>
                        go_wp2_with fail
                        go_quiet (fail)
                        go_wp2_with fail
                        refine wp_region_tail 16 (by kernel_rfl) (by kernel_rfl) ?_
                        simp only [List.take_succ_cons, List.take_zero, List.drop_succ_cons, List.drop_zero]
                        iterate 16 still_step
                        refine wpStill_nil ?_
                        go_wp2_with fail
                        exact ⟨⟨q + 1, sm2.set yn true, by go_num, by omega, Lib.hid (hV.out.yes HY.out hyn), hs.rowSet yn true⟩, by simp [intOf]; omega⟩
                      | false =>
                        go_wp2_with fail
                        go_quiet (fail)
                        go_wp2_with fail
                        refine wp_region_tail 16 (by kernel_rfl) (by kernel_rfl) ?_
                        simp only [List.take_succ_cons, List.take_zero, List.drop_succ_cons, List.drop_zero]
                        iterate 16 still_step
                        refine wpStill_nil ?_
                        go_wp2_with fail
                        exact ⟨⟨q + 1, sm2.set yn true, by go_num, by omega, Lib.hid (hV.out.yes HY.out hyn), hs.rowSet yn true⟩, by simp [intOf]; omega⟩
                    · subst hbk
                      have HNJ := Lib.hid hij
                      have g1 : decide ((u : Int) + 1 < (j : Int) + 1) = false := by simp; omega
                      have g2 : decide (u < j) = false := by simp; omega
                      have g3 : decide ((u : Int) < (j : Int)) = false := by simp; omega
                      clear hij
                      cases bv with
                      | true =>
                        go_wp2_with fail
                        go_quiet (fail)
                        go_wp2_with fail
                        refine wp_region_tail 16 (by kernel_rfl) (by kernel_rfl) ?_
                        simp only [List.take_succ_cons, List.take_zero, List.drop_succ_cons, List.drop_zero]
                        iterate 16 still_step
                        refine wpStill_nil ?_
                        go_wp2_with fail
                        exact ⟨⟨q + 1, sm2.set yn true, by go_num, by omega, Lib.hid (hV.out.no HY.out HND.out HJ.out HNJ.out HBV.out), hs.rowSet yn true⟩, by simp [intOf]; omega⟩
                      | false =>
                        go_wp2_with fail
                        go_quiet (fail)
                        go_wp2_with fail
                        refine wp_region_tail 16 (by kernel_rfl) (by kernel_rfl) ?_
                        simp only [List.take_succ_cons, List.take_zero, List.drop_succ_cons, List.drop_zero]
                        iterate 16 still_step
                        refine wpStill_nil ?_
                        go_wp2_with fail
                        exact ⟨⟨q + 1, sm2.set yn false, by go_num, by omega, Lib.hid (hV.out.no HY.out HND.out HJ.out HNJ.out HBV.out), hs.rowSet yn false⟩, by simp [intOf]; omega⟩
                  · have hqr : q = r := by omega
                    subst hqr
                    go_wp2_with fail
                    have hs5 : Sat w wr (rowB sb sm2 * (rowI pb ps * (RO * (RF * (Old w * 1))))) := hs.p2.drop
                    exact ⟨⟨u + 1, sm2, by go_num, by omega, Lib.hid (hV.out.done HX.out (by have := hsl.out; omega)), hs5⟩, by simp [intOf]; omega⟩
              · have huk : u = k := by omega
                subst huk
                have HSG := Lib.hid hs
                clear hs hlt
                go_wp2_with fail
                go_loop [16] (fun iv => ∃ v : Nat, iv = .int .i64 v ∧ 1 ≤ v ∧ v ≤ u + 1) (fun iv => u + 1 - (intOf iv).toNat)
                case atStart => exact ⟨1, rfl, by omega, by omega⟩
                case round =>
                  obtain ⟨v, rfl, hv1, hv⟩ := hrel
                  by_cases hlt : v < u
                  · have hx : (orderL l)[v]? = some ((orderL l)[v]'(by rw [HM.out]; exact hlt)) := List.getElem?_eq_getElem _
                    generalize (orderL l)[v]'(by rw [HM.out]; exact hlt) = x at hx
                    have hxm := List.mem_of_getElem? hx
                    have hxr : 0 ≤ x ∧ x < i := by have := HR.out x hxm; unfold inr at this; simp at this; exact this
                    obtain ⟨xn, rfl⟩ : ∃ xn : Nat, x = (xn : Int) := ⟨x.toNat, by omega⟩
                    have hxn : xn < i := by omega
                    obtain ⟨g2, off2, e2, cx⟩ := CO.out _ _ HSG.out.p3 v _ hx
                    cases e2
                    obtain ⟨j, z, hj, hz, hxz⟩ := HS.out.up v _ (by omega) hx
                    have hb := hMk.out.2 j v z _ (by omega) hz hx hxz hj
                    rw [Int.toNat_natCast] at hb
                    obtain ⟨cb, fb⟩ := rowCell HSG.out hb
                    clear hx hxm hxr hj hz hxz hb
                    go_wp2
                    go_round
                    case rel => exact ⟨v + 1, by go_num, by omega, by omega⟩
                    case measure => simp [intOf]; omega
                  · have hge : decide ((v : Int) < (u : Int)) = false := by simp; omega
                    go_wp2
                    go_ret
                    exact ⟨rfl, (HSG.out.drop.drop.drop.drop).below⟩
theorem own : ownKnob Try.prog.godebug = none := by kernel_rfl
theorem laidOut : laidOutB Try.prog = true := by kernel_rfl
set_option maxRecDepth 100000 in
theorem lifted (os : Os) (started : os.Started) (H : Type) (enc : TypeId × Value → H) :
    ReturnsInHanded {} Try.checked os 6 .any (Rows.flowOrderSpec.pre6 enc Try.prog Try.f6 Rows.flowOrderRow.domain false) (Rows.flowOrderSpec.post enc Try.prog Try.f6 false true false false) := by
  refine returnsInHanded_of_change (C := Try.checked) own started (by kernel_rfl) Try.func6
    (ChangeSpec.witness6 (enc := enc) (C := Try.checked) false ⟨#[], #[.slice none 0 0], []⟩ 8 (by kernel_rfl) (by kernel_rfl) (by kernel_rfl) (by kernel_rfl)) ?_
  intro W base args ds gs before hval0 hW hcnd _
  have hval : ∀ (j : Nat) t v, Try.f6.params[j]? = some t → args[j]? = some v → Value.okWide Try.prog W .any base t v := hval0
  have hW' := hW
  obtain ⟨p, q, hA0, hV, rfl, hfz, hnd⟩ := hW
  have hA : DataW.TrodAll enc Try.prog W 0 (fun _ => true) true Try.f6.params.toList args.toList ds p := hA0
  rw [Try.params6] at hA hval
  obtain ⟨v0, vs0, d0, ds0, p0, q0, hargs, rfl, rfl, h0, r0⟩ := trodAll_cons hA
  obtain ⟨rfl, rfl, rfl⟩ := trodAll_nil r0
  obtain rfl : args = #[v0] := by cases args; simp_all
  obtain ⟨rfl, rfl⟩ := trodVars_none hV
  obtain ⟨a0, len0, cap0, rfl⟩ := okWide_slice Try.underlying22 (hval 0 22 v0 rfl rfl)
  have k0 := h0
  have lt0 : ∀ x ∈ p0, x.block < W.heap.size := by obtain ⟨m, hm⟩ := k0; exact DataW.trod_lt m _ _ _ hm
  obtain ⟨z0, w0⟩ : ∃ zs, IsCode W a0 len0 cap0 zs := by
    obtain ⟨fuel, hf⟩ := h0
    exact open_code hf
  clear hA0 hval0
  refine (walk a0 len0 cap0 z0 W w0).mono fun e W' ⟨he, bel⟩ => ?_
  subst he
  exact ⟨_, rfl, _, _, _, [], _, [], hW', trodAll_mk1 (shut_bool Try.underlying4 _), (trodAll_cons_mk (Below.trod laidOut (by kernel_rfl) (of_decide_eq_true (by kernel_rfl)) k0 bel lt0) trodAll_mk0), rfl, bel.frame _, fun h => by cases h⟩
theorem over : Rows.flowOrderRow.holds Try.pinned (OpenSpec.ofChange Rows.flowOrderSpec) :=
  OpenClaim.holds_of_wide 6 Try.f6 rfl rfl rfl rfl rfl rfl rfl ⟨rfl, rfl, rfl, rfl, rfl⟩ rfl rfl rfl rfl rfl (by kernel_rfl) Try.func6 (by kernel_rfl)
    (of_decide_eq_true (by kernel_rfl)) (by unfold Func.isWrapper; first | (rw [if_pos (by decide +kernel)]; kernel_rfl) | (rw [if_neg (by decide +kernel)]; exact ⟨rfl, rfl⟩))
    (fun os started H enc _ => lifted os started H enc)
theorem flowOrder_holds : Rows.FlowOrderSaid := over
#print axioms flowOrder_holds
end Go.Proofs.Ytpeifcdfhhpdkaa.FOrder
