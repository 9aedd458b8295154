/- tallowlaw11: works. No condition. -/
import Derived.Test.YtmngkodejlhalaaZRPaths15
import Derived.Test.YtmngkodejlhalaaZRPaths5
import Derived.Test.YtmngkodejlhalaaZRPaths6
import Derived.Test.YtmngkodejlhalaaZRPaths4
namespace Go.Proofs.Ytmngkodejlhalaa.Tw
set_option linter.unusedVariables false
set_option linter.unusedSimpArgs false
open Go Go.RowKit Go.MapKept

theorem seven_small : smallG sevenL := by
  intro o ho
  have : ∀ o ∈ sevenL, o.slots.length ≤ 1000000 := by decide +kernel
  exact this o ho
theorem seven_from : thoseG sevenL (refsV [⟨6, 2⟩]) true = [1, 2, 3, 4] := by decide +kernel
theorem seven_lost : thoseG sevenL (refsV [⟨6, 2⟩]) false = [5, 7] := by decide +kernel
/-- sorting, by the list -/
theorem sortI_of {l r : List Int} (hp : l.Perm r) (hs : r.Pairwise (· ≤ ·)) : sortI l = r := by
  have h1 : (sortI l).Pairwise (· ≤ ·) := by
    have := List.pairwise_mergeSort (le := fun x y : Int => decide (x ≤ y)) (by intro a b c h1 h2; simp at *; omega) (by intro a b; simp; omega) l
    exact this.imp fun h => by simpa using h
  exact List.Perm.eq_of_pairwise (fun a b _ _ h1 h2 => by omega) h1 hs ((List.mergeSort_perm _ _).trans hp)
def insI (x : Int) : List Int → List Int
  | [] => [x]
  | y :: r => if x ≤ y then x :: y :: r else y :: insI x r
def isort : List Int → List Int
  | [] => []
  | x :: r => insI x (isort r)
theorem insI_perm (x : Int) : ∀ l : List Int, (insI x l).Perm (x :: l)
  | [] => .refl _
  | y :: r => by
    unfold insI
    split
    · exact .refl _
    · exact ((insI_perm x r).cons y).trans (.swap x y r)
theorem insI_sorted (x : Int) : ∀ {l : List Int}, l.Pairwise (· ≤ ·) → (insI x l).Pairwise (· ≤ ·)
  | [], _ => by simp [insI]
  | y :: r, h => by
    unfold insI
    have h' := List.pairwise_cons.1 h
    split
    · refine List.pairwise_cons.2 ⟨fun z hz => ?_, h⟩
      rcases List.mem_cons.1 hz with rfl | hz
      · assumption
      · have := h'.1 z hz; omega
    · refine List.pairwise_cons.2 ⟨fun z hz => ?_, insI_sorted x h'.2⟩
      rcases List.mem_cons.1 ((insI_perm x r).mem_iff.1 hz) with rfl | hz
      · omega
      · exact h'.1 z hz
theorem isort_perm : ∀ l : List Int, (isort l).Perm l
  | [] => .refl _
  | x :: r => (insI_perm x (isort r)).trans ((isort_perm r).cons x)
theorem isort_sorted : ∀ l : List Int, (isort l).Pairwise (· ≤ ·)
  | [] => .nil
  | x :: r => insI_sorted x (isort_sorted r)
theorem sortI_eq (l : List Int) : sortI l = isort l := sortI_of (isort_perm l).symm (isort_sorted l)
/-- the same, to be computed -/
def nextC (L : List AObj) (to at_ : Int) : Int := ((isort (kids L at_))[(idxF (nextB L to at_) (isort (kids L at_))).toNat]?).getD 0
def pathFC (L : List AObj) (to : Int) : Nat → Int → List Int
  | 0, x => [x]
  | f + 1, x => x :: pathFC L to f (nextC L to x)
def pathC' (L : List AObj) (root : AVal) (to : Int) : List Int :=
  if okG L && (refV root && (thereG L root.n && (thereG L to && !decide (distG L to root.n = 0)))) then pathFC L to (distG L to root.n - 1) root.n else []
theorem pathF_eq (L : List AObj) (to : Int) : ∀ (f : Nat) (x : Int), pathF L to f x = pathFC L to f x
  | 0, x => rfl
  | f + 1, x => by
    unfold pathF pathFC
    rw [pathF_eq L to f]
    unfold nextG nextC
    rw [sortI_eq]
theorem pathG_eq (L : List AObj) (root : AVal) (to : Int) : pathG L root to = pathC' L root to := by
  unfold pathG pathC'
  rw [pathF_eq]
theorem seven_path : pathG sevenL ⟨6, 1⟩ 4 = [1, 2, 4] := by rw [pathG_eq]; decide +kernel
section
variable {w0 w : World} {F : HP}
/-- is a list a literal? -/
theorem ints_lit {a : Option Addr} {c b : Nat} {l r : List Int} {n m : Nat} (h : Sat w0 w (pt b (.cells (r.map ival).toArray 3 (0, 0)) * (slc 3 1 a n c (l.map ival) * F))) (hl : l.length = n) (hr : r.length = m) (hn : n ≤ 1000000000) (hm : m ≤ 1000000000) :
    Calls Try.prog 29 #[.slice a n c, .slice (some ⟨b, 0, none⟩) m m] w fun e w' => e = .returned (.bool (decide (l = r))) ∧ Sat w0 w' F := by
  have h2 := (litS h hr hm).p2
  refine (law_ints11 h2 hl hr hn hm).mono ?_
  rintro e w' ⟨rfl, h3⟩
  exact ⟨rfl, h3.drop.drop⟩
set_option maxRecDepth 100000 in
set_option maxHeartbeats 2000000 in
theorem law_works11 (h : Sat w0 w F) : Calls Try.prog 21 #[] w fun e w' => e = .returned (.bool true) ∧ Sat w0 w' F := by
  have HS := Lib.hid (fun w1 G (hh : Sat w0 w1 G) => law_seven hh)
  have HSF := Lib.hid (And.intro seven_small (And.intro seven_from (And.intro seven_lost seven_path)))
  have H0 := Lib.hid (HS.out _ _ h)
  go_enter Try.func21, Try.ntmps21
  go_wp2_with fail
  refine H0.out.mono ?_
  rintro e w1 ⟨oa, oc, rfl, h1⟩
  go_wp2_with fail
  refine (law_tab11 h1 2).mono ?_
  rintro e w2 ⟨rfl, h2⟩
  have h3 := h2.alloc (.cells #[.int .i64 6, .int .i64 2] 33)
  have HF := Lib.hid (c_From (l := [⟨6, 2⟩]) h3.p2 (by omega) HSF.out.1 srcV1 (by simp) HSF.out.2.1)
  go_wp2_with fail
  refine HF.out.mono ?_
  rintro e w3 ⟨ra, rc, rfl, h4⟩
  have h5 := h4.alloc (.cells #[.int .i64 1, .int .i64 2, .int .i64 3, .int .i64 4] 3)
  have HI := Lib.hid (ints_lit (r := [1, 2, 3, 4]) h5 rfl rfl (by simp) (by simp))
  clear HF h2 h3 h4 h5 h1 H0
  go_wp2_with fail
  refine HI.out.mono ?_
  rintro e w4 ⟨rfl, h6⟩
  have H1 := Lib.hid (HS.out _ _ h6.drop.drop)
  clear HI
  go_wp2_with fail
  refine H1.out.mono ?_
  rintro e w5 ⟨oa2, oc2, rfl, h7⟩
  go_wp2_with fail
  refine (law_tab11 h7 2).mono ?_
  rintro e w6 ⟨rfl, h8⟩
  have h9 := h8.alloc (.cells #[.int .i64 6, .int .i64 2] 33)
  have HF := Lib.hid (c_Lost (l := [⟨6, 2⟩]) h9.p2 (by omega) HSF.out.1 srcV1 (by simp) HSF.out.2.2.1)
  go_wp2_with fail
  refine HF.out.mono ?_
  rintro e w7 ⟨rb, rd, rfl, h10⟩
  have h11 := h10.alloc (.cells #[.int .i64 5, .int .i64 7] 3)
  have HI := Lib.hid (ints_lit (r := [5, 7]) h11 rfl rfl (by simp) (by simp))
  clear HF h7 h8 h9 h10 h11 H1 h6
  go_wp2_with fail
  refine HI.out.mono ?_
  rintro e w8 ⟨rfl, h12⟩
  have H1 := Lib.hid (HS.out _ _ h12.drop.drop)
  clear HI
  go_wp2_with fail
  refine H1.out.mono ?_
  rintro e w9 ⟨oa3, oc3, rfl, h13⟩
  go_wp2_with fail
  refine (law_tab11 h13 1).mono ?_
  rintro e w10 ⟨rfl, h14⟩
  have HP := Lib.hid (c_Path h14 (by omega) HSF.out.1 6 1 4 HSF.out.2.2.2)
  go_wp2_with fail
  refine HP.out.mono ?_
  rintro e w11 ⟨re, rf, rfl, h15⟩
  have h16 := h15.alloc (.cells #[.int .i64 1, .int .i64 2, .int .i64 4] 3)
  have HI := Lib.hid (ints_lit (r := [1, 2, 4]) h16 rfl rfl (by simp) (by simp))
  clear HP h12 h13 h14 h15 h16 H1
  go_wp2_with fail
  refine HI.out.mono ?_
  rintro e w12 ⟨rfl, h17⟩
  go_wp2_with fail
  go_ret
  exact ⟨rfl, h17.drop⟩
end
end Go.Proofs.Ytmngkodejlhalaa.Tw
namespace Go.Proofs.Ytmngkodejlhalaa.Tw
set_option linter.unusedVariables false
set_option linter.unusedSimpArgs false
open Go Go.RowKit Go.MapKept

set_option maxHeartbeats 1000000 in
theorem ref_May {w0 w : World} {F : HP} (x : AVal) (h : Sat w0 w F) :
    Calls Try.prog 92 #[.agg #[.int .i64 x.kind, .int .i64 x.n]] w fun e w' => e = .returned (.bool (mayV x)) ∧ Sat w0 w' F := by
  obtain ⟨k, n⟩ := x
  have hb := h.alloc (.cells #[.int .i64 k, .int .i64 n] 33)
  have d0 := Sat.cell (T := 33) (cs := #[.int .i64 k, .int .i64 n]) hb 0 rfl
  have d1 := Sat.cell (T := 33) (cs := #[.int .i64 k, .int .i64 n]) hb 1 rfl
  have hF := hb.drop
  by_cases k0 : k = 0
  · subst k0
    by_cases hn : n = 0
    · subst hn
      go_enter Try.func92, Try.ntmps92
      go_wp2
      go_ret
      exact ⟨rfl, hF⟩
    · have hq : (n == 0) = false := by simpa using hn
      have HM := Lib.hid (show mayV ⟨0, n⟩ = false by simp [mayV, within]; omega)
      clear hn
      go_enter Try.func92, Try.ntmps92
      go_wp2
      go_ret
      exact ⟨by rw [HM.out]; try first | rfl | (simp; try omega), hF⟩
  by_cases k1 : k = 1
  · subst k1
    by_cases hn : n = 0
    · subst hn
      go_enter Try.func92, Try.ntmps92
      go_wp2
      go_ret
      exact ⟨rfl, hF⟩
    · have hq : (n == 0) = false := by simpa using hn
      have HM := Lib.hid (show mayV ⟨1, n⟩ = false by simp [mayV, within]; omega)
      clear hn
      go_enter Try.func92, Try.ntmps92
      go_wp2
      go_ret
      exact ⟨by rw [HM.out]; try first | rfl | (simp; try omega), hF⟩
  by_cases k2 : k = 2
  · subst k2
    by_cases hn : n = 0
    · subst hn
      go_enter Try.func92, Try.ntmps92
      go_wp2
      go_ret
      exact ⟨rfl, hF⟩
    · by_cases hn1 : n = 1
      · subst hn1
        go_enter Try.func92, Try.ntmps92
        go_wp2
        go_ret
        exact ⟨rfl, hF⟩
      · have hq : (n == 0) = false := by simpa using hn
        have hq1 : (n == 1) = false := by simpa using hn1
        have HM := Lib.hid (show mayV ⟨2, n⟩ = false by simp [mayV, within]; omega)
        clear hn hn1
        go_enter Try.func92, Try.ntmps92
        go_wp2
        go_ret
        exact ⟨by rw [HM.out]; try first | rfl | (simp; try omega), hF⟩
  by_cases k3 : k = 3
  · subst k3
    go_enter Try.func92, Try.ntmps92
    go_wp2
    go_ret
    exact ⟨rfl, hF⟩
  by_cases k4 : k = 4
  · subst k4
    by_cases h1 : 0 ≤ n
    · by_cases h2 : n ≤ 12
      · have HM := Lib.hid (show mayV ⟨4, n⟩ = true by simp [mayV, within]; omega)
        go_enter Try.func92, Try.ntmps92
        go_wp2
        go_ret
        exact ⟨by rw [HM.out]; try first | rfl | (simp; try omega), hF⟩
      · have HM := Lib.hid (show mayV ⟨4, n⟩ = false by simp [mayV, within]; omega)
        go_enter Try.func92, Try.ntmps92
        go_wp2
        go_ret
        exact ⟨by rw [HM.out]; try first | rfl | (simp; try omega), hF⟩
    · have HM := Lib.hid (show mayV ⟨4, n⟩ = false by simp [mayV, within]; omega)
      go_enter Try.func92, Try.ntmps92
      go_wp2
      go_ret
      exact ⟨by rw [HM.out]; try first | rfl | (simp; try omega), hF⟩
  have e0 : (k == 0) = false := by simpa using k0
  have e1 : (k == 1) = false := by simpa using k1
  have e2 : (k == 2) = false := by simpa using k2
  have e3 : (k == 3) = false := by simpa using k3
  have e4 : (k == 4) = false := by simpa using k4
  have em : mayV ⟨k, n⟩ = (decide (5 ≤ k) && decide (k ≤ 9) && within ⟨k, n⟩ 1 2147483647) := by
    unfold mayV; simp only
    rw [if_neg (by omega), if_neg k2, if_neg k3, if_neg k4]
  have EM := Lib.hid em
  clear em k0 k1 k2 k3 k4
  by_cases h5 : 5 ≤ k
  · by_cases h9 : k ≤ 9
    · by_cases h1 : 1 ≤ n
      · by_cases h2 : n ≤ 2147483647
        · have HM := Lib.hid (show mayV ⟨k, n⟩ = true by rw [EM.out]; simp [within, *]; try omega)
          go_enter Try.func92, Try.ntmps92
          go_wp2
          go_ret
          exact ⟨by rw [HM.out]; try first | rfl | (simp; try omega), hF⟩
        · have HM := Lib.hid (show mayV ⟨k, n⟩ = false by rw [EM.out]; simp [within]; omega)
          go_enter Try.func92, Try.ntmps92
          go_wp2
          go_ret
          exact ⟨by rw [HM.out]; try first | rfl | (simp; try omega), hF⟩
      · have HM := Lib.hid (show mayV ⟨k, n⟩ = false by rw [EM.out]; simp [within]; omega)
        go_enter Try.func92, Try.ntmps92
        go_wp2
        go_ret
        exact ⟨by rw [HM.out]; try first | rfl | (simp; try omega), hF⟩
    · have HM := Lib.hid (show mayV ⟨k, n⟩ = false by rw [EM.out]; simp; intros; omega)
      go_enter Try.func92, Try.ntmps92
      go_wp2
      go_ret
      exact ⟨by rw [HM.out]; try first | rfl | (simp; try omega), hF⟩
  · have HM := Lib.hid (show mayV ⟨k, n⟩ = false by rw [EM.out]; simp; intros; omega)
    go_enter Try.func92, Try.ntmps92
    go_wp2
    go_ret
    exact ⟨by rw [HM.out]; try first | rfl | (simp; try omega), hF⟩
theorem ref_Ref {w0 w : World} {F : HP} (x : AVal) (h : Sat w0 w F) :
    Calls Try.prog 57 #[.agg #[.int .i64 x.kind, .int .i64 x.n]] w fun e w' => e = .returned (.bool (refV x)) ∧ Sat w0 w' F := by
  obtain ⟨k, n⟩ := x
  have hb := h.alloc (.cells #[.int .i64 k, .int .i64 n] 33)
  have d0 := Sat.cell (T := 33) (cs := #[.int .i64 k, .int .i64 n]) hb 0 rfl
  have d1 := Sat.cell (T := 33) (cs := #[.int .i64 k, .int .i64 n]) hb 1 rfl
  cases hm : mayV ⟨k, n⟩ with
  | false =>
    have HM := Lib.hid (show refV ⟨k, n⟩ = false by unfold refV; rw [hm, Bool.and_false])
    have HC := Lib.hid (ref_May ⟨k, n⟩ hb)
    rw [hm] at HC
    clear hm
    go_enter Try.func57, Try.ntmps57
    go_wp2_with fail
    refine HC.out.mono ?_
    rintro e w1 ⟨rfl, h1⟩
    have x0 := Sat.cell (T := 33) (cs := #[.int .i64 k, .int .i64 n]) h1 0 rfl
    go_wp2_with fail
    go_ret
    exact ⟨by rw [HM.out]; try rfl, h1.drop⟩
  | true =>
    have HM := Lib.hid (show refV ⟨k, n⟩ = decide (5 ≤ k) by unfold refV; rw [hm, Bool.and_true])
    have HC := Lib.hid (ref_May ⟨k, n⟩ hb)
    rw [hm] at HC
    clear hm
    go_enter Try.func57, Try.ntmps57
    go_wp2_with fail
    refine HC.out.mono ?_
    rintro e w1 ⟨rfl, h1⟩
    have x0 := Sat.cell (T := 33) (cs := #[.int .i64 k, .int .i64 n]) h1 0 rfl
    go_wp2_with fail
    go_ret
    exact ⟨by rw [HM.out]; try first | rfl | simp, h1.drop⟩
end Go.Proofs.Ytmngkodejlhalaa.Tw
namespace Go.Proofs.Ytmngkodejlhalaa.Tw
set_option linter.unusedVariables false
set_option linter.unusedSimpArgs false
open Go Go.RowKit Go.MapKept

section
variable {w0 w : World} {F : HP}
/-- two lists of numbers, as far as k -/
theorem ref_Ints {a b : Option Addr} {c c' n m : Nat} {l r : List Int} (h : Sat w0 w (slc 3 1 a n c (l.map ival) * (slc 3 1 b m c' (r.map ival) * F))) (hl : l.length = n) (hr : r.length = m) (hn : n ≤ 1000000000) (hm : m ≤ 1000000000) :
    Calls Try.prog 16 #[.slice a n c, .slice b m c'] w fun e w' => e = .returned (.bool (decide (l = r))) ∧ Sat w0 w' (slc 3 1 a n c (l.map ival) * (slc 3 1 b m c' (r.map ival) * F)) := by
  by_cases hnm : n = m
  · subst hnm
    have HL := Lib.hid (And.intro hl hr)
    clear hl hr
    go_enter Try.func16, Try.ntmps16
    go_wp2
    go_loopw [5] (fun iv wr => ∃ k : Nat, iv = .int .i64 k ∧ k ≤ n ∧ Hid (l.take k = r.take k) ∧ Sat w0 wr (slc 3 1 a n c (l.map ival) * (slc 3 1 b n c' (r.map ival) * F))) (fun iv _ => n - (intOf iv).toNat)
    case atStart => exact ⟨0, rfl, by omega, Lib.hid rfl, h⟩
    case round =>
      obtain ⟨k, rfl, hk, hb, hs⟩ := hrel
      by_cases hlt : k < n
      · have hl1 := HL.out
        have ex : l[k]? = some (l[k]'(by omega)) := List.getElem?_eq_getElem _
        have ey : r[k]? = some (r[k]'(by omega)) := List.getElem?_eq_getElem _
        obtain ⟨g, off, rfl, c1, _⟩ := intCells hs ex
        obtain ⟨g2, off2, rfl, c2, _⟩ := intCells hs.p2 ey
        generalize l[k]'(by omega) = x at *
        generalize r[k]'(by omega) = y at *
        have HX := Lib.hid (And.intro ex ey)
        clear ex ey hl1
        by_cases hxy : x = y
        · subst hxy
          go_wp2
          go_region
          go_wp2
          go_round
          case rel =>
            refine ⟨k + 1, by go_num, by omega, Lib.hid ?_, hs⟩
            rw [List.take_add_one, List.take_add_one, hb.out, HX.out.1, HX.out.2]
          case measure => simp [intOf]; omega
        · have hq : (x != y) = true := by simpa using hxy
          go_wp2
          go_region
          go_wp2
          go_ret
          have hne : l ≠ r := fun e => hxy (by have h1 := HX.out.1; rw [e, HX.out.2] at h1; exact (Option.some.inj h1).symm)
          exact ⟨by rw [decide_eq_false hne]; rfl, hs⟩
      · have hkn : k = n := by omega
        subst hkn
        go_wp2
        go_ret
        refine ⟨?_, hs⟩
        have e : l = r := by
          have := hb.out
          have hl1 := HL.out
          rwa [List.take_of_length_le (by omega), List.take_of_length_le (by omega)] at this
        rw [decide_eq_true e]; rfl
  · have hq : ((n : Int) != (m : Int)) = true := by simp; omega
    have hne : l ≠ r := fun e => hnm (by rw [← hl, ← hr, e])
    go_enter Try.func16, Try.ntmps16
    go_wp2
    go_ret
    exact ⟨by rw [decide_eq_false hne]; rfl, h⟩
end
section
variable {w0 w : World} {F : HP}
end
end Go.Proofs.Ytmngkodejlhalaa.Tw
namespace Go.Proofs.Ytmngkodejlhalaa.Tw
set_option linter.unusedVariables false
set_option linter.unusedSimpArgs false
open Go Go.RowKit Go.MapKept

theorem ref_Refs {w0 w : World} {SR F : HP} {a : Option Addr} {n c : Nat} {l : List AVal} (h : Sat w0 w (SR * F)) (hS : SrcV w0 SR a n c l) (hn : n ≤ 1000000) :
    Calls Try.prog 60 #[.slice a n c] w fun e w' => ∃ ra rc, e = .returned (.slice ra (refsV l).length rc) ∧ Sat w0 w' (slc 3 1 ra (refsV l).length rc ((refsV l).map ival) * (SR * F)) := by
  have hcap := hS.2.2.2
  have hlen := hS.2.1
  have HS := Lib.hid hS
  have hall : Hid (l.take n = l) := Lib.hid (List.take_of_length_le (by omega))
  clear hS hlen
  go_enter Try.func60, Try.ntmps60
  go_wp2
  go_loopw [3, 4] (fun ov iv wr => ∃ (k : Nat) (ra : Option Addr) (rc : Nat), iv = .int .i64 k ∧ k ≤ n ∧ ov = .slice ra (refsV (l.take k)).length rc ∧ Sat w0 wr (slc 3 1 ra (refsV (l.take k)).length rc ((refsV (l.take k)).map ival) * (SR * F))) (fun _ iv _ => n - (intOf iv).toNat)
  case atStart => exact ⟨0, none, 0, rfl, by omega, rfl, h.nilSlc⟩
  case round =>
    obtain ⟨k, ra, rc, rfl, hk, rfl, hs⟩ := hrel
    have hl := refsV_len l k
    by_cases hlt : k < n
    · obtain ⟨x, hx, g, off, rfl, c0, c1⟩ := HS.out.at hs.p2 hlt
      have hT := refsV_take hx
      obtain ⟨xk, xn⟩ := x
      dsimp only at c0 c1
      have HX := Lib.hid (fun w' G (h : Sat w0 w' (SR * G)) => show w'.cell? ⟨g, off + k * 2 + 1, none⟩ = some (.int .i64 xn) from by
        obtain ⟨g', off', e, _, h1⟩ := HS.out.1 _ _ h k _ hx
        cases e; exact h1)
      have hR := ref_Ref ⟨xk, xn⟩ hs
      cases hq : refV ⟨xk, xn⟩ with
      | true =>
        rw [hq] at hR hT
        have HR := Lib.hid hR
        have HT := Lib.hid hT
        clear hT hx hR hq
        generalize hL : refsV (l.take k) = L at *
        have HL := Lib.hid hL
        clear hL
        go_wp2_with fail
        refine HR.out.mono ?_
        rintro e w1 ⟨rfl, h2⟩
        have d1 := HX.out _ _ h2.p2
        have h3 := h2.alloc (.cells #[.int .i64 xn] 3)
        have b0 : (w1.alloc (.cells #[.int .i64 xn] 3)).cell? ⟨w1.heap.size, 0, none⟩ = some (.int .i64 xn) := Sat.cell (T := 3) (cs := #[.int .i64 xn]) h3 0 rfl
        go_wp2_with (at_builtin; refine wpList_push rfl _ _ rfl ra L.length rc L rfl h3.p2 w1.heap.size 1 xn rfl b0 (by omega) ?_; intro a' c' w4 h4)
        go_roundw
        case rel =>
          refine ⟨k + 1, a', c', by go_num, by omega, ?_, ?_⟩
          · rw [HT.out]; simp
          · rw [HT.out, List.length_append]; exact h4.drop2
        case measure => simp [intOf]; omega
      | false =>
        rw [hq] at hR hT
        have HR := Lib.hid hR
        have HT := Lib.hid (hT.trans (List.append_nil _))
        clear hT hx hR hq
        generalize hL : refsV (l.take k) = L at *
        have HL := Lib.hid hL
        clear hL
        go_wp2_with fail
        refine HR.out.mono ?_
        rintro e w1 ⟨rfl, h2⟩
        go_wp2_with fail
        go_roundw
        case rel =>
          refine ⟨k + 1, ra, rc, by go_num, by omega, ?_, ?_⟩
          · rw [HT.out]
          · rw [HT.out]; exact h2
        case measure => simp [intOf]; omega
    · have hkn : k = n := by omega
      subst hkn
      rw [hall.out] at hs hl ⊢
      go_wp2
      go_ret
      exact ⟨ra, rc, rfl, hs⟩
end Go.Proofs.Ytmngkodejlhalaa.Tw
