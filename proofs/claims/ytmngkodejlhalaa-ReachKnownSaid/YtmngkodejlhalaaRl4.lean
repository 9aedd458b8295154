/- tallowlaw11: works. No condition. -/
import Derived.Test.YtmngkodejlhalaaRl3
namespace Go.Proofs.Ytmngkodejlhalaa.Tw
set_option linter.unusedVariables false
set_option linter.unusedSimpArgs false
open Go Go.RowKit Go.MapKept

theorem seven_small : smallG sevenL := by
  intro o ho
  have : ∀ o ∈ sevenL, o.slots.length ≤ 1000000 := by decide +kernel
  exact this o ho
theorem seven_from : thoseG sevenL (refsV [⟨6, 2⟩]) true = [1, 2, 3, 4] := by decide +kernel
theorem seven_lost : thoseG sevenL (refsV [⟨6, 2⟩]) false = [5, 7] := by decide +kernel
/-- sorting, by the list -/
theorem sortI_of {l r : List Int} (hp : l.Perm r) (hs : r.Pairwise (· ≤ ·)) : sortI l = r := by
  have h1 : (sortI l).Pairwise (· ≤ ·) := by
    have := List.pairwise_mergeSort (le := fun x y : Int => decide (x ≤ y)) (by intro a b c h1 h2; simp at *; omega) (by intro a b; simp; omega) l
    exact this.imp fun h => by simpa using h
  exact List.Perm.eq_of_pairwise (fun a b _ _ h1 h2 => by omega) h1 hs ((List.mergeSort_perm _ _).trans hp)
def insI (x : Int) : List Int → List Int
  | [] => [x]
  | y :: r => if x ≤ y then x :: y :: r else y :: insI x r
def isort : List Int → List Int
  | [] => []
  | x :: r => insI x (isort r)
theorem insI_perm (x : Int) : ∀ l : List Int, (insI x l).Perm (x :: l)
  | [] => .refl _
  | y :: r => by
    unfold insI
    split
    · exact .refl _
    · exact ((insI_perm x r).cons y).trans (.swap x y r)
theorem insI_sorted (x : Int) : ∀ {l : List Int}, l.Pairwise (· ≤ ·) → (insI x l).Pairwise (· ≤ ·)
  | [], _ => by simp [insI]
  | y :: r, h => by
    unfold insI
    have h' := List.pairwise_cons.1 h
    split
    · refine List.pairwise_cons.2 ⟨fun z hz => ?_, h⟩
      rcases List.mem_cons.1 hz with rfl | hz
      · assumption
      · have := h'.1 z hz; omega
    · refine List.pairwise_cons.2 ⟨fun z hz => ?_, insI_sorted x h'.2⟩
      rcases List.mem_cons.1 ((insI_perm x r).mem_iff.1 hz) with rfl | hz
      · omega
      · exact h'.1 z hz
theorem isort_perm : ∀ l : List Int, (isort l).Perm l
  | [] => .refl _
  | x :: r => (insI_perm x (isort r)).trans ((isort_perm r).cons x)
theorem isort_sorted : ∀ l : List Int, (isort l).Pairwise (· ≤ ·)
  | [] => .nil
  | x :: r => insI_sorted x (isort_sorted r)
theorem sortI_eq (l : List Int) : sortI l = isort l := sortI_of (isort_perm l).symm (isort_sorted l)
/-- the same, to be computed -/
def nextC (L : List AObj) (to at_ : Int) : Int := ((isort (kids L at_))[(idxF (nextB L to at_) (isort (kids L at_))).toNat]?).getD 0
def pathFC (L : List AObj) (to : Int) : Nat → Int → List Int
  | 0, x => [x]
  | f + 1, x => x :: pathFC L to f (nextC L to x)
def pathC' (L : List AObj) (root : AVal) (to : Int) : List Int :=
  if okG L && (refV root && (thereG L root.n && (thereG L to && !decide (distG L to root.n = 0)))) then pathFC L to (distG L to root.n - 1) root.n else []
theorem pathF_eq (L : List AObj) (to : Int) : ∀ (f : Nat) (x : Int), pathF L to f x = pathFC L to f x
  | 0, x => rfl
  | f + 1, x => by
    unfold pathF pathFC
    rw [pathF_eq L to f]
    unfold nextG nextC
    rw [sortI_eq]
theorem pathG_eq (L : List AObj) (root : AVal) (to : Int) : pathG L root to = pathC' L root to := by
  unfold pathG pathC'
  rw [pathF_eq]
theorem seven_path : pathG sevenL ⟨6, 1⟩ 4 = [1, 2, 4] := by rw [pathG_eq]; decide +kernel
section
variable {w0 w : World} {F : HP}
/-- is a list a literal? -/
theorem ints_lit {a : Option Addr} {c b : Nat} {l r : List Int} {n m : Nat} (h : Sat w0 w (pt b (.cells (r.map ival).toArray 3 (0, 0)) * (slc 3 1 a n c (l.map ival) * F))) (hl : l.length = n) (hr : r.length = m) (hn : n ≤ 1000000000) (hm : m ≤ 1000000000) :
    Calls Try.prog 29 #[.slice a n c, .slice (some ⟨b, 0, none⟩) m m] w fun e w' => e = .returned (.bool (decide (l = r))) ∧ Sat w0 w' F := by
  have h2 := (litS h hr hm).p2
  refine (law_ints11 h2 hl hr hn hm).mono ?_
  rintro e w' ⟨rfl, h3⟩
  exact ⟨rfl, h3.drop.drop⟩
set_option maxRecDepth 100000 in
set_option maxHeartbeats 2000000 in
theorem law_works11 (h : Sat w0 w F) : Calls Try.prog 21 #[] w fun e w' => e = .returned (.bool true) ∧ Sat w0 w' F := by
  have HS := Lib.hid (fun w1 G (hh : Sat w0 w1 G) => law_seven hh)
  have HSF := Lib.hid (And.intro seven_small (And.intro seven_from (And.intro seven_lost seven_path)))
  have H0 := Lib.hid (HS.out _ _ h)
  go_enter Try.func21, Try.ntmps21
  go_wp2_with fail
  refine H0.out.mono ?_
  rintro e w1 ⟨oa, oc, rfl, h1⟩
  go_wp2_with fail
  refine (law_tab11 h1 2).mono ?_
  rintro e w2 ⟨rfl, h2⟩
  have h3 := h2.alloc (.cells #[.int .i64 6, .int .i64 2] 33)
  have HF := Lib.hid (c_From (l := [⟨6, 2⟩]) h3.p2 (by omega) HSF.out.1 srcV1 (by simp) HSF.out.2.1)
  go_wp2_with fail
  refine HF.out.mono ?_
  rintro e w3 ⟨ra, rc, rfl, h4⟩
  have h5 := h4.alloc (.cells #[.int .i64 1, .int .i64 2, .int .i64 3, .int .i64 4] 3)
  have HI := Lib.hid (ints_lit (r := [1, 2, 3, 4]) h5 rfl rfl (by simp) (by simp))
  clear HF h2 h3 h4 h5 h1 H0
  go_wp2_with fail
  refine HI.out.mono ?_
  rintro e w4 ⟨rfl, h6⟩
  have H1 := Lib.hid (HS.out _ _ h6.drop.drop)
  clear HI
  go_wp2_with fail
  refine H1.out.mono ?_
  rintro e w5 ⟨oa2, oc2, rfl, h7⟩
  go_wp2_with fail
  refine (law_tab11 h7 2).mono ?_
  rintro e w6 ⟨rfl, h8⟩
  have h9 := h8.alloc (.cells #[.int .i64 6, .int .i64 2] 33)
  have HF := Lib.hid (c_Lost (l := [⟨6, 2⟩]) h9.p2 (by omega) HSF.out.1 srcV1 (by simp) HSF.out.2.2.1)
  go_wp2_with fail
  refine HF.out.mono ?_
  rintro e w7 ⟨rb, rd, rfl, h10⟩
  have h11 := h10.alloc (.cells #[.int .i64 5, .int .i64 7] 3)
  have HI := Lib.hid (ints_lit (r := [5, 7]) h11 rfl rfl (by simp) (by simp))
  clear HF h7 h8 h9 h10 h11 H1 h6
  go_wp2_with fail
  refine HI.out.mono ?_
  rintro e w8 ⟨rfl, h12⟩
  have H1 := Lib.hid (HS.out _ _ h12.drop.drop)
  clear HI
  go_wp2_with fail
  refine H1.out.mono ?_
  rintro e w9 ⟨oa3, oc3, rfl, h13⟩
  go_wp2_with fail
  refine (law_tab11 h13 1).mono ?_
  rintro e w10 ⟨rfl, h14⟩
  have HP := Lib.hid (c_Path h14 (by omega) HSF.out.1 6 1 4 HSF.out.2.2.2)
  go_wp2_with fail
  refine HP.out.mono ?_
  rintro e w11 ⟨re, rf, rfl, h15⟩
  have h16 := h15.alloc (.cells #[.int .i64 1, .int .i64 2, .int .i64 4] 3)
  have HI := Lib.hid (ints_lit (r := [1, 2, 4]) h16 rfl rfl (by simp) (by simp))
  clear HP h12 h13 h14 h15 h16 H1
  go_wp2_with fail
  refine HI.out.mono ?_
  rintro e w12 ⟨rfl, h17⟩
  go_wp2_with fail
  go_ret
  exact ⟨rfl, h17.drop⟩
end
end Go.Proofs.Ytmngkodejlhalaa.Tw
