/- reach: those, From, Lost. No condition. -/
import Derived.Test.YtmngkodejlhalaaGr7
namespace Go.Proofs.Ytmngkodejlhalaa.Tw
set_option linter.unusedVariables false
set_option linter.unusedSimpArgs false
open Go Go.RowKit Go.MapKept

def thoseK (L : List AObj) (rs : List Int) (b : Bool) (k : Nat) : List Int := ((List.range k).map fun (i : Nat) => ((i : Int) + 1)).filter fun n => thereG L n && (decide (n ∈ markL L rs) == b)
theorem thoseK_len (L : List AObj) (rs : List Int) (b : Bool) (k : Nat) : (thoseK L rs b k).length ≤ k := by
  unfold thoseK
  have := List.length_filter_le (fun n => thereG L n && (decide (n ∈ markL L rs) == b)) ((List.range k).map fun (i : Nat) => ((i : Int) + 1))
  simpa using this
theorem thoseK_succ (L : List AObj) (rs : List Int) (b : Bool) (k : Nat) : thoseK L rs b (k + 1) = thoseK L rs b k ++ if (thereG L ((k : Int) + 1) && (decide ((k : Int) + 1 ∈ markL L rs) == b)) = true then [(k : Int) + 1] else [] := by
  unfold thoseK
  rw [List.range_succ, List.map_append, List.filter_append]
  cases h : (thereG L ((k : Int) + 1) && (decide ((k : Int) + 1 ∈ markL L rs) == b)) <;> simp [List.filter_cons, h]
section
variable {w0 w : World} {SR F : HP} {ga : Option Addr} {n c : Nat} {X : List XObj}
theorem reach_those_no (h : Sat w0 w (SR * F)) (hG : SrcO w0 SR ga n c X) (hno : okG (X.map (·.1)) = false) {a : Option Addr} {cl : Nat} {l : List AVal} (b : Bool) :
    Calls Try.prog 46 #[.agg #[.slice ga n c], .slice a l.length cl, .bool b] w fun e w' => e = .returned (.slice none 0 0) ∧ Sat w0 w' (SR * F) := by
  have hb := (h.alloc (.cells #[.slice ga n c] 24))
  generalize hgb : w.heap.size = gb at *
  have c0 := boxG hb
  have hC := graph_Check hb.p2 hG
  rw [hno] at hC
  have HC := Lib.hid hC
  clear hC hno hG
  go_enter Try.func46, Try.ntmps46
  try rw [hgb]
  go_wp2_with fail
  refine HC.out.mono ?_
  rintro e w3 ⟨rfl, h3⟩
  go_wp2_with fail
  go_ret
  exact ⟨rfl, h3.p2.drop⟩
set_option maxRecDepth 100000 in
set_option maxHeartbeats 4000000 in
theorem reach_those (h : Sat w0 w (SR * F)) (hG : SrcO w0 SR ga n c X) (hok : okG (X.map (·.1)) = true) {a : Option Addr} {cl : Nat} {l : List AVal} (hS : SrcV w0 SR a l.length cl l) (hn : l.length ≤ 1000000) (b : Bool) {R : List Int} (hR : thoseG (X.map (·.1)) (refsV l) b = R) :
    Calls Try.prog 46 #[.agg #[.slice ga n c], .slice a l.length cl, .bool b] w fun e w' => ∃ ra rc, e = .returned (.slice ra R.length rc) ∧ Sat w0 w' (slc 3 1 ra R.length rc (R.map ival) * (SR * F)) := by
  have hb := (h.alloc (.cells #[.slice ga n c] 24))
  generalize hgb : w.heap.size = gb at *
  have c0 := boxG hb
  have hC := graph_Check hb.p2 hG
  rw [hok] at hC
  have hR2 : thoseK (X.map (·.1)) (refsV l) b n = R := by rw [← hR]; unfold thoseG; rw [if_pos hok, List.length_map, hG.len]; rfl
  have hRl : R.length ≤ n := by rw [← hR2]; exact thoseK_len _ _ _ _
  have HR := Lib.hid hR2
  have HC := Lib.hid hC
  have HG := Lib.hid hG
  have HM := Lib.hid (fun w' F' (h' : Sat w0 w' (SR * F')) => reach_marked hG hok hS hn h')
  have hcap := hG.cap
  have hsm := hG.small
  clear hC hok hG hR hR2 hS
  go_enter Try.func46, Try.ntmps46
  try rw [hgb]
  go_wp2_with fail
  refine HC.out.mono ?_
  rintro e w3 ⟨rfl, h3⟩
  have d0 := boxG h3.p2
  clear HC c0 hb h
  go_wp2_with fail
  refine (HM.out w3 _ h3).mono ?_
  rintro e w4 ⟨m, rfl, h4⟩
  have d1 := boxG h4.p3
  clear h3 d0 HM
  go_wp2_with fail
  go_loopw [7, 20] (fun ov iv wr => ∃ (k : Nat) (ra : Option Addr) (rc : Nat) (ls : List Int), iv = .int .i64 k ∧ k ≤ n ∧ Hid (thoseK (X.map (·.1)) (refsV l) b k = ls) ∧ ls.length ≤ k ∧ ov = .slice ra ls.length rc ∧ Sat w0 wr (slc 3 1 ra ls.length rc (ls.map ival) * (seenR m (markL (X.map (·.1)) (refsV l)) * (SR * (pt gb (.cells #[.slice ga n c] 24 (0, 0)) * F))))) (fun _ iv _ => n - (intOf iv).toNat)
  case atStart => exact ⟨0, none, 0, [], rfl, by omega, Lib.hid rfl, by simp, rfl, h4.nilSlc⟩
  case round =>
    obtain ⟨k, ra, rc, ls, rfl, hk, HL, hl, rfl, hs⟩ := hrel
    by_cases hlt : k < n
    · obtain ⟨y, hy, g, off, rfl, e0, e1, e2, e3, e4⟩ := HG.out.at hs.p3 hlt
      have hth : thereG (X.map (·.1)) ((k : Int) + 1) = !decide (y.1.kind = 0) := by unfold thereG; rw [objG_nat, List.getElem?_map, hy]; rfl
      have hsu := thoseK_succ (X.map (·.1)) (refsV l) b k
      rw [hth, HL.out] at hsu
      obtain ⟨⟨yk, yc, ys, yt, ym⟩, sa, sc⟩ := y
      dsimp only at e0 e1 e2 e3 e4 hsu
      have h5 := hs.alloc (.cells #[.int .i64 yk, .int .i64 yc, .slice sa ys.length sc, .string yt, .int .i64 ym] 39)
      obtain ⟨f0, f1, f2, f3, f4⟩ := boxO h5
      have hlk := look_seen h5.p3 ((k : Int) + 1)
      generalize hS : markL (X.map (·.1)) (refsV l) = S at *
      have HS := Lib.hid hS
      clear hy hth hS
      have h6 := h5.alloc (.cells #[.int .i64 ((k : Int) + 1)] 3)
      rw [size_alloc] at h6
      have b0 : ((wr.alloc (.cells #[.int .i64 yk, .int .i64 yc, .slice sa ys.length sc, .string yt, .int .i64 ym] 39)).alloc (.cells #[.int .i64 ((k : Int) + 1)] 3)).cell? ⟨wr.heap.size + 1, 0, none⟩ = some (.int .i64 ((k : Int) + 1)) := Sat.cell (T := 3) (cs := #[.int .i64 ((k : Int) + 1)]) h6 0 rfl
      have hw1 : IntKind.i64.wrap ((k : Int) + 1) = (k : Int) + 1 := IntWalk.i64_in _ (by omega)
      by_cases k0 : yk = 0
      · subst k0
        have HSU := Lib.hid (hsu.trans (List.append_nil _))
        clear hsu
        go_wp2_with fail
        go_roundw
        case rel => exact ⟨k + 1, ra, rc, ls, by go_num, by omega, Lib.hid HSU.out, by omega, rfl, h5.drop⟩
        case measure => simp [intOf]; omega
      · have hk0 : (yk != 0) = true := by simpa using k0
        rw [decide_eq_false k0] at hsu
        by_cases hx : (k : Int) + 1 ∈ S
        · rw [if_pos hx] at hlk
          rw [decide_eq_true hx] at hsu
          cases b with
          | true =>
            have HSU := Lib.hid hsu
            clear hsu k0 hx
            go_wp2_with (at_builtin; refine wpList_push rfl _ _ rfl ra ls.length rc ls rfl h6.p3 (wr.heap.size + 1) 1 ((k : Int) + 1) rfl b0 (by omega) ?_; intro a' c' w7 h7)
            go_roundw
            case rel =>
              refine ⟨k + 1, a', c', ls ++ [(k : Int) + 1], by go_num, by omega, Lib.hid HSU.out, by simp; omega, by simp, ?_⟩
              rw [List.length_append]
              exact h7.p3.drop.p2.drop
            case measure => simp [intOf]; omega
          | false =>
            have HSU := Lib.hid (hsu.trans (List.append_nil _))
            clear hsu k0 hx
            go_wp2_with fail
            go_roundw
            case rel => exact ⟨k + 1, ra, rc, ls, by go_num, by omega, Lib.hid HSU.out, by omega, rfl, h5.drop⟩
            case measure => simp [intOf]; omega
        · rw [if_neg hx] at hlk
          rw [decide_eq_false hx] at hsu
          cases b with
          | false =>
            have HSU := Lib.hid hsu
            clear hsu k0 hx
            go_wp2_with (at_builtin; refine wpList_push rfl _ _ rfl ra ls.length rc ls rfl h6.p3 (wr.heap.size + 1) 1 ((k : Int) + 1) rfl b0 (by omega) ?_; intro a' c' w7 h7)
            go_roundw
            case rel =>
              refine ⟨k + 1, a', c', ls ++ [(k : Int) + 1], by go_num, by omega, Lib.hid HSU.out, by simp; omega, by simp, ?_⟩
              rw [List.length_append]
              exact h7.p3.drop.p2.drop
            case measure => simp [intOf]; omega
          | true =>
            have HSU := Lib.hid (hsu.trans (List.append_nil _))
            clear hsu k0 hx
            go_wp2_with fail
            go_roundw
            case rel => exact ⟨k + 1, ra, rc, ls, by go_num, by omega, Lib.hid HSU.out, by omega, rfl, h5.drop⟩
            case measure => simp [intOf]; omega
    · have hkn : k = n := by omega
      subst hkn
      have e := HL.out.symm.trans HR.out
      subst e
      go_wp2
      go_ret
      exact ⟨ra, rc, rfl, hs.p2.drop.p3.drop⟩
/-- From and Lost, whatever the graph -/
theorem reach_From (h : Sat w0 w (SR * F)) (hG : SrcO w0 SR ga n c X) {a : Option Addr} {cl : Nat} {l : List AVal} (hS : SrcV w0 SR a l.length cl l) (hn : l.length ≤ 1000000) {R : List Int} (hR : thoseG (X.map (·.1)) (refsV l) true = R) :
    Calls Try.prog 17 #[.agg #[.slice ga n c], .slice a l.length cl] w fun e w' => ∃ ra rc, e = .returned (.slice ra R.length rc) ∧ Sat w0 w' (slc 3 1 ra R.length rc (R.map ival) * (SR * F)) := by
  cases hok : okG (X.map (·.1)) with
  | true =>
    have HH := Lib.hid (reach_those (h.alloc (.cells #[.slice ga n c] 24)).p2 hG hok hS hn true hR)
    clear hS hG hok hR
    go_enter Try.func17, Try.ntmps17
    go_wp2_with fail
    refine HH.out.mono ?_
    rintro e w3 ⟨ra, rc, rfl, h3⟩
    go_wp2_with fail
    go_ret
    exact ⟨ra, rc, rfl, h3.p3.drop⟩
  | false =>
    have : R = [] := by rw [← hR]; unfold thoseG; rw [hok]; rfl
    subst this
    have HH := Lib.hid (reach_those_no (h.alloc (.cells #[.slice ga n c] 24)).p2 hG hok (a := a) (cl := cl) (l := l) true)
    clear hS hG hok hR
    go_enter Try.func17, Try.ntmps17
    go_wp2_with fail
    refine HH.out.mono ?_
    rintro e w3 ⟨rfl, h3⟩
    go_wp2_with fail
    go_ret
    exact ⟨none, 0, rfl, h3.p2.drop.nilSlc⟩
theorem reach_Lost (h : Sat w0 w (SR * F)) (hG : SrcO w0 SR ga n c X) {a : Option Addr} {cl : Nat} {l : List AVal} (hS : SrcV w0 SR a l.length cl l) (hn : l.length ≤ 1000000) {R : List Int} (hR : thoseG (X.map (·.1)) (refsV l) false = R) :
    Calls Try.prog 19 #[.agg #[.slice ga n c], .slice a l.length cl] w fun e w' => ∃ ra rc, e = .returned (.slice ra R.length rc) ∧ Sat w0 w' (slc 3 1 ra R.length rc (R.map ival) * (SR * F)) := by
  cases hok : okG (X.map (·.1)) with
  | true =>
    have HH := Lib.hid (reach_those (h.alloc (.cells #[.slice ga n c] 24)).p2 hG hok hS hn false hR)
    clear hS hG hok hR
    go_enter Try.func19, Try.ntmps19
    go_wp2_with fail
    refine HH.out.mono ?_
    rintro e w3 ⟨ra, rc, rfl, h3⟩
    go_wp2_with fail
    go_ret
    exact ⟨ra, rc, rfl, h3.p3.drop⟩
  | false =>
    have : R = [] := by rw [← hR]; unfold thoseG; rw [hok]; rfl
    subst this
    have HH := Lib.hid (reach_those_no (h.alloc (.cells #[.slice ga n c] 24)).p2 hG hok (a := a) (cl := cl) (l := l) false)
    clear hS hG hok hR
    go_enter Try.func19, Try.ntmps19
    go_wp2_with fail
    refine HH.out.mono ?_
    rintro e w3 ⟨rfl, h3⟩
    go_wp2_with fail
    go_ret
    exact ⟨none, 0, rfl, h3.p2.drop.nilSlc⟩
end
end Go.Proofs.Ytmngkodejlhalaa.Tw
