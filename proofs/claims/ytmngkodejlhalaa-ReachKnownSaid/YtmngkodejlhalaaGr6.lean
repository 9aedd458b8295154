/- graph.Holders; reach.there. No condition. -/
import Derived.Test.YtmngkodejlhalaaGr5
namespace Go.Proofs.Ytmngkodejlhalaa.Tw
set_option linter.unusedVariables false
set_option linter.unusedSimpArgs false
open Go Go.RowKit Go.MapKept

def holdL (L : List AObj) (n : Int) (k : Nat) : List Int := ((List.range k).filter fun (i : Nat) => decide (n ∈ kids L ((i : Int) + 1))).map fun (i : Nat) => ((i : Int) + 1)
/-- the objects that hold one -/
def holdersG (L : List AObj) (n : Int) : List Int := if okG L then holdL L n L.length else []
theorem holdL_len (L : List AObj) (n : Int) (k : Nat) : (holdL L n k).length ≤ k := by
  unfold holdL
  rw [List.length_map]
  have := List.length_filter_le (fun (i : Nat) => decide (n ∈ kids L ((i : Int) + 1))) (List.range k)
  simpa using this
theorem holdL_succ (L : List AObj) (n : Int) (k : Nat) : holdL L n (k + 1) = holdL L n k ++ if n ∈ kids L ((k : Int) + 1) then [(k : Int) + 1] else [] := by
  unfold holdL
  rw [List.range_succ, List.filter_append, List.map_append]
  by_cases h : n ∈ kids L ((k : Int) + 1) <;> simp [List.filter_cons, h]
theorem kids_nat {L : List AObj} {k : Nat} {o : AObj} (h : L[k]? = some o) : kids L ((k : Int) + 1) = refsV o.slots := by
  unfold kids; rw [objG_nat, h]
section
variable {w0 w : World} {SR F : HP} {ga : Option Addr} {n c : Nat} {X : List XObj}
theorem graph_Holders_no (h : Sat w0 w (SR * F)) (hG : SrcO w0 SR ga n c X) (x : Int) (hno : okG (X.map (·.1)) = false) :
    Calls Try.prog 28 #[.agg #[.slice ga n c], .int .i64 x] w fun e w' => e = .returned (.slice none 0 0) ∧ Sat w0 w' (SR * F) := by
  have hb := (h.alloc (.cells #[.slice ga n c] 24))
  generalize hgb : w.heap.size = gb at *
  have c0 := boxG hb
  have hC := graph_Check hb.p2 hG
  rw [hno] at hC
  have HC := Lib.hid hC
  clear hC hno hG
  go_enter Try.func28, Try.ntmps28
  try rw [hgb]
  go_wp2_with fail
  refine HC.out.mono ?_
  rintro e w3 ⟨rfl, h3⟩
  go_wp2_with fail
  go_ret
  exact ⟨rfl, h3.p2.drop⟩
set_option maxRecDepth 100000 in
set_option maxHeartbeats 2000000 in
theorem graph_Holders (h : Sat w0 w (SR * F)) (hG : SrcO w0 SR ga n c X) (x : Int) (hok : okG (X.map (·.1)) = true) {R : List Int} (hR : holdersG (X.map (·.1)) x = R) :
    Calls Try.prog 28 #[.agg #[.slice ga n c], .int .i64 x] w fun e w' => ∃ ra rc, e = .returned (.slice ra R.length rc) ∧ Sat w0 w' (slc 3 1 ra R.length rc (R.map ival) * (SR * F)) := by
  have hb := (h.alloc (.cells #[.slice ga n c] 24))
  generalize hgb : w.heap.size = gb at *
  have c0 := boxG hb
  have hC := graph_Check hb.p2 hG
  rw [hok] at hC
  have hR2 : holdL (X.map (·.1)) x n = R := by rw [← hR]; unfold holdersG; rw [if_pos hok, List.length_map, hG.len]
  have hRl : R.length ≤ n := by rw [← hR2]; exact holdL_len _ _ _
  have HR := Lib.hid hR2
  have HC := Lib.hid hC
  have HG := Lib.hid hG
  have hcap := hG.cap
  have hsm := hG.small
  clear hC hok hG hR hR2
  go_enter Try.func28, Try.ntmps28
  try rw [hgb]
  go_wp2_with fail
  refine HC.out.mono ?_
  rintro e w3 ⟨rfl, h3⟩
  have d0 := boxG h3.p2
  clear HC c0 hb h
  go_wp2_with fail
  go_loopw [5, 14] (fun ov iv wr => ∃ (k : Nat) (ra : Option Addr) (rc : Nat) (l : List Int), iv = .int .i64 k ∧ k ≤ n ∧ Hid (holdL (X.map (·.1)) x k = l) ∧ l.length ≤ k ∧ ov = .slice ra l.length rc ∧ Sat w0 wr (slc 3 1 ra l.length rc (l.map ival) * (SR * (pt gb (.cells #[.slice ga n c] 24 (0, 0)) * F)))) (fun _ iv _ => n - (intOf iv).toNat)
  case atStart => exact ⟨0, none, 0, [], rfl, by omega, Lib.hid rfl, by simp, rfl, h3.nilSlc⟩
  case round =>
    obtain ⟨k, ra, rc, l, rfl, hk, HL, hl, rfl, hs⟩ := hrel
    by_cases hlt : k < n
    · obtain ⟨y, hy, g, off, rfl, e0, e1, e2, e3, e4⟩ := HG.out.at hs.p2 hlt
      have hsl := HG.out.slots y (List.mem_of_getElem? hy)
      have hkd : kids (X.map (·.1)) ((k : Int) + 1) = refsV y.1.slots := kids_nat (by rw [List.getElem?_map, hy]; rfl)
      have hsu := holdL_succ (X.map (·.1)) x k
      rw [hkd, HL.out] at hsu
      obtain ⟨⟨yk, yc, ys, yt, ym⟩, sa, sc⟩ := y
      dsimp only at e0 e1 e2 e3 e4 hsl hsu
      have hrl : (refsV ys).length ≤ 1000000 := by have h1 := refsV_len ys ys.length; rw [List.take_of_length_le (Nat.le_refl _)] at h1; have := hsl.2; omega
      have h4 := hs.alloc (.cells #[.int .i64 yk, .int .i64 yc, .slice sa ys.length sc, .string yt, .int .i64 ym] 39)
      obtain ⟨f0, f1, f2, f3, f4⟩ := boxO h4
      have hV := val_Refs (h4.p3) hsl.1 hsl.2
      have HV := Lib.hid hV
      clear hV hsl hy hkd
      generalize hrs : refsV ys = rs at *
      have HRS := Lib.hid hrs
      clear hrs
      by_cases hx : x ∈ rs
      · rw [if_pos hx] at hsu
        have HSU := Lib.hid hsu
        have hd := decide_eq_true hx
        clear hsu hx
        go_wp2_with fail
        refine HV.out.mono ?_
        rintro e w5 ⟨va, vc, rfl, h5⟩
        have hct := contains_int x h5 rfl (by omega)
        rw [hd] at hct
        have HCT := Lib.hid hct
        clear hct hd
        go_wp2_with fail
        refine HCT.out.mono ?_
        rintro e w6 ⟨rfl, rfl⟩
        have h6 := h5.alloc (.cells #[.int .i64 ((k : Int) + 1)] 3)
        have b0 : (w5.alloc (.cells #[.int .i64 ((k : Int) + 1)] 3)).cell? ⟨w5.heap.size, 0, none⟩ = some (.int .i64 ((k : Int) + 1)) := Sat.cell (T := 3) (cs := #[.int .i64 ((k : Int) + 1)]) h6 0 rfl
        go_wp2_with (at_builtin; refine wpList_push rfl _ _ rfl ra l.length rc l rfl h6.p5 w5.heap.size 1 ((k : Int) + 1) rfl b0 (by omega) ?_; intro a' c' w7 h7)
        go_roundw
        case rel =>
          refine ⟨k + 1, a', c', l ++ [(k : Int) + 1], by go_num, by omega, Lib.hid HSU.out, by simp; omega, by simp, ?_⟩
          rw [List.length_append]
          exact h7.p2.drop.p2.drop.p3.drop
        case measure => simp [intOf]; omega
      · rw [if_neg hx, List.append_nil] at hsu
        have HSU := Lib.hid hsu
        have hd := decide_eq_false hx
        clear hsu hx
        go_wp2_with fail
        refine HV.out.mono ?_
        rintro e w5 ⟨va, vc, rfl, h5⟩
        have hct := contains_int x h5 rfl (by omega)
        rw [hd] at hct
        have HCT := Lib.hid hct
        clear hct hd
        go_wp2_with fail
        refine HCT.out.mono ?_
        rintro e w6 ⟨rfl, rfl⟩
        go_wp2_with fail
        go_roundw
        case rel => exact ⟨k + 1, ra, rc, l, by go_num, by omega, Lib.hid HSU.out, by omega, rfl, h5.drop.p3.p3.drop⟩
        case measure => simp [intOf]; omega
    · have hkn : k = n := by omega
      subst hkn
      have e := HL.out.symm.trans HR.out
      subst e
      go_wp2
      go_ret
      exact ⟨ra, rc, rfl, hs.p3.drop.cast (by ac_rfl)⟩
theorem there_fn (gb : Nat) (hG : SrcO w0 SR ga n c X) : Asks w0 88 #[.pointer (some ⟨gb, 0, none⟩)] (pt gb (.cells #[.slice ga n c] 24 (0, 0)) * SR) (fun x => !thereG (X.map (·.1)) x) := by
  intro w1 G x h
  have c0 := boxG h.assoc
  have HH := Lib.hid h
  have hcap := hG.cap
  have hsm := hG.small
  show Calls Try.prog 88 #[.int .i64 x, .pointer (some ⟨gb, 0, none⟩)] w1 _
  by_cases h1 : x < 1
  · have HE := Lib.hid (show (!thereG (X.map (·.1)) x) = true by unfold thereG objG; rw [if_neg (by omega)]; rfl)
    clear h hG
    go_enter Try.func88, Try.ntmps88
    go_wp2
    go_ret
    exact ⟨by rw [HE.out]; rfl, HH.out⟩
  by_cases h2 : (n : Int) < x
  · have HE := Lib.hid (show (!thereG (X.map (·.1)) x) = true by
      unfold thereG objG
      rw [if_pos (by omega), List.getElem?_eq_none (by rw [List.length_map, hG.len]; omega)]; rfl)
    clear h hG
    go_enter Try.func88, Try.ntmps88
    go_wp2
    go_ret
    exact ⟨by rw [HE.out]; rfl, HH.out⟩
  obtain ⟨j, rfl⟩ : ∃ j : Nat, x = (j : Int) + 1 := ⟨(x - 1).toNat, by omega⟩
  obtain ⟨y, hy, g, off, rfl, d0, _⟩ := hG.at h.assoc.p2 (show j < n by omega)
  have he : (!thereG (X.map (·.1)) ((j : Int) + 1)) = decide (y.1.kind = 0) := by
    unfold thereG
    rw [objG_nat, List.getElem?_map, hy]
    simp
  have HE := Lib.hid he
  have hj1 : (j : Int) + 1 - 1 = j := by omega
  clear h hG he hy
  obtain ⟨⟨yk, yc, ys, yt, ym⟩, sa, sc⟩ := y
  dsimp only at d0
  go_enter Try.func88, Try.ntmps88
  go_wp2
  all_goals
    go_ret
    exact ⟨by rw [HE.out]; simp [*]; try (rw [Bool.eq_iff_iff]; simp), HH.out⟩
theorem reach_there {a : Option Addr} {m k : Nat} {l : List Int} (h : Sat w0 w (slc 3 1 a m k (l.map ival) * (SR * F))) (hG : SrcO w0 SR ga n c X) (hl : l.length = m) (hm : m ≤ 1000000) {R : List Int} (hR : l.filter (thereG (X.map (·.1))) = R) :
    Calls Try.prog 50 #[.agg #[.slice ga n c], .slice a m k] w fun e w' => e = .returned (.slice a R.length k) ∧ Sat w0 w' (slc 3 1 a R.length k (R.map ival) * (SR * F)) := by
  have hb := (h.alloc (.cells #[.slice ga n c] 24))
  generalize hgb : w.heap.size = gb at *
  have hD := deleteFunc_int (fun x => !thereG (X.map (·.1)) x) 88 #[.pointer (some ⟨gb, 0, none⟩)] (enters_of Try.func88 (by kernel_rfl) rfl) (there_fn gb hG) (hb.cast (show _ = slc 3 1 a m k (l.map ival) * ((pt gb (.cells #[.slice ga n c] 24 (0, 0)) * SR) * F) by ac_rfl)) hl (by omega)
  simp only [Bool.not_not] at hD
  rw [hR] at hD
  have HD := Lib.hid hD
  clear hD hG hR
  go_enter Try.func50, Try.ntmps50
  try rw [hgb]
  go_wp2_with fail
  refine HD.out.mono ?_
  rintro e w3 ⟨rfl, h3⟩
  go_wp2_with fail
  go_ret
  exact ⟨rfl, h3.p2.assoc.drop.p2⟩
end
end Go.Proofs.Ytmngkodejlhalaa.Tw
