/- reach: those, From, Lost. No condition. -/
import Derived.Test.YtmngkodejlhalaaZRPaths8
import Derived.Test.YtmngkodejlhalaaZRPaths6
namespace Go.Proofs.Ytmngkodejlhalaa.Tw
set_option linter.unusedVariables false
set_option linter.unusedSimpArgs false
open Go Go.RowKit Go.MapKept

def thoseK (L : List AObj) (rs : List Int) (b : Bool) (k : Nat) : List Int := ((List.range k).map fun (i : Nat) => ((i : Int) + 1)).filter fun n => thereG L n && (decide (n ∈ markL L rs) == b)
theorem thoseK_len (L : List AObj) (rs : List Int) (b : Bool) (k : Nat) : (thoseK L rs b k).length ≤ k := by
  unfold thoseK
  have := List.length_filter_le (fun n => thereG L n && (decide (n ∈ markL L rs) == b)) ((List.range k).map fun (i : Nat) => ((i : Int) + 1))
  simpa using this
theorem thoseK_succ (L : List AObj) (rs : List Int) (b : Bool) (k : Nat) : thoseK L rs b (k + 1) = thoseK L rs b k ++ if (thereG L ((k : Int) + 1) && (decide ((k : Int) + 1 ∈ markL L rs) == b)) = true then [(k : Int) + 1] else [] := by
  unfold thoseK
  rw [List.range_succ, List.map_append, List.filter_append]
  cases h : (thereG L ((k : Int) + 1) && (decide ((k : Int) + 1 ∈ markL L rs) == b)) <;> simp [List.filter_cons, h]
section
variable {w0 w : World} {SR F : HP} {ga : Option Addr} {n c : Nat} {X : List XObj}
theorem reach_those_no (h : Sat w0 w (SR * F)) (hG : SrcO w0 SR ga n c X) (hno : okG (X.map (·.1)) = false) {a : Option Addr} {cl : Nat} {l : List AVal} (b : Bool) :
    Calls Try.prog 46 #[.agg #[.slice ga n c], .slice a l.length cl, .bool b] w fun e w' => e = .returned (.slice none 0 0) ∧ Sat w0 w' (SR * F) := by
  have hb := (h.alloc (.cells #[.slice ga n c] 24))
  generalize hgb : w.heap.size = gb at *
  have c0 := boxG hb
  have hC := graph_Check hb.p2 hG
  rw [hno] at hC
  have HC := Lib.hid hC
  clear hC hno hG
  go_enter Try.func46, Try.ntmps46
  try rw [hgb]
  go_wp2_with fail
  refine HC.out.mono ?_
  rintro e w3 ⟨rfl, h3⟩
  go_wp2_with fail
  go_ret
  exact ⟨rfl, h3.p2.drop⟩
set_option maxRecDepth 100000 in
set_option maxHeartbeats 4000000 in
theorem reach_those (h : Sat w0 w (SR * F)) (hG : SrcO w0 SR ga n c X) (hok : okG (X.map (·.1)) = true) {a : Option Addr} {cl : Nat} {l : List AVal} (hS : SrcV w0 SR a l.length cl l) (hn : l.length ≤ 1000000) (b : Bool) {R : List Int} (hR : thoseG (X.map (·.1)) (refsV l) b = R) :
    Calls Try.prog 46 #[.agg #[.slice ga n c], .slice a l.length cl, .bool b] w fun e w' => ∃ ra rc, e = .returned (.slice ra R.length rc) ∧ Sat w0 w' (slc 3 1 ra R.length rc (R.map ival) * (SR * F)) := by
  have hb := (h.alloc (.cells #[.slice ga n c] 24))
  generalize hgb : w.heap.size = gb at *
  have c0 := boxG hb
  have hC := graph_Check hb.p2 hG
  rw [hok] at hC
  have hR2 : thoseK (X.map (·.1)) (refsV l) b n = R := by rw [← hR]; unfold thoseG; rw [if_pos hok, List.length_map, hG.len]; rfl
  have hRl : R.length ≤ n := by rw [← hR2]; exact thoseK_len _ _ _ _
  have HR := Lib.hid hR2
  have HC := Lib.hid hC
  have HG := Lib.hid hG
  have HM := Lib.hid (fun w' F' (h' : Sat w0 w' (SR * F')) => reach_marked hG hok hS hn h')
  have hcap := hG.cap
  have hsm := hG.small
  clear hC hok hG hR hR2 hS
  go_enter Try.func46, Try.ntmps46
  try rw [hgb]
  go_wp2_with fail
  refine HC.out.mono ?_
  rintro e w3 ⟨rfl, h3⟩
  have d0 := boxG h3.p2
  clear HC c0 hb h
  go_wp2_with fail
  refine (HM.out w3 _ h3).mono ?_
  rintro e w4 ⟨m, rfl, h4⟩
  have d1 := boxG h4.p3
  clear h3 d0 HM
  go_wp2_with fail
  go_loopw [7, 20] (fun ov iv wr => ∃ (k : Nat) (ra : Option Addr) (rc : Nat) (ls : List Int), iv = .int .i64 k ∧ k ≤ n ∧ Hid (thoseK (X.map (·.1)) (refsV l) b k = ls) ∧ ls.length ≤ k ∧ ov = .slice ra ls.length rc ∧ Sat w0 wr (slc 3 1 ra ls.length rc (ls.map ival) * (seenR m (markL (X.map (·.1)) (refsV l)) * (SR * (pt gb (.cells #[.slice ga n c] 24 (0, 0)) * F))))) (fun _ iv _ => n - (intOf iv).toNat)
  case atStart => exact ⟨0, none, 0, [], rfl, by omega, Lib.hid rfl, by simp, rfl, h4.nilSlc⟩
  case round =>
    obtain ⟨k, ra, rc, ls, rfl, hk, HL, hl, rfl, hs⟩ := hrel
    by_cases hlt : k < n
    · obtain ⟨y, hy, g, off, rfl, e0, e1, e2, e3, e4⟩ := HG.out.at hs.p3 hlt
      have hth : thereG (X.map (·.1)) ((k : Int) + 1) = !decide (y.1.kind = 0) := by unfold thereG; rw [objG_nat, List.getElem?_map, hy]; rfl
      have hsu := thoseK_succ (X.map (·.1)) (refsV l) b k
      rw [hth, HL.out] at hsu
      obtain ⟨⟨yk, yc, ys, yt, ym⟩, sa, sc⟩ := y
      dsimp only at e0 e1 e2 e3 e4 hsu
      have h5 := hs.alloc (.cells #[.int .i64 yk, .int .i64 yc, .slice sa ys.length sc, .string yt, .int .i64 ym] 39)
      obtain ⟨f0, f1, f2, f3, f4⟩ := boxO h5
      have hlk := look_seen h5.p3 ((k : Int) + 1)
      generalize hS : markL (X.map (·.1)) (refsV l) = S at *
      have HS := Lib.hid hS
      clear hy hth hS
      have h6 := h5.alloc (.cells #[.int .i64 ((k : Int) + 1)] 3)
      rw [size_alloc] at h6
      have b0 : ((wr.alloc (.cells #[.int .i64 yk, .int .i64 yc, .slice sa ys.length sc, .string yt, .int .i64 ym] 39)).alloc (.cells #[.int .i64 ((k : Int) + 1)] 3)).cell? ⟨wr.heap.size + 1, 0, none⟩ = some (.int .i64 ((k : Int) + 1)) := Sat.cell (T := 3) (cs := #[.int .i64 ((k : Int) + 1)]) h6 0 rfl
      have hw1 : IntKind.i64.wrap ((k : Int) + 1) = (k : Int) + 1 := IntWalk.i64_in _ (by omega)
      by_cases k0 : yk = 0
      · subst k0
        have HSU := Lib.hid (hsu.trans (List.append_nil _))
        clear hsu
        go_wp2_with fail
        go_roundw
        case rel => exact ⟨k + 1, ra, rc, ls, by go_num, by omega, Lib.hid HSU.out, by omega, rfl, h5.drop⟩
        case measure => simp [intOf]; omega
      · have hk0 : (yk != 0) = true := by simpa using k0
        rw [decide_eq_false k0] at hsu
        by_cases hx : (k : Int) + 1 ∈ S
        · rw [if_pos hx] at hlk
          rw [decide_eq_true hx] at hsu
          cases b with
          | true =>
            have HSU := Lib.hid hsu
            clear hsu k0 hx
            go_wp2_with (at_builtin; refine wpList_push rfl _ _ rfl ra ls.length rc ls rfl h6.p3 (wr.heap.size + 1) 1 ((k : Int) + 1) rfl b0 (by omega) ?_; intro a' c' w7 h7)
            go_roundw
            case rel =>
              refine ⟨k + 1, a', c', ls ++ [(k : Int) + 1], by go_num, by omega, Lib.hid HSU.out, by simp; omega, by simp, ?_⟩
              rw [List.length_append]
              exact h7.p3.drop.p2.drop
            case measure => simp [intOf]; omega
          | false =>
            have HSU := Lib.hid (hsu.trans (List.append_nil _))
            clear hsu k0 hx
            go_wp2_with fail
            go_roundw
            case rel => exact ⟨k + 1, ra, rc, ls, by go_num, by omega, Lib.hid HSU.out, by omega, rfl, h5.drop⟩
            case measure => simp [intOf]; omega
        · rw [if_neg hx] at hlk
          rw [decide_eq_false hx] at hsu
          cases b with
          | false =>
            have HSU := Lib.hid hsu
            clear hsu k0 hx
            go_wp2_with (at_builtin; refine wpList_push rfl _ _ rfl ra ls.length rc ls rfl h6.p3 (wr.heap.size + 1) 1 ((k : Int) + 1) rfl b0 (by omega) ?_; intro a' c' w7 h7)
            go_roundw
            case rel =>
              refine ⟨k + 1, a', c', ls ++ [(k : Int) + 1], by go_num, by omega, Lib.hid HSU.out, by simp; omega, by simp, ?_⟩
              rw [List.length_append]
              exact h7.p3.drop.p2.drop
            case measure => simp [intOf]; omega
          | true =>
            have HSU := Lib.hid (hsu.trans (List.append_nil _))
            clear hsu k0 hx
            go_wp2_with fail
            go_roundw
            case rel => exact ⟨k + 1, ra, rc, ls, by go_num, by omega, Lib.hid HSU.out, by omega, rfl, h5.drop⟩
            case measure => simp [intOf]; omega
    · have hkn : k = n := by omega
      subst hkn
      have e := HL.out.symm.trans HR.out
      subst e
      go_wp2
      go_ret
      exact ⟨ra, rc, rfl, hs.p2.drop.p3.drop⟩
/-- From and Lost, whatever the graph -/
theorem reach_From (h : Sat w0 w (SR * F)) (hG : SrcO w0 SR ga n c X) {a : Option Addr} {cl : Nat} {l : List AVal} (hS : SrcV w0 SR a l.length cl l) (hn : l.length ≤ 1000000) {R : List Int} (hR : thoseG (X.map (·.1)) (refsV l) true = R) :
    Calls Try.prog 17 #[.agg #[.slice ga n c], .slice a l.length cl] w fun e w' => ∃ ra rc, e = .returned (.slice ra R.length rc) ∧ Sat w0 w' (slc 3 1 ra R.length rc (R.map ival) * (SR * F)) := by
  cases hok : okG (X.map (·.1)) with
  | true =>
    have HH := Lib.hid (reach_those (h.alloc (.cells #[.slice ga n c] 24)).p2 hG hok hS hn true hR)
    clear hS hG hok hR
    go_enter Try.func17, Try.ntmps17
    go_wp2_with fail
    refine HH.out.mono ?_
    rintro e w3 ⟨ra, rc, rfl, h3⟩
    go_wp2_with fail
    go_ret
    exact ⟨ra, rc, rfl, h3.p3.drop⟩
  | false =>
    have : R = [] := by rw [← hR]; unfold thoseG; rw [hok]; rfl
    subst this
    have HH := Lib.hid (reach_those_no (h.alloc (.cells #[.slice ga n c] 24)).p2 hG hok (a := a) (cl := cl) (l := l) true)
    clear hS hG hok hR
    go_enter Try.func17, Try.ntmps17
    go_wp2_with fail
    refine HH.out.mono ?_
    rintro e w3 ⟨rfl, h3⟩
    go_wp2_with fail
    go_ret
    exact ⟨none, 0, rfl, h3.p2.drop.nilSlc⟩
theorem reach_Lost (h : Sat w0 w (SR * F)) (hG : SrcO w0 SR ga n c X) {a : Option Addr} {cl : Nat} {l : List AVal} (hS : SrcV w0 SR a l.length cl l) (hn : l.length ≤ 1000000) {R : List Int} (hR : thoseG (X.map (·.1)) (refsV l) false = R) :
    Calls Try.prog 19 #[.agg #[.slice ga n c], .slice a l.length cl] w fun e w' => ∃ ra rc, e = .returned (.slice ra R.length rc) ∧ Sat w0 w' (slc 3 1 ra R.length rc (R.map ival) * (SR * F)) := by
  cases hok : okG (X.map (·.1)) with
  | true =>
    have HH := Lib.hid (reach_those (h.alloc (.cells #[.slice ga n c] 24)).p2 hG hok hS hn false hR)
    clear hS hG hok hR
    go_enter Try.func19, Try.ntmps19
    go_wp2_with fail
    refine HH.out.mono ?_
    rintro e w3 ⟨ra, rc, rfl, h3⟩
    go_wp2_with fail
    go_ret
    exact ⟨ra, rc, rfl, h3.p3.drop⟩
  | false =>
    have : R = [] := by rw [← hR]; unfold thoseG; rw [hok]; rfl
    subst this
    have HH := Lib.hid (reach_those_no (h.alloc (.cells #[.slice ga n c] 24)).p2 hG hok (a := a) (cl := cl) (l := l) false)
    clear hS hG hok hR
    go_enter Try.func19, Try.ntmps19
    go_wp2_with fail
    refine HH.out.mono ?_
    rintro e w3 ⟨rfl, h3⟩
    go_wp2_with fail
    go_ret
    exact ⟨none, 0, rfl, h3.p2.drop.nilSlc⟩
end
end Go.Proofs.Ytmngkodejlhalaa.Tw
namespace Go.Proofs.Ytmngkodejlhalaa.Tw
set_option linter.unusedVariables false
set_option linter.unusedSimpArgs false
open Go Go.RowKit

/-- 'to' is reached from n in k steps at most -/
def near (L : List AObj) (to : Int) : Nat → Int → Bool
  | 0, n => decide (n = to)
  | k + 1, n => near L to k n || (kids L n).any (near L to k)
def exact (L : List AObj) (to : Int) : Nat → Int → Bool
  | 0, n => near L to 0 n
  | k + 1, n => near L to (k + 1) n && !near L to k n
theorem near_succ {L : List AObj} {to : Int} {k : Nat} {n : Int} (h : near L to k n = true) : near L to (k + 1) n = true := by
  unfold near; rw [h]; rfl
theorem near_mono {L : List AObj} {to : Int} {k j : Nat} {n : Int} (h : near L to k n = true) (hj : k ≤ j) : near L to j n = true := by
  induction hj with
  | refl => exact h
  | step _ ih => exact near_succ ih
theorem near_kid {L : List AObj} {to : Int} {k : Nat} {n m : Int} (hm : m ∈ kids L n) (h : near L to k m = true) : near L to (k + 1) n = true := by
  unfold near
  rw [Bool.or_eq_true]
  exact .inr (List.any_eq_true.2 ⟨m, hm, h⟩)
theorem exact_near {L : List AObj} {to : Int} {k : Nat} {n : Int} (h : exact L to k n = true) : near L to k n = true := by
  cases k with
  | zero => exact h
  | succ k => unfold exact at h; simp only [Bool.and_eq_true] at h; exact h.1
theorem exact_not {L : List AObj} {to : Int} {k j : Nat} {n : Int} (h : exact L to k n = true) (hj : j < k) : near L to j n = false := by
  cases k with
  | zero => omega
  | succ k =>
    unfold exact at h
    simp only [Bool.and_eq_true, Bool.not_eq_true'] at h
    cases e : near L to j n with
    | false => rfl
    | true => rw [near_mono e (show j ≤ k by omega)] at h; cases h.2
theorem exact_unique {L : List AObj} {to : Int} {k j : Nat} {n : Int} (h : exact L to k n = true) (h' : exact L to j n = true) : k = j := by
  rcases Nat.lt_trichotomy k j with hl | hl | hl
  · have := exact_not h' hl; rw [exact_near h] at this; cases this
  · exact hl
  · have := exact_not h hl; rw [exact_near h'] at this; cases this
theorem near_exact {L : List AObj} {to : Int} {n : Int} : ∀ {k : Nat}, near L to k n = true → ∃ j, j ≤ k ∧ exact L to j n = true
  | 0, h => ⟨0, Nat.le_refl _, h⟩
  | k + 1, h => by
    cases e : near L to k n with
    | true =>
      obtain ⟨j, h1, h2⟩ := near_exact e
      exact ⟨j, by omega, h2⟩
    | false => exact ⟨k + 1, Nat.le_refl _, by show (near L to (k + 1) n && !near L to k n) = true; rw [h, e]; rfl⟩
/-- whoever is so far away holds one that is one step less -/
theorem exact_step {L : List AObj} {to : Int} {k : Nat} {n : Int} : exact L to (k + 1) n = true ↔ (∃ m ∈ kids L n, exact L to k m = true) ∧ near L to k n = false := by
  constructor
  · intro h
    have h0 := exact_not h (Nat.lt_succ_self k)
    refine ⟨?_, h0⟩
    have h1 := exact_near h
    unfold near at h1
    rw [h0, Bool.false_or, List.any_eq_true] at h1
    obtain ⟨m, hm, h2⟩ := h1
    obtain ⟨j, h3, h4⟩ := near_exact h2
    rcases Nat.lt_or_ge j k with h5 | h5
    · have := near_kid hm (exact_near h4)
      rw [near_mono this (show j + 1 ≤ k by omega)] at h0
      cases h0
    · obtain rfl : j = k := by omega
      exact ⟨m, hm, h4⟩
  · rintro ⟨⟨m, hm, h1⟩, h0⟩
    show (near L to (k + 1) n && !near L to k n) = true
    rw [near_kid hm (exact_near h1), h0]; rfl
theorem kids_some {L : List AObj} {n m : Int} (h : m ∈ kids L n) : 1 ≤ n ∧ n ≤ L.length := by
  unfold kids at h
  split at h
  · rename_i o ho
    have := objG_some ho; omega
  · cases h
/-- a row of objects, one for each distance -/
theorem exact_chain {L : List AObj} {to : Int} (ht : thereG L to = true) : ∀ {k : Nat} {n : Int}, exact L to k n = true → ∃ l : List Int, l.length = k + 1 ∧ l.Nodup ∧ (∀ x ∈ l, 1 ≤ x ∧ x ≤ L.length) ∧ ∀ x ∈ l, ∃ j, j ≤ k ∧ exact L to j x = true
  | 0, n, h => by
    have e : n = to := by unfold exact near at h; simpa using h
    have hr := thereG_range ht
    refine ⟨[n], rfl, by simp, fun x hx => ?_, fun x hx => ?_⟩
    · simp at hx; subst hx; rw [e]; exact hr
    · simp at hx; subst hx; exact ⟨0, Nat.le_refl _, h⟩
  | k + 1, n, h => by
    obtain ⟨⟨m, hm, h1⟩, _⟩ := exact_step.1 h
    obtain ⟨l, e1, e2, e3, e4⟩ := exact_chain ht h1
    refine ⟨n :: l, by simp [e1], List.nodup_cons.2 ⟨fun hn => ?_, e2⟩, fun x hx => ?_, fun x hx => ?_⟩
    · obtain ⟨j, hj, h2⟩ := e4 n hn
      have := exact_unique h h2; omega
    · rcases List.mem_cons.1 hx with rfl | hx
      · exact kids_some hm
      · exact e3 x hx
    · rcases List.mem_cons.1 hx with rfl | hx
      · exact ⟨k + 1, Nat.le_refl _, h⟩
      · obtain ⟨j, hj, h2⟩ := e4 x hx
        exact ⟨j, by omega, h2⟩
theorem nodup_len : ∀ (n : Nat) (l : List Int), l.Nodup → (∀ x ∈ l, 1 ≤ x ∧ x ≤ n) → l.length ≤ n
  | 0, l, _, h => by
    cases l with
    | nil => simp
    | cons x l => have := h x (by simp); omega
  | n + 1, l, hn, h => by
    by_cases hm : ((n : Int) + 1) ∈ l
    · have h1 := nodup_len n (l.erase ((n : Int) + 1)) (hn.erase _) (fun x hx => by
        have h1 := (hn.mem_erase_iff).1 hx
        have h2 := h x h1.2
        have h3 := h1.1
        omega)
      rw [List.length_erase_of_mem hm] at h1
      omega
    · have h1 := nodup_len n l hn (fun x hx => by
        have := h x hx
        have : x ≠ (n : Int) + 1 := fun e => hm (e ▸ hx)
        omega)
      omega
theorem exact_lt {L : List AObj} {to : Int} (ht : thereG L to = true) {k : Nat} {n : Int} (h : exact L to k n = true) : k < L.length := by
  obtain ⟨l, e1, e2, e3, _⟩ := exact_chain ht h
  have := nodup_len L.length l e2 e3
  omega
/-- how many objects the shortest way from n has; 0: there is none -/
def distG (L : List AObj) (to n : Int) : Nat := match (List.range L.length).find? (fun k => near L to k n) with | some k => k + 1 | none => 0
theorem distG_exact {L : List AObj} {to : Int} (ht : thereG L to = true) {k : Nat} {n : Int} : distG L to n = k + 1 ↔ exact L to k n = true := by
  unfold distG
  constructor
  · intro h
    cases e : (List.range L.length).find? (fun k => near L to k n) with
    | none => rw [e] at h; simp at h
    | some j =>
      rw [e] at h
      simp at h; subst h
      obtain ⟨h1, h2, h3⟩ := List.find?_range_eq_some.1 e
      obtain ⟨i, h4, h5⟩ := near_exact h1
      rcases Nat.lt_or_ge i j with h6 | h6
      · have := h3 i h6
        rw [exact_near h5] at this; cases this
      · obtain rfl : i = j := by omega
        exact h5
  · intro h
    have e : (List.range L.length).find? (fun k => near L to k n) = some k := List.find?_range_eq_some.2 ⟨exact_near h, by simpa using exact_lt ht h, fun j hj => by rw [exact_not h hj]; rfl⟩
    rw [e]
theorem distG_zero {L : List AObj} {to : Int} (ht : thereG L to = true) {n : Int} : distG L to n = 0 ↔ ∀ k, near L to k n = false := by
  constructor
  · intro h k
    cases e : near L to k n with
    | false => rfl
    | true =>
      obtain ⟨j, _, h2⟩ := near_exact e
      rw [(distG_exact ht).2 h2] at h; cases h
  · intro h
    cases e : distG L to n with
    | zero => rfl
    | succ k => have := exact_near ((distG_exact ht).1 e); rw [h k] at this; cases this
theorem distG_le {L : List AObj} {to : Int} (ht : thereG L to = true) (n : Int) : distG L to n ≤ L.length := by
  cases e : distG L to n with
  | zero => omega
  | succ k => have := exact_lt ht ((distG_exact ht).1 e); omega
theorem near_iff {L : List AObj} {to : Int} (ht : thereG L to = true) {k : Nat} {n : Int} : near L to k n = true ↔ distG L to n ≠ 0 ∧ distG L to n ≤ k + 1 := by
  constructor
  · intro h
    obtain ⟨j, h1, h2⟩ := near_exact h
    rw [(distG_exact ht).2 h2]; omega
  · rintro ⟨h1, h2⟩
    obtain ⟨j, hj⟩ : ∃ j, distG L to n = j + 1 := ⟨distG L to n - 1, by omega⟩
    exact near_mono (exact_near ((distG_exact ht).1 hj)) (by omega)
theorem distG_to {L : List AObj} {to : Int} (ht : thereG L to = true) : distG L to to = 1 := (distG_exact ht).2 (by unfold exact near; simp)
theorem distG_one {L : List AObj} {to n : Int} (ht : thereG L to = true) : distG L to n = 1 ↔ n = to := by
  rw [distG_exact ht]; unfold exact near; simp
/-- a holder is one step farther at most -/
theorem distG_kid {L : List AObj} {to n m : Int} (ht : thereG L to = true) (hm : m ∈ kids L n) (h : distG L to m ≠ 0) : distG L to n ≠ 0 ∧ distG L to n ≤ distG L to m + 1 := by
  obtain ⟨j, hj⟩ : ∃ j, distG L to m = j + 1 := ⟨distG L to m - 1, by omega⟩
  have := near_kid hm (exact_near ((distG_exact ht).1 hj))
  have := (near_iff ht).1 this
  omega
theorem distG_next {L : List AObj} {to n : Int} (ht : thereG L to = true) {k : Nat} (h : distG L to n = k + 2) : ∃ m ∈ kids L n, distG L to m = k + 1 := by
  obtain ⟨⟨m, h1, h2⟩, _⟩ := exact_step.1 ((distG_exact ht).1 h)
  exact ⟨m, h1, (distG_exact ht).2 h2⟩
theorem distG_reach {L : List AObj} {to : Int} (ht : thereG L to = true) (n : Int) : distG L to n ≠ 0 ↔ RG L n to := by
  constructor
  · intro h
    obtain ⟨k, hk⟩ : ∃ k, distG L to n = k + 1 := ⟨distG L to n - 1, by omega⟩
    clear h
    induction k generalizing n with
    | zero => rw [(distG_one ht).1 hk]; exact .refl
    | succ k ih =>
      obtain ⟨m, h1, h2⟩ := distG_next ht hk
      exact RG.head h1 (ih m h2)
  · intro h
    have key : ∀ a b, RG L a b → distG L to b ≠ 0 → distG L to a ≠ 0 := fun a b hab hb => by
      induction hab with
      | refl => exact hb
      | step _ h2 ih => exact ih (distG_kid ht h2 hb).1
    exact key n to h (by rw [distG_to ht]; omega)
end Go.Proofs.Ytmngkodejlhalaa.Tw
