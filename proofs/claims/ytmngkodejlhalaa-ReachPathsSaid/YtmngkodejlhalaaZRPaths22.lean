/- Reach, plainly: ways, and how many are there. No condition. -/
import Derived.Test.YtmngkodejlhalaaZRPaths21
import Derived.Test.YtmngkodejlhalaaZRPaths12
import Derived.Test.YtmngkodejlhalaaZRPaths9
namespace Go.Proofs.Ytmngkodejlhalaa.Tw
set_option linter.unusedVariables false
set_option linter.unusedSimpArgs false
open Go Go.RowKit

theorem refV6 {s : Int} (h : 1 ≤ s ∧ s ≤ 2147483647) : refV ⟨6, s⟩ = true := by simp [refV, mayV, within, h]
theorem path_ne {L : List AObj} {v : AVal} {x : Int} : 0 < (pathG L v x).length ↔ okG L = true ∧ refV v = true ∧ thereG L v.n = true ∧ thereG L x = true ∧ RG L v.n x := by
  unfold pathG
  split
  · rename_i h
    simp only [Bool.and_eq_true, Bool.not_eq_true', decide_eq_false_iff_not] at h
    obtain ⟨h1, h2, h3, h4, h5⟩ := h
    rw [pathF_len]
    exact ⟨fun _ => ⟨h1, h2, h3, h4, (distG_reach h4 _).1 h5⟩, fun _ => by omega⟩
  · rename_i h
    constructor
    · intro h; simp at h
    · rintro ⟨h1, h2, h3, h4, h5⟩
      exact absurd (by simp only [Bool.and_eq_true, Bool.not_eq_true', decide_eq_false_iff_not]; exact ⟨h1, h2, h3, h4, (distG_reach h4 _).2 h5⟩) h
/-- a way leads from a root to whatever is reached -/
theorem from_led {L : List AObj} {rs : List Int} {x : Int} (hp : ∀ r ∈ rs, 1 ≤ r ∧ r ≤ 2147483647) (h : x ∈ thoseG L rs true) : ∃ s ∈ rs, 0 < (pathG L ⟨6, s⟩ x).length := by
  obtain ⟨h1, h2⟩ := mem_fromG.1 h
  obtain ⟨r, hr, ht, hg⟩ := id h2
  exact ⟨r, hr, path_ne.2 ⟨h1, refV6 (hp r hr), ht, h2.there h1, hg⟩⟩
theorem from_root {L : List AObj} {rs : List Int} {s : Int} (hok : okG L = true) (hs : s ∈ rs) (ht : thereG L s = true) : s ∈ thoseG L rs true := mem_fromG.2 ⟨hok, s, hs, ht, .refl⟩
theorem from_kid {L : List AObj} {rs : List Int} {x y : Int} (h : x ∈ thoseG L rs true) (hy : y ∈ kids L x) : y ∈ thoseG L rs true := by
  obtain ⟨h1, h2⟩ := mem_fromG.1 h
  exact mem_fromG.2 ⟨h1, h2.next hy⟩
theorem from_or {L : List AObj} {rs : List Int} {x : Int} (hok : okG L = true) (ht : thereG L x = true) : (x ∈ thoseG L rs true ∧ x ∉ thoseG L rs false) ∨ (x ∉ thoseG L rs true ∧ x ∈ thoseG L rs false) := by
  by_cases h : RS L rs x
  · exact .inl ⟨mem_fromG.2 ⟨hok, h⟩, fun h' => (mem_lostG.1 h').2.2 h⟩
  · exact .inr ⟨fun h' => h (mem_fromG.1 h').2, mem_lostG.2 ⟨hok, ht, h⟩⟩
theorem none_in {L : List AObj} {rs : List Int} {x : Int} (ht : thereG L x = false) (b : Bool) : x ∉ thoseG L rs b := fun h => by
  rw [(mem_thoseG.1 h).2.1] at ht; cases ht
theorem there_at {L : List AObj} {i : Nat} {o : AObj} (h : L[i]? = some o) : thereG L ((i : Int) + 1) = !decide (o.kind = 0) := by unfold thereG; rw [objG_nat, h]
theorem kids_at {L : List AObj} {i : Nat} {o : AObj} (h : L[i]? = some o) : kids L ((i : Int) + 1) = refsV o.slots := by unfold kids; rw [objG_nat, h]
/-- how many of the first k are there -/
def thereN (L : List AObj) (k : Nat) : Nat := ((List.range k).filter fun (i : Nat) => thereG L ((i : Int) + 1)).length
theorem thereN_succ (L : List AObj) (k : Nat) : thereN L (k + 1) = thereN L k + if thereG L ((k : Int) + 1) then 1 else 0 := by
  unfold thereN
  rw [List.range_succ, List.filter_append, List.length_append]
  congr 1
  cases h : thereG L ((k : Int) + 1) <;> simp [h]
theorem thereN_le (L : List AObj) (k : Nat) : thereN L k ≤ k := by
  unfold thereN
  have := List.length_filter_le (fun (i : Nat) => thereG L ((i : Int) + 1)) (List.range k)
  simpa using this
theorem filter_two {α : Type} (p q : α → Bool) : ∀ l : List α, (l.filter fun x => p x && (q x == true)).length + (l.filter fun x => p x && (q x == false)).length = (l.filter p).length
  | [] => rfl
  | x :: l => by
    have := filter_two p q l
    cases hp : p x <;> cases hq : q x <;> simp [hp, hq] at this ⊢ <;> omega
theorem thoseG_two {L : List AObj} (hok : okG L = true) (rs : List Int) : (thoseG L rs true).length + (thoseG L rs false).length = thereN L L.length := by
  unfold thoseG thereN
  rw [if_pos hok, if_pos hok, filter_two (thereG L) (fun n => decide (n ∈ markL L rs)), List.filter_map, List.length_map]
  rfl
theorem thoseG_no {L : List AObj} (h : okG L = false) (rs : List Int) (b : Bool) : thoseG L rs b = [] := by unfold thoseG; rw [h]; rfl
end Go.Proofs.Ytmngkodejlhalaa.Tw
namespace Go.Proofs.Ytmngkodejlhalaa.Tw
set_option linter.unusedVariables false
set_option linter.unusedSimpArgs false
open Go Go.RowKit Go.MapKept

def distN (L : List AObj) (to : Int) (j : Nat) : Nat := distG L to ((j : Int) + 1)
/-- the row after r rounds, and of the next one i objects -/
def farL (L : List AObj) (to : Int) (r i : Nat) : List Int := (List.range L.length).map fun (j : Nat) => if distN L to j ≤ (if j < i then r + 1 else r) then (distN L to j : Int) else 0
theorem farL_len (L : List AObj) (to : Int) (r i : Nat) : (farL L to r i).length = L.length := by unfold farL; simp
theorem farL_at {L : List AObj} {to : Int} {r i j : Nat} (hj : j < L.length) : (farL L to r i)[j]? = some (if distN L to j ≤ (if j < i then r + 1 else r) then (distN L to j : Int) else 0) := by
  unfold farL; rw [List.getElem?_map, List.getElem?_range hj]; rfl
theorem farL_ext {L : List AObj} {to : Int} {r i : Nat} {l : List Int} (hl : l.length = L.length) (h : ∀ j, j < L.length → l[j]? = some (if distN L to j ≤ (if j < i then r + 1 else r) then (distN L to j : Int) else 0)) : l = farL L to r i := by
  apply List.ext_getElem?
  intro j
  by_cases hj : j < L.length
  · rw [h j hj, farL_at hj]
  · rw [List.getElem?_eq_none (by omega), List.getElem?_eq_none (by rw [farL_len]; omega)]
theorem distN_one {L : List AObj} {t : Nat} (ht : thereG L ((t : Int) + 1) = true) (j : Nat) : distN L ((t : Int) + 1) j = 1 ↔ j = t := by
  unfold distN; rw [distG_one ht]; omega
theorem farL_start {L : List AObj} {t : Nat} (ht : thereG L ((t : Int) + 1) = true) : (List.replicate L.length (0 : Int)).set t 1 = farL L ((t : Int) + 1) 1 0 := by
  refine farL_ext (by simp) fun j hj => ?_
  have h1 := distN_one ht j
  rw [List.getElem?_set, if_neg (Nat.not_lt_zero j)]
  by_cases e : t = j
  · subst e
    have e1 := h1.2 rfl
    rw [if_pos rfl, if_pos (by simpa using hj), e1]; rfl
  · rw [if_neg e]
    have : distN L ((t : Int) + 1) j ≠ 1 := fun q => e (h1.1 q).symm
    have e2 : (List.replicate L.length (0 : Int))[j]? = some 0 := by rw [List.getElem?_replicate, if_pos hj]
    rw [e2]
    congr 1
    split
    · omega
    · rfl
theorem farL_round (L : List AObj) (to : Int) (r : Nat) : farL L to r L.length = farL L to (r + 1) 0 :=
  farL_ext (farL_len _ _ _ _) fun j hj => by rw [farL_at hj, if_pos hj, if_neg (Nat.not_lt_zero j)]
theorem farL_skip {L : List AObj} {to : Int} {r i : Nat} (h : distN L to i ≠ r + 1) : farL L to r i = farL L to r (i + 1) :=
  farL_ext (farL_len _ _ _ _) fun j hj => by
    rw [farL_at hj]
    by_cases e : j = i
    · subst e
      rw [if_neg (Nat.lt_irrefl j), if_pos (Nat.lt_succ_self j)]
      by_cases h1 : distN L to j ≤ r
      · rw [if_pos h1, if_pos (by omega)]
      · rw [if_neg h1, if_neg (by omega)]
    · have : (j < i) ↔ (j < i + 1) := by omega
      simp only [this]
theorem farL_hit {L : List AObj} {to : Int} {r i : Nat} (h : distN L to i = r + 1) : (farL L to r i).set i ((r : Int) + 1) = farL L to r (i + 1) :=
  farL_ext (by rw [List.length_set, farL_len]) fun j hj => by
    rw [List.getElem?_set]
    by_cases e : i = j
    · subst e
      rw [if_pos rfl, if_pos (by rw [farL_len]; exact hj), if_pos (Nat.lt_succ_self i), h, if_pos (Nat.le_refl _)]
      congr 1
    · rw [if_neg e, farL_at hj]
      have : (j < i) ↔ (j < i + 1) := by omega
      simp only [this]
theorem farL_done {L : List AObj} {to : Int} (ht : thereG L to = true) : farL L to (L.length + 1) 0 = (List.range L.length).map fun (j : Nat) => (distN L to j : Int) := by
  unfold farL
  refine List.map_congr_left fun j _ => ?_
  have := distG_le ht ((j : Int) + 1)
  rw [if_neg (Nat.not_lt_zero j), if_pos (by unfold distN; omega)]
theorem farL_is {L : List AObj} {to : Int} {r i j : Nat} (hr : 1 ≤ r) : (if distN L to j ≤ (if j < i then r + 1 else r) then (distN L to j : Int) else 0) = (r : Int) ↔ distN L to j = r := by
  by_cases h : j < i
  · rw [if_pos h]; split <;> omega
  · rw [if_neg h]; split <;> omega
theorem dist_hit {L : List AObj} {to m : Int} {i r : Nat} (ht : thereG L to = true) (hm : m ∈ kids L ((i : Int) + 1)) (h : distG L to m = r) (hr : 1 ≤ r) (h0 : distN L to i = 0 ∨ r < distN L to i) : distN L to i = r + 1 := by
  have := distG_kid ht hm (by omega)
  unfold distN at *
  omega
theorem dist_none {L : List AObj} {to : Int} {i r : Nat} (ht : thereG L to = true) (hr : 1 ≤ r) (h : ∀ m ∈ kids L ((i : Int) + 1), distG L to m ≠ r) : distN L to i ≠ r + 1 := by
  intro e
  unfold distN at e
  obtain ⟨m, h1, h2⟩ := distG_next ht (n := (i : Int) + 1) (k := r - 1) (by omega)
  exact h m h1 (by omega)
section
variable {w0 w : World} {SR F : HP} {ga : Option Addr} {n c : Nat} {X : List XObj}
theorem Sat.madeRowISet {sb n j : Nat} (h : Sat w0 w (pt sb (.cells ((madeCells #[.int .i64 0] n).setIfInBounds j (.int .i64 1)) 3 (0, 0)) * F)) : Sat w0 w (rowI sb ((List.replicate n 0).set j 1) * F) := by
  rw [made_one] at h
  unfold rowI
  rw [List.map_set, List.map_replicate]
  have e : (List.replicate n (Value.int .i64 0)).toArray.setIfInBounds j (.int .i64 1) = ((List.replicate n (Value.int .i64 0)).set j (.int .i64 1)).toArray := List.setIfInBounds_toArray _ _ _
  rw [e] at h
  exact h
def OldRow (w0 w' : World) (L : List AObj) (to : Int) (sb : Nat) (G : HP) : Prop := Sat w0 w' (rowI sb ((List.range L.length).map fun (j : Nat) => (distN L to j : Int)) * G)
set_option maxRecDepth 100000 in
set_option maxHeartbeats 4000000 in
theorem ref_far (h : Sat w0 w (SR * F)) (hG : SrcO w0 SR ga n c X) (hok : okG (X.map (·.1)) = true) (to : Int) (ht : thereG (X.map (·.1)) to = true) :
    Calls Try.prog 59 #[.agg #[.slice ga n c], .int .i64 to] w fun e w' => ∃ sb, e = .returned (.slice (some ⟨sb, 0, none⟩) n n) ∧ OldRow w0 w' (X.map (·.1)) to sb (SR * F) := by
  have h1 := h.alloc (.cells #[.slice ga n c] 24)
  generalize hgb : w.heap.size = gb at *
  have c0 := boxG h1
  have hcap := hG.cap
  have hsm := hG.small
  have hXl : (X.map (·.1)).length = n := by rw [List.length_map, hG.len]
  have htr := thereG_range ht
  rw [hXl] at htr
  obtain ⟨t, rfl⟩ : ∃ t : Nat, to = (t : Int) + 1 := ⟨(to - 1).toNat, by omega⟩
  have htn : t < n := by omega
  obtain ⟨i0, hi, hz0, hz1, hz2⟩ := info_parts info_intF
  have hmk := run_makeSlice (P := Try.prog) (w := w.alloc (.cells #[.slice ga n c] 24)) 28 3 i0 _ Try.underlying28 hi hz0 .i64 .i64 (n : Int) (n : Int) (by omega) (by omega) (by rw [hz1]; omega) (by rw [hz2]; omega) (by omega)
  have h2 := h1.alloc (.cells (madeCells #[.int .i64 0] n) 3)
  rw [size_alloc, hgb] at h2
  have h3 := h2.madeRowI
  rw [hz1] at hmk
  have hss : (w.alloc (.cells #[.slice ga n c] 24)).heap.size = gb + 1 := by rw [size_alloc, hgb]
  rw [hss, Nat.mul_one] at hmk
  replace hmk : (Instr.makeSlice 28 (.int .i64 (n : Int)) (.int .i64 (n : Int))).run Try.prog (w.alloc (.cells #[.slice ga n c] 24)) = .ok (.slice (some ⟨gb + 1, 0, none⟩) n n) ((w.alloc (.cells #[.slice ga n c] 24)).alloc (.cells (madeCells #[.int .i64 0] n) 3)) := hmk
  have h5 := h1.alloc (.cells ((madeCells #[.int .i64 0] n).setIfInBounds t (.int .i64 1)) 3)
  rw [size_alloc, hgb] at h5
  generalize hsb : gb + 1 = sb at *
  have ⟨z0, z1⟩ := rowICell (j := t) (b := 0) h3 (by rw [List.getElem?_replicate, if_pos htn])
  have H3 := Lib.hid (show Sat w0 _ (rowI sb (farL (X.map (·.1)) ((t : Int) + 1) 1 0) * (SR * (pt gb (.cells #[.slice ga n c] 24 (0, 0)) * F))) from by
    rw [← farL_start ht, hXl]; exact h5.madeRowISet.cast (by ac_rfl))
  have HRF0 := Lib.hid (fun (x : XObj) (hx : x ∈ X) (w' : World) (G : HP) (hh : Sat w0 w' (SR * G)) => ref_Refs hh (hG.slots x hx).1 (hG.slots x hx).2)
  have hj1 : (t : Int) + 1 - 1 = t := by omega
  have hj2 : (0 : Int) ≤ (t : Int) := by omega
  have hj3 : (t : Int) < (n : Int) := by omega
  have hj4 : IntKind.i64.wrap (t : Int) = t := IntWalk.i64_in _ (by omega)
  have HG := Lib.hid hG
  have HXL := Lib.hid hXl
  have HOK := Lib.hid hok
  have HTH := Lib.hid ht
  have g1 := boxG h3.p2
  obtain ⟨L, hL⟩ : ∃ L, X.map (·.1) = L := ⟨_, rfl⟩
  have HLL := Lib.hid hL
  rw [hL] at HXL HOK HTH H3 ⊢
  clear h h1 h2 h3 h5 hG hXl hok ht htr hL
  obtain ⟨to, hto⟩ : ∃ to : Int, to = (t : Int) + 1 := ⟨_, rfl⟩
  rw [← hto] at HTH H3
  have HPO : ∀ w' sb, OldRow w0 w' L to sb (SR * F) → OldRow w0 w' L ((t : Int) + 1) sb (SR * F) := fun _ _ q => by rw [← hto]; exact q
  have HPO := Lib.hid HPO
  clear hto
  go_enter Try.func59, Try.ntmps59
  try rw [hgb]
  go_wp2_with fail
  clear z0 z1 hmk c0 g1
  go_loopw [6] (fun rv wr => ∃ r : Nat, rv = .int .i64 r ∧ 1 ≤ r ∧ r ≤ n + 1 ∧ Sat w0 wr (rowI sb (farL L to r 0) * (SR * (pt gb (.cells #[.slice ga n c] 24 (0, 0)) * F)))) (fun rv _ => n + 1 - (intOf rv).toNat)
  case atStart => exact ⟨1, rfl, by omega, by omega, H3.out⟩
  case round =>
    clear H3 hj1 hj2 hj3 hj4
    obtain ⟨r, rfl, hr1, hr2, hs⟩ := hrel
    have g0 := boxG hs.p3
    by_cases hrn : r ≤ n
    · have f0 : decide ((r : Int) ≤ (n : Int)) = true := by simp; omega
      have HS := Lib.hid hs
      clear hs
      go_wp2_with fail
      go_loopw [7] (fun iv wr => ∃ i : Nat, iv = .int .i64 i ∧ i ≤ n ∧ Sat w0 wr (rowI sb (farL L to r i) * (SR * (pt gb (.cells #[.slice ga n c] 24 (0, 0)) * F)))) (fun iv _ => n - (intOf iv).toNat)
      case atStart => exact ⟨0, rfl, by omega, HS.out⟩
      case round =>
        clear HS g0
        obtain ⟨i, rfl, hi, hs⟩ := hrel
        have g0 := boxG hs.p3
        by_cases hlt : i < n
        · obtain ⟨x, hx, g, off, ega, _, _, d2, _, _⟩ := HG.out.at hs.p2 hlt
          have hkid : kids L ((i : Int) + 1) = refsV x.1.slots := kids_at (by rw [← HLL.out, List.getElem?_map, hx]; rfl)
          have HRF := Lib.hid (HRF0.out x (List.mem_of_getElem? hx) wr _ hs.p2)
          obtain ⟨refs, hrefs⟩ : ∃ r, refsV x.1.slots = r := ⟨_, rfl⟩
          have hml : refs.length ≤ 1000000 := by
            rw [← hrefs]
            have h1 := (HG.out.slots x (List.mem_of_getElem? hx))
            have := refsV_len x.1.slots x.1.slots.length
            rw [List.take_length] at this
            omega
          obtain ⟨m, hm⟩ : ∃ m, refs.length = m := ⟨_, rfl⟩
          rw [hrefs, hm] at HRF
          rw [hm] at hml
          rw [hrefs] at hkid
          have HK := Lib.hid (And.intro hkid hm)
          obtain ⟨⟨xk, xcc, xsl, xtx, xm⟩, xa, xc⟩ := x
          dsimp only at HRF d2
          subst ega
          clear hs hkid hm hx hrefs
          go_wp2_with fail
          refine HRF.out.mono ?_
          rintro e w1 ⟨ra, rc, rfl, h4⟩
          have H4 := Lib.hid (show Sat w0 w1 (rowI sb (farL L to r i) * (slc 3 1 ra m rc (refs.map ival) * (SR * (pt gb (.cells #[.slice (some ⟨g, off, none⟩) n c] 24 (0, 0)) * F)))) from h4.cast (by ac_rfl))
          clear h4 HRF d2 g0
          go_wp2_with fail
          go_loopw [9] (fun kv wr => ∃ (k : Nat) (b : Bool), kv = .int .i64 k ∧ k ≤ m ∧ Hid (b = false → ∀ j x, j < k → refs[j]? = some x → distG L to x ≠ r) ∧ Hid (b = true → distN L to i = r + 1) ∧ Sat w0 wr (rowI sb (farL L to r (if b then i + 1 else i)) * (slc 3 1 ra m rc (refs.map ival) * (SR * (pt gb (.cells #[.slice (some ⟨g, off, none⟩) n c] 24 (0, 0)) * F))))) (fun kv _ => m - (intOf kv).toNat)
          case atStart => exact ⟨0, false, rfl, by omega, Lib.hid (fun _ j x hj => by omega), Lib.hid (fun h => by cases h), H4.out⟩
          case round =>
            clear H4
            obtain ⟨k, b, rfl, hk, HB0, HB1, hs⟩ := hrel
            have hk1 : (0 : Int) ≤ (k : Int) := by omega
            have hi1 : (0 : Int) ≤ (i : Int) := by omega
            have hi2 : (i : Int) < (n : Int) := by omega
            by_cases hkm : k < m
            · have hk2 : (k : Int) < (m : Int) := by omega
              cases b with
              | true =>
                have hv := farL_at (L := L) (to := to) (r := r) (i := i + 1) (j := i) (by rw [HXL.out]; exact hlt)
                rw [if_pos (Nat.lt_succ_self i), HB1.out rfl, if_pos (Nat.le_refl _)] at hv
                obtain ⟨z0, _⟩ := rowICell (show Sat w0 wr (rowI sb (farL L to r (i + 1)) * _) from hs) hv
                generalize hvv : ((r + 1 : Nat) : Int) = v at *
                have f1 : (v == 0) = false := by rw [beq_eq_false_iff_ne]; omega
                have HF := Lib.hid (show Sat w0 wr (rowI sb (farL L to r (i + 1)) * (SR * (pt gb (.cells #[.slice (some ⟨g, off, none⟩) n c] 24 (0, 0)) * F))) from hs.p2.drop)
                clear hs hv hvv
                go_wp2_with fail
                go_roundw
                case rel => exact ⟨i + 1, by go_num, by omega, HF.out⟩
                case measure => simp [intOf]; omega
              | false =>
                have hv := farL_at (L := L) (to := to) (r := r) (i := i) (j := i) (by rw [HXL.out]; exact hlt)
                rw [if_neg (Nat.lt_irrefl i)] at hv
                obtain ⟨z0, z1⟩ := rowICell (show Sat w0 wr (rowI sb (farL L to r i) * _) from hs) hv
                have hvz : (if distN L to i ≤ r then (distN L to i : Int) else 0) = 0 → distN L to i = 0 ∨ r < distN L to i := fun e => by split at e <;> omega
                have hvn : (if distN L to i ≤ r then (distN L to i : Int) else 0) ≠ 0 → distN L to i ≠ r + 1 := fun e => by split at e <;> omega
                generalize (if distN L to i ≤ r then (distN L to i : Int) else 0) = v at *
                by_cases hv0 : v = 0
                · subst hv0
                  have HZ := Lib.hid (hvz rfl)
                  have ex : refs[k]? = some (refs[k]'(by rw [HK.out.2]; exact hkm)) := List.getElem?_eq_getElem _
                  generalize refs[k]'(by rw [HK.out.2]; exact hkm) = x at ex
                  have hxk : x ∈ kids L ((i : Int) + 1) := by rw [HK.out.1]; exact List.mem_of_getElem? ex
                  have hxr := thereG_range (kids_there HOK.out hxk)
                  rw [HXL.out] at hxr
                  obtain ⟨j, rfl⟩ : ∃ j : Nat, x = (j : Int) + 1 := ⟨(x - 1).toNat, by omega⟩
                  obtain ⟨g2, off2, era, y0, _⟩ := intCells hs.p2 ex
                  subst era
                  have hu := farL_at (L := L) (to := to) (r := r) (i := i) (j := j) (by rw [HXL.out]; omega)
                  have hur := farL_is (L := L) (to := to) (i := i) (j := j) hr1
                  obtain ⟨u0, _⟩ := rowICell (show Sat w0 wr (rowI sb (farL L to r i) * _) from hs) hu
                  generalize (if distN L to j ≤ (if j < i then r + 1 else r) then (distN L to j : Int) else 0) = u at *
                  have hj1 : (j : Int) + 1 - 1 = j := by omega
                  have hj2 : (0 : Int) ≤ (j : Int) := by omega
                  have hj3 : (j : Int) < (n : Int) := by omega
                  have hj4 : IntKind.i64.wrap (j : Int) = j := IntWalk.i64_in _ (by omega)
                  have HEX := Lib.hid ex
                  by_cases huu : u = (r : Int)
                  · have hd := dist_hit HTH.out hxk (show distG L to ((j : Int) + 1) = r from hur.1 huu) hr1 HZ.out
                    have HD := Lib.hid hd
                    have h5 := Lib.hid (show Sat w0 _ (rowI sb (farL L to r (i + 1)) * _) from (by rw [← farL_hit hd]; exact hs.rowISet i ((r : Int) + 1)))
                    have f1 : (u == (r : Int)) = true := by rw [huu]; simp
                    have f2 : ((0 : Int) == 0) = true := rfl
                    clear hs hv hvz hvn hu hur huu hd ex hxk hxr
                    go_wp2_with fail
                    go_roundw
                    case rel => exact ⟨k + 1, true, by go_num, by omega, Lib.hid (fun h => by cases h), Lib.hid (fun _ => HD.out), h5.out⟩
                    case measure => simp [intOf]; omega
                  · have HNE := Lib.hid (fun q => huu (hur.2 q))
                    have f1 : (u == (r : Int)) = false := by rw [beq_eq_false_iff_ne]; exact huu
                    have f2 : ((0 : Int) == 0) = true := rfl
                    have HF := Lib.hid hs
                    clear hs hv hvz hvn hu hur huu ex hxk hxr
                    go_wp2_with fail
                    go_roundw
                    case rel =>
                      refine ⟨k + 1, false, by go_num, by omega, Lib.hid ?_, Lib.hid (fun h => by cases h), HF.out⟩
                      intro _ j' x' hj' hx'
                      rcases Nat.lt_or_ge j' k with h1 | h1
                      · exact HB0.out rfl j' x' h1 hx'
                      · obtain rfl : j' = k := by omega
                        rw [HEX.out] at hx'; cases hx'
                        exact HNE.out
                    case measure => simp [intOf]; omega
                · have f1 : (v == 0) = false := by rw [beq_eq_false_iff_ne]; exact hv0
                  have HF := Lib.hid (show Sat w0 wr (rowI sb (farL L to r (i + 1)) * (SR * (pt gb (.cells #[.slice (some ⟨g, off, none⟩) n c] 24 (0, 0)) * F))) from by
                    rw [← farL_skip (hvn hv0)]; exact hs.p2.drop)
                  clear hs hv hvz hvn hv0
                  go_wp2_with fail
                  go_roundw
                  case rel => exact ⟨i + 1, by go_num, by omega, HF.out⟩
                  case measure => simp [intOf]; omega
            · have HF := Lib.hid (show Sat w0 wr (rowI sb (farL L to r (i + 1)) * (SR * (pt gb (.cells #[.slice (some ⟨g, off, none⟩) n c] 24 (0, 0)) * F))) from by
                cases b with
                | true => exact hs.p2.drop
                | false =>
                  rw [← farL_skip (dist_none HTH.out hr1 fun x hx => by
                    rw [HK.out.1] at hx
                    obtain ⟨j, hj, e⟩ := List.mem_iff_getElem.1 hx
                    exact HB0.out rfl j x (by have := HK.out.2; omega) (by rw [← e]; exact List.getElem?_eq_getElem _))]
                  exact hs.p2.drop)
              clear hs
              go_wp2_with fail
              go_roundw
              case rel => exact ⟨i + 1, by go_num, by omega, HF.out⟩
              case measure => simp [intOf]; omega
        · obtain rfl : i = n := by omega
          have HF := Lib.hid (show Sat w0 wr (rowI sb (farL L to (r + 1) 0) * (SR * (pt gb (.cells #[.slice ga i c] 24 (0, 0)) * F))) from by
            rw [← farL_round, HXL.out]; exact hs)
          clear hs
          go_wp2_with fail
          go_roundw
          case rel => exact ⟨r + 1, by go_num, by omega, by omega, HF.out⟩
          case measure => simp [intOf]; omega
    · obtain rfl : r = n + 1 := by omega
      have f0 : decide (((n + 1 : Nat) : Int) ≤ (n : Int)) = false := by simp; omega
      have HF := Lib.hid (show OldRow w0 wr L to sb (SR * F) from by
        unfold OldRow
        rw [← farL_done HTH.out, HXL.out]; exact hs.p3.drop)
      clear hs
      go_wp2_with fail
      go_ret
      exact ⟨sb, rfl, HPO.out _ _ HF.out⟩
end
end Go.Proofs.Ytmngkodejlhalaa.Tw
