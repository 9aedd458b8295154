/- graph: Check. No condition. -/
import Derived.Test.YtmngkodejlhalaaZRPaths7
namespace Go.Proofs.Ytmngkodejlhalaa.Tw
set_option linter.unusedVariables false
set_option linter.unusedSimpArgs false
open Go Go.RowKit Go.MapKept

section
variable {w0 w : World} {SR F : HP} {ga : Option Addr} {n c : Nat} {X : List XObj}
/-- the function answers p x of the objects of X, and keeps C -/
def AsksO (w0 : World) (g : Nat) (lb : Array Value) (C : HP) (X : List XObj) (p : AObj → Bool) : Prop :=
  ∀ (w : World) (G : HP) (x : XObj), x ∈ X → Sat w0 w (C * G) → Calls Try.prog g (#[.agg #[.int .i64 x.1.kind, .int .i64 x.1.count, .slice x.2.1 x.1.slots.length x.2.2, .string x.1.text, .int .i64 x.1.mark]] ++ lb) w fun e w' => e = .returned (.bool (p x.1)) ∧ Sat w0 w' (C * G)
theorem AsksO.mono' {C : HP} {g : Nat} {lb : Array Value} {p : AObj → Bool} (h : AsksO w0 g lb C X p) : AsksO w0 g lb (SR * C) X p := fun w G x hx hs => (h w (SR * G) x hx (hs.cast (by ac_rfl))).mono fun _ _ ⟨e, h2⟩ => ⟨e, h2.cast (by ac_rfl)⟩
theorem SrcO.mono {C : HP} (h : SrcO w0 SR ga n c X) : SrcO w0 (SR * C) ga n c X := ⟨fun w' G hs => h.cell w' (C * G) hs.assoc, h.len, h.nil0, h.cap, fun x hx => ⟨(h.slots x hx).1.mono, (h.slots x hx).2⟩, h.small⟩
theorem SrcO.mono' {C : HP} (h : SrcO w0 SR ga n c X) : SrcO w0 (C * SR) ga n c X := by rw [mul_comm]; exact h.mono
set_option maxHeartbeats 1000000 in
theorem indexFunc_obj {C : HP} (p : AObj → Bool) (g : Nat) (lb : Array Value) (eg : ∀ args w, (callFunc g args).run Try.prog w = .ok (.enter g args) w) (hp : AsksO w0 g lb C X p) (h : Sat w0 w (C * F)) (hS : SrcO w0 C ga n c X) :
    Calls Try.prog 93 #[.slice ga n c, .func (.func g) #[] lb] w fun e w' => e = .returned (.int .i64 (idxF (fun x : XObj => p x.1) X)) ∧ Sat w0 w' (C * F) := by
  have HP' := Lib.hid hp
  have hl := hS.len
  have HSS := Lib.hid hS
  have hsm := hS.small
  clear hp hS
  go_enter Try.func93, Try.ntmps93
  go_wp2
  go_loopw [8] (fun iv wr => ∃ k : Nat, iv = .int .i64 k ∧ k ≤ n ∧ Hid (∀ j (y : XObj), j < k → X[j]? = some y → p y.1 = false) ∧ Sat w0 wr (C * F)) (fun iv _ => n - (intOf iv).toNat)
  case atStart => exact ⟨0, rfl, by omega, Lib.hid (by intro j y hj; omega), h⟩
  case round =>
    obtain ⟨k, rfl, hk, HB, hs⟩ := hrel
    by_cases hlt : k < n
    · obtain ⟨x, hx, gb, off, rfl, hc0, hc1, hc2, hc3, hc4⟩ := HSS.out.at hs hlt
      have hcap := HSS.out.cap
      have hcall := HP'.out wr F x (List.mem_of_getElem? hx) hs
      have HX := Lib.hid hx
      clear hx
      obtain ⟨⟨xk, xc, xs, xt, xm⟩, sa, sc⟩ := x
      dsimp only at hc0 hc1 hc2 hc3 hc4 hcall
      cases hq : p ⟨xk, xc, xs, xt, xm⟩ with
      | true =>
        rw [hq] at hcall
        have HQ := Lib.hid hq
        have HC := Lib.hid hcall
        clear hq hcall
        go_wp2_with fail
        go_at_fn g
        refine HC.out.mono ?_
        rintro e w' ⟨rfl, h2⟩
        go_wp2_with fail
        go_ret
        exact ⟨by rw [idxF_some (fun x : XObj => p x.1) HX.out HQ.out HB.out]; rfl, h2⟩
      | false =>
        rw [hq] at hcall
        have HQ := Lib.hid hq
        have HC := Lib.hid hcall
        clear hq hcall
        go_wp2_with fail
        go_at_fn g
        refine HC.out.mono ?_
        rintro e w' ⟨rfl, h2⟩
        go_wp2_with fail
        go_roundw
        case rel =>
          refine ⟨k + 1, by go_num, by omega, Lib.hid ?_, h2⟩
          intro j y hj hy
          rcases Nat.lt_or_ge j k with h3 | h3
          · exact HB.out j y h3 hy
          · obtain rfl : j = k := by omega
            rw [HX.out] at hy; cases hy; exact HQ.out
        case measure => simp [intOf]; omega
    · have hkn : k = n := by omega
      go_wp2
      go_ret
      refine ⟨?_, hs⟩
      rw [idxF_none]
      · rfl
      intro x hx
      obtain ⟨j, hj, e⟩ := List.mem_iff_getElem.1 hx
      exact HB.out j x (by omega) (by rw [← e]; exact List.getElem?_eq_getElem _)
theorem containsFunc_obj {C : HP} (p : AObj → Bool) (g : Nat) (lb : Array Value) (eg : ∀ args w, (callFunc g args).run Try.prog w = .ok (.enter g args) w) (hp : AsksO w0 g lb C X p) (h : Sat w0 w (C * F)) (hS : SrcO w0 C ga n c X) :
    Calls Try.prog 61 #[.slice ga n c, .func (.func g) #[] lb] w fun e w' => e = .returned (.bool (X.any fun x => p x.1)) ∧ Sat w0 w' (C * F) := by
  have HI := Lib.hid (indexFunc_obj p g lb eg hp h hS)
  have HD := Lib.hid (idxF_any (fun x : XObj => p x.1) X)
  generalize idxF (fun x : XObj => p x.1) X = r at *
  generalize (X.any fun x => p x.1) = q at *
  clear hp hS
  go_enter Try.func61, Try.ntmps61
  go_wp2_with fail
  refine HI.out.mono ?_
  rintro e w' ⟨rfl, h2⟩
  go_wp2_with fail
  go_ret
  exact ⟨by rw [← HD.out]; rfl, h2⟩
theorem check_fn (gb : Nat) (hG : SrcO w0 SR ga n c X) : AsksO w0 62 #[.pointer (some ⟨gb, 0, none⟩)] (pt gb (.cells #[.slice ga n c] 24 (0, 0)) * SR) X (fun o => !objOk (X.map (·.1)) o) := by
  intro w1 G x hx h
  have hsl := hG.slots x hx
  obtain ⟨⟨xk, xc, xs, xt, xm⟩, sa, sc⟩ := x
  have h1 := h.alloc (.cells #[.int .i64 xk, .int .i64 xc, .slice sa xs.length sc, .string xt, .int .i64 xm] 39)
  have h2 : Sat w0 _ (SR * (pt gb (.cells #[.slice ga n c] 24 (0, 0)) * (pt w1.heap.size (.cells #[.int .i64 xk, .int .i64 xc, .slice sa xs.length sc, .string xt, .int .i64 xm] 39 (0, 0)) * G))) := h1.cast (by ac_rfl)
  have c0 := boxG h2.p2
  obtain ⟨d0, d1, d2, d3, d4⟩ := boxO h2.p3
  have HS := Lib.hid (graph_obj (k := xk) (cc := xc) (m := xm) (tx := xt) h2 hG hsl.1 hsl.2)
  clear h hG h1 hsl hx
  show Calls Try.prog 62 #[.agg #[.int .i64 xk, .int .i64 xc, .slice sa xs.length sc, .string xt, .int .i64 xm], .pointer (some ⟨gb, 0, none⟩)] w1 _
  go_enter Try.func62, Try.ntmps62
  go_wp2_with fail
  refine HS.out.mono ?_
  rintro e w3 ⟨rfl, h3⟩
  go_wp2_with fail
  go_ret
  exact ⟨rfl, h3.p3.drop.cast (by ac_rfl)⟩
theorem graph_Check (h : Sat w0 w (SR * F)) (hG : SrcO w0 SR ga n c X) :
    Calls Try.prog 24 #[.agg #[.slice ga n c]] w fun e w' => e = .returned (.bool (okG (X.map (·.1)))) ∧ Sat w0 w' (SR * F) := by
  have hb := h.alloc (.cells #[.slice ga n c] 24)
  generalize hgb : w.heap.size = gb at *
  have c0 := boxG hb
  have hC := containsFunc_obj (fun o => !objOk (X.map (·.1)) o) 62 #[.pointer (some ⟨gb, 0, none⟩)] (enters_of Try.func62 (by kernel_rfl) rfl) (check_fn gb hG) hb.unassoc hG.mono'
  have HA := Lib.hid (show (!X.any fun x => !objOk (X.map (·.1)) x.1) = okG (X.map (·.1)) by unfold okG; rw [List.all_map, List.all_eq_not_any_not]; rfl)
  have HC := Lib.hid hC
  clear hC h hb hG
  generalize okG (X.map (·.1)) = r at *
  generalize (X.any fun x => !objOk (X.map (·.1)) x.1) = q at *
  go_enter Try.func24, Try.ntmps24
  try rw [hgb]
  go_wp2_with fail
  refine HC.out.mono ?_
  rintro e w3 ⟨rfl, h3⟩
  go_wp2_with fail
  go_ret
  exact ⟨by rw [← HA.out]; rfl, h3.assoc.drop⟩
end
end Go.Proofs.Ytmngkodejlhalaa.Tw
namespace Go.Proofs.Ytmngkodejlhalaa.Tw
set_option linter.unusedVariables false
set_option linter.unusedSimpArgs false
open Go Go.RowKit Go.MapKept

def holdL (L : List AObj) (n : Int) (k : Nat) : List Int := ((List.range k).filter fun (i : Nat) => decide (n ∈ kids L ((i : Int) + 1))).map fun (i : Nat) => ((i : Int) + 1)
/-- the objects that hold one -/
def holdersG (L : List AObj) (n : Int) : List Int := if okG L then holdL L n L.length else []
theorem holdL_len (L : List AObj) (n : Int) (k : Nat) : (holdL L n k).length ≤ k := by
  unfold holdL
  rw [List.length_map]
  have := List.length_filter_le (fun (i : Nat) => decide (n ∈ kids L ((i : Int) + 1))) (List.range k)
  simpa using this
theorem holdL_succ (L : List AObj) (n : Int) (k : Nat) : holdL L n (k + 1) = holdL L n k ++ if n ∈ kids L ((k : Int) + 1) then [(k : Int) + 1] else [] := by
  unfold holdL
  rw [List.range_succ, List.filter_append, List.map_append]
  by_cases h : n ∈ kids L ((k : Int) + 1) <;> simp [List.filter_cons, h]
theorem kids_nat {L : List AObj} {k : Nat} {o : AObj} (h : L[k]? = some o) : kids L ((k : Int) + 1) = refsV o.slots := by
  unfold kids; rw [objG_nat, h]
section
variable {w0 w : World} {SR F : HP} {ga : Option Addr} {n c : Nat} {X : List XObj}
theorem graph_Holders_no (h : Sat w0 w (SR * F)) (hG : SrcO w0 SR ga n c X) (x : Int) (hno : okG (X.map (·.1)) = false) :
    Calls Try.prog 28 #[.agg #[.slice ga n c], .int .i64 x] w fun e w' => e = .returned (.slice none 0 0) ∧ Sat w0 w' (SR * F) := by
  have hb := (h.alloc (.cells #[.slice ga n c] 24))
  generalize hgb : w.heap.size = gb at *
  have c0 := boxG hb
  have hC := graph_Check hb.p2 hG
  rw [hno] at hC
  have HC := Lib.hid hC
  clear hC hno hG
  go_enter Try.func28, Try.ntmps28
  try rw [hgb]
  go_wp2_with fail
  refine HC.out.mono ?_
  rintro e w3 ⟨rfl, h3⟩
  go_wp2_with fail
  go_ret
  exact ⟨rfl, h3.p2.drop⟩
set_option maxRecDepth 100000 in
set_option maxHeartbeats 2000000 in
theorem graph_Holders (h : Sat w0 w (SR * F)) (hG : SrcO w0 SR ga n c X) (x : Int) (hok : okG (X.map (·.1)) = true) {R : List Int} (hR : holdersG (X.map (·.1)) x = R) :
    Calls Try.prog 28 #[.agg #[.slice ga n c], .int .i64 x] w fun e w' => ∃ ra rc, e = .returned (.slice ra R.length rc) ∧ Sat w0 w' (slc 3 1 ra R.length rc (R.map ival) * (SR * F)) := by
  have hb := (h.alloc (.cells #[.slice ga n c] 24))
  generalize hgb : w.heap.size = gb at *
  have c0 := boxG hb
  have hC := graph_Check hb.p2 hG
  rw [hok] at hC
  have hR2 : holdL (X.map (·.1)) x n = R := by rw [← hR]; unfold holdersG; rw [if_pos hok, List.length_map, hG.len]
  have hRl : R.length ≤ n := by rw [← hR2]; exact holdL_len _ _ _
  have HR := Lib.hid hR2
  have HC := Lib.hid hC
  have HG := Lib.hid hG
  have hcap := hG.cap
  have hsm := hG.small
  clear hC hok hG hR hR2
  go_enter Try.func28, Try.ntmps28
  try rw [hgb]
  go_wp2_with fail
  refine HC.out.mono ?_
  rintro e w3 ⟨rfl, h3⟩
  have d0 := boxG h3.p2
  clear HC c0 hb h
  go_wp2_with fail
  go_loopw [5, 14] (fun ov iv wr => ∃ (k : Nat) (ra : Option Addr) (rc : Nat) (l : List Int), iv = .int .i64 k ∧ k ≤ n ∧ Hid (holdL (X.map (·.1)) x k = l) ∧ l.length ≤ k ∧ ov = .slice ra l.length rc ∧ Sat w0 wr (slc 3 1 ra l.length rc (l.map ival) * (SR * (pt gb (.cells #[.slice ga n c] 24 (0, 0)) * F)))) (fun _ iv _ => n - (intOf iv).toNat)
  case atStart => exact ⟨0, none, 0, [], rfl, by omega, Lib.hid rfl, by simp, rfl, h3.nilSlc⟩
  case round =>
    obtain ⟨k, ra, rc, l, rfl, hk, HL, hl, rfl, hs⟩ := hrel
    by_cases hlt : k < n
    · obtain ⟨y, hy, g, off, rfl, e0, e1, e2, e3, e4⟩ := HG.out.at hs.p2 hlt
      have hsl := HG.out.slots y (List.mem_of_getElem? hy)
      have hkd : kids (X.map (·.1)) ((k : Int) + 1) = refsV y.1.slots := kids_nat (by rw [List.getElem?_map, hy]; rfl)
      have hsu := holdL_succ (X.map (·.1)) x k
      rw [hkd, HL.out] at hsu
      obtain ⟨⟨yk, yc, ys, yt, ym⟩, sa, sc⟩ := y
      dsimp only at e0 e1 e2 e3 e4 hsl hsu
      have hrl : (refsV ys).length ≤ 1000000 := by have h1 := refsV_len ys ys.length; rw [List.take_of_length_le (Nat.le_refl _)] at h1; have := hsl.2; omega
      have h4 := hs.alloc (.cells #[.int .i64 yk, .int .i64 yc, .slice sa ys.length sc, .string yt, .int .i64 ym] 39)
      obtain ⟨f0, f1, f2, f3, f4⟩ := boxO h4
      have hV := val_Refs (h4.p3) hsl.1 hsl.2
      have HV := Lib.hid hV
      clear hV hsl hy hkd
      generalize hrs : refsV ys = rs at *
      have HRS := Lib.hid hrs
      clear hrs
      by_cases hx : x ∈ rs
      · rw [if_pos hx] at hsu
        have HSU := Lib.hid hsu
        have hd := decide_eq_true hx
        clear hsu hx
        go_wp2_with fail
        refine HV.out.mono ?_
        rintro e w5 ⟨va, vc, rfl, h5⟩
        have hct := contains_int x h5 rfl (by omega)
        rw [hd] at hct
        have HCT := Lib.hid hct
        clear hct hd
        go_wp2_with fail
        refine HCT.out.mono ?_
        rintro e w6 ⟨rfl, rfl⟩
        have h6 := h5.alloc (.cells #[.int .i64 ((k : Int) + 1)] 3)
        have b0 : (w5.alloc (.cells #[.int .i64 ((k : Int) + 1)] 3)).cell? ⟨w5.heap.size, 0, none⟩ = some (.int .i64 ((k : Int) + 1)) := Sat.cell (T := 3) (cs := #[.int .i64 ((k : Int) + 1)]) h6 0 rfl
        go_wp2_with (at_builtin; refine wpList_push rfl _ _ rfl ra l.length rc l rfl h6.p5 w5.heap.size 1 ((k : Int) + 1) rfl b0 (by omega) ?_; intro a' c' w7 h7)
        go_roundw
        case rel =>
          refine ⟨k + 1, a', c', l ++ [(k : Int) + 1], by go_num, by omega, Lib.hid HSU.out, by simp; omega, by simp, ?_⟩
          rw [List.length_append]
          exact h7.p2.drop.p2.drop.p3.drop
        case measure => simp [intOf]; omega
      · rw [if_neg hx, List.append_nil] at hsu
        have HSU := Lib.hid hsu
        have hd := decide_eq_false hx
        clear hsu hx
        go_wp2_with fail
        refine HV.out.mono ?_
        rintro e w5 ⟨va, vc, rfl, h5⟩
        have hct := contains_int x h5 rfl (by omega)
        rw [hd] at hct
        have HCT := Lib.hid hct
        clear hct hd
        go_wp2_with fail
        refine HCT.out.mono ?_
        rintro e w6 ⟨rfl, rfl⟩
        go_wp2_with fail
        go_roundw
        case rel => exact ⟨k + 1, ra, rc, l, by go_num, by omega, Lib.hid HSU.out, by omega, rfl, h5.drop.p3.p3.drop⟩
        case measure => simp [intOf]; omega
    · have hkn : k = n := by omega
      subst hkn
      have e := HL.out.symm.trans HR.out
      subst e
      go_wp2
      go_ret
      exact ⟨ra, rc, rfl, hs.p3.drop.cast (by ac_rfl)⟩
theorem there_fn (gb : Nat) (hG : SrcO w0 SR ga n c X) : Asks w0 88 #[.pointer (some ⟨gb, 0, none⟩)] (pt gb (.cells #[.slice ga n c] 24 (0, 0)) * SR) (fun x => !thereG (X.map (·.1)) x) := by
  intro w1 G x h
  have c0 := boxG h.assoc
  have HH := Lib.hid h
  have hcap := hG.cap
  have hsm := hG.small
  show Calls Try.prog 88 #[.int .i64 x, .pointer (some ⟨gb, 0, none⟩)] w1 _
  by_cases h1 : x < 1
  · have HE := Lib.hid (show (!thereG (X.map (·.1)) x) = true by unfold thereG objG; rw [if_neg (by omega)]; rfl)
    clear h hG
    go_enter Try.func88, Try.ntmps88
    go_wp2
    go_ret
    exact ⟨by rw [HE.out]; rfl, HH.out⟩
  by_cases h2 : (n : Int) < x
  · have HE := Lib.hid (show (!thereG (X.map (·.1)) x) = true by
      unfold thereG objG
      rw [if_pos (by omega), List.getElem?_eq_none (by rw [List.length_map, hG.len]; omega)]; rfl)
    clear h hG
    go_enter Try.func88, Try.ntmps88
    go_wp2
    go_ret
    exact ⟨by rw [HE.out]; rfl, HH.out⟩
  obtain ⟨j, rfl⟩ : ∃ j : Nat, x = (j : Int) + 1 := ⟨(x - 1).toNat, by omega⟩
  obtain ⟨y, hy, g, off, rfl, d0, _⟩ := hG.at h.assoc.p2 (show j < n by omega)
  have he : (!thereG (X.map (·.1)) ((j : Int) + 1)) = decide (y.1.kind = 0) := by
    unfold thereG
    rw [objG_nat, List.getElem?_map, hy]
    simp
  have HE := Lib.hid he
  have hj1 : (j : Int) + 1 - 1 = j := by omega
  clear h hG he hy
  obtain ⟨⟨yk, yc, ys, yt, ym⟩, sa, sc⟩ := y
  dsimp only at d0
  go_enter Try.func88, Try.ntmps88
  go_wp2
  all_goals
    go_ret
    exact ⟨by rw [HE.out]; simp [*]; try (rw [Bool.eq_iff_iff]; simp), HH.out⟩
theorem reach_there {a : Option Addr} {m k : Nat} {l : List Int} (h : Sat w0 w (slc 3 1 a m k (l.map ival) * (SR * F))) (hG : SrcO w0 SR ga n c X) (hl : l.length = m) (hm : m ≤ 1000000) {R : List Int} (hR : l.filter (thereG (X.map (·.1))) = R) :
    Calls Try.prog 50 #[.agg #[.slice ga n c], .slice a m k] w fun e w' => e = .returned (.slice a R.length k) ∧ Sat w0 w' (slc 3 1 a R.length k (R.map ival) * (SR * F)) := by
  have hb := (h.alloc (.cells #[.slice ga n c] 24))
  generalize hgb : w.heap.size = gb at *
  have hD := deleteFunc_int (fun x => !thereG (X.map (·.1)) x) 88 #[.pointer (some ⟨gb, 0, none⟩)] (enters_of Try.func88 (by kernel_rfl) rfl) (there_fn gb hG) (hb.cast (show _ = slc 3 1 a m k (l.map ival) * ((pt gb (.cells #[.slice ga n c] 24 (0, 0)) * SR) * F) by ac_rfl)) hl (by omega)
  simp only [Bool.not_not] at hD
  rw [hR] at hD
  have HD := Lib.hid hD
  clear hD hG hR
  go_enter Try.func50, Try.ntmps50
  try rw [hgb]
  go_wp2_with fail
  refine HD.out.mono ?_
  rintro e w3 ⟨rfl, h3⟩
  go_wp2_with fail
  go_ret
  exact ⟨rfl, h3.p2.assoc.drop.p2⟩
end
end Go.Proofs.Ytmngkodejlhalaa.Tw
namespace Go.Proofs.Ytmngkodejlhalaa.Tw
set_option linter.unusedVariables false
set_option linter.unusedSimpArgs false
open Go Go.RowKit Go.MapKept

def seenL (L : List Int) : List (Int × Value) := L.map fun x => (x, ival 1)
theorem mget_seen (L : List Int) (x : Int) : mget (seenL L) x = if x ∈ L then some (ival 1) else none := by
  induction L with
  | nil => rfl
  | cons y L ih =>
    unfold mget seenL at *
    simp only [List.map_cons, List.find?_cons]
    by_cases h : y = x
    · subst h; simp
    · have h' : ¬ x = y := fun e => h e.symm
      simp only [h, decide_false, List.mem_cons, h', false_or]
      exact ih
theorem mset_seen {L : List Int} {x : Int} (h : x ∉ L) : mset (seenL L) x (ival 1) = seenL (L ++ [x]) := by
  unfold mset
  rw [mget_seen, if_neg h]
  simp [seenL]
abbrev seenR (m : Nat) (L : List Int) : HP := mapR (.int .i64) (Value.int .i64) m (seenL L)
theorem run_store_fn {P : Program} {w : World} {a : Addr} {m : Mode} (f : Fn) (x y : Array Value) : (store a (.func f x y) m).run P w = stored P w a (.func f x y) m := run_store P w a _ m rfl
attribute [local go_sem] run_store_fn
theorem zero_int (w : World) : (zeroValue 3).run Try.prog w = .ok (.int .i64 0) w := by kernel_rfl
section
variable {w0 w : World} {SR F : HP} {ga : Option Addr} {n c : Nat} {X : List XObj}
theorem look_seen {m : Nat} {L : List Int} (h : Sat w0 w (seenR m L * F)) (x : Int) : (Instr.lookup 60 (.map (some m)) (.int .i64 x) false).run Try.prog w = .ok (.int .i64 (if x ∈ L then 1 else 0)) w := by
  have := run_lookup (keys_int .i64) h Try.underlying60 Try.underlying3 (zero_int w) x
  rw [this, mget_seen]
  by_cases hx : x ∈ L <;> simp [hx, ival]
theorem boxM {b m : Nat} (h : Sat w0 w (pt b (.cells #[.map (some m)] 60 (0, 0)) * F)) : w.cell? ⟨b, 0, none⟩ = some (.map (some m)) := Sat.cell (T := 60) (cs := #[.map (some m)]) h 0 rfl
theorem boxF {b : Nat} {v : Value} (h : Sat w0 w (pt b (.cells #[v] 96 (0, 0)) * F)) : w.cell? ⟨b, 0, none⟩ = some v := Sat.cell (T := 96) (cs := #[v]) h 0 rfl
/-- what the search in depth has captured -/
def markC (gb sb kb : Nat) (ga : Option Addr) (n c m : Nat) : HP := pt gb (.cells #[.slice ga n c] 24 (0, 0)) * (pt sb (.cells #[.map (some m)] 60 (0, 0)) * pt kb (.cells #[.func (.func 107) #[] #[.pointer (some ⟨gb, 0, none⟩), .pointer (some ⟨sb, 0, none⟩), .pointer (some ⟨kb, 0, none⟩)]] 96 (0, 0)))
theorem markC_cells {gb sb kb m : Nat} (h : Sat w0 w (markC gb sb kb ga n c m * F)) : w.cell? ⟨gb, 0, none⟩ = some (.slice ga n c) ∧ w.cell? ⟨sb, 0, none⟩ = some (.map (some m)) ∧ w.cell? ⟨kb, 0, none⟩ = some (.func (.func 107) #[] #[.pointer (some ⟨gb, 0, none⟩), .pointer (some ⟨sb, 0, none⟩), .pointer (some ⟨kb, 0, none⟩)]) := by
  have h' : Sat w0 w (pt gb (.cells #[.slice ga n c] 24 (0, 0)) * (pt sb (.cells #[.map (some m)] 60 (0, 0)) * (pt kb (.cells #[.func (.func 107) #[] #[.pointer (some ⟨gb, 0, none⟩), .pointer (some ⟨sb, 0, none⟩), .pointer (some ⟨kb, 0, none⟩)]] 96 (0, 0)) * F))) := h.cast (by unfold markC; ac_rfl)
  exact ⟨boxG h', boxM h'.p2, boxF h'.p3⟩
theorem unseen_mono {L : List AObj} {s s' : List Int} (h : ∀ x ∈ s, x ∈ s') : unseen L s' ≤ unseen L s := by
  unfold unseen
  rw [← List.countP_eq_length_filter, ← List.countP_eq_length_filter]
  refine List.countP_mono_left fun i _ hi => ?_
  simp only [Bool.not_eq_true', decide_eq_false_iff_not] at hi ⊢
  exact fun hm => hi (h _ hm)
def markStep (L : List AObj) (f : Nat) (s : List Int) (n : Int) : List Int := if n ∈ s then s else markF L f (s ++ [n]) ((kids L n).filter (thereG L))
theorem markF_foldl (L : List AObj) (f : Nat) (seen l : List Int) : markF L (f + 1) seen l = l.foldl (markStep L f) seen := rfl
theorem foldl_take {α β : Type} (g : α → β → α) (s : α) {l : List β} {k : Nat} {x : β} (h : l[k]? = some x) : (l.take (k + 1)).foldl g s = g ((l.take k).foldl g s) x := by
  rw [List.take_add_one, h, List.foldl_append]; rfl
set_option maxRecDepth 100000 in
set_option maxHeartbeats 2000000 in
theorem mark_fn {gb sb kb m : Nat} (hG : SrcO w0 SR ga n c X) (hok : okG (X.map (·.1)) = true) : ∀ (f : Nat) (w : World) (F : HP) (seen : List Int) (a : Option Addr) (cl : Nat) (l : List AVal), SrcV w0 SR a l.length cl l → l.length ≤ 1000000 → unseen (X.map (·.1)) seen + 1 ≤ f →
    Sat w0 w (markC gb sb kb ga n c m * (seenR m seen * (SR * F))) →
    Calls Try.prog 107 #[.slice a l.length cl, .pointer (some ⟨gb, 0, none⟩), .pointer (some ⟨sb, 0, none⟩), .pointer (some ⟨kb, 0, none⟩)] w fun e w' => e = .returned (.tuple #[]) ∧ Sat w0 w' (markC gb sb kb ga n c m * (seenR m (markF (X.map (·.1)) f seen ((refsV l).filter (thereG (X.map (·.1))))) * (SR * F)))
  | 0, _, _, _, _, _, _, _, _, hf, _ => by omega
  | f + 1, w, F, seen, a, cl, l, hS, hn, hf, h => by
    have IH := Lib.hid (mark_fn (gb := gb) (sb := sb) (kb := kb) (m := m) hG hok f)
    rw [markF_foldl]
    have hrl : (refsV l).length ≤ 1000000 := by have h1 := refsV_len l l.length; rw [List.take_of_length_le (Nat.le_refl _)] at h1; omega
    have hth : ∀ (k : Nat) (x : Int), ((refsV l).filter (thereG (X.map (·.1))))[k]? = some x → thereG (X.map (·.1)) x = true := fun k x hx => (List.mem_filter.1 (List.mem_of_getElem? hx)).2
    have hfl : ((refsV l).filter (thereG (X.map (·.1)))).length ≤ 1000000 := by have := List.length_filter_le (thereG (X.map (·.1))) (refsV l); omega
    obtain ⟨c0, c1, c2⟩ := markC_cells h
    have HS := Lib.hid hS
    have HG := Lib.hid hG
    have HF := Lib.hid hf
    have HOK := Lib.hid hok
    have HTH := Lib.hid hth
    clear hS hok hth hf
    have hx := h.drew
    obtain ⟨ls, hls⟩ : ∃ ls, (refsV l).filter (thereG (X.map (·.1))) = ls := ⟨_, rfl⟩
    rw [hls] at hfl HTH ⊢
    have HLS := Lib.hid hls
    clear hls
    clear hG
    go_enter Try.func107, Try.ntmps107
    go_wp2_with fail
    go_region_held3 (fun w' => w'.cell? ⟨gb, 0, none⟩ = some (.slice ga n c)) (assumption) (first
      | (go_at_call 27; with_reducible refine (val_Refs hx.p3 HS.out hn).mono ?_; rintro e w2 ⟨ra, rc, rfl, h2⟩; have e0 := (markC_cells h2.p3).1)
      | (go_at_call 50; with_reducible refine (reach_there h2 HG.out rfl hrl HLS.out).mono ?_; rintro e w3 ⟨rfl, h3⟩; have e1 := (markC_cells h3.p3).1))
    clear h hx h2 e0 c0 c1 c2
    go_wp2_with fail
    go_loopw [12] (fun iv wr => ∃ (k : Nat) (s : List Int), iv = .int .i64 k ∧ k ≤ ls.length ∧ Hid ((ls.take k).foldl (markStep (X.map (·.1)) f) seen = s) ∧ Hid (unseen (X.map (·.1)) s ≤ unseen (X.map (·.1)) seen) ∧ Sat w0 wr (slc 3 1 ra ls.length rc (ls.map ival) * (markC gb sb kb ga n c m * (seenR m s * (SR * F))))) (fun iv _ => ls.length - (intOf iv).toNat)
    case atStart => exact ⟨0, seen, rfl, by omega, Lib.hid rfl, Lib.hid (Nat.le_refl _), h3.cast (by ac_rfl)⟩
    case round =>
      obtain ⟨k, s, rfl, hk, HSt, HU, hs⟩ := hrel
      obtain ⟨d0, d1, d2⟩ := markC_cells hs.p2
      by_cases hlt : k < ls.length
      · obtain ⟨x, hx⟩ : ∃ x, ls[k]? = some x := ⟨ls[k], List.getElem?_eq_getElem hlt⟩
        obtain ⟨g, off, rfl, e0, _⟩ := intCells hs hx
        have hfo := foldl_take (markStep (X.map (·.1)) f) seen hx
        rw [HSt.out] at hfo
        have hlk := look_seen hs.p3 x
        have hcap := hs.slcCap
        by_cases hm : x ∈ s
        · rw [if_pos hm] at hlk
          have HFO := Lib.hid (hfo.trans (show markStep (X.map (·.1)) f s x = s from if_pos hm))
          clear hfo hm hx
          go_wp2_with fail
          go_roundw
          case rel => exact ⟨k + 1, s, by go_num, by omega, HFO, HU, hs⟩
          case measure => simp [intOf]; omega
        · rw [if_neg hm] at hlk
          have HFO := Lib.hid (hfo.trans (show markStep (X.map (·.1)) f s x = _ from if_neg hm))
          have hthx := HTH.out k x hx
          have hu1 := unseen_add hm hthx
          have hu2 := HU.out
          have hu3 := HF.out
          have hu4 : Hid (unseen (X.map (·.1)) (s ++ [x]) + 1 ≤ f) := Lib.hid (by omega)
          have HMF := Lib.hid (markF_ok HOK.out f (s ++ [x]) ((kids (X.map (·.1)) x).filter (thereG (X.map (·.1)))) (fun z hz => (List.mem_filter.1 hz).2) hu4.out)
          have HMS := Lib.hid (mset_seen hm)
          have hu5 : Hid (unseen (X.map (·.1)) (markF (X.map (·.1)) f (s ++ [x]) ((kids (X.map (·.1)) x).filter (thereG (X.map (·.1))))) ≤ unseen (X.map (·.1)) seen) := Lib.hid (by
            have := unseen_mono (L := X.map (·.1)) HMF.out.sub
            have := hu4.out
            omega)
          clear hfo hx hm hu1 hu2 hu3
          have hrg := thereG_range hthx
          rw [List.length_map, HG.out.len] at hrg
          obtain ⟨j, rfl⟩ : ∃ j : Nat, x = (j : Int) + 1 := ⟨(x - 1).toNat, by omega⟩
          have hjn : j < n := by omega
          clear hthx
          go_wp2_with (at_mapUpdate; refine wpList_mapUpdate rfl _ _ _ _ rfl (keys_int .i64) Try.underlying60 Try.underlying3 m (seenL s) rfl hs.p3 _ rfl (.int .i64 1) rfl ?_; intro w5 h5)
          have h6 : Sat w0 w5 (seenR m (s ++ [(j : Int) + 1]) * _) := h5.cast (by unfold seenR; rw [← HMS.out]; rfl)
          obtain ⟨q0, q1, q2⟩ := markC_cells h6.p3
          obtain ⟨y, hy, g2, off2, rfl, y0, y1, y2, y3, y4⟩ := HG.out.at h6.p4 hjn
          have hsl := HG.out.slots y (List.mem_of_getElem? hy)
          have hkd : kids (X.map (·.1)) ((j : Int) + 1) = refsV y.1.slots := kids_nat (by rw [List.getElem?_map, hy]; rfl)
          rw [hkd] at HFO hu5
          obtain ⟨⟨yk, yc, ys, yt, ym⟩, sa, sc⟩ := y
          dsimp only at y0 y1 y2 y3 y4 hsl hkd HFO hu5
          have hj1 : (j : Int) + 1 - 1 = j := by omega
          have hj2 : (0 : Int) ≤ (j : Int) := by omega
          have hj3 : (j : Int) < (n : Int) := by omega
          have hj4 : IntKind.i64.wrap (j : Int) = j := IntWalk.i64_in _ (by have := HG.out.small; omega)
          clear hkd hy hrg hjn d0 d1 d2 e0 hcap hlk h5 HMF
          have h7 : Sat w0 w5.drew (markC gb sb kb (some ⟨g2, off2, none⟩) n c m * (seenR m (s ++ [(j : Int) + 1]) * (SR * (slc 3 1 (some ⟨g, off, none⟩) ls.length rc (ls.map ival) * F)))) := h6.drew.cast (by ac_rfl)
          have HI := Lib.hid (IH.out w5.drew _ (s ++ [(j : Int) + 1]) sa sc ys hsl.1 hsl.2 hu4.out h7)
          clear h6 h7 hs h3
          refine wp_region_tail 8 (by kernel_rfl) (by kernel_rfl) ?_
          simp only [List.take_succ_cons, List.take_zero, List.drop_succ_cons, List.drop_zero]
          iterate 8 still_step
          refine wpStill_nil ?_
          go_wp2_with fail
          refine HI.out.mono ?_
          rintro e w8 ⟨rfl, h8⟩
          clear q0 q1 q2 y0 y1 y2 y3 y4 hj4
          go_wp2_with fail
          go_roundw
          case rel => exact ⟨k + 1, _, by go_num, by omega, HFO, hu5, h8.cast (by ac_rfl)⟩
          case measure => simp [intOf]; omega
      · have hkn : k = ls.length := by omega
        subst hkn
        have e := HSt.out
        rw [List.take_of_length_le (Nat.le_refl _)] at e
        have HE := Lib.hid e
        clear e
        go_wp2_with fail
        go_end0
        exact ⟨rfl, by rw [HE.out]; exact hs.drop⟩
set_option maxHeartbeats 1000000 in
theorem reach_marked (hG : SrcO w0 SR ga n c X) (hok : okG (X.map (·.1)) = true) {a : Option Addr} {cl : Nat} {l : List AVal} (hS : SrcV w0 SR a l.length cl l) (hn : l.length ≤ 1000000) (h : Sat w0 w (SR * F)) :
    Calls Try.prog 83 #[.agg #[.slice ga n c], .slice a l.length cl] w fun e w' => ∃ m, e = .returned (.map (some m)) ∧ Sat w0 w' (seenR m (markL (X.map (·.1)) (refsV l)) * (SR * F)) := by
  have h1 : Sat w0 _ (seenR (w.alloc (.cells #[.slice ga n c] 24)).heap.size [] * _) := ((h.alloc (.cells #[.slice ga n c] 24)).newMap (d := .int .i64) (kv := Value.int .i64))
  rw [size_alloc] at h1
  generalize hgb : w.heap.size = gb at *
  have h2 := (h1.alloc (.cells #[.map (some (gb + 1))] 60))
  rw [size_alloc, size_alloc, hgb] at h2
  have h3 := (h2.alloc (.cells #[.func (.func 107) #[] #[.pointer (some ⟨gb, 0, none⟩), .pointer (some ⟨gb + 1 + 1, 0, none⟩), .pointer (some ⟨gb + 1 + 1 + 1, 0, none⟩)]] 96))
  rw [size_alloc, size_alloc, size_alloc, hgb] at h3
  have h4 : Sat w0 _ (markC gb (gb + 1 + 1) (gb + 1 + 1 + 1) ga n c (gb + 1) * (seenR (gb + 1) [] * (SR * F))) := h3.cast (by unfold markC; ac_rfl)
  obtain ⟨c0, c1, c2⟩ := markC_cells h4
  have HI := Lib.hid (mark_fn hG hok ((X.map (·.1)).length + 1) _ _ [] a cl l hS hn (by have := unseen_le (X.map (·.1)) []; omega) h4)
  clear h1 h2 h3 h4 hS hok h
  have hmm := @run_makeMap Try.prog
  go_enter Try.func83, Try.ntmps83
  try rw [hgb]
  go_wp2_with fail
  refine HI.out.mono ?_
  rintro e w5 ⟨rfl, h5⟩
  obtain ⟨d0, d1, d2⟩ := markC_cells h5
  go_wp2_with fail
  go_ret
  refine ⟨gb + 1, rfl, ?_⟩
  have hth : ((refsV l).filter (thereG (X.map (·.1)))) = ((refsV l).filter (thereG (X.map (·.1)))) := rfl
  exact h5.drop
end
end Go.Proofs.Ytmngkodejlhalaa.Tw
