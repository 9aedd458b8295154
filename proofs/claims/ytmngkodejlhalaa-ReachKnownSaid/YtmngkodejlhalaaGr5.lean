/- graph: Check. No condition. -/
import Derived.Test.YtmngkodejlhalaaGr4
namespace Go.Proofs.Ytmngkodejlhalaa.Tw
set_option linter.unusedVariables false
set_option linter.unusedSimpArgs false
open Go Go.RowKit Go.MapKept

section
variable {w0 w : World} {SR F : HP} {ga : Option Addr} {n c : Nat} {X : List XObj}
/-- the function answers p x of the objects of X, and keeps C -/
def AsksO (w0 : World) (g : Nat) (lb : Array Value) (C : HP) (X : List XObj) (p : AObj → Bool) : Prop :=
  ∀ (w : World) (G : HP) (x : XObj), x ∈ X → Sat w0 w (C * G) → Calls Try.prog g (#[.agg #[.int .i64 x.1.kind, .int .i64 x.1.count, .slice x.2.1 x.1.slots.length x.2.2, .string x.1.text, .int .i64 x.1.mark]] ++ lb) w fun e w' => e = .returned (.bool (p x.1)) ∧ Sat w0 w' (C * G)
theorem AsksO.mono' {C : HP} {g : Nat} {lb : Array Value} {p : AObj → Bool} (h : AsksO w0 g lb C X p) : AsksO w0 g lb (SR * C) X p := fun w G x hx hs => (h w (SR * G) x hx (hs.cast (by ac_rfl))).mono fun _ _ ⟨e, h2⟩ => ⟨e, h2.cast (by ac_rfl)⟩
theorem SrcO.mono {C : HP} (h : SrcO w0 SR ga n c X) : SrcO w0 (SR * C) ga n c X := ⟨fun w' G hs => h.cell w' (C * G) hs.assoc, h.len, h.nil0, h.cap, fun x hx => ⟨(h.slots x hx).1.mono, (h.slots x hx).2⟩, h.small⟩
theorem SrcO.mono' {C : HP} (h : SrcO w0 SR ga n c X) : SrcO w0 (C * SR) ga n c X := by rw [mul_comm]; exact h.mono
set_option maxHeartbeats 1000000 in
theorem indexFunc_obj {C : HP} (p : AObj → Bool) (g : Nat) (lb : Array Value) (eg : ∀ args w, (callFunc g args).run Try.prog w = .ok (.enter g args) w) (hp : AsksO w0 g lb C X p) (h : Sat w0 w (C * F)) (hS : SrcO w0 C ga n c X) :
    Calls Try.prog 93 #[.slice ga n c, .func (.func g) #[] lb] w fun e w' => e = .returned (.int .i64 (idxF (fun x : XObj => p x.1) X)) ∧ Sat w0 w' (C * F) := by
  have HP' := Lib.hid hp
  have hl := hS.len
  have HSS := Lib.hid hS
  have hsm := hS.small
  clear hp hS
  go_enter Try.func93, Try.ntmps93
  go_wp2
  go_loopw [8] (fun iv wr => ∃ k : Nat, iv = .int .i64 k ∧ k ≤ n ∧ Hid (∀ j (y : XObj), j < k → X[j]? = some y → p y.1 = false) ∧ Sat w0 wr (C * F)) (fun iv _ => n - (intOf iv).toNat)
  case atStart => exact ⟨0, rfl, by omega, Lib.hid (by intro j y hj; omega), h⟩
  case round =>
    obtain ⟨k, rfl, hk, HB, hs⟩ := hrel
    by_cases hlt : k < n
    · obtain ⟨x, hx, gb, off, rfl, hc0, hc1, hc2, hc3, hc4⟩ := HSS.out.at hs hlt
      have hcap := HSS.out.cap
      have hcall := HP'.out wr F x (List.mem_of_getElem? hx) hs
      have HX := Lib.hid hx
      clear hx
      obtain ⟨⟨xk, xc, xs, xt, xm⟩, sa, sc⟩ := x
      dsimp only at hc0 hc1 hc2 hc3 hc4 hcall
      cases hq : p ⟨xk, xc, xs, xt, xm⟩ with
      | true =>
        rw [hq] at hcall
        have HQ := Lib.hid hq
        have HC := Lib.hid hcall
        clear hq hcall
        go_wp2_with fail
        go_at_fn g
        refine HC.out.mono ?_
        rintro e w' ⟨rfl, h2⟩
        go_wp2_with fail
        go_ret
        exact ⟨by rw [idxF_some (fun x : XObj => p x.1) HX.out HQ.out HB.out]; rfl, h2⟩
      | false =>
        rw [hq] at hcall
        have HQ := Lib.hid hq
        have HC := Lib.hid hcall
        clear hq hcall
        go_wp2_with fail
        go_at_fn g
        refine HC.out.mono ?_
        rintro e w' ⟨rfl, h2⟩
        go_wp2_with fail
        go_roundw
        case rel =>
          refine ⟨k + 1, by go_num, by omega, Lib.hid ?_, h2⟩
          intro j y hj hy
          rcases Nat.lt_or_ge j k with h3 | h3
          · exact HB.out j y h3 hy
          · obtain rfl : j = k := by omega
            rw [HX.out] at hy; cases hy; exact HQ.out
        case measure => simp [intOf]; omega
    · have hkn : k = n := by omega
      go_wp2
      go_ret
      refine ⟨?_, hs⟩
      rw [idxF_none]
      · rfl
      intro x hx
      obtain ⟨j, hj, e⟩ := List.mem_iff_getElem.1 hx
      exact HB.out j x (by omega) (by rw [← e]; exact List.getElem?_eq_getElem _)
theorem containsFunc_obj {C : HP} (p : AObj → Bool) (g : Nat) (lb : Array Value) (eg : ∀ args w, (callFunc g args).run Try.prog w = .ok (.enter g args) w) (hp : AsksO w0 g lb C X p) (h : Sat w0 w (C * F)) (hS : SrcO w0 C ga n c X) :
    Calls Try.prog 61 #[.slice ga n c, .func (.func g) #[] lb] w fun e w' => e = .returned (.bool (X.any fun x => p x.1)) ∧ Sat w0 w' (C * F) := by
  have HI := Lib.hid (indexFunc_obj p g lb eg hp h hS)
  have HD := Lib.hid (idxF_any (fun x : XObj => p x.1) X)
  generalize idxF (fun x : XObj => p x.1) X = r at *
  generalize (X.any fun x => p x.1) = q at *
  clear hp hS
  go_enter Try.func61, Try.ntmps61
  go_wp2_with fail
  refine HI.out.mono ?_
  rintro e w' ⟨rfl, h2⟩
  go_wp2_with fail
  go_ret
  exact ⟨by rw [← HD.out]; rfl, h2⟩
theorem check_fn (gb : Nat) (hG : SrcO w0 SR ga n c X) : AsksO w0 62 #[.pointer (some ⟨gb, 0, none⟩)] (pt gb (.cells #[.slice ga n c] 24 (0, 0)) * SR) X (fun o => !objOk (X.map (·.1)) o) := by
  intro w1 G x hx h
  have hsl := hG.slots x hx
  obtain ⟨⟨xk, xc, xs, xt, xm⟩, sa, sc⟩ := x
  have h1 := h.alloc (.cells #[.int .i64 xk, .int .i64 xc, .slice sa xs.length sc, .string xt, .int .i64 xm] 39)
  have h2 : Sat w0 _ (SR * (pt gb (.cells #[.slice ga n c] 24 (0, 0)) * (pt w1.heap.size (.cells #[.int .i64 xk, .int .i64 xc, .slice sa xs.length sc, .string xt, .int .i64 xm] 39 (0, 0)) * G))) := h1.cast (by ac_rfl)
  have c0 := boxG h2.p2
  obtain ⟨d0, d1, d2, d3, d4⟩ := boxO h2.p3
  have HS := Lib.hid (graph_obj (k := xk) (cc := xc) (m := xm) (tx := xt) h2 hG hsl.1 hsl.2)
  clear h hG h1 hsl hx
  show Calls Try.prog 62 #[.agg #[.int .i64 xk, .int .i64 xc, .slice sa xs.length sc, .string xt, .int .i64 xm], .pointer (some ⟨gb, 0, none⟩)] w1 _
  go_enter Try.func62, Try.ntmps62
  go_wp2_with fail
  refine HS.out.mono ?_
  rintro e w3 ⟨rfl, h3⟩
  go_wp2_with fail
  go_ret
  exact ⟨rfl, h3.p3.drop.cast (by ac_rfl)⟩
theorem graph_Check (h : Sat w0 w (SR * F)) (hG : SrcO w0 SR ga n c X) :
    Calls Try.prog 24 #[.agg #[.slice ga n c]] w fun e w' => e = .returned (.bool (okG (X.map (·.1)))) ∧ Sat w0 w' (SR * F) := by
  have hb := h.alloc (.cells #[.slice ga n c] 24)
  generalize hgb : w.heap.size = gb at *
  have c0 := boxG hb
  have hC := containsFunc_obj (fun o => !objOk (X.map (·.1)) o) 62 #[.pointer (some ⟨gb, 0, none⟩)] (enters_of Try.func62 (by kernel_rfl) rfl) (check_fn gb hG) hb.unassoc hG.mono'
  have HA := Lib.hid (show (!X.any fun x => !objOk (X.map (·.1)) x.1) = okG (X.map (·.1)) by unfold okG; rw [List.all_map, List.all_eq_not_any_not]; rfl)
  have HC := Lib.hid hC
  clear hC h hb hG
  generalize okG (X.map (·.1)) = r at *
  generalize (X.any fun x => !objOk (X.map (·.1)) x.1) = q at *
  go_enter Try.func24, Try.ntmps24
  try rw [hgb]
  go_wp2_with fail
  refine HC.out.mono ?_
  rintro e w3 ⟨rfl, h3⟩
  go_wp2_with fail
  go_ret
  exact ⟨by rw [← HA.out]; rfl, h3.assoc.drop⟩
end
end Go.Proofs.Ytmngkodejlhalaa.Tw
