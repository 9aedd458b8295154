/- ContainsFunc of values that lie where the function value's own things lie. No condition. -/
import Derived.Test.YtmngkodejlhalaaGr1
namespace Go.Proofs.Ytmngkodejlhalaa.Tw
set_option linter.unusedVariables false
set_option linter.unusedSimpArgs false
open Go Go.RowKit Go.MapKept

theorem SrcV.mono {w0 : World} {SR C : HP} {a : Option Addr} {n c : Nat} {l : List AVal} (h : SrcV w0 SR a n c l) : SrcV w0 (SR * C) a n c l := ⟨fun w' G hs => h.1 w' (C * G) hs.assoc, h.2⟩
theorem SrcV.mono' {w0 : World} {SR C : HP} {a : Option Addr} {n c : Nat} {l : List AVal} (h : SrcV w0 SR a n c l) : SrcV w0 (C * SR) a n c l := by rw [mul_comm]; exact h.mono
theorem AsksV.mono' {w0 : World} {SR C : HP} {g : Nat} {lb : Array Value} {p : AVal → Bool} (h : AsksV w0 g lb C p) : AsksV w0 g lb (SR * C) p := fun w G x hs => (h w (SR * G) x (hs.cast (by ac_rfl))).mono fun _ _ ⟨e, h2⟩ => ⟨e, h2.cast (by ac_rfl)⟩
set_option maxHeartbeats 1000000 in
theorem indexFunc_valC {w0 w : World} {C F : HP} {a : Option Addr} {c n : Nat} {l : List AVal} (p : AVal → Bool) (g : Nat) (lb : Array Value) (eg : ∀ args w, (callFunc g args).run Try.prog w = .ok (.enter g args) w) (hp : AsksV w0 g lb C p) (h : Sat w0 w (C * F)) (hS : SrcV w0 C a n c l) (hn : n ≤ 1000000000) :
    Calls Try.prog 112 #[.slice a n c, .func (.func g) #[] lb] w fun e w' => e = .returned (.int .i64 (idxF p l)) ∧ Sat w0 w' (C * F) := by
  have HP' := Lib.hid hp
  have hl := hS.2.1
  have HSS := Lib.hid hS
  clear hp hS
  go_enter Try.func112, Try.ntmps112
  go_wp2
  go_loopw [8] (fun iv wr => ∃ k : Nat, iv = .int .i64 k ∧ k ≤ n ∧ Hid (∀ j y, j < k → l[j]? = some y → p y = false) ∧ Sat w0 wr (C * F)) (fun iv _ => n - (intOf iv).toNat)
  case atStart => exact ⟨0, rfl, by omega, Lib.hid (by intro j y hj; omega), h⟩
  case round =>
    obtain ⟨k, rfl, hk, HB, hs⟩ := hrel
    by_cases hlt : k < n
    · obtain ⟨x, hx⟩ : ∃ x, l[k]? = some x := ⟨l[k]'(by omega), List.getElem?_eq_getElem _⟩
      obtain ⟨gb, off, rfl, hc, hc1⟩ := HSS.out.1 _ _ hs _ _ hx
      have hcap := HSS.out.2.2.2
      have hcall := HP'.out wr F x hs
      have HX := Lib.hid hx
      clear hx
      cases hq : p x with
      | true =>
        rw [hq] at hcall
        have HQ := Lib.hid hq
        have HC := Lib.hid hcall
        clear hq hcall
        go_wp2_with fail
        go_at_fn g
        refine HC.out.mono ?_
        rintro e w' ⟨rfl, h2⟩
        go_wp2_with fail
        go_ret
        exact ⟨by rw [idxF_some p HX.out HQ.out HB.out]; rfl, h2⟩
      | false =>
        rw [hq] at hcall
        have HQ := Lib.hid hq
        have HC := Lib.hid hcall
        clear hq hcall
        go_wp2_with fail
        go_at_fn g
        refine HC.out.mono ?_
        rintro e w' ⟨rfl, h2⟩
        go_wp2_with fail
        go_roundw
        case rel =>
          refine ⟨k + 1, by go_num, by omega, Lib.hid ?_, h2⟩
          intro j y hj hy
          rcases Nat.lt_or_ge j k with h3 | h3
          · exact HB.out j y h3 hy
          · obtain rfl : j = k := by omega
            rw [HX.out] at hy; cases hy; exact HQ.out
        case measure => simp [intOf]; omega
    · have hkn : k = n := by omega
      go_wp2
      go_ret
      refine ⟨?_, hs⟩
      rw [idxF_none]
      · rfl
      intro x hx
      obtain ⟨j, hj, e⟩ := List.mem_iff_getElem.1 hx
      exact HB.out j x (by omega) (by rw [← e]; exact List.getElem?_eq_getElem _)
theorem containsFunc_valC {w0 w : World} {C F : HP} {a : Option Addr} {c n : Nat} {l : List AVal} (p : AVal → Bool) (g : Nat) (lb : Array Value) (eg : ∀ args w, (callFunc g args).run Try.prog w = .ok (.enter g args) w) (hp : AsksV w0 g lb C p) (h : Sat w0 w (C * F)) (hS : SrcV w0 C a n c l) (hn : n ≤ 1000000000) :
    Calls Try.prog 98 #[.slice a n c, .func (.func g) #[] lb] w fun e w' => e = .returned (.bool (l.any p)) ∧ Sat w0 w' (C * F) := by
  have HI := Lib.hid (indexFunc_valC p g lb eg hp h hS hn)
  have HD := Lib.hid (idxF_any p l)
  generalize idxF p l = r at *
  generalize l.any p = q at *
  clear hp hS
  go_enter Try.func98, Try.ntmps98
  go_wp2_with fail
  refine HI.out.mono ?_
  rintro e w' ⟨rfl, h2⟩
  go_wp2_with fail
  go_ret
  exact ⟨by rw [← HD.out]; rfl, h2⟩
end Go.Proofs.Ytmngkodejlhalaa.Tw
