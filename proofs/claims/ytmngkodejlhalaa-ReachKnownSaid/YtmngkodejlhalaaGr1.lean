/- Graphs in memory; val.Refs. No condition. -/
import Derived.Test.YtmngkodejlhalaaGr0
import Derived.Test.YtmngkodejlhalaaQuiet
namespace Go.Proofs.Ytmngkodejlhalaa.Tw
set_option linter.unusedVariables false
set_option linter.unusedSimpArgs false
open Go Go.RowKit Go.MapKept

/-- objects in a slice, wherever SR is held -/
structure SrcO (w0 : World) (SR : HP) (a : Option Addr) (n c : Nat) (X : List XObj) : Prop where
  cell : ∀ w' G, Sat w0 w' (SR * G) → ∀ k x, X[k]? = some x → ∃ g off, a = some ⟨g, off, none⟩ ∧ w'.cell? ⟨g, off + k * 5, none⟩ = some (.int .i64 x.1.kind) ∧ w'.cell? ⟨g, off + k * 5 + 1, none⟩ = some (.int .i64 x.1.count) ∧ w'.cell? ⟨g, off + k * 5 + 2, none⟩ = some (.slice x.2.1 x.1.slots.length x.2.2) ∧ w'.cell? ⟨g, off + k * 5 + 3, none⟩ = some (.string x.1.text) ∧ w'.cell? ⟨g, off + k * 5 + 4, none⟩ = some (.int .i64 x.1.mark)
  len : X.length = n
  nil0 : a = none → n = 0 ∧ c = 0
  cap : n ≤ c ∧ c ≤ maxLen
  slots : ∀ x ∈ X, SrcV w0 SR x.2.1 x.1.slots.length x.2.2 x.1.slots ∧ x.1.slots.length ≤ 1000000
  small : n ≤ 1000000

theorem SrcV.at {w0 w : World} {SR F : HP} {a : Option Addr} {n c : Nat} {l : List AVal} (h : SrcV w0 SR a n c l) (hs : Sat w0 w (SR * F)) {k : Nat} (hk : k < n) :
    ∃ x, l[k]? = some x ∧ ∃ g off, a = some ⟨g, off, none⟩ ∧ w.cell? ⟨g, off + k * 2, none⟩ = some (.int .i64 x.kind) ∧ w.cell? ⟨g, off + k * 2 + 1, none⟩ = some (.int .i64 x.n) := by
  have e : l[k]? = some (l[k]'(by rw [h.2.1]; exact hk)) := List.getElem?_eq_getElem _
  exact ⟨_, e, h.1 _ _ hs _ _ e⟩
theorem refsV_take {l : List AVal} {k : Nat} {x : AVal} (h : l[k]? = some x) : refsV (l.take (k + 1)) = refsV (l.take k) ++ if refV x then [x.n] else [] := by
  unfold refsV
  rw [List.take_add_one, h, List.filter_append, List.map_append]
  cases hq : refV x <;> simp [List.filter_cons, hq]
theorem refsV_len (l : List AVal) (k : Nat) : (refsV (l.take k)).length ≤ k := by
  unfold refsV
  rw [List.length_map]
  have h1 := List.length_filter_le refV (l.take k)
  have h2 := List.length_take_le k l
  omega
set_option maxHeartbeats 1000000 in
theorem val_Refs {w0 w : World} {SR F : HP} {a : Option Addr} {n c : Nat} {l : List AVal} (h : Sat w0 w (SR * F)) (hS : SrcV w0 SR a n c l) (hn : n ≤ 1000000) :
    Calls Try.prog 27 #[.slice a n c] w fun e w' => ∃ ra rc, e = .returned (.slice ra (refsV l).length rc) ∧ Sat w0 w' (slc 3 1 ra (refsV l).length rc ((refsV l).map ival) * (SR * F)) := by
  have hcap := hS.2.2.2
  have hlen := hS.2.1
  have HS := Lib.hid hS
  have hall : Hid (l.take n = l) := Lib.hid (List.take_of_length_le (by omega))
  clear hS hlen
  go_enter Try.func27, Try.ntmps27
  go_wp2
  go_loopw [3, 8] (fun ov iv wr => ∃ (k : Nat) (ra : Option Addr) (rc : Nat), iv = .int .i64 k ∧ k ≤ n ∧ ov = .slice ra (refsV (l.take k)).length rc ∧ Sat w0 wr (slc 3 1 ra (refsV (l.take k)).length rc ((refsV (l.take k)).map ival) * (SR * F))) (fun _ iv _ => n - (intOf iv).toNat)
  case atStart => exact ⟨0, none, 0, rfl, by omega, rfl, h.nilSlc⟩
  case round =>
    obtain ⟨k, ra, rc, rfl, hk, rfl, hs⟩ := hrel
    have hl := refsV_len l k
    by_cases hlt : k < n
    · obtain ⟨x, hx, g, off, rfl, c0, c1⟩ := HS.out.at hs.p2 hlt
      have hT := refsV_take hx
      obtain ⟨xk, xn⟩ := x
      dsimp only at c0 c1
      have h1 := hs.alloc (.cells #[.int .i64 xk, .int .i64 xn] 33)
      have hR := val_Ref ⟨xk, xn⟩ h1
      cases hq : refV ⟨xk, xn⟩ with
      | true =>
        rw [hq] at hR hT
        have HR := Lib.hid hR
        have HT := Lib.hid hT
        clear hT hx hR hq
        generalize hL : refsV (l.take k) = L at *
        have HL := Lib.hid hL
        clear hL
        go_wp2_with fail
        refine HR.out.mono ?_
        rintro e w1 ⟨rfl, h2⟩
        have d1 : w1.cell? ⟨wr.heap.size, 1, none⟩ = some (.int .i64 xn) := Sat.cell (T := 33) (cs := #[.int .i64 xk, .int .i64 xn]) h2 1 rfl
        have h3 := h2.alloc (.cells #[.int .i64 xn] 3)
        have b0 : (w1.alloc (.cells #[.int .i64 xn] 3)).cell? ⟨w1.heap.size, 0, none⟩ = some (.int .i64 xn) := Sat.cell (T := 3) (cs := #[.int .i64 xn]) h3 0 rfl
        clear h1
        go_wp2_with (at_builtin; refine wpList_push rfl _ _ rfl ra L.length rc L rfl h3.p3 w1.heap.size 1 xn rfl b0 (by omega) ?_; intro a' c' w4 h4)
        go_roundw
        case rel =>
          refine ⟨k + 1, a', c', by go_num, by omega, ?_, ?_⟩
          · rw [HT.out]; simp
          · rw [HT.out, List.length_append]; exact h4.p3.drop.p2.drop
        case measure => simp [intOf]; omega
      | false =>
        rw [hq] at hR hT
        have HR := Lib.hid hR
        have HT := Lib.hid (hT.trans (List.append_nil _))
        clear hT hx hR hq
        generalize hL : refsV (l.take k) = L at *
        have HL := Lib.hid hL
        clear hL
        go_wp2_with fail
        refine HR.out.mono ?_
        rintro e w1 ⟨rfl, h2⟩
        clear h1
        go_wp2_with fail
        go_roundw
        case rel =>
          refine ⟨k + 1, ra, rc, by go_num, by omega, ?_, ?_⟩
          · rw [HT.out]
          · rw [HT.out]; exact h2.drop
        case measure => simp [intOf]; omega
    · have hkn : k = n := by omega
      subst hkn
      rw [hall.out] at hs hl ⊢
      go_wp2
      go_ret
      exact ⟨ra, rc, rfl, hs⟩
end Go.Proofs.Ytmngkodejlhalaa.Tw
