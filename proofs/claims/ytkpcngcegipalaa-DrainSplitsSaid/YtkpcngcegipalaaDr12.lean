/- the honest hand of drain's laws: a move that pops. No condition. -/
import Derived.Test.YtkpcngcegipalaaDr10
namespace Go.Proofs.Ytkpcngcegipalaa.Tw
set_option linter.unusedVariables false
set_option linter.unusedSimpArgs false
open Go Go.RowKit Go.MapKept

section
variable {w0 w : World} {b p : Nat} {l : List AVal} {A : AHeap} {B : Int} {F : HP}
theorem pop_to {n : Int} {v : AVal} {pe : Int} (hv : A.popV n = v) (hpe : A.popE n = pe) (h : Calls Try.prog 61 #[.pointer (some ⟨p, 0, none⟩), .int .i64 n] w fun e w' => e = .returned (.tuple #[.agg #[.int .i64 (A.popV n).kind, .int .i64 (A.popV n).n], .int .i64 (A.popE n)]) ∧ Sat w0 w' (heapR mN p (A.popF n) * F)) :
    Calls Try.prog 61 #[.pointer (some ⟨p, 0, none⟩), .int .i64 n] w fun e w' => e = .returned (.tuple #[.agg #[.int .i64 v.kind, .int .i64 v.n], .int .i64 pe]) ∧ Sat w0 w' (heapR mN p (A.popF n) * F) := by subst hv hpe; exact h
theorem pop_look {a : Nat} {u : AVal} (hu : lookV l a = u) (h : Calls Try.prog 138 #[.pointer (some ⟨b, 0, none⟩), .int .u8 a] w fun e w' => e = .returned (.agg #[.int .i64 (lookV l a).kind, .int .i64 (lookV l a).n]) ∧ Sat w0 w' (handL b p l * F)) :
    Calls Try.prog 138 #[.pointer (some ⟨b, 0, none⟩), .int .u8 a] w fun e w' => e = .returned (.agg #[.int .i64 u.kind, .int .i64 u.n]) ∧ Sat w0 w' (handL b p l * F) := by subst hu; exact h
theorem popS {w' : World} {xb K a c : Nat} {HH : HP} (h : Sat w0 w' (handL b p l * (pt xb (.cells #[.int .u8 K, .int .u8 a, .int .u8 c] 153 (0, 0)) * HH))) :
    w'.cell? ⟨b, 0, none⟩ = some (.pointer (some ⟨p, 0, none⟩)) ∧ w'.cell? ⟨xb, 1, none⟩ = some (.int .u8 a) :=
  ⟨h.handH, Sat.cell (T := 153) (cs := #[.int .u8 K, .int .u8 a, .int .u8 c]) h.p2 1 rfl⟩
set_option maxRecDepth 100000 in
set_option maxHeartbeats 2000000 in
theorem hd_do2 (H : HW A B) (hB : B ≤ 1000000) (h : Sat w0 w (heapR mN p A * (handL b p l * F))) (hl : l.length ≤ 1000000) (K a c : Nat) (hK : K < 256) (ha : a < 256) (hc : c < 256) (h0 : K % 7 = 2) :
    Calls Try.prog 98 #[.pointer (some ⟨b, 0, none⟩), .agg #[.int .u8 K, .int .u8 a, .int .u8 c]] w fun e w' => e = .returned (.tuple #[]) ∧ Sat w0 w' (heapR mN p (A.popF (lookV l a).n) * (handL b p (if A.popE (lookV l a).n = 0 ∧ refV (lookV l a) = true then l ++ [A.popV (lookV l a).n] else l) * F)) := by
  have hmk : (K : Int).tmod 7 = 2 := by rw [Int.tmod_eq_emod_of_nonneg (by omega)]; omega
  have h1 := h.alloc (.cells #[.int .u8 K, .int .u8 a, .int .u8 c] 153)
  generalize hxb : w.heap.size = xb at *
  have x1 : (w.alloc (.cells #[.int .u8 K, .int .u8 a, .int .u8 c] 153)).cell? ⟨xb, 1, none⟩ = some (.int .u8 a) := Sat.cell (T := 153) (cs := #[.int .u8 K, .int .u8 a, .int .u8 c]) h1 1 rfl
  obtain ⟨la, lc, h2⟩ := h1.p3.openHand
  have c0 : (w.alloc (.cells #[.int .u8 K, .int .u8 a, .int .u8 c] 153)).cell? ⟨b, 0, none⟩ = some (.pointer (some ⟨p, 0, none⟩)) := h2.cell 0 rfl
  clear h2
  have HT := Lib.hid (hd_look h1.p3.drew hl a ha)
  have hz := h1.drew.alloc (.cells #[.int .i64 0, .int .i64 0] 28)
  rw [show (w.alloc (.cells #[.int .u8 K, .int .u8 a, .int .u8 c] 153)).drew.heap.size = xb + 1 by show (w.alloc _).heap.size = _; rw [size_alloc, hxb]] at hz
  have HTz := Lib.hid (hd_look hz.p4 hl a ha)
  have sA : (w.alloc (.cells #[.int .u8 K, .int .u8 a, .int .u8 c] 153)).drew.cell? ⟨b, 0, none⟩ = some (.pointer (some ⟨p, 0, none⟩)) ∧ (w.alloc (.cells #[.int .u8 K, .int .u8 a, .int .u8 c] 153)).drew.cell? ⟨xb, 1, none⟩ = some (.int .u8 a) := popS h1.p3.drew
  have sB : ((w.alloc (.cells #[.int .u8 K, .int .u8 a, .int .u8 c] 153)).drew.alloc (.cells #[.int .i64 0, .int .i64 0] 28)).cell? ⟨b, 0, none⟩ = some (.pointer (some ⟨p, 0, none⟩)) ∧ ((w.alloc (.cells #[.int .u8 K, .int .u8 a, .int .u8 c] 153)).drew.alloc (.cells #[.int .i64 0, .int .i64 0] 28)).cell? ⟨xb, 1, none⟩ = some (.int .u8 a) := popS hz.drop.p3
  have hlk : lookV l a = lookV l a := rfl
  generalize hu : lookV l a = u at *
  generalize hv : A.popV u.n = v at *
  generalize hpe : A.popE u.n = pe at *
  generalize hrf : refV u = rf at *
  have hr0 : (pe = 0 ∧ rf = true) → (if pe = 0 ∧ rf = true then l ++ [v] else l) = l ++ [v] := fun e => if_pos e
  have hr1 : ¬ (pe = 0 ∧ rf = true) → (if pe = 0 ∧ rf = true then l ++ [v] else l) = l := fun e => if_neg e
  generalize (if pe = 0 ∧ rf = true then l ++ [v] else l) = r at *
  have HR := Lib.hid (And.intro hr0 hr1)
  have hfv := run_field_val1 u.kind u.n
  clear h1 h hr0 hr1 hz
  go_enter Try.func98, Try.ntmps98
  try rw [hxb]
  go_wp2_with fail
  go_region_held3 (fun w' => w'.cell? ⟨b, 0, none⟩ = some (.pointer (some ⟨p, 0, none⟩)) ∧ w'.cell? ⟨xb, 1, none⟩ = some (.int .u8 a)) (assumption) (first
    | (go_at_call 138; refine HT.out.mono ?_; rintro e w2 ⟨rfl, h3⟩; have s2 := popS h3; have s2z := popS (h3.alloc (.cells #[.int .i64 0, .int .i64 0] 28)).drop)
    | (go_at_call 138; refine HTz.out.mono ?_; rintro e w2 ⟨rfl, h3⟩; have s2 := popS h3.drop2)
    | (go_at_call 61; refine (pop_to hv hpe (t_Pop H hB (knowsN _) h3.p3 u.n)).mono ?_; rintro e w3 ⟨rfl, h4⟩; have s3 := popS h4.drop; have hz4 := (h4.alloc (.cells #[.int .i64 0, .int .i64 0] 28)); have s3z := popS hz4.drop.drop; have h5 := (h4.alloc (.cells #[.int .i64 v.kind, .int .i64 v.n] 28)); have s3v := popS h5.drop.drop)
    | (go_at_call 61; refine (pop_to hv hpe (t_Pop H hB (knowsN _) (h3.alloc (.cells #[.int .i64 0, .int .i64 0] 28)).p4 u.n)).mono ?_; rintro e w3 ⟨rfl, h4⟩; have s3 := popS h4.drop.drop; have h4 := h4.p2; have f0 := (val2' h4).2.2.1; have f1 := (val2' h4).2.2.2; have y0 := (val2' h4).1; have y1 := (val2' h4).2.1; have h5 := h4.setVal v.kind v.n; have s3z := popS h5.drop.drop)
    | (go_at_call 61; refine (pop_to hv hpe (t_Pop H hB (knowsN _) h3.p4 u.n)).mono ?_; rintro e w3 ⟨rfl, h4⟩; have s3 := popS h4.drop.drop2; have h4 := h4.p3; have f0 := (val2' h4).2.2.1; have f1 := (val2' h4).2.2.2; have y0 := (val2' h4).1; have y1 := (val2' h4).2.1; have h5 := h4.setVal v.kind v.n; have s3z := popS h5.drop.drop))
  all_goals
    clear h3
    by_cases hz : pe = 0
    · have HZ := Lib.hid hz
      subst hz
      go_wp2_with fail
      refine (pop_look hu (hd_look h5.p3 hl a ha)).mono ?_
      rintro e w5 ⟨rfl, h6⟩
      clear h4 h5
      go_wp2_with fail
      refine (val_Ref u h6).mono ?_
      rw [hrf]
      rintro e w6 ⟨rfl, h7⟩
      clear h6
      cases rf with
      | true =>
        obtain ⟨la, lc, h8⟩ := h7.openHand
        have e0 := (val2' h8.p3).1
        have e1 := (val2' h8.p3).2.1
        have e2 : w6.cell? ⟨b, 1, none⟩ = some (.slice la l.length lc) := h8.cell 1 rfl
        have h9 := h8.alloc (.cells #[.int .i64 v.kind, .int .i64 v.n] 28)
        have b0 := (val2' h9).1
        have b1 := (val2' h9).2.1
        have g1 : (w6.alloc (.cells #[.int .i64 v.kind, .int .i64 v.n] 28)).cell? ⟨b, 1, none⟩ = some (.slice la l.length lc) := h9.p2.cell 1 rfl
        clear h7 h8
        go_wp2_with fail
        go_region_law ((refine step_of rfl (wp_pushVal _ _ rfl la l.length lc l (by simp [Act.eval, Act.put]) h9.drew.p3 w6.heap.size 1 v (by simp [Act.eval, Act.put]) b0 b1 (by omega) ?_); intro a' c' w7 h10; have f5 := h10.p3.free 1; have q5 : w7.cell? ⟨b, 1, none⟩ = some (.slice la l.length lc) := h10.p3.cell 1 rfl))
        all_goals
          have h11 := h10.p3.store (i := 1) (.slice a' (l.length + 1) c')
          go_wp2_with fail
          go_end0
          rw [HR.out.1 (by first | exact ⟨HZ.out, rfl⟩ | exact ⟨trivial, trivial⟩ | trivial)]
          have h12 : Sat w0 (w7.setCell ⟨b, 1, none⟩ (.slice a' (l.length + 1) c')) (row b 77 #[.pointer (some ⟨p, 0, none⟩), .slice a' (l.length + 1) c'] * _) := h11.p3.drop.p3.drop.p4.drop
          exact ⟨rfl, (h12.shutHand (by simp)).p2⟩
      | false =>
        go_wp2_with fail
        go_end0
        rw [HR.out.2 (by first | (rintro ⟨_, e⟩; cases e; done) | simp)]
        exact ⟨rfl, h7.p2.drop.p3.drop.p2⟩
    · have hz2 : (pe == 0) = false := by simpa using hz
      have HZ := Lib.hid hz
      clear hz
      go_wp2_with fail
      go_end0
      rw [HR.out.2 (by rintro ⟨e, _⟩; exact HZ.out e)]
      exact ⟨rfl, h5.drop.p3.drop⟩
end
end Go.Proofs.Ytkpcngcegipalaa.Tw
