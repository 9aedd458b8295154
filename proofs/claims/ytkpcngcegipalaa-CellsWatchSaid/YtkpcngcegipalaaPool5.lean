/- The pool: Give. No condition. -/
import Derived.Test.YtkpcngcegipalaaPool4
namespace Go.Proofs.Ytkpcngcegipalaa.Tw
set_option linter.unusedVariables false
set_option linter.unusedSimpArgs false
open Go Go.RowKit Go.MapKept

theorem pool_Give_no {w0 w : World} {F : HP} {p : Nat} {T : List Bool} (h : Sat w0 w (poolR p T * F)) (n : Int) (hn : tk T n = false) :
    Calls Try.prog 79 #[.pointer (some ⟨p, 0, none⟩), .int .i64 n] w fun e w' => e = .returned (.bool false) ∧ Sat w0 w' (poolR p T * F) := by
  go_enter Try.func79, Try.ntmps79
  go_wp2_with (go_at_call 121; refine (pool_In h n).mono ?_; rintro e w' ⟨rfl, hs'⟩)
  go_ret
  exact ⟨rfl, hs'⟩
theorem slcFirst (A B C F : HP) : A * (B * (C * F)) = C * (A * (B * F)) := by ac_rfl
theorem rowFirst (A B C F : HP) : A * (B * (C * F)) = C * (A * (B * F)) := by ac_rfl
theorem giveEnd (A B C F : HP) : A * (B * (C * F)) = A * (C * (B * F)) := by ac_rfl
theorem insFirst {w0 w : World} {A B C F : HP} {n : Int} (h : Sat w0 w (A * (B * (C * F)))) :
    Sat w0 (w.alloc (.cells #[.int .i64 n] 3)) (C * (slc 3 1 (some ⟨w.heap.size, 0, none⟩) 1 1 [ival n] * (A * (B * F)))) := by
  have h1 : Sat w0 (w.alloc (.cells #[.int .i64 n] 3)) (slc 3 1 (some ⟨w.heap.size, 0, none⟩) 1 1 [ival n] * (A * (B * (C * F)))) :=
    Sat.shutSlc (g := w.heap.size) (off := 0) (cur := #[.int .i64 n]) (h.alloc _) (Nat.le_refl _) (by unfold maxLen; omega) (by simp) (by simp [ival])
  exact h1.cast (by ac_rfl)
theorem pool_Give_yes {w0 w : World} {F : HP} {p : Nat} {T : List Bool} (h : Sat w0 w (poolR p T * F)) (hT : T.length < 1000000000) (n : Int) (hn : tk T n = true) :
    Calls Try.prog 79 #[.pointer (some ⟨p, 0, none⟩), .int .i64 n] w fun e w' => e = .returned (.bool true) ∧ Sat w0 w' (poolR p (giveT T n) * F) := by
  have hlt := tk_lt hn
  have hn1 : 0 ≤ n := by omega
  have hn2 : n ≤ 2000000000 := by omega
  have hfl := freeOf_length T
  have hfl2 : (freeOf T).length ≤ 1000000000 := by omega
  have hfb : ∀ x ∈ freeOf T, 0 ≤ x ∧ x ≤ 2000000000 := fun x hx => by have := freeOf_bound hx; omega
  have hgl := giveT_length T n
  have hgf := freeOf_give hn
  have hpl := placeOf_le (freeOf T) n
  have HGL := Lib.hid hgl
  have HGF := Lib.hid hgf
  clear hgl hgf hlt
  go_enter Try.func79, Try.ntmps79
  go_wp2_with (first
    | (go_at_call 121; refine (pool_In h n).mono ?_; rintro e w' ⟨rfl, hs'⟩; clear h; obtain ⟨m, L, a, c, hL, hs⟩ := hs'.openPool; clear hs'; have HL := Lib.hid hL; clear hL; have c0 : w'.cell? ⟨p, 0, none⟩ = some (.map (some m)) := hs.cell 0 rfl)
    | (refine wpList_delete rfl _ _ 158 3 rfl (keys_int .i64) Try.underlying158 Try.underlying3 m L rfl (hs.cast (mul_left_comm _ _ _)) n rfl ?_; clear c0; intro w1 hs1; have hs1' := hs1.cast (mul_left_comm _ _ _); have c1 : w1.cell? ⟨p, 1, none⟩ = some (.slice a (freeOf T).length c) := hs1'.cell 1 rfl)
    | (go_at_call 122; refine (bsearch (hs1.cast (slcFirst _ _ _ _)) hfl2 (freeFrom_falls 1 T) hfb n hn1 hn2).mono ?_; rintro e w'' ⟨⟨b, rfl⟩, rfl⟩)
    | (go_at_call 124; refine (insert_any (insFirst hs1) hfl2 (oneCell_ivals _) _ hpl).mono ?_; rintro e w3 ⟨a', c', rfl, hs3⟩; clear c1; have hs3' := hs3.cast (rowFirst _ _ _ _); have c1' : w3.cell? ⟨p, 1, none⟩ = some (.slice a (freeOf T).length c) := hs3'.cell 1 rfl; have f1' := hs3'.free 1))
  go_ret
  refine ⟨rfl, Sat.shutPool (m := m) (L := mdel L n) (a := a') (c := c') ?_ ?_⟩
  · intro k
    rw [mget_mdel, HL.out, tk_giveT]
    by_cases e : k = n <;> simp [e]
  · have hlen : (freeOf (giveT T n)).length = (freeOf T).length + 1 := by rw [HGF.out]; simp; omega
    rw [HGL.out, hlen, HGF.out]
    have hs4 := (hs3'.store (b := p) (i := 1) (.slice a' ((freeOf T).length + 1) c'))
    simp only [List.map_append, List.map_take, List.map_drop]
    exact hs4.cast (giveEnd _ _ _ _)
end Go.Proofs.Ytkpcngcegipalaa.Tw
