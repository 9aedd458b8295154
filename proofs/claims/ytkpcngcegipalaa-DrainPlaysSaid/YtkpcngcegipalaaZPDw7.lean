/- The pool: New, Take, Len. No condition. -/
import Derived.Test.YtkpcngcegipalaaZPDw3
import Derived.Test.YtkpcngcegipalaaZPDw6
namespace Go.Proofs.Ytkpcngcegipalaa.Tw
set_option linter.unusedVariables false
set_option linter.unusedSimpArgs false
open Go Go.RowKit Go.MapKept

theorem mget_mset {κ : Type} [DecidableEq κ] (L : List (κ × Value)) (k : κ) (v : Value) (j : κ) : mget (mset L k v) j = if j = k then some v else mget L j := by
  unfold mset
  cases hs : (mget L k).isSome with
  | true =>
    simp only [if_true]
    induction L with
    | nil => simp [mget] at hs
    | cons e r ih =>
      by_cases e1 : e.1 = k
      · by_cases e2 : j = k
        · subst e2; simp [mget, e1]
        · have e3 : ¬ e.1 = j := fun q => e2 (by rw [← q, e1])
          have e4 : ¬ k = j := fun q => e2 q.symm
          simp only [List.map_cons, e1, if_true, mget, List.find?_cons, e4, decide_false, Bool.false_eq_true, if_neg e2]
          cases hr : (mget r k).isSome with
          | true => have := ih hr; rw [if_neg e2] at this; simpa [mget] using this
          | false =>
            have hnone : ∀ x ∈ r, ¬ x.1 = k := by simpa [mget] using hr
            have : r.map (fun e => if e.1 = k then (e.1, v) else e) = r := by
              conv => rhs; rw [← List.map_id r]
              exact List.map_congr_left fun x hx => by simp [hnone x hx]
            rw [this]
      · have hr : (mget r k).isSome = true := by simpa [mget, e1] using hs
        have := ih hr
        by_cases e3 : e.1 = j
        · have : ¬ j = k := fun q => e1 (by rw [e3, q])
          simp [mget, e1, e3, this]
        · simp only [List.map_cons, e1, if_false, mget, List.find?_cons, e3, decide_false] at this ⊢
          exact this
  | false =>
    simp only [Bool.false_eq_true, if_false]
    have hn : mget L k = none := by simpa using hs
    unfold mget at hn ⊢
    by_cases e : j = k
    · subst e
      rw [List.find?_append]
      rw [Option.map_eq_none_iff] at hn
      rw [hn]; simp
    · rw [if_neg e, List.find?_append]
      have : ¬ k = j := fun q => e q.symm
      simp [this]
theorem mget_mdel {κ : Type} [DecidableEq κ] (L : List (κ × Value)) (k : κ) (j : κ) : mget (mdel L k) j = if j = k then none else mget L j := by
  unfold mdel
  induction L with
  | nil => simp [mget]
  | cons e r ih =>
    by_cases e1 : e.1 = k
    · simp only [e1, decide_true, Bool.not_true, Bool.false_eq_true, not_false_eq_true, List.filter_cons_of_neg, ih]
      by_cases e2 : j = k
      · simp [e2]
      · have : ¬ k = j := fun q => e2 q.symm
        simp [mget, e1, this, e2]
    · simp only [e1, decide_false, Bool.not_false, List.filter_cons_of_pos]
      by_cases e3 : e.1 = j
      · have : ¬ j = k := fun q => e1 (by rw [e3, q])
        simp [mget, e3, this]
      · simp only [mget, List.find?_cons, e3, decide_false] at ih ⊢
        exact ih

theorem pool_Take {w0 w : World} {F : HP} {p : Nat} {T : List Bool} (h : Sat w0 w (poolR p T * F)) (hT : T.length < 1000000000) :
    Calls Try.prog 82 #[.pointer (some ⟨p, 0, none⟩)] w fun e w' => e = .returned (.int .i64 (firstFree T + 1)) ∧ Sat w0 w' (poolR p (takeT T) * F) := by
  obtain ⟨m, L, a, c, hL, hs⟩ := h.openPool
  have hle := firstFree_le T
  by_cases hf : firstFree T < T.length
  · have hfr := freeOf_take hf
    have hlen : (freeOf T).length = (freeOf (takeT T)).length + 1 := by rw [hfr]; simp
    have htl : (takeT T).length = T.length := by rw [takeT_length]; omega
    have hb := freeOf_length T
    generalize hk : (freeOf (takeT T)).length = k at *
    rw [hlen] at hs hb
    have c0 : w.cell? ⟨p, 0, none⟩ = some (.map (some m)) := hs.cell 0 rfl
    have c1 : w.cell? ⟨p, 1, none⟩ = some (.slice a (k + 1) c) := hs.cell 1 rfl
    have c2 : w.cell? ⟨p, 2, none⟩ = some (.int .i64 (T.length + 1)) := hs.cell 2 rfl
    have f1 := hs.free 1
    have hs2 := hs.cast (Q := slc 3 1 a (k + 1) c ((freeOf T).map ival) * (row p 160 #[.map (some m), .slice a (k + 1) c, .int .i64 (T.length + 1)] * (mapR (.int .i64) (Value.int .i64) m L * F))) (by ac_rfl)
    have hcap := hs2.slcCap
    obtain ⟨g, off, rfl, cx, _⟩ := hs2.slcAt (j := k) (u := ival (firstFree T + 1)) (by rw [hfr]; simp [hk])
    unfold ival at cx
    have hsP : ∀ (w' : World) (L' : List (Int × Value)), (∀ n, mget L' n = if tk (takeT T) n then some unit_ else none) →
        Sat w0 w' (row p 160 #[.map (some m), .slice (some ⟨g, off, none⟩) k c, .int .i64 (T.length + 1)] * (mapR (.int .i64) (Value.int .i64) m L' * (slc 3 1 (some ⟨g, off, none⟩) (k + 1) c ((freeOf T).map ival) * F))) → Sat w0 w' (poolR p (takeT T) * F) := by
      intro w' L' hL' hh
      refine Sat.shutPool hL' (m := m) (a := some ⟨g, off, none⟩) (c := c) ?_
      rw [htl, hk]
      rw [hfr, List.map_append] at hh
      have h2 := hh.cast (Q := slc 3 1 (some ⟨g, off, none⟩) (k + 1) c ((freeOf (takeT T)).map ival ++ [(firstFree T : Int) + 1].map ival) * (row p 160 #[.map (some m), .slice (some ⟨g, off, none⟩) k c, .int .i64 (T.length + 1)] * (mapR (.int .i64) (Value.int .i64) m L' * F))) (by ac_rfl)
      exact (h2.slcPop (by simp [hk])).cast (by ac_rfl)
    clear hfr hlen htl hk
    go_enter Try.func82, Try.ntmps82
    go_wp2_with (first
      | (go_at_call 125; refine (pool_none h).mono ?_; rintro e w' ⟨rfl, rfl⟩)
      | (at_mapUpdate; refine wpList_mapUpdate rfl _ _ _ _ rfl (keys_int .i64) Try.underlying158 Try.underlying3 m L rfl ((hs.store _).cast (mul_left_comm _ _ _)) _ rfl (.agg #[]) rfl ?_; intro w1 hs1))
    go_ret
    refine ⟨rfl, hsP w1 _ ?_ (hs1.cast (mul_left_comm _ _ _))⟩
    intro n
    rw [mget_mset, hL, tk_takeT]
    by_cases e : n = firstFree T + 1 <;> simp [e, unit_]
  · have hf' : firstFree T = T.length := by omega
    have hfr := freeOf_full hf'
    have htl : (takeT T).length = T.length + 1 := by rw [takeT_length]; omega
    have hft := freeOf_take_full hf'
    rw [hfr] at hs
    simp only [List.length_nil] at hs
    have c0 : w.cell? ⟨p, 0, none⟩ = some (.map (some m)) := hs.cell 0 rfl
    have c1 : w.cell? ⟨p, 1, none⟩ = some (.slice a 0 c) := hs.cell 1 rfl
    have c2 : w.cell? ⟨p, 2, none⟩ = some (.int .i64 (T.length + 1)) := hs.cell 2 rfl
    have f2 := hs.free 2
    have hsP : ∀ (w' : World) (L' : List (Int × Value)), (∀ n, mget L' n = if tk (takeT T) n then some unit_ else none) →
        Sat w0 w' (row p 160 #[.map (some m), .slice a 0 c, .int .i64 (T.length + 1 + 1)] * (mapR (.int .i64) (Value.int .i64) m L' * (slc 3 1 a 0 c (([] : List Int).map ival) * F))) → Sat w0 w' (poolR p (takeT T) * F) := by
      intro w' L' hL' hh
      refine Sat.shutPool hL' (m := m) (a := a) (c := c) ?_
      rw [htl, hft]
      exact hh
    have hfe : (firstFree T : Int) = T.length := by omega
    rw [hfe]
    clear hf' hfr htl hft hfe
    go_enter Try.func82, Try.ntmps82
    go_wp2_with (first
      | (go_at_call 125; refine (pool_none h).mono ?_; rintro e w' ⟨rfl, rfl⟩)
      | (at_mapUpdate; refine wpList_mapUpdate rfl _ _ _ _ rfl (keys_int .i64) Try.underlying158 Try.underlying3 m L rfl ((hs.store _).cast (mul_left_comm _ _ _)) _ rfl (.agg #[]) rfl ?_; intro w1 hs1))
    go_ret
    refine ⟨rfl, hsP w1 _ ?_ (hs1.cast (mul_left_comm _ _ _))⟩
    intro n
    rw [mget_mset, hL, tk_takeT]
    have : (firstFree T : Int) = T.length := by omega
    by_cases e : n = T.length + 1 <;> simp [e, unit_, this]

theorem keys_perm {T : List Bool} {L : List (Int × Value)} (hn : (L.map (·.1)).Nodup) (hL : ∀ n, mget L n = if tk T n then some unit_ else none) : (L.map (·.1)).Perm (takenOf T) := by
  rw [List.perm_ext_iff_of_nodup hn (takenOf_nodup T)]
  intro n
  rw [mem_takenOf]
  have := hL n
  constructor
  · intro h
    cases e : tk T n with
    | true => rfl
    | false => rw [e] at this; exact absurd h (mget_none.1 (by simpa using this))
  · intro h
    rw [h] at this
    rcases Classical.em (n ∈ L.map (·.1)) with h' | h'
    · exact h'
    · rw [mget_none.2 h'] at this; simp at this

theorem pool_New {w0 w : World} {F : HP} (h : Sat w0 w F) :
    Calls Try.prog 69 #[] w fun e w' => ∃ p, e = .returned (.pointer (some ⟨p, 0, none⟩)) ∧ Sat w0 w' (poolR p [] * F) := by
  have hmm := @run_makeMap Try.prog
  go_enter Try.func69, Try.ntmps69
  go_wp2
  go_ret
  refine ⟨_, rfl, ?_⟩
  have h1 := (h.newMap (d := .int .i64) (kv := Value.int .i64)).alloc (.cells #[.map (some w.heap.size), .slice none 0 0, .int .i64 1] 160)
  exact Sat.shutPool (T := []) (m := w.heap.size) (L := []) (a := none) (c := 0) (by intro n; simp [mget, tk]) ((h1.nilSlc (T := 3) (sz := 1)).cast (by rw [show (w.alloc (.map #[] 0)).heap.size = w.heap.size + 1 from by simp, show freeOf [] = [] from rfl]; unfold row; exact (by intros; ac_rfl : ∀ A B C D : HP, A * (B * (C * D)) = B * (C * (A * D))) _ _ _ _))
end Go.Proofs.Ytkpcngcegipalaa.Tw
namespace Go.Proofs.Ytkpcngcegipalaa.Tw
set_option linter.unusedVariables false
set_option linter.unusedSimpArgs false
open Go Go.RowKit Go.MapKept

theorem give_cmp (x n : Int) (hx : 0 ≤ x) (hx2 : x ≤ 2000000000) (hn : 0 ≤ n) (hn2 : n ≤ 2000000000) (w : World) :
    Calls Try.prog 123 #[.int .i64 x, .int .i64 n] w fun e w' => e = .returned (.int .i64 (n - x)) ∧ w = w' := by
  go_enter Try.func123, Try.ntmps123
  go_wp2
  go_ret
  exact ⟨rfl, rfl⟩

theorem bsearch {w0 w : World} {F : HP} {a : Option Addr} {c : Nat} {l : List Int} (h : Sat w0 w (slc 3 1 a l.length c (l.map ival) * F)) (hl : l.length ≤ 1000000000) (hf : l.Pairwise (· > ·)) (hb : ∀ x ∈ l, 0 ≤ x ∧ x ≤ 2000000000) (n : Int) (hn : 0 ≤ n) (hn2 : n ≤ 2000000000) :
    Calls Try.prog 122 #[.slice a l.length c, .int .i64 n, (.func (.func 123) #[] #[])] w fun e w' => (∃ b, e = .returned (.tuple #[.int .i64 (placeOf l n), .bool b])) ∧ w = w' := by
  go_enter Try.func122, Try.ntmps122
  go_wp2
  have hcell : ∀ k : Nat, k < l.length → ∃ g off, a = some ⟨g, off, none⟩ ∧ w.cell? ⟨g, off + k, none⟩ = some (.int .i64 (l.getD k 0)) := by
    intro k hk
    obtain ⟨g, off, e, hc, _⟩ := h.slcAt (j := k) (u := ival (l.getD k 0)) (by simp [hk])
    exact ⟨g, off, e, hc⟩
  go_loop [9, 10] (fun i j => ∃ p q : Nat, i = .int .i64 p ∧ j = .int .i64 q ∧ p ≤ q ∧ q ≤ l.length ∧ p ≤ placeOf l n ∧ placeOf l n ≤ q) (fun i j => ((intOf j) - (intOf i)).toNat)
  case atStart => exact ⟨0, l.length, rfl, rfl, Nat.zero_le _, Nat.le_refl _, Nat.zero_le _, placeOf_le l n⟩
  case round =>
    obtain ⟨p, q, rfl, rfl, h1, h2, h3, h4⟩ := hrel
    by_cases hlt : p < q
    · obtain ⟨m, hm⟩ : ∃ m : Nat, (p + q) / 2 = m := ⟨_, rfl⟩
      have he : ((p : Int) + q) / 2 = (m : Int) := by omega
      have hml : m < l.length := by omega
      have hmp : p ≤ m ∧ m < q := by omega
      obtain ⟨g, off, rfl, hc⟩ := hcell m hml
      obtain ⟨x, hx⟩ : ∃ x, l.getD m 0 = x := ⟨_, rfl⟩
      rw [hx] at hc
      have hx' : l[m]? = some x := by rw [← hx]; simp [hml]
      obtain ⟨hx1, hx2⟩ := hb x (List.mem_of_getElem? hx')
      have hcap := h.slcCap
      clear hm hx hcell
      have hp1 : n < x → m < placeOf l n := placeOf_lt_of hf hx'
      have hp2 : x ≤ n → placeOf l n ≤ m := placeOf_le_of hx'
      clear hx'
      by_cases hnx : n < x
      · have hp3 := hp1 hnx
        go_wp2_with (go_at_call 123; refine (give_cmp _ _ hx1 hx2 hn hn2 _).mono ?_; rintro e w' ⟨rfl, rfl⟩)
        go_round
        case rel => exact ⟨m + 1, q, by go_num, rfl, by omega, by omega, by omega, by omega⟩
        case measure => simp [intOf]; omega
      · have hp3 := hp2 (by omega)
        go_wp2_with (go_at_call 123; refine (give_cmp _ _ hx1 hx2 hn hn2 _).mono ?_; rintro e w' ⟨rfl, rfl⟩)
        go_round
        case rel => exact ⟨p, m, rfl, rfl, by omega, by omega, by omega, by omega⟩
        case measure => simp [intOf]; omega
    · have hpq : placeOf l n = p := by omega
      have Hpq := Lib.hid hpq
      clear hpq
      by_cases hpl : p < l.length
      · obtain ⟨g, off, rfl, hc⟩ := hcell p hpl
        obtain ⟨x, hx⟩ : ∃ x, l.getD p 0 = x := ⟨_, rfl⟩
        rw [hx] at hc
        have hx' : l[p]? = some x := by rw [← hx]; simp [hpl]
        obtain ⟨hx1, hx2⟩ := hb x (List.mem_of_getElem? hx')
        have hcap := h.slcCap
        clear hx hcell hx'
        go_wp2_with (go_at_call 123; refine (give_cmp _ _ hx1 hx2 hn hn2 _).mono ?_; rintro e w' ⟨rfl, rfl⟩)
        go_ret2
        rw [Hpq.out]
        simp
      · clear hcell
        go_wp2
        go_ret2
        rw [Hpq.out]
        simp
end Go.Proofs.Ytkpcngcegipalaa.Tw
