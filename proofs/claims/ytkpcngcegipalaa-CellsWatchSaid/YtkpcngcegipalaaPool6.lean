/- The pool: Last, Copy. No condition. -/
import Derived.Test.YtkpcngcegipalaaPool5
import Derived.Test.YtkpcngcegipalaaIter
import Derived.Deep.LoopGhost
import Derived.Deep.RegionHeld3
namespace Go.Proofs.Ytkpcngcegipalaa.Tw
set_option linter.unusedVariables false
set_option linter.unusedSimpArgs false
open Go Go.RowKit Go.MapKept

/-- the greatest of what has come so far -/
def seenMax (L R : List (Int × Value)) (k : Nat) : Prop := (∀ x ∈ L, x ∈ R ∨ x.1 ≤ k) ∧ (k = 0 ∨ ∃ x ∈ L, x.1 = k)
theorem seenMax_step {L R : List (Int × Value)} {k j : Nat} {y : Int × Value} (h : seenMax L R k) (hsub : ∀ x ∈ R, x ∈ L) (hy : R[j]? = some y) (hpos : 0 ≤ y.1) : seenMax L (R.eraseIdx j) (max k y.1.toNat) := by
  have hyR := List.mem_of_getElem? hy
  refine ⟨fun x hx => ?_, ?_⟩
  · rcases h.1 x hx with h1 | h1
    · rcases Classical.em (x = y) with rfl | hne
      · right; omega
      · left
        obtain ⟨i, hi, e⟩ := List.mem_iff_getElem.1 h1
        rw [List.mem_eraseIdx_iff_getElem]
        refine ⟨i, hi, ?_, e⟩
        rintro rfl
        rw [List.getElem?_eq_getElem hi] at hy
        exact hne (by rw [← e]; exact Option.some.inj hy)
    · right; omega
  · by_cases hk : (k : Int) ≤ y.1
    · right
      exact ⟨y, hsub y hyR, by omega⟩
    · rcases h.2 with h2 | ⟨x, hx, e⟩
      · omega
      · right; exact ⟨x, hx, by omega⟩
theorem seenMax_end {T : List Bool} {L : List (Int × Value)} {k : Nat} (h : seenMax L [] k) (hL : ∀ n, n ∈ L.map (·.1) ↔ tk T n = true) : k = lastT T := by
  have hle : lastT T ≤ k := by
    rcases Nat.eq_zero_or_pos (lastT T) with h0 | h0
    · omega
    · have := lastT_at T (by omega)
      have htk : tk T (lastT T) = true := by
        unfold tk
        rw [show ((lastT T : Int) - 1).toNat = lastT T - 1 from by omega, this]; simp; omega
      obtain ⟨x, hx, e⟩ := List.mem_map.1 ((hL _).2 htk)
      rcases h.1 x hx with h1 | h1
      · cases h1
      · rw [e] at h1; omega
  have hge : k ≤ lastT T := by
    rcases h.2 with h2 | ⟨x, hx, e⟩
    · omega
    · have := (hL x.1).1 (List.mem_map_of_mem hx)
      obtain ⟨h1, h2⟩ := tk_lt this
      have hb : T[(x.1 - 1).toNat]? = some true := by
        unfold tk at this
        rw [List.getElem?_eq_getElem h2] at this ⊢
        simp only [Bool.and_eq_true, Option.getD_some] at this
        rw [this.2]
      have := lastT_ge T _ hb
      omega
  omega

theorem mget_mem {κ : Type} [DecidableEq κ] {L : List (κ × Value)} {k : κ} : (mget L k).isSome = true ↔ k ∈ L.map (·.1) := by
  constructor
  · intro h
    rcases Classical.em (k ∈ L.map (·.1)) with h' | h'
    · exact h'
    · rw [mget_none.2 h'] at h; cases h
  · intro h
    cases e : mget L k with
    | none => exact absurd h (mget_none.1 e)
    | some v => rfl
theorem pool_Last {w0 w : World} {F : HP} {p : Nat} {T : List Bool} (h : Sat w0 w (poolR p T * F)) (hT : T.length < 1000000000) :
    Calls Try.prog 95 #[.pointer (some ⟨p, 0, none⟩)] w fun e w' => e = .returned (.int .i64 (lastT T)) ∧ Sat w0 w' (poolR p T * F) := by
  obtain ⟨m, L, a, c, hL, hs⟩ := h.openPool
  have c0 : w.cell? ⟨p, 0, none⟩ = some (.map (some m)) := hs.cell 0 rfl
  have hs' := hs.cast (mul_left_comm _ _ _)
  have HL := Lib.hid hL
  clear hL
  go_enter Try.func95, Try.ntmps95
  go_wp2_with (first
    | (go_at_call 125; refine (pool_none h).mono ?_; rintro e w' ⟨rfl, rfl⟩)
    | (at_range; refine wpList_range rfl _ 158 rfl Try.underlying158 m rfl hs' ?_; intro it w1 hs1))
  have hmem : ∀ n, n ∈ L.map (·.1) ↔ tk T n = true := by
    intro n
    rw [← mget_mem, HL.out]
    cases tk T n <;> simp
  have hpos : ∀ x ∈ L, 1 ≤ x.1 ∧ x.1 ≤ 1000000000 := by
    intro x hx
    have := tk_lt ((hmem x.1).1 (List.mem_map_of_mem hx))
    omega
  go_frame
  go_loopg [3] L.length (fun gk v wr => ∃ (k : Nat) (R : List (Int × Value)) (cur : Option (Int × Value)), v = .int .i64 k ∧ k ≤ 1000000000 ∧ R.length = gk ∧ (∀ x ∈ R, x ∈ L) ∧ seenMax L R k ∧
    Sat w0 wr (iterR (.int .i64) (Value.int .i64) m it L R cur * (row p 160 #[.map (some m), .slice a (freeOf T).length c, .int .i64 (T.length + 1)] * (slc 3 1 a (freeOf T).length c ((freeOf T).map ival) * F))))
  case atStart => exact ⟨0, L, none, rfl, by omega, rfl, fun x hx => hx, ⟨fun x hx => .inl hx, .inl rfl⟩, hs1⟩
  case round =>
    obtain ⟨k, R, cur, rfl, hk, hR, hsub, hmax, hsr⟩ := hrel
    have HM := Lib.hid hmax
    have HS := Lib.hid hsub
    by_cases hR0 : R = []
    · subst hR0
      clear hmax hR hsub
      go_wp2_with (at_next; refine wpList_next_end rfl _ rfl it rfl hsr ?_; intro w2 hs2)
      go_ret
      have e := seenMax_end HM.out hmem
      refine ⟨by rw [e]; rfl, Sat.shutPool HL.out ((hs2.iterMap).cast (mul_left_comm _ _ _))⟩
    · have HR := Lib.hid hR
      clear hmax hR hsub
      go_wp2_with (first
        | (at_next; refine wpList_next_some rfl _ rfl it rfl hsr hR0 ?_; intro j x v w2 hj hs2; have Hj := Lib.hid hj; have hxp := hpos _ (HS.out _ (List.mem_of_getElem? hj)); clear hj; obtain ⟨hx1, hx2⟩ := hxp; obtain ⟨y, rfl⟩ : ∃ y : Nat, x = y := ⟨x.toNat, by simp at hx1; omega⟩; simp at hx1 hx2)
        | (refine wpList_entry rfl _ rfl it rfl hs2 ?_))
      have hs2' := hs2
      all_goals
        go_roundg (R.length - 1)
        case measure => have := HR.out; have : 0 < R.length := List.length_pos_iff.2 hR0; omega
        case rel =>
          have hstep := seenMax_step HM.out HS.out Hj.out (by simp)
          have hlen : (R.eraseIdx j).length = R.length - 1 := by
            have := (List.getElem?_eq_some_iff.1 Hj.out).1
            rw [List.length_eraseIdx, if_pos this]
          refine ⟨max k y, R.eraseIdx j, _, ?_, by omega, hlen, fun z hz => HS.out z (List.mem_of_mem_eraseIdx hz), hstep, hs2⟩
          refine congrArg (Value.int .i64) ?_
          omega

theorem run_typeAssert_map {P : Program} (w : World) (t xT k e : TypeId) (v : Value) (h : P.underlying t = some (.map k e)) : (Instr.typeAssert (.iface t v) xT t false).run P w = .ok v w := by
  simp [Instr.typeAssert, run_underlying h, Result.andThen]
theorem maps_clone {w0 w : World} {F : HP} {m : Nat} {L : List (Int × Value)} (h : Sat w0 w (mapR (.int .i64) (Value.int .i64) m L * F)) :
    Calls Try.prog 126 #[.map (some m)] w fun e w' => ∃ m', e = .returned (.map (some m')) ∧ Sat w0 w' (mapR (.int .i64) (Value.int .i64) m' L * (mapR (.int .i64) (Value.int .i64) m L * F)) := by
  obtain ⟨hn, es, clock, hs, hst, hl⟩ := h.openMap
  have hm := eqm_nil
  have hc : (callFunc 127 #[.iface 158 (.map (some m))]).run Try.prog w = .ok (.value (.iface 158 (.map (some w.heap.size)))) (w.alloc (.map es clock)) := by
    rw [run_callFunc_extern Try.func127 (by kernel_rfl) (by kernel_rfl) (by kernel_rfl) (e := Extern.MapsClone.clone) (by kernel_rfl)]
    have e : Extern.MapsClone.clone #[.iface 158 (.map (some m))] = (getObj m >>= fun o => match o with
      | .map entries clock => (newObj (.map entries clock) >>= fun n => pure (.iface 158 (.map (some n))))
      | _ => stuck "maps.clone: a map expected") := rfl
    rw [e]
    simp [MapKept.run_getObj_map hs.blk, Result.andThen]
  have hta := fun w' => run_typeAssert_map w' 158 20 _ _ (.map (some w.heap.size)) Try.underlying158
  go_enter Try.func126, Try.ntmps126
  go_wp2
  go_ret
  exact ⟨_, rfl, Sat.shutMap (L := L) (h.alloc _) hn hst hl⟩
theorem emptySlc {w0 w : World} {F : HP} (h : Sat w0 w F) : Sat w0 (w.alloc (.cells #[] 3)) (slc 3 1 (some ⟨w.heap.size, 0, none⟩) 0 0 [] * F) :=
  Sat.shutSlc (g := w.heap.size) (off := 0) (cur := #[]) (h.alloc _) (Nat.le_refl _) (Nat.zero_le _) (by simp) (by simp)
theorem slices_clone {w0 w : World} {F : HP} {a : Option Addr} {n c : Nat} {xs : List Value} (h : Sat w0 w (slc 3 1 a n c xs * F)) (hn : n ≤ 2000000000) (h1 : ∀ v ∈ xs, v.oneCell' = true) :
    Calls Try.prog 84 #[.slice a n c] w fun e w' => ∃ a' c', e = .returned (.slice a' n c') ∧ (a' = none → a = none) ∧ Sat w0 w' (slc 3 1 a' n c' xs * (slc 3 1 a n c xs * F)) := by
  obtain ⟨i0, hi, hz0, hz1, hz2⟩ := info_parts info_int
  have hq : ∀ (w : World) (a : Option Addr) (n c : Nat), (binOp .eql 48 (.slice a n c) (.slice none 0 0)).run Try.prog w = .ok (.bool a.isNone) w := fun w a n c => Lib.run_eql_slice_nil w _ _ _ _ _ 0 0 Try.underlying48
  have hlx := h.slcLen
  cases a with
  | none =>
    rcases h.openSlc.2 with ⟨_, rfl, rfl, hF⟩ | ⟨g, off, cur, e, _⟩
    · have : xs = [] := List.eq_nil_of_length_eq_zero (by simpa using hlx)
      subst this
      go_enter Try.func84, Try.ntmps84
      go_wp2
      go_ret
      exact ⟨none, 0, rfl, h.nilSlc⟩
    · cases e
  | some ad =>
    have hcl := h.slcCells
    go_enter Try.func84, Try.ntmps84
    go_wp2_with (at_builtin; refine wpList_append rfl _ _ 48 rfl i0 (.int .i64 0) 8 Try.underlying48 hi hz0 hz1 hz2 rfl (some ⟨w.heap.size, 0, none⟩) 0 0 [] rfl (emptySlc h) ad n c xs rfl (by omega) (emptySlc h).slcCells2 h1 (by unfold maxLen; omega) (by omega) ?_; intro a' c' w1 hs1 hne)
    go_ret
    rw [Nat.zero_add, List.nil_append] at hs1
    refine ⟨a', c', ?_, ?_, hs1⟩
    · rfl
    · intro e; exact absurd (hne e).1 (by simp)
theorem pool_Copy_nil (w : World) : Calls Try.prog 83 #[.pointer none] w fun e w' => e = .returned (.pointer none) ∧ w = w' := by
  go_enter Try.func83, Try.ntmps83
  go_wp2_with (go_at_call 125; refine (pool_none_nil _).mono ?_; rintro e w' ⟨rfl, rfl⟩)
  go_ret
  exact ⟨rfl, rfl⟩
theorem pool_Copy_empty (w : World) (p : Nat) (c0 : w.cell? ⟨p, 0, none⟩ = some (.map none)) : Calls Try.prog 83 #[.pointer (some ⟨p, 0, none⟩)] w fun e w' => e = .returned (.pointer none) ∧ w = w' := by
  go_enter Try.func83, Try.ntmps83
  go_wp2_with (go_at_call 125; refine (pool_none_at _ p none c0).mono ?_; rintro e w' ⟨rfl, rfl⟩)
  go_ret
  exact ⟨rfl, rfl⟩
theorem cpA (A B C D F : HP) : A * (B * (C * (D * F))) = C * (A * (B * (D * F))) := by ac_rfl
theorem cpB (A B C D F : HP) : A * (B * (C * (D * F))) = D * (A * (B * (C * F))) := by ac_rfl
theorem cpC (E A B C D F : HP) : E * (D * (A * (B * (C * F)))) = C * (E * (D * (A * (B * F)))) := by ac_rfl
theorem cpD (N E A B C D F : HP) : N * (E * (D * (A * (B * (C * F))))) = C * (B * (D * (N * (A * (E * F))))) := by ac_rfl
theorem cpE (P A B C F : HP) : P * (A * (B * (C * F))) = A * (B * (C * (P * F))) := by ac_rfl
theorem pool_Copy {w0 w : World} {F : HP} {p : Nat} {T : List Bool} (h : Sat w0 w (poolR p T * F)) (hT : T.length < 1000000000) :
    Calls Try.prog 83 #[.pointer (some ⟨p, 0, none⟩)] w fun e w' => ∃ q, e = .returned (.pointer (some ⟨q, 0, none⟩)) ∧ Sat w0 w' (poolR q T * (poolR p T * F)) := by
  have hfl := freeOf_length T
  have hfl2 : (freeOf T).length ≤ 2000000000 := by omega
  go_enter Try.func83, Try.ntmps83
  go_wp2_with (go_at_call 125; refine (pool_none h).mono ?_; rintro e w' ⟨rfl, rfl⟩)
  obtain ⟨m, L, a, c, hL, hs⟩ := h.openPool
  have HL := Lib.hid hL
  clear hL
  have hs' := (hs.cast (mul_left_comm _ _ _)).drew
  generalize hw : w.drew = wd at *
  have c0 : wd.cell? ⟨p, 0, none⟩ = some (.map (some m)) := (hs'.cast (mul_left_comm _ _ _)).cell 0 rfl
  have c1 : wd.cell? ⟨p, 1, none⟩ = some (.slice a (freeOf T).length c) := (hs'.cast (mul_left_comm _ _ _)).cell 1 rfl
  have c2 : wd.cell? ⟨p, 2, none⟩ = some (.int .i64 (T.length + 1)) := (hs'.cast (mul_left_comm _ _ _)).cell 2 rfl
  go_region_held3 (fun w' => w'.cell? ⟨p, 0, none⟩ = some (.map (some m)) ∧ w'.cell? ⟨p, 1, none⟩ = some (.slice a (freeOf T).length c) ∧ w'.cell? ⟨p, 2, none⟩ = some (.int .i64 (T.length + 1)))
    (first | exact ⟨c0, c1, c2⟩ | exact ⟨d0, d1, d2⟩ | exact ⟨e0, e1, e2⟩ | go_keep)
    ((first
      | (go_at_call 126; refine (maps_clone hs').mono ?_; rintro e w1 ⟨m', rfl, hs1⟩; have d0 : w1.cell? ⟨p, 0, none⟩ = some (.map (some m)) := (hs1.cast (cpA _ _ _ _ _)).cell 0 rfl; have d1 : w1.cell? ⟨p, 1, none⟩ = some (.slice a (freeOf T).length c) := (hs1.cast (cpA _ _ _ _ _)).cell 1 rfl; have d2 : w1.cell? ⟨p, 2, none⟩ = some (.int .i64 (T.length + 1)) := (hs1.cast (cpA _ _ _ _ _)).cell 2 rfl)
      | (go_at_call 84; refine (slices_clone (hs1.cast (cpB _ _ _ _ _)) hfl2 (oneCell_ivals _)).mono ?_; rintro e w2 ⟨a', c', rfl, _, hs2⟩; have e0 : w2.cell? ⟨p, 0, none⟩ = some (.map (some m)) := (hs2.cast (cpC _ _ _ _ _ _)).cell 0 rfl; have e1 : w2.cell? ⟨p, 1, none⟩ = some (.slice a (freeOf T).length c) := (hs2.cast (cpC _ _ _ _ _ _)).cell 1 rfl; have e2 : w2.cell? ⟨p, 2, none⟩ = some (.int .i64 (T.length + 1)) := (hs2.cast (cpC _ _ _ _ _ _)).cell 2 rfl)))
  go_wp2
  go_ret
  refine ⟨w2.heap.size, rfl, ?_⟩
  refine Sat.shutPool (m := m') (L := L) (a := a') (c := c') HL.out ?_
  have h3 := (hs2.alloc (.cells #[.map (some m'), .slice a' (freeOf T).length c', .int .i64 (T.length + 1)] 160)).cast (cpD _ _ _ _ _ _ _)
  have h4 := Sat.shutPool (F := row w2.heap.size 160 #[.map (some m'), .slice a' (freeOf T).length c', .int .i64 (T.length + 1)] * (mapR (.int .i64) (Value.int .i64) m' L * (slc 3 1 a' (freeOf T).length c' ((freeOf T).map ival) * F))) HL.out h3
  exact h4.cast (cpE _ _ _ _ _)
end Go.Proofs.Ytkpcngcegipalaa.Tw
