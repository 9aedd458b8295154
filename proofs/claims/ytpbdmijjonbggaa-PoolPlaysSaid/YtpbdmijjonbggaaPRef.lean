/- The document's pool (tallowref08), walked: it does as the plain model does. No condition. -/
import Derived.Test.YtpbdmijjonbggaaPool7
namespace Go.Proofs.Ytpbdmijjonbggaa.Tw
set_option linter.unusedVariables false
set_option linter.unusedSimpArgs false
open Go Go.RowKit Go.MapKept

/-- the document's pool at block q -/
def refR (q : Nat) (T : List Bool) : HP := fun h => ∃ a c, (row q 46 #[.slice a T.length c] * slc 4 1 a T.length c (T.map Value.bool)) h
theorem Sat.openRef {w0 w : World} {F : HP} {q : Nat} {T : List Bool} (h : Sat w0 w (refR q T * F)) : ∃ a c, Sat w0 w (row q 46 #[.slice a T.length c] * (slc 4 1 a T.length c (T.map Value.bool) * F)) := by
  obtain ⟨h1, x, ⟨y, z, dj, rfl, ⟨a, c, hp⟩, hq⟩, r⟩ := h
  exact ⟨a, c, Sat.cast ⟨h1, _, ⟨y, z, dj, rfl, hp, hq⟩, r⟩ (mul_assoc _ _ _)⟩
theorem Sat.shutRef {w0 w : World} {F : HP} {q : Nat} {T : List Bool} {a : Option Addr} {c : Nat} (h : Sat w0 w (row q 46 #[.slice a T.length c] * (slc 4 1 a T.length c (T.map Value.bool) * F))) : Sat w0 w (refR q T * F) := by
  rw [← mul_assoc] at h
  exact h.mono_l fun _ hq => ⟨a, c, hq⟩
theorem info_bool : (Try.prog.info? 4).map (fun i => (i.zero, i.size, i.bytes)) = some (some (.bool false), 1, 1) := by kernel_rfl

theorem ref_New {w0 w : World} {F : HP} (h : Sat w0 w F) : Calls Try.prog 14 #[] w fun e w' => ∃ q, e = .returned (.pointer (some ⟨q, 0, none⟩)) ∧ Sat w0 w' (refR q [] * F) := by
  go_enter Try.func14, Try.ntmps14
  go_wp2
  go_ret
  exact ⟨_, rfl, Sat.shutRef (T := []) (a := none) (c := 0) (((h.alloc _).nilSlc (T := 4) (sz := 1)).cast (mul_left_comm _ _ _))⟩

theorem ref_In {w0 w : World} {F : HP} {q : Nat} {T : List Bool} (h : Sat w0 w (refR q T * F)) (hT : T.length < 1000000000) (n : Int) : Calls Try.prog 19 #[.pointer (some ⟨q, 0, none⟩), .int .i64 n] w fun e w' => e = .returned (.bool (tk T n)) ∧ w = w' := by
  obtain ⟨a, c, hs⟩ := h.openRef
  have c0 : w.cell? ⟨q, 0, none⟩ = some (.slice a T.length c) := hs.cell 0 rfl
  have hs2 := hs.cast (mul_left_comm _ _ _)
  by_cases h1 : 1 ≤ n
  · obtain ⟨k, rfl⟩ : ∃ k : Nat, n = (k : Int) + 1 := ⟨(n - 1).toNat, by omega⟩
    have e : tk T ((k : Int) + 1) = (T[k]?).getD false := by
      unfold tk
      rw [show ((k : Int) + 1 - 1).toNat = k from by omega]
      simp; omega
    by_cases hk : k < T.length
    · obtain ⟨b, hb⟩ : ∃ b, T[k]? = some b := ⟨_, List.getElem?_eq_getElem hk⟩
      obtain ⟨g, off, rfl, cx, _⟩ := hs2.slcAt (j := k) (u := .bool b) (by simp [hb])
      rw [hb] at e
      simp only [Option.getD_some] at e
      rw [e]
      have hcap := hs2.slcCap
      clear e hb
      have hk1 : (k : Int) + 1 ≤ (T.length : Int) := by omega
      go_enter Try.func19, Try.ntmps19
      go_wp2
      go_ret
      exact ⟨rfl, rfl⟩
    · rw [List.getElem?_eq_none (by omega)] at e
      simp only [Option.getD_none] at e
      rw [e]
      clear e
      have hk2 : ¬ ((k : Int) + 1 ≤ (T.length : Int)) := by omega
      go_enter Try.func19, Try.ntmps19
      go_wp2
      go_ret
      exact ⟨rfl, rfl⟩
  · have e : tk T n = false := by unfold tk; simp [h1]
    rw [e]
    clear e
    go_enter Try.func19, Try.ntmps19
    go_wp2
    go_ret
    exact ⟨rfl, rfl⟩

theorem ref_Give {w0 w : World} {F : HP} {q : Nat} {T : List Bool} (h : Sat w0 w (refR q T * F)) (hT : T.length < 1000000000) (n : Int) : Calls Try.prog 18 #[.pointer (some ⟨q, 0, none⟩), .int .i64 n] w fun e w' => e = .returned (.bool (tk T n)) ∧ Sat w0 w' (refR q (giveT T n) * F) := by
  cases hn : tk T n with
  | false =>
    have hg : giveT T n = T := by unfold giveT; rw [hn]; rfl
    rw [hg]
    have hin := ref_In h hT n
    rw [hn] at hin
    clear hg hn
    go_enter Try.func18, Try.ntmps18
    go_wp2_with (go_at_call 19; refine hin.mono ?_; rintro e w' ⟨rfl, rfl⟩)
    go_ret
    exact ⟨rfl, h⟩
  | true =>
    obtain ⟨h1, h2⟩ := tk_lt hn
    obtain ⟨k, rfl⟩ : ∃ k : Nat, n = (k : Int) + 1 := ⟨(n - 1).toNat, by omega⟩
    have ek : ((k : Int) + 1 - 1).toNat = k := by omega
    have hg : giveT T ((k : Int) + 1) = T.set k false := by unfold giveT; rw [hn, if_pos rfl, ek]
    rw [ek] at h2
    have hin := ref_In h hT ((k : Int) + 1)
    rw [hn] at hin
    obtain ⟨a, c, hs⟩ := h.openRef
    have c0 : w.cell? ⟨q, 0, none⟩ = some (.slice a T.length c) := hs.cell 0 rfl
    have hs2 := hs.cast (mul_left_comm _ _ _)
    have hcap := hs2.slcCap
    obtain ⟨b, hb⟩ : ∃ b, T[k]? = some b := ⟨_, List.getElem?_eq_getElem h2⟩
    obtain ⟨g, off, rfl, cx, fx⟩ := hs2.slcAt (j := k) (u := .bool b) (by simp [hb])
    have hst := hs2.slcStore (j := k) (by omega) (.bool false)
    have HG := Lib.hid hg
    clear hg hn hb ek
    go_enter Try.func18, Try.ntmps18
    go_wp2_with (go_at_call 19; refine hin.mono ?_; rintro e w' ⟨rfl, rfl⟩)
    go_ret
    refine ⟨rfl, ?_⟩
    rw [HG.out]
    refine Sat.shutRef (a := some ⟨g, off, none⟩) (c := c) ?_
    rw [List.length_set, List.map_set]
    exact hst.cast (mul_left_comm _ _ _)

theorem rfR (A B C F : HP) : A * (B * (C * F)) = C * (B * (A * F)) := by ac_rfl
theorem rfS (A B C F : HP) : A * (B * (C * F)) = B * (A * (C * F)) := by ac_rfl
theorem ref_Take {w0 w : World} {F : HP} {q : Nat} {T : List Bool} (h : Sat w0 w (refR q T * F)) (hT : T.length < 1000000000) : Calls Try.prog 15 #[.pointer (some ⟨q, 0, none⟩)] w fun e w' => e = .returned (.int .i64 (firstFree T + 1)) ∧ Sat w0 w' (refR q (takeT T) * F) := by
  obtain ⟨i0, hi, hz0, hz1, hz2⟩ := info_parts info_bool
  obtain ⟨a, c, hs⟩ := h.openRef
  have c0 : w.cell? ⟨q, 0, none⟩ = some (.slice a T.length c) := hs.cell 0 rfl
  have f0 := hs.free 0
  have hs2 := hs.cast (mul_left_comm _ _ _)
  have hcap := hs2.slcCap
  have hle := firstFree_le T
  have hcell : ∀ k, k < T.length → ∃ g off, a = some ⟨g, off, none⟩ ∧ w.cell? ⟨g, off + k, none⟩ = some (.bool (T.getD k true)) ∧ w.frozen? ⟨g, off + k, none⟩ = false := by
    intro k hk
    exact hs2.slcAt (j := k) (by simp [hk])
  have hup : ∀ k, k < firstFree T → T.getD k true = true := by
    intro k hk
    clear hle hcell hs2 f0 c0 hs h hT hcap
    induction T generalizing k with
    | nil => rfl
    | cons b r ih =>
      cases b
      · simp [firstFree] at hk
      · cases k with
        | zero => rfl
        | succ k => simpa using ih k (by simpa [firstFree] using hk)
  have hat : firstFree T < T.length → T.getD (firstFree T) true = false := by
    intro hk
    have := firstFree_free T
    unfold tk at this
    rw [show ((firstFree T : Int) + 1 - 1).toNat = firstFree T from by omega] at this
    rw [List.getElem?_eq_getElem hk] at this
    simp at this
    have : T[firstFree T] = false := this (by omega)
    simp [hk, this]
  have HA := Lib.hid hat
  have HU := Lib.hid hup
  have HC := Lib.hid hcell
  clear hat hup hcell
  generalize hm : firstFree T = m at *
  have HM := Lib.hid hm
  clear hm
  go_enter Try.func15, Try.ntmps15
  go_wp2
  go_loop [3] (fun i => ∃ k : Nat, k ≤ m ∧ i = .int .i64 k) (fun i => T.length - (intOf i).toNat)
  case atStart => exact ⟨0, Nat.zero_le _, rfl⟩
  case round =>
    obtain ⟨k, hk, rfl⟩ := hrel
    by_cases hlt : k < m
    · have hkl : k < T.length := by omega
      obtain ⟨g, off, rfl, cx, _⟩ := HC.out k hkl
      rw [HU.out k hlt] at cx
      go_wp2
      go_round
      case rel => exact ⟨k + 1, by omega, by go_num⟩
      case measure => simp [intOf]; omega
    · obtain rfl : k = m := by omega
      by_cases hkl : k < T.length
      · obtain ⟨g, off, rfl, cx, fx⟩ := HC.out k hkl
        rw [HA.out hkl] at cx
        have hst := hs2.slcStore (j := k) (by omega) (.bool true)
        go_wp2
        go_ret
        refine ⟨rfl, ?_⟩
        have e : takeT T = T.set k true := by unfold takeT; rw [HM.out, if_pos hkl]
        rw [e]
        refine Sat.shutRef (a := some ⟨g, off, none⟩) (c := c) ?_
        rw [List.length_set, List.map_set]
        exact hst.cast (mul_left_comm _ _ _)
      · have hkn : T.length = k := by omega
        have HK := Lib.hid hkn
        clear hkn
        go_wp2_with (at_builtin; refine wpList_append rfl _ _ 44 rfl i0 (.bool false) 1 Try.underlying44 hi hz0 hz1 hz2 rfl a T.length c (T.map Value.bool) rfl (hs2.alloc (.cells #[.bool true] 4) |>.cast (mul_left_comm _ _ _)) ⟨w.heap.size, 0, none⟩ 1 1 [.bool true] rfl rfl (cell_one_new _ _ _) (by simp [Value.oneCell']) (by unfold maxLen; omega) (by omega) ?_; intro a' c'' w1 hs1 _; have hs1' := hs1.cast (rfR _ _ _ _); have d0 : w1.cell? ⟨q, 0, none⟩ = some (.slice a T.length c) := hs1'.cell 0 rfl; have g0 := hs1'.free 0)
        go_ret
        have e : takeT T = T ++ [true] := by unfold takeT; rw [HM.out, if_neg hkl]
        rw [e]
        have hk2 := HK.out
        refine ⟨?_, ?_⟩
        · rw [← hk2]; rfl
        · refine Sat.shutRef (a := a') (c := c'') ?_
          have h3 := (hs1'.store (b := q) (i := 0) (.slice a' (T.length + 1) c''))
          rw [List.length_append, List.map_append]
          exact (h3.cast (rfS _ _ _ _)).drop
theorem countT_eq (k : Nat) (T : List Bool) : (takenFrom k T).length = (T.filter id).length := by
  induction T generalizing k with
  | nil => rfl
  | cons b r ih => cases b <;> simp [takenFrom, ih]
theorem ref_Len {w0 w : World} {F : HP} {q : Nat} {T : List Bool} (h : Sat w0 w (refR q T * F)) (hT : T.length < 1000000000) : Calls Try.prog 20 #[.pointer (some ⟨q, 0, none⟩)] w fun e w' => e = .returned (.int .i64 (countT T)) ∧ w = w' := by
  obtain ⟨a, c, hs⟩ := h.openRef
  have c0 : w.cell? ⟨q, 0, none⟩ = some (.slice a T.length c) := hs.cell 0 rfl
  have hs2 := hs.cast (mul_left_comm _ _ _)
  have hcell : ∀ k, k < T.length → ∃ g off, a = some ⟨g, off, none⟩ ∧ w.cell? ⟨g, off + k, none⟩ = some (.bool (T.getD k true)) := by
    intro k hk
    obtain ⟨g, off, e, hc, _⟩ := hs2.slcAt (j := k) (u := .bool (T.getD k true)) (by simp [hk])
    exact ⟨g, off, e, hc⟩
  have hstep : ∀ k, k < T.length → ((T.take (k + 1)).filter id).length = ((T.take k).filter id).length + if T.getD k true = true then 1 else 0 := by
    intro k hk
    rw [List.take_succ_eq_append_getElem hk, List.filter_append, List.length_append]
    simp only [List.getD_eq_getElem?_getD, List.getElem?_eq_getElem hk, Option.getD_some]
    cases T[k] <;> simp
  have hbd : ∀ k, ((T.take k).filter id).length ≤ k := fun k => Nat.le_trans (List.length_filter_le _ _) (by rw [List.length_take]; omega)
  have HC := Lib.hid hcell
  have HS := Lib.hid hstep
  have HB := Lib.hid hbd
  clear hcell hstep hbd
  go_enter Try.func20, Try.ntmps20
  go_wp2
  go_loop [3, 4] (fun n i => ∃ k : Nat, k ≤ T.length ∧ i = .int .i64 k ∧ n = .int .i64 ((T.take k).filter id).length) (fun _ i => T.length - (intOf i).toNat)
  case atStart => exact ⟨0, Nat.zero_le _, rfl, rfl⟩
  case round =>
    obtain ⟨k, hk, rfl, rfl⟩ := hrel
    by_cases hlt : k < T.length
    · obtain ⟨g, off, rfl, cx⟩ := HC.out k hlt
      have hb := HB.out k
      obtain ⟨m, hm⟩ : ∃ m, ((T.take k).filter id).length = m := ⟨_, rfl⟩
      have hs' := HS.out k hlt
      rw [hm] at hs' hb
      rw [hm]
      have HM := Lib.hid hm
      clear hm
      cases hv : T.getD k true with
      | true =>
        rw [hv] at cx hs'
        have HS' := Lib.hid hs'
        clear hv hs'
        go_wp2
        go_round
        case rel => exact ⟨k + 1, by omega, by go_num, by rw [HS'.out]; go_num⟩
        case measure => simp [intOf]; omega
      | false =>
        rw [hv] at cx hs'
        have HS' := Lib.hid hs'
        clear hv hs'
        go_wp2
        go_round
        case rel => exact ⟨k + 1, by omega, by go_num, by rw [HS'.out]; simp⟩
        case measure => simp [intOf]; omega
    · obtain rfl : k = T.length := by omega
      have e : ((T.take T.length).filter id).length = countT T := by rw [List.take_length]; exact (countT_eq 1 T).symm
      rw [e]
      clear e
      go_wp2
      go_ret
      exact ⟨rfl, rfl⟩

theorem lastT_snoc (T : List Bool) (b : Bool) : lastT (T ++ [b]) = if b then T.length + 1 else lastT T := by
  induction T with
  | nil => cases b <;> rfl
  | cons c r ih =>
    simp only [List.cons_append, lastT, ih]
    cases b
    · simp
    · simp
theorem ref_Last {w0 w : World} {F : HP} {q : Nat} {T : List Bool} (h : Sat w0 w (refR q T * F)) (hT : T.length < 1000000000) : Calls Try.prog 21 #[.pointer (some ⟨q, 0, none⟩)] w fun e w' => e = .returned (.int .i64 (lastT T)) ∧ w = w' := by
  obtain ⟨a, c, hs⟩ := h.openRef
  have c0 : w.cell? ⟨q, 0, none⟩ = some (.slice a T.length c) := hs.cell 0 rfl
  have hs2 := hs.cast (mul_left_comm _ _ _)
  have hcell : ∀ k, k < T.length → ∃ g off, a = some ⟨g, off, none⟩ ∧ w.cell? ⟨g, off + k, none⟩ = some (.bool (T.getD k true)) := by
    intro k hk
    obtain ⟨g, off, e, hc, _⟩ := hs2.slcAt (j := k) (u := .bool (T.getD k true)) (by simp [hk])
    exact ⟨g, off, e, hc⟩
  have hstep : ∀ k, k < T.length → lastT (T.take (k + 1)) = if T.getD k true = true then k + 1 else lastT (T.take k) := by
    intro k hk
    rw [List.take_succ_eq_append_getElem hk, lastT_snoc]
    simp only [List.getD_eq_getElem?_getD, List.getElem?_eq_getElem hk, Option.getD_some, List.length_take]
    rw [Nat.min_eq_left (by omega)]
  have HC := Lib.hid hcell
  have HS := Lib.hid hstep
  clear hcell hstep
  go_enter Try.func21, Try.ntmps21
  go_wp2
  go_loop [3] (fun i => ∃ k : Nat, k ≤ T.length ∧ i = .int .i64 k ∧ lastT T = lastT (T.take k)) (fun i => (intOf i).toNat)
  case atStart => exact ⟨T.length, Nat.le_refl _, rfl, by rw [List.take_length]⟩
  case round =>
    obtain ⟨k, hk, rfl, hl⟩ := hrel
    have HL := Lib.hid hl
    clear hl
    cases k with
    | zero =>
      have e : lastT T = 0 := by rw [HL.out]; rfl
      have E := Lib.hid e
      clear e
      go_wp2
      go_ret
      exact ⟨by rw [E.out]; rfl, rfl⟩
    | succ k =>
      rw [show ((k + 1 : Nat) : Int) = (k : Int) + 1 from by omega]
      obtain ⟨g, off, rfl, cx⟩ := HC.out k (by omega)
      have hs' := HS.out k (by omega)
      cases hv : T.getD k true with
      | true =>
        rw [hv] at cx hs'
        have e : (lastT T : Int) = (k : Int) + 1 := by rw [HL.out, hs']; rfl
        have E := Lib.hid e
        clear hv hs' e
        go_wp2
        go_ret
        exact ⟨by rw [E.out]; rfl, rfl⟩
      | false =>
        rw [hv] at cx hs'
        have HS' := Lib.hid hs'
        clear hv hs'
        go_wp2
        go_round
        case rel => exact ⟨k, by omega, by go_num, by rw [HL.out, HS'.out]; simp⟩
        case measure => simp [intOf]
theorem oneCell_bools (l : List Bool) : ∀ v ∈ l.map Value.bool, v.oneCell' = true := by
  intro v hv
  obtain ⟨x, _, rfl⟩ := List.mem_map.1 hv
  rfl
theorem rfT (A B C F : HP) : A * (B * (C * F)) = B * (C * (A * F)) := by ac_rfl
theorem ref_Copy {w0 w : World} {F : HP} {q : Nat} {T : List Bool} (h : Sat w0 w (refR q T * F)) (hT : T.length < 1000000000) : Calls Try.prog 17 #[.pointer (some ⟨q, 0, none⟩)] w fun e w' => ∃ r, e = .returned (.pointer (some ⟨r, 0, none⟩)) ∧ Sat w0 w' (refR r T * (refR q T * F)) := by
  obtain ⟨i0, hi, hz0, hz1, hz2⟩ := info_parts info_bool
  obtain ⟨a, c, hs⟩ := h.openRef
  have hx := hs.alloc (.cells #[.slice none 0 0] 46)
  go_enter Try.func17, Try.ntmps17
  go_wp2
  generalize hr : w.heap.size = r at *
  generalize hwd : w.alloc (.cells #[.slice none 0 0] 46) = wd at *
  have c0 : wd.cell? ⟨q, 0, none⟩ = some (.slice a T.length c) := (hx.cast (mul_left_comm _ _ _)).cell 0 rfl
  have d0 : wd.cell? ⟨r, 0, none⟩ = some (.slice none 0 0) := Sat.cell (T := 46) (cs := #[.slice none 0 0]) hx 0 rfl
  clear hr hwd
  have hsrc := (hx.cast (rfR _ _ _ _)).slcSrc
  have hx1 := (hx.nilSlc (T := 4) (sz := 1)).drew
  go_region_law (refine step_of rfl (wp_append_any _ _ 44 rfl i0 (.bool false) 1 Try.underlying44 hi hz0 hz1 hz2 rfl none 0 0 [] (by simp [Act.eval, Act.put]) hx1 a T.length c (T.map Value.bool) (by simp [Act.eval, Act.put]) (by simp) hsrc (oneCell_bools _) (by unfold maxLen; omega) (by omega) ?_); intro a' c'' w1 hs1 _; have e0 : w1.cell? ⟨r, 0, none⟩ = some (.slice none 0 0) := Sat.cell (T := 46) (cs := #[.slice none 0 0]) (hs1.cast (mul_left_comm _ _ _)) 0 rfl; have g0 : w1.frozen? ⟨r, 0, none⟩ = false := Sat.free (T := 46) (cs := #[.slice none 0 0]) (hs1.cast (mul_left_comm _ _ _)) 0)
  all_goals
    go_wp2
    go_ret
    refine ⟨r, rfl, ?_⟩
    rw [List.nil_append] at hs1
    have h2 := (hs1.cast (mul_left_comm _ _ _)).store (b := r) (i := 0) (.slice a' T.length c'')
    rw [Nat.zero_add] at h2
    have h3 := Sat.shutRef (q := r) (T := T) (a := a') (c := c'') h2
    have h4 := Sat.shutRef (q := q) (T := T) (a := a) (c := c) (h3.cast (rfT _ _ _ _))
    exact h4.cast (mul_left_comm _ _ _)
end Go.Proofs.Ytpbdmijjonbggaa.Tw
