/- PoolOnce: what is taken is not handed out again, till it was given back; and nothing above how many are taken, and 1: proved for every slice of bytes, without a condition. -/
import Derived.Test.YtpbdmijjonbggaaPool7
import Derived.ProofKit
import Derived.OpenShut
import Derived.ShutString
import Derived.ChangeOld
namespace Go.Proofs.Ytpbdmijjonbggaa.POnce
set_option linter.unusedVariables false
set_option linter.unusedSimpArgs false
open Go Go.RowKit Go.MapKept Go.Proofs.Ytpbdmijjonbggaa.Tw
open Go.ChangeShapes Go.WideShapes Go.ChangeAt
open Go.ChangeMaps (open_string shut_string)

def IsRow (k : IntKind) (w : World) (a : Option Addr) (len cap : Nat) (zs : List Int) : Prop :=
  (a = none ∧ len = 0 ∧ cap = 0 ∧ zs = []) ∨
  ∃ x, a = some x ∧ len ≤ cap ∧ cap ≤ maxLen ∧ zs.length = cap ∧ (∀ i, i < zs.length → w.cell? (x.add i) = some (.int k (zs.getD i 0))) ∧ ∀ n ∈ zs, (Lit.int k n).wf = true
theorem addr_of_cell {w : World} {x : Addr} {v : Value} (h : w.cell? (x.add 0) = some v) : ∃ b off, x = ⟨b, off, none⟩ := by
  obtain ⟨b, off, sp⟩ := x
  cases sp with
  | none => exact ⟨b, off, rfl⟩
  | some s =>
    simp [Addr.add, World.cell?] at h
    split at h <;> simp at h

/-- the list holds the taken numbers, each once -/
def Holds (T : List Bool) (H : List Int) : Prop := H.Nodup ∧ ∀ x, x ∈ H ↔ tk T x = true
theorem Holds.perm {T : List Bool} {H : List Int} (h : Holds T H) : H.Perm (takenOf T) := by
  rw [List.perm_ext_iff_of_nodup h.1 (takenOf_nodup T)]
  intro x; rw [h.2, mem_takenOf]
theorem Holds.len {T : List Bool} {H : List Int} (h : Holds T H) : countT T = H.length := h.perm.length_eq.symm
theorem firstFree_count (k : Nat) (T : List Bool) : firstFree T ≤ (takenFrom k T).length := by
  induction T generalizing k with
  | nil => simp [firstFree]
  | cons b r ih => have := ih (k + 1); cases b <;> simp [firstFree, takenFrom]; omega
theorem Holds.first {T : List Bool} {H : List Int} (h : Holds T H) : firstFree T ≤ H.length := by
  rw [← h.len]; exact firstFree_count 1 T
theorem Holds.take {T : List Bool} {H : List Int} (h : Holds T H) : Holds (takeT T) (H ++ [(firstFree T : Int) + 1]) := by
  have hn : ((firstFree T : Int) + 1) ∉ H := by rw [h.2, firstFree_free]; simp
  refine ⟨List.nodup_append.2 ⟨h.1, by simp, fun a ha b hb => ?_⟩, fun x => ?_⟩
  · simp at hb; subst hb; rintro rfl; exact hn ha
  · rw [List.mem_append, h.2, tk_takeT]; simp
theorem Holds.give {T : List Bool} {H : List Int} (h : Holds T H) {k : Nat} {n : Int} (hk : H[k]? = some n) : Holds (giveT T n) (H.take k ++ H.drop (k + 1)) := by
  have hl := (List.getElem?_eq_some_iff.1 hk).1
  have hsub : (H.take k ++ H.drop (k + 1)).Sublist H := by rw [← List.eraseIdx_eq_take_drop_succ]; exact List.eraseIdx_sublist _ _
  refine ⟨h.1.sublist hsub, fun x => ?_⟩
  rw [tk_giveT, ← List.eraseIdx_eq_take_drop_succ, List.mem_eraseIdx_iff_getElem?]
  constructor
  · rintro ⟨i, hi, e⟩
    have hx : x ∈ H := List.mem_of_getElem? e
    have hne : x ≠ n := by
      rintro rfl
      exact hi ((List.getElem?_inj (List.getElem?_eq_some_iff.1 e).1 h.1).1 (e.trans hk.symm))
    simp [(h.2 x).1 hx, hne]
  · intro hx
    simp only [Bool.and_eq_true, Bool.not_eq_true', decide_eq_false_iff_not] at hx
    obtain ⟨i, e⟩ := List.mem_iff_getElem?.1 ((h.2 x).2 hx.1)
    exact ⟨i, by rintro rfl; rw [hk] at e; cases e; exact hx.2 rfl, e⟩
theorem Holds.last {T : List Bool} {H : List Int} (h : Holds T H) {x : Int} (hx : x ∈ H) : x ≤ lastT T ∧ 1 ≤ x ∧ x ≤ T.length := by
  have ht := (h.2 x).1 hx
  obtain ⟨h1, h2⟩ := tk_lt ht
  have hb : T[(x - 1).toNat]? = some true := by
    unfold tk at ht
    rw [List.getElem?_eq_getElem h2] at ht ⊢
    simp only [Bool.and_eq_true, Option.getD_some] at ht
    rw [ht.2]
  have := lastT_ge T _ hb
  omega
theorem Holds.none {T : List Bool} (h : Holds T []) : lastT T = 0 := by
  rcases Nat.eq_zero_or_pos (lastT T) with h0 | h0
  · exact h0
  · have := lastT_at T (by omega)
    have ht : tk T (lastT T) = true := by
      unfold tk
      rw [show ((lastT T : Int) - 1).toNat = lastT T - 1 from by omega, this]; simp; omega
    have := (h.2 _).2 ht
    cases this
theorem bounds_u8 {n : Int} (h : (Lit.int .u8 n).wf = true) : 0 ≤ n ∧ n ≤ 255 := by
  simp [Lit.wf, IntKind.min, IntKind.max, IntKind.signed, IntKind.bits] at h
  omega
theorem takeT_le (T : List Bool) : (takeT T).length ≤ T.length + 1 := by
  have := firstFree_le T
  rw [takeT_length]; omega
theorem newFirst {w0 w : World} {A B F : HP} {o : Obj} (h : Sat w0 w (A * (B * F))) : Sat w0 (w.alloc o) (B * (pt w.heap.size o * (A * F))) := (h.alloc o).cast (by ac_rfl)
theorem swap2 (A B F : HP) : A * (B * F) = B * (A * F) := mul_left_comm A B F

set_option maxRecDepth 100000 in
set_option maxHeartbeats 4000000 in
theorem walk (a0 : Option Addr) (len0 cap0 : Nat) (z0 : List Int) (w : World) (w0 : IsRow .u8 w a0 len0 cap0 z0) :
    Calls Try.prog 3 #[.slice a0 len0 cap0] w fun e w' => e = .returned (.bool true) ∧ Below w.heap.size w w' := by
  have h0 := Sat.refl w
  have hfin : ∀ w' (F G : HP), Sat w w' (F * (G * Old w)) → Below w.heap.size w w' := fun w' F G h => (h.drop.cast (mul_comm _ _)).below
  have hcell : ∀ k, k < len0 → ∃ b off n, a0 = some ⟨b, off, none⟩ ∧ (0 ≤ n ∧ n ≤ 255) ∧ (∀ w' (F G : HP), Sat w w' (F * (G * Old w)) → w'.cell? ⟨b, off + k, none⟩ = some (.int .u8 n)) := by
    intro k hk
    rcases w0 with ⟨_, rfl, _⟩ | ⟨x, rfl, h1, h2, h3, h4, h5⟩
    · omega
    · have hk' : k < z0.length := by omega
      have hv := h4 k hk'
      obtain ⟨b, off, rfl⟩ := addr_of_cell (h4 0 (by omega))
      rw [addr_add] at hv
      have hw := h5 (z0.getD k 0) (by simp [hk'])
      refine ⟨b, off, z0.getD k 0, rfl, ?_, fun w' F G hs => (hs.drop.cast (mul_comm _ _)).oldCell hv⟩
      exact bounds_u8 hw
  have HC := Lib.hid hcell
  clear hcell w0
  obtain ⟨i0, hi, hz0, hz1, hz2⟩ := info_parts info_int
  go_enter Try.func3, Try.ntmps3
  go_wp2_with fail
  refine (pool_works h0).mono ?_; rintro e w0' ⟨rfl, h0'⟩; clear h0
  go_wp2_with fail
  refine (pool_New h0').mono ?_; rintro e w1 ⟨p, rfl, h1⟩; clear h0'
  have h2 := (h1.nilSlc (T := 3) (sz := 1)).cast (swap2 _ _ _)
  go_wp2
  go_loopw [4, 5] (fun hv i wr => ∃ (k : Nat) (T : List Bool) (H : List Int) (a : Option Addr) (c : Nat), i = .int .i64 k ∧ hv = .slice a H.length c ∧ k ≤ 300 ∧ T.length ≤ k ∧ H.length ≤ k ∧ Holds T H ∧ Sat w wr (poolR p T * (slc 3 1 a H.length c (H.map ival) * Old w))) (fun _ i _ => (300 - intOf i).toNat)
  case atStart => exact ⟨0, [], [], none, 0, rfl, rfl, by omega, by simp, by simp, ⟨by simp, fun x => by simp [tk]⟩, h2⟩
  case round =>
    obtain ⟨k, T, H, a, c, rfl, rfl, hk, hT, hH, hh, hs⟩ := hrel
    have HH := Lib.hid hh
    clear hh
    by_cases hl1 : k < len0
    · by_cases hl2 : k < 300
      · obtain ⟨b, off, n, rfl, ⟨hn1, hn2⟩, hc⟩ := HC.out k hl1
        have cx := hc _ _ _ hs
        clear hc
        have hT9 : T.length < 1000000000 := by omega
        by_cases hlt : n < 128
        · have htl := takeT_le T
          have hff := HH.out.first
          have hh' := HH.out.take
          have hnin : ∀ x ∈ H, ¬ x = (firstFree T : Int) + 1 := by
            intro x hx e
            have := (HH.out.2 x).1 hx
            rw [e, firstFree_free] at this; cases this
          have hTk := pool_Take hs hT9
          obtain ⟨m, hm⟩ : ∃ m : Nat, firstFree T = m := ⟨_, rfl⟩
          rw [hm] at hff hh' hnin hTk
          generalize takeT T = T' at *
          have HN := Lib.hid hnin
          have HH' := Lib.hid hh'
          have HTk := Lib.hid hTk
          clear hm hnin hh' hTk hs
          go_wp2_with fail
          refine HTk.out.mono ?_; rintro e w3 ⟨rfl, h3⟩
          clear HTk cx
          have hel0 : ∀ j, j < H.length → ∃ g off, a = some ⟨g, off, none⟩ ∧ w3.cell? ⟨g, off + j, none⟩ = some (.int .i64 (H.getD j 0)) := by
            intro j hj
            obtain ⟨g, off, e, hc, _⟩ := (h3.cast (swap2 _ _ _)).slcAt (j := j) (u := ival (H.getD j 0)) (by simp [hj])
            exact ⟨g, off, e, hc⟩
          have HE0 := Lib.hid hel0
          clear hel0
          go_wp2
          go_loop [7] (fun i => ∃ j : Nat, i = .int .i64 j ∧ j ≤ H.length) (fun i => H.length - (intOf i).toNat)
          case atStart => exact ⟨0, rfl, Nat.zero_le _⟩
          case round =>
            obtain ⟨j, rfl, hj⟩ := hrel
            by_cases hjl : j < H.length
            · obtain ⟨g1, off1, rfl, hc1⟩ := HE0.out j hjl
              have hne := HN.out (H.getD j 0) (by simp [hjl])
              obtain ⟨x, hx⟩ : ∃ x, H.getD j 0 = x := ⟨_, rfl⟩
              rw [hx] at hc1 hne
              have hneb : (x == (m : Int) + 1) = false := by simpa using hne
              clear hx hne
              go_wp2
              go_round
              case rel => exact ⟨j + 1, by go_num, by omega⟩
              case measure => simp [intOf]; omega
            · go_wp2_with (at_builtin; refine wpList_append rfl _ _ 26 rfl i0 (.int .i64 0) 8 Try.underlying26 hi hz0 hz1 hz2 rfl a H.length c (H.map ival) rfl (newFirst h3) ⟨w3.heap.size, 0, none⟩ 1 1 [.int .i64 ((m : Int) + 1)] rfl rfl (cell_one_new _ _ _) (by simp [Value.oneCell']) (by unfold maxLen; omega) (by omega) ?_; intro a' c' w4 hs4 _)
              have FS : Sat w w4 (poolR p T' * (slc 3 1 a' (H.length + 1) c' ((H ++ [(m : Int) + 1]).map ival) * Old w)) := by
                rw [List.map_append]; exact hs4.drop2.cast (swap2 _ _ _)
              clear hs4 h3 HE0 HN
              have FH := Lib.hid HH'.out
              have FL : Hid ((H ++ [(m : Int) + 1]).length = H.length + 1) := by show _ = _; simp
              clear HH'
              generalize H ++ [(m : Int) + 1] = H' at *
              have hT3 : T'.length < 1000000000 := by omega
              have hcount : (countT T' : Int) = ((H.length + 1) : Nat) := by rw [FH.out.len, FL.out]
              have hmem : ∀ j, j < (H.length + 1) → tk T' (H'.getD j 0) = true ∧ H'.getD j 0 ≤ lastT T' ∧ 1 ≤ H'.getD j 0 ∧ H'.getD j 0 ≤ 1000000000 := by
                intro j hj
                have hj' : j < H'.length := by rw [FL.out]; exact hj
                have hx : H'.getD j 0 ∈ H' := by simp [hj']
                have := FH.out.last hx
                exact ⟨(FH.out.2 _).1 hx, this.1, this.2.1, by omega⟩
              have hel : ∀ wx, Sat w wx (poolR p T' * (slc 3 1 a' (H.length + 1) c' (H'.map ival) * Old w)) → ∀ j, j < (H.length + 1) → ∃ g off, a' = some ⟨g, off, none⟩ ∧ wx.cell? ⟨g, off + j, none⟩ = some (.int .i64 (H'.getD j 0)) := by
                intro wx hx j hj
                have hj' : j < H'.length := by rw [FL.out]; exact hj
                obtain ⟨g, off, e, hc, _⟩ := (hx.cast (swap2 _ _ _)).slcAt (j := j) (u := ival (H'.getD j 0)) (by simp [hj'])
                exact ⟨g, off, e, hc⟩
              have HM := Lib.hid hmem
              have HE := Lib.hid hel
              have HCt := Lib.hid hcount
              clear hmem hel hcount
              go_wp2
              go_loopw [10] (fun i wx => ∃ j : Nat, i = .int .i64 j ∧ j ≤ (H.length + 1) ∧ Sat w wx (poolR p T' * (slc 3 1 a' (H.length + 1) c' (H'.map ival) * Old w))) (fun i _ => (H.length + 1) - (intOf i).toNat)
              case atStart => exact ⟨0, rfl, Nat.zero_le _, FS⟩
              case round =>
                obtain ⟨j, rfl, hj, hsj⟩ := hrel
                by_cases hjl : j < (H.length + 1)
                · obtain ⟨g1, off1, ea, hc1⟩ := HE.out _ hsj j hjl
                  obtain ⟨m1, m2, m3, m4⟩ := HM.out j hjl
                  obtain ⟨x, hx⟩ : ∃ x, H'.getD j 0 = x := ⟨_, rfl⟩
                  rw [hx] at hc1 m1 m2 m3 m4
                  cases ea
                  have HX := Lib.hid hx
                  clear hx
                  have hkeep : ∀ wx, Sat w wx (poolR p T' * (slc 3 1 (some ⟨g1, off1, none⟩) (H.length + 1) c' (H'.map ival) * Old w)) → wx.cell? ⟨g1, off1 + j, none⟩ = some (.int .i64 x) := by
                    intro wx hwx
                    obtain ⟨g2, off2, e2, hc2⟩ := HE.out _ hwx j hjl
                    cases e2
                    rw [HX.out] at hc2
                    exact hc2
                  have HK := Lib.hid hkeep
                  clear hkeep
                  go_wp2_with fail
                  go_region_held3 (fun w' => w'.cell? ⟨g1, off1 + j, none⟩ = some (.int .i64 x))
                    (first | exact hc1 | exact hc2 | exact hc3 | go_keep)
                    ((first
                      | (go_at_call 11; refine (in_to hsj.drew x (b := true) m1).mono ?_; rintro e wy ⟨rfl, hsy⟩; have hc2 := HK.out _ hsy)
                      | (go_at_call 12; refine (pool_Last hsy hT3).mono ?_; rintro e wz ⟨rfl, hsz⟩; have hc3 := HK.out _ hsz)))
                  go_wp2
                  exact ⟨⟨j + 1, by go_num, by omega, hsz⟩, by simp [intOf] <;> omega⟩
                · have hzb2 : ((((H.length + 1) : Nat) : Int) == 0) = false := by rw [beq_eq_false_iff_ne]; omega
                  go_wp2_with fail
                  refine (len_to hsj HCt.out).mono ?_; rintro e wy ⟨rfl, hsy⟩
                  go_wp2
                  exact ⟨⟨k + 1, T', H', a', c', by go_num, by rw [FL.out], by omega, by omega, by rw [FL.out]; omega, FH.out, by rw [FL.out]; exact hsy⟩, by simp [intOf] <;> omega⟩
        · by_cases hz : H.length = 0
          · have htl := takeT_le T
            have hff := HH.out.first
            have hh' := HH.out.take
            have hnin : ∀ x ∈ H, ¬ x = (firstFree T : Int) + 1 := by
              intro x hx e
              have := (HH.out.2 x).1 hx
              rw [e, firstFree_free] at this; cases this
            have hTk := pool_Take hs hT9
            obtain ⟨m, hm⟩ : ∃ m : Nat, firstFree T = m := ⟨_, rfl⟩
            rw [hm] at hff hh' hnin hTk
            generalize takeT T = T' at *
            have HN := Lib.hid hnin
            have HH' := Lib.hid hh'
            have HTk := Lib.hid hTk
            clear hm hnin hh' hTk hs
            have hzb : ((H.length : Int) == 0) = true := by simp [hz]
            clear hz
            go_wp2_with fail
            refine HTk.out.mono ?_; rintro e w3 ⟨rfl, h3⟩
            clear HTk cx
            have hel0 : ∀ j, j < H.length → ∃ g off, a = some ⟨g, off, none⟩ ∧ w3.cell? ⟨g, off + j, none⟩ = some (.int .i64 (H.getD j 0)) := by
              intro j hj
              obtain ⟨g, off, e, hc, _⟩ := (h3.cast (swap2 _ _ _)).slcAt (j := j) (u := ival (H.getD j 0)) (by simp [hj])
              exact ⟨g, off, e, hc⟩
            have HE0 := Lib.hid hel0
            clear hel0
            go_wp2
            go_loop [7] (fun i => ∃ j : Nat, i = .int .i64 j ∧ j ≤ H.length) (fun i => H.length - (intOf i).toNat)
            case atStart => exact ⟨0, rfl, Nat.zero_le _⟩
            case round =>
              obtain ⟨j, rfl, hj⟩ := hrel
              by_cases hjl : j < H.length
              · obtain ⟨g1, off1, rfl, hc1⟩ := HE0.out j hjl
                have hne := HN.out (H.getD j 0) (by simp [hjl])
                obtain ⟨x, hx⟩ : ∃ x, H.getD j 0 = x := ⟨_, rfl⟩
                rw [hx] at hc1 hne
                have hneb : (x == (m : Int) + 1) = false := by simpa using hne
                clear hx hne
                go_wp2
                go_round
                case rel => exact ⟨j + 1, by go_num, by omega⟩
                case measure => simp [intOf]; omega
              · go_wp2_with (at_builtin; refine wpList_append rfl _ _ 26 rfl i0 (.int .i64 0) 8 Try.underlying26 hi hz0 hz1 hz2 rfl a H.length c (H.map ival) rfl (newFirst h3) ⟨w3.heap.size, 0, none⟩ 1 1 [.int .i64 ((m : Int) + 1)] rfl rfl (cell_one_new _ _ _) (by simp [Value.oneCell']) (by unfold maxLen; omega) (by omega) ?_; intro a' c' w4 hs4 _)
                have FS : Sat w w4 (poolR p T' * (slc 3 1 a' (H.length + 1) c' ((H ++ [(m : Int) + 1]).map ival) * Old w)) := by
                  rw [List.map_append]; exact hs4.drop2.cast (swap2 _ _ _)
                clear hs4 h3 HE0 HN
                have FH := Lib.hid HH'.out
                have FL : Hid ((H ++ [(m : Int) + 1]).length = H.length + 1) := by show _ = _; simp
                clear HH'
                generalize H ++ [(m : Int) + 1] = H' at *
                have hT3 : T'.length < 1000000000 := by omega
                have hcount : (countT T' : Int) = ((H.length + 1) : Nat) := by rw [FH.out.len, FL.out]
                have hmem : ∀ j, j < (H.length + 1) → tk T' (H'.getD j 0) = true ∧ H'.getD j 0 ≤ lastT T' ∧ 1 ≤ H'.getD j 0 ∧ H'.getD j 0 ≤ 1000000000 := by
                  intro j hj
                  have hj' : j < H'.length := by rw [FL.out]; exact hj
                  have hx : H'.getD j 0 ∈ H' := by simp [hj']
                  have := FH.out.last hx
                  exact ⟨(FH.out.2 _).1 hx, this.1, this.2.1, by omega⟩
                have hel : ∀ wx, Sat w wx (poolR p T' * (slc 3 1 a' (H.length + 1) c' (H'.map ival) * Old w)) → ∀ j, j < (H.length + 1) → ∃ g off, a' = some ⟨g, off, none⟩ ∧ wx.cell? ⟨g, off + j, none⟩ = some (.int .i64 (H'.getD j 0)) := by
                  intro wx hx j hj
                  have hj' : j < H'.length := by rw [FL.out]; exact hj
                  obtain ⟨g, off, e, hc, _⟩ := (hx.cast (swap2 _ _ _)).slcAt (j := j) (u := ival (H'.getD j 0)) (by simp [hj'])
                  exact ⟨g, off, e, hc⟩
                have HM := Lib.hid hmem
                have HE := Lib.hid hel
                have HCt := Lib.hid hcount
                clear hmem hel hcount
                go_wp2
                go_loopw [10] (fun i wx => ∃ j : Nat, i = .int .i64 j ∧ j ≤ (H.length + 1) ∧ Sat w wx (poolR p T' * (slc 3 1 a' (H.length + 1) c' (H'.map ival) * Old w))) (fun i _ => (H.length + 1) - (intOf i).toNat)
                case atStart => exact ⟨0, rfl, Nat.zero_le _, FS⟩
                case round =>
                  obtain ⟨j, rfl, hj, hsj⟩ := hrel
                  by_cases hjl : j < (H.length + 1)
                  · obtain ⟨g1, off1, ea, hc1⟩ := HE.out _ hsj j hjl
                    obtain ⟨m1, m2, m3, m4⟩ := HM.out j hjl
                    obtain ⟨x, hx⟩ : ∃ x, H'.getD j 0 = x := ⟨_, rfl⟩
                    rw [hx] at hc1 m1 m2 m3 m4
                    cases ea
                    have HX := Lib.hid hx
                    clear hx
                    have hkeep : ∀ wx, Sat w wx (poolR p T' * (slc 3 1 (some ⟨g1, off1, none⟩) (H.length + 1) c' (H'.map ival) * Old w)) → wx.cell? ⟨g1, off1 + j, none⟩ = some (.int .i64 x) := by
                      intro wx hwx
                      obtain ⟨g2, off2, e2, hc2⟩ := HE.out _ hwx j hjl
                      cases e2
                      rw [HX.out] at hc2
                      exact hc2
                    have HK := Lib.hid hkeep
                    clear hkeep
                    go_wp2_with fail
                    go_region_held3 (fun w' => w'.cell? ⟨g1, off1 + j, none⟩ = some (.int .i64 x))
                      (first | exact hc1 | exact hc2 | exact hc3 | go_keep)
                      ((first
                        | (go_at_call 11; refine (in_to hsj.drew x (b := true) m1).mono ?_; rintro e wy ⟨rfl, hsy⟩; have hc2 := HK.out _ hsy)
                        | (go_at_call 12; refine (pool_Last hsy hT3).mono ?_; rintro e wz ⟨rfl, hsz⟩; have hc3 := HK.out _ hsz)))
                    go_wp2
                    exact ⟨⟨j + 1, by go_num, by omega, hsz⟩, by simp [intOf] <;> omega⟩
                  · have hzb2 : ((((H.length + 1) : Nat) : Int) == 0) = false := by rw [beq_eq_false_iff_ne]; omega
                    go_wp2_with fail
                    refine (len_to hsj HCt.out).mono ?_; rintro e wy ⟨rfl, hsy⟩
                    go_wp2
                    exact ⟨⟨k + 1, T', H', a', c', by go_num, by rw [FL.out], by omega, by omega, by rw [FL.out]; omega, FH.out, by rw [FL.out]; exact hsy⟩, by simp [intOf] <;> omega⟩
          · have hpos : 0 < H.length := by omega
            have hzb : ((H.length : Int) == 0) = false := by rw [beq_eq_false_iff_ne]; omega
            have hbd : 0 ≤ (n - 128) % (H.length : Int) ∧ (n - 128) % (H.length : Int) < (H.length : Int) := ⟨Int.emod_nonneg _ (by omega), Int.emod_lt_of_pos _ (by omega)⟩
            obtain ⟨kk, he⟩ : ∃ kk : Nat, (n - 128) % (H.length : Int) = (kk : Int) := ⟨((n - 128) % (H.length : Int)).toNat, (Int.toNat_of_nonneg hbd.1).symm⟩
            rw [he] at hbd
            have hkk : kk < H.length := by omega
            have hslc := (hs.cast (swap2 _ _ _))
            have hcapc := hslc.slcCap.1
            obtain ⟨g, goff, rfl, hck, _⟩ := hslc.slcAt (j := kk) (u := ival (H.getD kk 0)) (by simp [hkk])
            obtain ⟨x, hx⟩ : ∃ x, H.getD kk 0 = x := ⟨_, rfl⟩
            have hxk : H[kk]? = some x := by rw [← hx]; simp [hkk]
            have hxm : x ∈ H := List.mem_of_getElem? hxk
            have htk : tk T x = true := (HH.out.2 x).1 hxm
            have hxl := HH.out.last hxm
            have hgl := giveT_length T x
            have hh' := HH.out.give hxk
            have htk' : tk (giveT T x) x = false := by rw [tk_giveT]; simp
            have hGv := give_to hs (T' := giveT T x) hT9 htk rfl
            rw [hx] at hck
            unfold ival at hck
            clear hs hslc hx hxk hxm htk
            generalize giveT T x = T' at *
            have HGv := Lib.hid hGv
            have htl : T'.length ≤ T.length := by omega
            have HH' := Lib.hid hh'
            have HTK' := Lib.hid htk'
            clear hGv hgl hh' htk'
            go_wp2_with fail
            refine HGv.out.mono ?_; rintro e w3 ⟨rfl, h3⟩
            clear HGv hck cx
            go_wp2_with fail
            refine (in_to h3 x (b := false) HTK'.out).mono ?_; rintro e w4 ⟨rfl, h4⟩
            clear h3
            go_wp2_with fail
            refine (pool_Give_no h4 x HTK'.out).mono ?_; rintro e w5 ⟨rfl, h5⟩
            clear h4
            go_wp2_with fail
            have h5s := (h5.drew.cast (swap2 _ _ _))
            have h5t := h5s.slcTake (m := kk) (by omega)
            have hcl5 := h5s.slcCells
            rw [Nat.mul_one, ← List.map_take] at h5t
            have hw1 : IntKind.i64.wrap ((kk : Int) + 1) = (kk : Int) + 1 := by rw [IntKind.wrap_i64]; omega
            have hb1 : (0 : Int) ≤ (kk : Int) + 1 := by omega
            have htn : ((kk : Int) + 1).toNat = kk + 1 := by omega
            have hb3 : (kk : Int) + 1 ≤ (H.length : Int) := by omega
            have hb4 : (kk : Int) ≤ (c : Int) := by omega
            have hb5 : kk ≤ c := by omega
            have hb6 : kk + 1 ≤ H.length := by omega
            have hFL : Hid ((H.take kk ++ H.drop (kk + 1)).length = H.length - 1) := by show _ = _; rw [List.length_append, List.length_take, List.length_drop]; omega
            have hNM : Hid (kk + (H.length - (kk + 1)) = H.length - 1) := by show _ = _; omega
            have hln : Hid (((H.drop (kk + 1)).map ival).length = (H.length - (kk + 1)) * 1) := by show _ = _; simp
            by_cases hc1 : c = kk + 1
            · have hnews : ∀ j u, ((H.drop (kk + 1)).map ival)[j]? = some u → w5.drew.cell? ((⟨g, goff, none⟩ : Addr).add j) = some u := by
                intro j u hj
                rw [List.drop_of_length_le (by omega)] at hj
                simp at hj
              have hq : (kk : Int) ≤ (kk : Int) + 1 := by omega
              subst hc1
              go_region_law (refine step_of rfl (wp_append _ _ 26 rfl i0 (.int .i64 0) 8 Try.underlying26 hi hz0 hz1 hz2 rfl (some ⟨g, goff, none⟩) kk (kk + 1) ((H.take kk).map ival) (by simp [Act.eval, Act.put]) h5t ⟨g, goff, none⟩ (H.length - (kk + 1)) 0 ((H.drop (kk + 1)).map ival) (by simp [Act.eval, Act.put]; omega) hln.out hnews (oneCell_ivals _) (by unfold maxLen; omega) (by omega) ?_); rw [hNM.out, ← List.map_append]; intro a' c' w6 hs6 _)
              have FS : Sat w w6 (poolR p T' * (slc 3 1 a' (H.length - 1) c' ((H.take kk ++ H.drop (kk + 1)).map ival) * Old w)) := hs6.cast (swap2 _ _ _)
              clear hs6 h5 h5s h5t hcl5 hnews
              have FH := Lib.hid HH'.out
              have FL := hFL
              clear HH' hFL
              generalize H.take kk ++ H.drop (kk + 1) = H' at *

              have hT3 : T'.length < 1000000000 := by omega
              have hcount : (countT T' : Int) = ((H.length - 1) : Nat) := by rw [FH.out.len, FL.out]
              have hmem : ∀ j, j < (H.length - 1) → tk T' (H'.getD j 0) = true ∧ H'.getD j 0 ≤ lastT T' ∧ 1 ≤ H'.getD j 0 ∧ H'.getD j 0 ≤ 1000000000 := by
                intro j hj
                have hj' : j < H'.length := by rw [FL.out]; exact hj
                have hx : H'.getD j 0 ∈ H' := by simp [hj']
                have := FH.out.last hx
                exact ⟨(FH.out.2 _).1 hx, this.1, this.2.1, by omega⟩
              have hel : ∀ wx, Sat w wx (poolR p T' * (slc 3 1 a' (H.length - 1) c' (H'.map ival) * Old w)) → ∀ j, j < (H.length - 1) → ∃ g off, a' = some ⟨g, off, none⟩ ∧ wx.cell? ⟨g, off + j, none⟩ = some (.int .i64 (H'.getD j 0)) := by
                intro wx hx j hj
                have hj' : j < H'.length := by rw [FL.out]; exact hj
                obtain ⟨g, off, e, hc, _⟩ := (hx.cast (swap2 _ _ _)).slcAt (j := j) (u := ival (H'.getD j 0)) (by simp [hj'])
                exact ⟨g, off, e, hc⟩
              have HM := Lib.hid hmem
              have HE := Lib.hid hel
              have HCt := Lib.hid hcount
              clear hmem hel hcount
              go_wp2
              go_loopw [10] (fun i wx => ∃ j : Nat, i = .int .i64 j ∧ j ≤ (H.length - 1) ∧ Sat w wx (poolR p T' * (slc 3 1 a' (H.length - 1) c' (H'.map ival) * Old w))) (fun i _ => (H.length - 1) - (intOf i).toNat)
              case atStart => exact ⟨0, rfl, Nat.zero_le _, FS⟩
              case round =>
                obtain ⟨j, rfl, hj, hsj⟩ := hrel
                by_cases hjl : j < (H.length - 1)
                · obtain ⟨g1, off1, ea, hc1⟩ := HE.out _ hsj j hjl
                  obtain ⟨m1, m2, m3, m4⟩ := HM.out j hjl
                  obtain ⟨x, hx⟩ : ∃ x, H'.getD j 0 = x := ⟨_, rfl⟩
                  rw [hx] at hc1 m1 m2 m3 m4
                  cases ea
                  have HX := Lib.hid hx
                  clear hx
                  have hkeep : ∀ wx, Sat w wx (poolR p T' * (slc 3 1 (some ⟨g1, off1, none⟩) (H.length - 1) c' (H'.map ival) * Old w)) → wx.cell? ⟨g1, off1 + j, none⟩ = some (.int .i64 x) := by
                    intro wx hwx
                    obtain ⟨g2, off2, e2, hc2⟩ := HE.out _ hwx j hjl
                    cases e2
                    rw [HX.out] at hc2
                    exact hc2
                  have HK := Lib.hid hkeep
                  clear hkeep
                  go_wp2_with fail
                  go_region_held3 (fun w' => w'.cell? ⟨g1, off1 + j, none⟩ = some (.int .i64 x))
                    (first | exact hc1 | exact hc2 | exact hc3 | go_keep)
                    ((first
                      | (go_at_call 11; refine (in_to hsj.drew x (b := true) m1).mono ?_; rintro e wy ⟨rfl, hsy⟩; have hc2 := HK.out _ hsy)
                      | (go_at_call 12; refine (pool_Last hsy hT3).mono ?_; rintro e wz ⟨rfl, hsz⟩; have hc3 := HK.out _ hsz)))
                  go_wp2
                  exact ⟨⟨j + 1, by go_num, by omega, hsz⟩, by simp [intOf] <;> omega⟩
                · by_cases hz0 : (H.length - 1) = 0
                  · have hl0 : (lastT T' : Int) = 0 := by
                      have : H' = [] := List.eq_nil_of_length_eq_zero (by rw [FL.out]; exact hz0)
                      have h1 := FH.out
                      rw [this] at h1
                      rw [h1.none]; rfl
                    have hzb2 : ((((H.length - 1) : Nat) : Int) == 0) = true := by rw [hz0]; rfl
                    have HL0 := Lib.hid hl0
                    clear hl0 hz0
                    go_wp2_with fail
                    refine (len_to hsj HCt.out).mono ?_; rintro e wy ⟨rfl, hsy⟩
                    go_wp2_with fail
                    refine (last_to hsy hT3 HL0.out).mono ?_; rintro e wz ⟨rfl, hsz⟩
                    go_wp2
                    exact ⟨⟨k + 1, T', H', a', c', by go_num, by rw [FL.out], by omega, by omega, by rw [FL.out]; omega, FH.out, by rw [FL.out]; exact hsz⟩, by simp [intOf] <;> omega⟩
                  · have hzb2 : ((((H.length - 1) : Nat) : Int) == 0) = false := by rw [beq_eq_false_iff_ne]; omega
                    clear hz0
                    go_wp2_with fail
                    refine (len_to hsj HCt.out).mono ?_; rintro e wy ⟨rfl, hsy⟩
                    go_wp2
                    exact ⟨⟨k + 1, T', H', a', c', by go_num, by rw [FL.out], by omega, by omega, by rw [FL.out]; omega, FH.out, by rw [FL.out]; exact hsy⟩, by simp [intOf] <;> omega⟩
            · have hnews : ∀ j u, ((H.drop (kk + 1)).map ival)[j]? = some u → w5.drew.cell? ((⟨g, goff + (kk + 1), none⟩ : Addr).add j) = some u := by
                intro j u hj
                rw [List.map_drop, List.getElem?_drop] at hj
                have := hcl5 (kk + 1 + j) u hj
                rw [addr_add] at this ⊢
                rw [Nat.add_assoc]; exact this

              go_region_law (refine step_of rfl (wp_append _ _ 26 rfl i0 (.int .i64 0) 8 Try.underlying26 hi hz0 hz1 hz2 rfl (some ⟨g, goff, none⟩) kk c ((H.take kk).map ival) (by simp [Act.eval, Act.put]) h5t ⟨g, goff + (kk + 1), none⟩ (H.length - (kk + 1)) (c - (kk + 1)) ((H.drop (kk + 1)).map ival) (by simp [Act.eval, Act.put]) hln.out hnews (oneCell_ivals _) (by unfold maxLen; omega) (by omega) ?_); rw [hNM.out, ← List.map_append]; intro a' c' w6 hs6 _)
              have FS : Sat w w6 (poolR p T' * (slc 3 1 a' (H.length - 1) c' ((H.take kk ++ H.drop (kk + 1)).map ival) * Old w)) := hs6.cast (swap2 _ _ _)
              clear hs6 h5 h5s h5t hcl5 hnews
              have FH := Lib.hid HH'.out
              have FL := hFL
              clear HH' hFL
              generalize H.take kk ++ H.drop (kk + 1) = H' at *

              have hT3 : T'.length < 1000000000 := by omega
              have hcount : (countT T' : Int) = ((H.length - 1) : Nat) := by rw [FH.out.len, FL.out]
              have hmem : ∀ j, j < (H.length - 1) → tk T' (H'.getD j 0) = true ∧ H'.getD j 0 ≤ lastT T' ∧ 1 ≤ H'.getD j 0 ∧ H'.getD j 0 ≤ 1000000000 := by
                intro j hj
                have hj' : j < H'.length := by rw [FL.out]; exact hj
                have hx : H'.getD j 0 ∈ H' := by simp [hj']
                have := FH.out.last hx
                exact ⟨(FH.out.2 _).1 hx, this.1, this.2.1, by omega⟩
              have hel : ∀ wx, Sat w wx (poolR p T' * (slc 3 1 a' (H.length - 1) c' (H'.map ival) * Old w)) → ∀ j, j < (H.length - 1) → ∃ g off, a' = some ⟨g, off, none⟩ ∧ wx.cell? ⟨g, off + j, none⟩ = some (.int .i64 (H'.getD j 0)) := by
                intro wx hx j hj
                have hj' : j < H'.length := by rw [FL.out]; exact hj
                obtain ⟨g, off, e, hc, _⟩ := (hx.cast (swap2 _ _ _)).slcAt (j := j) (u := ival (H'.getD j 0)) (by simp [hj'])
                exact ⟨g, off, e, hc⟩
              have HM := Lib.hid hmem
              have HE := Lib.hid hel
              have HCt := Lib.hid hcount
              clear hmem hel hcount
              go_wp2
              go_loopw [10] (fun i wx => ∃ j : Nat, i = .int .i64 j ∧ j ≤ (H.length - 1) ∧ Sat w wx (poolR p T' * (slc 3 1 a' (H.length - 1) c' (H'.map ival) * Old w))) (fun i _ => (H.length - 1) - (intOf i).toNat)
              case atStart => exact ⟨0, rfl, Nat.zero_le _, FS⟩
              case round =>
                obtain ⟨j, rfl, hj, hsj⟩ := hrel
                by_cases hjl : j < (H.length - 1)
                · obtain ⟨g1, off1, ea, hc1⟩ := HE.out _ hsj j hjl
                  obtain ⟨m1, m2, m3, m4⟩ := HM.out j hjl
                  obtain ⟨x, hx⟩ : ∃ x, H'.getD j 0 = x := ⟨_, rfl⟩
                  rw [hx] at hc1 m1 m2 m3 m4
                  cases ea
                  have HX := Lib.hid hx
                  clear hx
                  have hkeep : ∀ wx, Sat w wx (poolR p T' * (slc 3 1 (some ⟨g1, off1, none⟩) (H.length - 1) c' (H'.map ival) * Old w)) → wx.cell? ⟨g1, off1 + j, none⟩ = some (.int .i64 x) := by
                    intro wx hwx
                    obtain ⟨g2, off2, e2, hc2⟩ := HE.out _ hwx j hjl
                    cases e2
                    rw [HX.out] at hc2
                    exact hc2
                  have HK := Lib.hid hkeep
                  clear hkeep
                  go_wp2_with fail
                  go_region_held3 (fun w' => w'.cell? ⟨g1, off1 + j, none⟩ = some (.int .i64 x))
                    (first | exact hc1 | exact hc2 | exact hc3 | go_keep)
                    ((first
                      | (go_at_call 11; refine (in_to hsj.drew x (b := true) m1).mono ?_; rintro e wy ⟨rfl, hsy⟩; have hc2 := HK.out _ hsy)
                      | (go_at_call 12; refine (pool_Last hsy hT3).mono ?_; rintro e wz ⟨rfl, hsz⟩; have hc3 := HK.out _ hsz)))
                  go_wp2
                  exact ⟨⟨j + 1, by go_num, by omega, hsz⟩, by simp [intOf] <;> omega⟩
                · by_cases hz0 : (H.length - 1) = 0
                  · have hl0 : (lastT T' : Int) = 0 := by
                      have : H' = [] := List.eq_nil_of_length_eq_zero (by rw [FL.out]; exact hz0)
                      have h1 := FH.out
                      rw [this] at h1
                      rw [h1.none]; rfl
                    have hzb2 : ((((H.length - 1) : Nat) : Int) == 0) = true := by rw [hz0]; rfl
                    have HL0 := Lib.hid hl0
                    clear hl0 hz0
                    go_wp2_with fail
                    refine (len_to hsj HCt.out).mono ?_; rintro e wy ⟨rfl, hsy⟩
                    go_wp2_with fail
                    refine (last_to hsy hT3 HL0.out).mono ?_; rintro e wz ⟨rfl, hsz⟩
                    go_wp2
                    exact ⟨⟨k + 1, T', H', a', c', by go_num, by rw [FL.out], by omega, by omega, by rw [FL.out]; omega, FH.out, by rw [FL.out]; exact hsz⟩, by simp [intOf] <;> omega⟩
                  · have hzb2 : ((((H.length - 1) : Nat) : Int) == 0) = false := by rw [beq_eq_false_iff_ne]; omega
                    clear hz0
                    go_wp2_with fail
                    refine (len_to hsj HCt.out).mono ?_; rintro e wy ⟨rfl, hsy⟩
                    go_wp2
                    exact ⟨⟨k + 1, T', H', a', c', by go_num, by rw [FL.out], by omega, by omega, by rw [FL.out]; omega, FH.out, by rw [FL.out]; exact hsy⟩, by simp [intOf] <;> omega⟩
      · go_wp2
        go_ret
        exact ⟨rfl, hfin _ _ _ hs⟩
    · go_wp2
      go_ret
      exact ⟨rfl, hfin _ _ _ hs⟩

theorem own : ownKnob Try.prog.godebug = none := by kernel_rfl
theorem laidOut : laidOutB Try.prog = true := by kernel_rfl
set_option maxRecDepth 100000 in
theorem lifted (os : Os) (started : os.Started) (H : Type) (enc : TypeId × Value → H) :
    ReturnsInHanded {} Try.checked os 3 .any (Rows.poolOnceSpec.pre6 enc Try.prog Try.f3 Rows.poolOnceRow.domain false) (Rows.poolOnceSpec.post enc Try.prog Try.f3 false true false false) := by
  refine returnsInHanded_of_change (C := Try.checked) own started (by kernel_rfl) Try.func3
    (ChangeSpec.witness6 (enc := enc) (C := Try.checked) false ⟨#[], #[.slice none 0 0], []⟩ 8 (by kernel_rfl) (by kernel_rfl) (by kernel_rfl) (by kernel_rfl)) ?_
  intro W base args ds gs before hval0 hW hcnd _
  have hval : ∀ (j : Nat) t v, Try.f3.params[j]? = some t → args[j]? = some v → Value.okWide Try.prog W .any base t v := hval0
  have hW' := hW
  obtain ⟨p, q, hA0, hV, rfl, hfz, hnd⟩ := hW
  have hA : DataW.TrodAll enc Try.prog W 0 (fun _ => true) true Try.f3.params.toList args.toList ds p := hA0
  rw [Try.params3] at hA hval
  obtain ⟨v0, vs0, d0, ds0, p0, q0, hargs, rfl, rfl, h0, r0⟩ := trodAll_cons hA
  obtain ⟨rfl, rfl, rfl⟩ := trodAll_nil r0
  obtain rfl : args = #[v0] := by cases args; simp_all
  obtain ⟨rfl, rfl⟩ := trodVars_none hV
  obtain ⟨a0, len0, cap0, rfl⟩ := okWide_slice Try.underlying22 (hval 0 22 v0 rfl rfl)
  have k0 := h0
  have lt0 : ∀ x ∈ p0, x.block < W.heap.size := by obtain ⟨m, hm⟩ := k0; exact DataW.trod_lt m _ _ _ hm
  obtain ⟨z0, w0⟩ : ∃ zs, IsRow .u8 W a0 len0 cap0 zs := by
    obtain ⟨fuel, hf⟩ := h0
    rcases open_ints Try.underlying22 Try.underlying5 (by kernel_rfl) hf with ⟨hcs, _⟩ | ⟨x, l, c, zs, hcs, _, hl, hm, hz, _, hcell, hwz⟩
    · simp [Value.cells] at hcs
      obtain ⟨rfl, rfl, rfl⟩ := hcs
      exact ⟨[], .inl ⟨rfl, rfl, rfl, rfl⟩⟩
    · simp [Value.cells] at hcs
      obtain ⟨rfl, rfl, rfl⟩ := hcs
      exact ⟨zs, .inr ⟨_, rfl, hl, hm, by simpa using hz, hcell, hwz⟩⟩
  clear hA0 hval0
  refine (walk a0 len0 cap0 z0 W w0).mono fun e W' ⟨he, bel⟩ => ?_
  subst he
  exact ⟨_, rfl, _, _, _, [], _, [], hW', trodAll_mk1 (shut_bool Try.underlying4 _), (trodAll_cons_mk (Below.trod laidOut (by kernel_rfl) (of_decide_eq_true (by kernel_rfl)) k0 bel lt0) trodAll_mk0), rfl, bel.frame _, fun h => by cases h⟩
theorem over : Rows.poolOnceRow.holds Try.pinned (OpenSpec.ofChange Rows.poolOnceSpec) :=
  OpenClaim.holds_of_wide 3 Try.f3 rfl rfl rfl rfl rfl rfl rfl ⟨rfl, rfl, rfl, rfl, rfl⟩ rfl rfl rfl rfl rfl (by kernel_rfl) Try.func3 (by kernel_rfl)
    (of_decide_eq_true (by kernel_rfl)) (by unfold Func.isWrapper; first | (rw [if_pos (by decide +kernel)]; kernel_rfl) | (rw [if_neg (by decide +kernel)]; exact ⟨rfl, rfl⟩))
    (fun os started H enc _ => lifted os started H enc)
theorem poolOnce_holds : Rows.PoolOnceSaid := over
#print axioms poolOnce_holds
end Go.Proofs.Ytpbdmijjonbggaa.POnce
