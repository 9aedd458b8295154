/- The laws of cells: play. No condition. -/
import Derived.Test.YtkpcngcegipalaaCkM
import Derived.Test.YtkpcngcegipalaaArg
namespace Go.Proofs.Ytkpcngcegipalaa.Tw
set_option linter.unusedVariables false
set_option linter.unusedSimpArgs false
open Go Go.RowKit Go.MapKept

/-- an act as it lies: its values' slice -/
structure RAct where
  x : Act13
  la : Option Addr
  lc : Nat
def rcells (r : RAct) : List Value := [.int .i64 r.x.what, .int .i64 r.x.n, .int .i64 r.x.i, .int .i64 r.x.v.kind, .int .i64 r.x.v.n, .slice r.la r.x.l.length r.lc, .string r.x.tx]
def racells (rs : List RAct) : List Value := (rs.map rcells).flatten
theorem racells_get : ∀ {rs : List RAct} {k : Nat} {r : RAct}, rs[k]? = some r → ∀ j v, (rcells r)[j]? = some v → (racells rs)[k * 7 + j]? = some v
  | [], k, r, h, _, _, _ => by simp at h
  | y :: rs, 0, r, h, j, v, hj => by
    simp at h; subst h
    show (rcells y ++ racells rs)[0 * 7 + j]? = _
    rw [List.getElem?_append_left (by have := (List.getElem?_eq_some_iff.1 hj).1; omega), Nat.zero_mul, Nat.zero_add]; exact hj
  | y :: rs, k + 1, r, h, j, v, hj => by
    simp at h
    have := racells_get h j v hj
    show (rcells y ++ racells rs)[(k + 1) * 7 + j]? = _
    rw [List.getElem?_append_right (by show 7 ≤ _; omega)]
    show (racells rs)[(k + 1) * 7 + j - 7]? = _
    rw [show (k + 1) * 7 + j - 7 = k * 7 + j by omega]; exact this
def actP (m : Hp) (X : HP) (p : Nat) (A : AHeap) (na : Option Addr) (nc : Nat) (net : List Int) (R : HP) : HP := heapR m p A * (X * (slc 3 1 na 80 nc (net.map ival) * R))
section
variable {w0 w : World} {F CR : HP}
theorem ckS {w' : World} {xb : Nat} {what xn xi vk vn : Int} {la : Option Addr} {xlen lc : Nat} {xtx : ByteArray} {G : HP} (h : Sat w0 w' (pt xb (.cells #[.int .i64 what, .int .i64 xn, .int .i64 xi, .int .i64 vk, .int .i64 vn, .slice la xlen lc, .string xtx] 100 (0, 0)) * G)) :
    w'.cell? ⟨xb, 2, none⟩ = some (.int .i64 xi) ∧ w'.cell? ⟨xb, 5, none⟩ = some (.slice la xlen lc) ∧ w'.cell? ⟨xb, 6, none⟩ = some (.string xtx) :=
  ⟨Sat.cell (T := 100) (cs := #[.int .i64 what, .int .i64 xn, .int .i64 xi, .int .i64 vk, .int .i64 vn, .slice la xlen lc, .string xtx]) h 2 rfl, Sat.cell (T := 100) (cs := #[.int .i64 what, .int .i64 xn, .int .i64 xi, .int .i64 vk, .int .i64 vn, .slice la xlen lc, .string xtx]) h 5 rfl, Sat.cell (T := 100) (cs := #[.int .i64 what, .int .i64 xn, .int .i64 xi, .int .i64 vk, .int .i64 vn, .slice la xlen lc, .string xtx]) h 6 rfl⟩
theorem ckF {w' : World} {A H X B R : HP} (h : Sat w0 w' (A * (H * (B * (X * R))))) : Sat w0 w' (H * (X * (A * R))) := (h.cast (by ac_rfl : _ = B * (H * (X * (A * R))))).drop
theorem srcV_take {SR : HP} {a : Option Addr} {n c k : Nat} {l : List AVal} (h : SrcV w0 SR a n c l) (hk : k ≤ l.length) : SrcV w0 SR a k c (l.take k) := by
  obtain ⟨h1, h2, h3, h4, h5⟩ := h
  refine ⟨fun w' G hs j x hx => h1 w' G hs j x ?_, by rw [List.length_take]; omega, fun e => ?_, by omega, h5⟩
  · rw [List.getElem?_take] at hx
    split at hx
    · exact hx
    · cases hx
  · have := h3 e; omega
set_option maxRecDepth 100000 in
set_option maxHeartbeats 8000000 in
theorem ck_play {a : Option Addr} {n c : Nat} {rs : List RAct} (hm : rs.length = n) (hn : n ≤ 9223372036854775807) (hrs : ∀ r ∈ rs, SrcV w0 CR r.la r.x.l.length r.lc r.x.l) (hA : ArgAt w0 CR a (racells rs)) (h : Sat w0 w (CR * F)) :
    Calls Try.prog 46 #[.slice a n c] w fun e w' => ∃ p na nc m X, Knows m X ∧ e = .returned (.tuple #[.pointer (some ⟨p, 0, none⟩), .slice na 80 nc]) ∧ Sat w0 w' (actP m X p (play13 (rs.map (·.x)) 60).1 na nc (play13 (rs.map (·.x)) 60).2 (CR * F)) := by
  have HM := Lib.hid (And.intro hm hrs)
  have HAA := Lib.hid hA
  clear hm hrs hA
  go_enter Try.func46, Try.ntmps46
  go_wp2_with fail
  refine (heap_New h).mono ?_
  rintro e w1 ⟨p, rfl, h1⟩
  obtain ⟨i0, hi, hz0, hz1, hz2⟩ := info_parts info_int
  have hmk := run_makeSlice (P := Try.prog) (w := w1) 48 3 i0 _ Try.underlying48 hi hz0 .i64 .i64 80 80 (by omega) (by omega) (by rw [hz1]; decide) (by rw [hz2]; decide) (by omega)
  rw [hz1] at hmk
  replace hmk : (Instr.makeSlice 48 (.int .i64 80) (.int .i64 80)).run Try.prog w1 = .ok (.slice (some ⟨w1.heap.size, 0, none⟩) 80 80) (w1.alloc (.cells (madeCells #[.int .i64 0] 80) 3)) := hmk
  have hmc : (madeCells #[.int .i64 0] 80).toList = (List.replicate 80 (0 : Int)).map ival := by kernel_rfl
  have h2 := ((h1 (fun _ => none)).alloc (.cells (madeCells #[.int .i64 0] 80) 3))
  have h3 : Sat w0 _ (slc 3 1 (some ⟨w1.heap.size, 0, none⟩) 80 80 ((List.replicate 80 (0 : Int)).map ival) * _) := Sat.shutSlc h2 (Nat.le_refl _) (by unfold maxLen; omega) (by simp [madeCells]) (by simp only [List.drop_zero, Nat.mul_one]; rw [hmc]; exact List.take_of_length_le (by simp))
  have h4 : Sat w0 _ (actP (fun _ => none) 1 p (play13 (rs.map (·.x)) 0).1 (some ⟨w1.heap.size, 0, none⟩) 80 (play13 (rs.map (·.x)) 0).2 (CR * F)) := h3.cast (by unfold actP; rw [one_mul]; exact mul_left_comm _ _ _)
  have H4 := Lib.hid h4
  generalize hzc : (madeCells #[Value.int .i64 0] 80) = zc at *
  clear h1 h2 h3 h4 h hzc hmc
  generalize hnb : w1.heap.size = nb at *
  go_wp2
  go_loopw [6] (fun iv wr => ∃ (k : Nat) (m : Hp) (X : HP), iv = .int .i64 k ∧ k ≤ n ∧ k ≤ 60 ∧ Knows m X ∧ Sat w0 wr (actP m X p (play13 (rs.map (·.x)) k).1 (some ⟨nb, 0, none⟩) 80 (play13 (rs.map (·.x)) k).2 (CR * F))) (fun iv _ => n - (intOf iv).toNat)
  case atStart => exact ⟨0, _, _, rfl, by omega, by omega, Knows.none _, H4.out⟩
  case round =>
    obtain ⟨k, m, X, rfl, hk, hk6, hX, hs⟩ := hrel
    by_cases hlt : k < n
    · by_cases hl6 : k < 60
      · have hx : rs[k]? = some (rs[k]'(by rw [HM.out.1]; exact hlt)) := List.getElem?_eq_getElem _
        generalize rs[k]'(by rw [HM.out.1]; exact hlt) = r at hx
        have hsv := HM.out.2 r (List.mem_of_getElem? hx)
        have hcr : Sat w0 wr (CR * (F * 1)) := (hs.drop.drop.drop).cast (by rw [mul_one])
        have hget := racells_get hx
        obtain ⟨g, off, rfl, d0⟩ := HAA.out _ _ _ _ hcr (hget 0 _ rfl)
        obtain ⟨g1, off1, q1, d1⟩ := HAA.out _ _ _ _ hcr (hget 1 _ rfl)
        cases q1
        obtain ⟨g2, off2, q2, d2⟩ := HAA.out _ _ _ _ hcr (hget 2 _ rfl)
        cases q2
        obtain ⟨g3, off3, q3, d3⟩ := HAA.out _ _ _ _ hcr (hget 3 _ rfl)
        cases q3
        obtain ⟨g4, off4, q4, d4⟩ := HAA.out _ _ _ _ hcr (hget 4 _ rfl)
        cases q4
        obtain ⟨g5, off5, q5, d5⟩ := HAA.out _ _ _ _ hcr (hget 5 _ rfl)
        cases q5
        obtain ⟨g6, off6, q6, d6⟩ := HAA.out _ _ _ _ hcr (hget 6 _ rfl)
        cases q6
        rw [← Nat.add_assoc] at d1 d2 d3 d4 d5 d6
        rw [Nat.add_zero] at d0
        have hmap : (rs.map (·.x))[k]? = some r.x := by rw [List.getElem?_map, hx]; rfl
        have hsucc := play13_succ hmap
        obtain ⟨i1, i2, i3, i4⟩ := play13_hw (rs.map (·.x)) k
        generalize play13 (rs.map (·.x)) k = s1 at *
        obtain ⟨A, net⟩ := s1
        obtain ⟨⟨what, xn, xi, ⟨vk, vn⟩, xl, xtx⟩, la, lc⟩ := r
        dsimp only at *
        have hb := hs.alloc (.cells #[.int .i64 what, .int .i64 xn, .int .i64 xi, .int .i64 vk, .int .i64 vn, .slice la xl.length lc, .string xtx] 100)
        have HS := Lib.hid (And.intro i1 (And.intro i2 (And.intro i3 (And.intro i4 hsv))))
        have HSU := Lib.hid hsucc
        have HB := Lib.hid hb
        clear hs hb hget hcr hx hmap i1 i2 i3 i4 hsv hsucc
        generalize hxb : wr.heap.size = xb at *
        obtain ⟨qv, hqv⟩ : ∃ q, (if 79 < vn then (79 : Int) else vn) = q := ⟨_, rfl⟩
        obtain ⟨cv, hcv⟩ : ∃ q, (if 0 < qv then qv else (0 : Int)) = q := ⟨_, rfl⟩
        obtain ⟨qn, hqn⟩ : ∃ q, (if 79 < xn then (79 : Int) else xn) = q := ⟨_, rfl⟩
        obtain ⟨cn, hcn⟩ : ∃ q, (if 0 < qn then qn else (0 : Int)) = q := ⟨_, rfl⟩
        have hclv : cv = clampI vn := by unfold clampI; rw [← hcv, ← hqv]; split <;> split <;> omega
        have hcln : cn = clampI xn := by unfold clampI; rw [← hcn, ← hqn]; split <;> split <;> omega
        have HCL := Lib.hid (And.intro hclv hcln)
        clear hclv hcln
        go_wp2_with fail
        · as_aux_lemma =>
            obtain rfl : what = 0 := by simpa using (by assumption : (what == 0) = true)
            obtain ⟨tn, htn⟩ : ∃ q : Nat, q = min xtx.size 100 := ⟨_, rfl⟩
            have htx : txc xtx 100 = xtx.extract 0 tn := by unfold txc; rw [htn]
            have HM0 := t_Make HS.out.1 (by omega) HB.out.drew.p2 xi (xtx.extract 0 tn)
            have hz := HB.out.alloc (.cells #[.int .i64 0, .int .i64 0] 28)
            rw [size_alloc, hxb] at hz
            have hz := hz.drew
            have HM1 := Lib.hid (t_Make HS.out.1 (by omega) hz.p3 xi (xtx.extract 0 tn))
            have HM0 := Lib.hid HM0
            have sA := ckS HB.out.drew
            have sB := ckS hz.p2
            clear hz
            generalize hv : A.makeV xi (xtx.extract 0 tn) = v at *
            have ea : actA A (⟨0, xn, xi, ⟨vk, vn⟩, xl, xtx⟩ : Act13) = A.makeF xi (xtx.extract 0 tn) := by simp [actA, htx]
            have en0 : actN A net (⟨0, xn, xi, ⟨vk, vn⟩, xl, xtx⟩ : Act13) = if 0 < v.n ∧ v.n < 80 then net.set v.n.toNat 1 else net := by simp [actN, htx, hv]
            have EN := Lib.hid en0
            clear en0
            have ht1 : (if (100 : Int) < (xtx.size : Int) then (100 : Int) else (xtx.size : Int)) = (tn : Int) := by split <;> omega
            have ht2 : min (xtx.size : Int) 100 = (tn : Int) := by omega
            have ht3 : tn ≤ xtx.size := by omega
            clear htx htn hv
            have ht4 : ((tn : Int)).toNat = tn := rfl
            have ht5 : (tn : Int) ≤ (xtx.size : Int) := by omega
            have ht6 : (0 : Int) ≤ (tn : Int) := by omega
            go_region_held3 (fun w' => w'.cell? ⟨xb, 2, none⟩ = some (.int .i64 xi) ∧ w'.cell? ⟨xb, 5, none⟩ = some (.slice la xl.length lc) ∧ w'.cell? ⟨xb, 6, none⟩ = some (.string xtx)) (assumption) (first
              | (go_at_call 25; with_reducible refine HM0.out.mono ?_; rintro e w5 ⟨rfl, h5⟩; have s2 := ckS h5.p2; have s2z := ckS (h5.alloc (.cells #[.int .i64 0, .int .i64 0] 28)).p3; have h6 := h5.alloc (.cells #[.int .i64 v.kind, .int .i64 v.n] 28); have s2v := ckS h6.p3)
              | (go_at_call 25; with_reducible refine HM1.out.mono ?_; rintro e w5 ⟨rfl, h5⟩; have s2 := ckS h5.p3; have f0 := (val2' h5.p2).2.2.1; have f1 := (val2' h5.p2).2.2.2; have y0 := (val2' h5.p2).1; have y1 := (val2' h5.p2).2.1; have h6 := h5.p2.setVal v.kind v.n; have s2z := ckS h6.p3))
            all_goals
              have vn0 := (val2' h6).1
              have vn1 := (val2' h6).2.1
              have h7 := h6.p3.drop.drop
              clear h6
              by_cases hp : 0 < v.n
              · by_cases hp2 : v.n < 80
                · obtain ⟨vk9, vn9⟩ := v
                  dsimp only at *
                  obtain ⟨cj, rfl⟩ : ∃ j : Nat, vn9 = j := ⟨vn9.toNat, by omega⟩
                  have hcj : cj < 80 := by omega
                  have na := netAt h7.p3 HS.out.2.2.1 hcj
                  have na0 := na.1
                  have na1 := na.2
                  have h8 := netSet h7.p3 hcj 1
                  have en : actN A net (⟨0, xn, xi, ⟨vk, vn⟩, xl, xtx⟩ : Act13) = net.set cj 1 := by rw [EN.out, if_pos ⟨hp, hp2⟩, Int.toNat_natCast]
                  go_wp2_with fail
                  go_roundw
                  case rel =>
                    refine ⟨k + 1, m, X, by go_num, by omega, by omega, hX, ?_⟩
                    rw [HSU.out]
                    unfold act1
                    dsimp only
                    rw [ea, en]
                    exact h8.q3
                  case measure => simp [intOf]; omega
                · have en : actN A net (⟨0, xn, xi, ⟨vk, vn⟩, xl, xtx⟩ : Act13) = net := by rw [EN.out, if_neg (by omega)]
                  go_wp2_with fail
                  go_roundw
                  case rel =>
                    refine ⟨k + 1, m, X, by go_num, by omega, by omega, hX, ?_⟩
                    rw [HSU.out]
                    unfold act1
                    dsimp only
                    rw [ea, en]
                    exact h7
                  case measure => simp [intOf]; omega
              · have en : actN A net (⟨0, xn, xi, ⟨vk, vn⟩, xl, xtx⟩ : Act13) = net := by rw [EN.out, if_neg (by omega)]
                go_wp2_with fail
                go_roundw
                case rel =>
                  refine ⟨k + 1, m, X, by go_num, by omega, by omega, hX, ?_⟩
                  rw [HSU.out]
                  unfold act1
                  dsimp only
                  rw [ea, en]
                  exact h7
                case measure => simp [intOf]; omega
        · as_aux_lemma =>
            obtain rfl : what = 1 := by simpa using (by assumption : (what == 1) = true)
            obtain ⟨tn, htn⟩ : ∃ q : Nat, q = min xtx.size 100 := ⟨_, rfl⟩
            have htx : txc xtx 100 = xtx.extract 0 tn := by unfold txc; rw [htn]
            have HM0 := t_Make HS.out.1 (by omega) HB.out.drew.p2 xi (xtx.extract 0 tn)
            have hz := HB.out.alloc (.cells #[.int .i64 0, .int .i64 0] 28)
            rw [size_alloc, hxb] at hz
            have hz := hz.drew
            have HM1 := Lib.hid (t_Make HS.out.1 (by omega) hz.p3 xi (xtx.extract 0 tn))
            have HM0 := Lib.hid HM0
            have sA := ckS HB.out.drew
            have sB := ckS hz.p2
            clear hz
            generalize hv : A.makeV xi (xtx.extract 0 tn) = v at *
            have ea : actA A (⟨1, xn, xi, ⟨vk, vn⟩, xl, xtx⟩ : Act13) = A.makeF xi (xtx.extract 0 tn) := by simp [actA, htx]
            have en0 : actN A net (⟨1, xn, xi, ⟨vk, vn⟩, xl, xtx⟩ : Act13) = if 0 < v.n ∧ v.n < 80 then net.set v.n.toNat 1 else net := by simp [actN, htx, hv]
            have EN := Lib.hid en0
            clear en0
            have ht1 : (if (100 : Int) < (xtx.size : Int) then (100 : Int) else (xtx.size : Int)) = (tn : Int) := by split <;> omega
            have ht2 : min (xtx.size : Int) 100 = (tn : Int) := by omega
            have ht3 : tn ≤ xtx.size := by omega
            clear htx htn hv
            have ht4 : ((tn : Int)).toNat = tn := rfl
            have ht5 : (tn : Int) ≤ (xtx.size : Int) := by omega
            have ht6 : (0 : Int) ≤ (tn : Int) := by omega
            go_region_held3 (fun w' => w'.cell? ⟨xb, 2, none⟩ = some (.int .i64 xi) ∧ w'.cell? ⟨xb, 5, none⟩ = some (.slice la xl.length lc) ∧ w'.cell? ⟨xb, 6, none⟩ = some (.string xtx)) (assumption) (first
              | (go_at_call 25; with_reducible refine HM0.out.mono ?_; rintro e w5 ⟨rfl, h5⟩; have s2 := ckS h5.p2; have s2z := ckS (h5.alloc (.cells #[.int .i64 0, .int .i64 0] 28)).p3; have h6 := h5.alloc (.cells #[.int .i64 v.kind, .int .i64 v.n] 28); have s2v := ckS h6.p3)
              | (go_at_call 25; with_reducible refine HM1.out.mono ?_; rintro e w5 ⟨rfl, h5⟩; have s2 := ckS h5.p3; have f0 := (val2' h5.p2).2.2.1; have f1 := (val2' h5.p2).2.2.2; have y0 := (val2' h5.p2).1; have y1 := (val2' h5.p2).2.1; have h6 := h5.p2.setVal v.kind v.n; have s2z := ckS h6.p3))
            all_goals
              have vn0 := (val2' h6).1
              have vn1 := (val2' h6).2.1
              have h7 := h6.p3.drop.drop
              clear h6
              by_cases hp : 0 < v.n
              · by_cases hp2 : v.n < 80
                · obtain ⟨vk9, vn9⟩ := v
                  dsimp only at *
                  obtain ⟨cj, rfl⟩ : ∃ j : Nat, vn9 = j := ⟨vn9.toNat, by omega⟩
                  have hcj : cj < 80 := by omega
                  have na := netAt h7.p3 HS.out.2.2.1 hcj
                  have na0 := na.1
                  have na1 := na.2
                  have h8 := netSet h7.p3 hcj 1
                  have en : actN A net (⟨1, xn, xi, ⟨vk, vn⟩, xl, xtx⟩ : Act13) = net.set cj 1 := by rw [EN.out, if_pos ⟨hp, hp2⟩, Int.toNat_natCast]
                  go_wp2_with fail
                  go_roundw
                  case rel =>
                    refine ⟨k + 1, m, X, by go_num, by omega, by omega, hX, ?_⟩
                    rw [HSU.out]
                    unfold act1
                    dsimp only
                    rw [ea, en]
                    exact h8.q3
                  case measure => simp [intOf]; omega
                · have en : actN A net (⟨1, xn, xi, ⟨vk, vn⟩, xl, xtx⟩ : Act13) = net := by rw [EN.out, if_neg (by omega)]
                  go_wp2_with fail
                  go_roundw
                  case rel =>
                    refine ⟨k + 1, m, X, by go_num, by omega, by omega, hX, ?_⟩
                    rw [HSU.out]
                    unfold act1
                    dsimp only
                    rw [ea, en]
                    exact h7
                  case measure => simp [intOf]; omega
              · have en : actN A net (⟨1, xn, xi, ⟨vk, vn⟩, xl, xtx⟩ : Act13) = net := by rw [EN.out, if_neg (by omega)]
                go_wp2_with fail
                go_roundw
                case rel =>
                  refine ⟨k + 1, m, X, by go_num, by omega, by omega, hX, ?_⟩
                  rw [HSU.out]
                  unfold act1
                  dsimp only
                  rw [ea, en]
                  exact h7
                case measure => simp [intOf]; omega
        · as_aux_lemma =>
            obtain rfl : what = 2 := by simpa using (by assumption : (what == 2) = true)
            have HC := Lib.hid (t_Keep HS.out.1 (by omega) hX.right.left HB.out.p2 ⟨vk, vn⟩)
            have ea : actA A (⟨2, xn, xi, ⟨vk, vn⟩, xl, xtx⟩ : Act13) = A.keep ⟨vk, vn⟩ := by simp [actA]
            have en0 : actN A net (⟨2, xn, xi, ⟨vk, vn⟩, xl, xtx⟩ : Act13) = if cntE A ⟨vk, vn⟩ = 0 ∧ refV ⟨vk, vn⟩ = true then incN net (clampI vn) (1) else net := by simp [actN]
            generalize hpe : cntE A ⟨vk, vn⟩ = pe at *
            generalize hrf : refV ⟨vk, vn⟩ = rf at *
            have EN := Lib.hid en0
            have HRF := Lib.hid hrf
            clear en0 hrf hpe
            obtain ⟨cj, rfl⟩ : ∃ j : Nat, cv = j := ⟨cv.toNat, by have := HCL.out.1; have := clampI_rng vn; omega⟩
            have hcj : cj < 80 := by have := HCL.out.1; have := clampI_rng vn; omega
            refine HC.out.mono ?_
            rintro e w5 ⟨rfl, h5⟩
            have y3 := Sat.cell (T := 100) (cs := #[.int .i64 2, .int .i64 xn, .int .i64 xi, .int .i64 vk, .int .i64 vn, .slice la xl.length lc, .string xtx]) h5.p2 3 rfl
            have y4 := Sat.cell (T := 100) (cs := #[.int .i64 2, .int .i64 xn, .int .i64 xi, .int .i64 vk, .int .i64 vn, .slice la xl.length lc, .string xtx]) h5.p2 4 rfl
            have h6 := h5.p2.drop
            by_cases hz : pe = 0
            · subst hz
              go_wp2_with fail
              refine (val_Ref ⟨vk, vn⟩ h5).mono ?_
              rw [HRF.out]
              rintro e w6 ⟨rfl, h7⟩
              clear h6
              cases rf with
              | true =>
                have na := netAt h7.p4 HS.out.2.2.1 hcj
                have hnb := HS.out.2.2.2.1 cj
                generalize hzz : net.getD cj 0 = z at *
                have nw : IntKind.i64.wrap (z + (1)) = z + (1) := IntWalk.i64_in _ (by omega)
                have nw2 : IntKind.i64.wrap (z - 1) = z - 1 := IntWalk.i64_in _ (by omega)
                have na0 := na.1
                have na1 := na.2
                have h8 := netSet h7.p4 hcj (z + (1))
                have en : actN A net (⟨2, xn, xi, ⟨vk, vn⟩, xl, xtx⟩ : Act13) = net.set cj (z + (1)) := by rw [EN.out, if_pos (by first | exact ⟨rfl, rfl⟩ | simp)]; unfold incN; rw [← HCL.out.1, Int.toNat_natCast, hzz]
                go_wp2_with fail
                go_roundw
                case rel =>
                  refine ⟨k + 1, m, X, by go_num, by omega, by omega, hX, ?_⟩
                  rw [HSU.out]
                  unfold act1
                  dsimp only
                  rw [ea, en]
                  exact ckF h8
                case measure => simp [intOf]; omega
              | false =>
                have en : actN A net (⟨2, xn, xi, ⟨vk, vn⟩, xl, xtx⟩ : Act13) = net := by rw [EN.out, if_neg (by rintro ⟨_, e⟩; cases e)]
                go_wp2_with fail
                go_roundw
                case rel =>
                  refine ⟨k + 1, m, X, by go_num, by omega, by omega, hX, ?_⟩
                  rw [HSU.out]
                  unfold act1
                  dsimp only
                  rw [ea, en]
                  exact h7.p2.drop
                case measure => simp [intOf]; omega
            · have hz2 : (pe == 0) = false := by simpa using hz
              have en : actN A net (⟨2, xn, xi, ⟨vk, vn⟩, xl, xtx⟩ : Act13) = net := by rw [EN.out, if_neg (by rintro ⟨e, _⟩; exact hz e)]
              have HZ := Lib.hid hz
              clear hz
              go_wp2_with fail
              go_roundw
              case rel =>
                refine ⟨k + 1, m, X, by go_num, by omega, by omega, hX, ?_⟩
                rw [HSU.out]
                unfold act1
                dsimp only
                rw [ea, en]
                exact h6
              case measure => simp [intOf]; omega
        · as_aux_lemma =>
            obtain rfl : what = 3 := by simpa using (by assumption : (what == 3) = true)
            have HC := Lib.hid (t_Keep HS.out.1 (by omega) hX.right.left HB.out.p2 ⟨vk, vn⟩)
            have ea : actA A (⟨3, xn, xi, ⟨vk, vn⟩, xl, xtx⟩ : Act13) = A.keep ⟨vk, vn⟩ := by simp [actA]
            have en0 : actN A net (⟨3, xn, xi, ⟨vk, vn⟩, xl, xtx⟩ : Act13) = if cntE A ⟨vk, vn⟩ = 0 ∧ refV ⟨vk, vn⟩ = true then incN net (clampI vn) (1) else net := by simp [actN]
            generalize hpe : cntE A ⟨vk, vn⟩ = pe at *
            generalize hrf : refV ⟨vk, vn⟩ = rf at *
            have EN := Lib.hid en0
            have HRF := Lib.hid hrf
            clear en0 hrf hpe
            obtain ⟨cj, rfl⟩ : ∃ j : Nat, cv = j := ⟨cv.toNat, by have := HCL.out.1; have := clampI_rng vn; omega⟩
            have hcj : cj < 80 := by have := HCL.out.1; have := clampI_rng vn; omega
            refine HC.out.mono ?_
            rintro e w5 ⟨rfl, h5⟩
            have y3 := Sat.cell (T := 100) (cs := #[.int .i64 3, .int .i64 xn, .int .i64 xi, .int .i64 vk, .int .i64 vn, .slice la xl.length lc, .string xtx]) h5.p2 3 rfl
            have y4 := Sat.cell (T := 100) (cs := #[.int .i64 3, .int .i64 xn, .int .i64 xi, .int .i64 vk, .int .i64 vn, .slice la xl.length lc, .string xtx]) h5.p2 4 rfl
            have h6 := h5.p2.drop
            by_cases hz : pe = 0
            · subst hz
              go_wp2_with fail
              refine (val_Ref ⟨vk, vn⟩ h5).mono ?_
              rw [HRF.out]
              rintro e w6 ⟨rfl, h7⟩
              clear h6
              cases rf with
              | true =>
                have na := netAt h7.p4 HS.out.2.2.1 hcj
                have hnb := HS.out.2.2.2.1 cj
                generalize hzz : net.getD cj 0 = z at *
                have nw : IntKind.i64.wrap (z + (1)) = z + (1) := IntWalk.i64_in _ (by omega)
                have nw2 : IntKind.i64.wrap (z - 1) = z - 1 := IntWalk.i64_in _ (by omega)
                have na0 := na.1
                have na1 := na.2
                have h8 := netSet h7.p4 hcj (z + (1))
                have en : actN A net (⟨3, xn, xi, ⟨vk, vn⟩, xl, xtx⟩ : Act13) = net.set cj (z + (1)) := by rw [EN.out, if_pos (by first | exact ⟨rfl, rfl⟩ | simp)]; unfold incN; rw [← HCL.out.1, Int.toNat_natCast, hzz]
                go_wp2_with fail
                go_roundw
                case rel =>
                  refine ⟨k + 1, m, X, by go_num, by omega, by omega, hX, ?_⟩
                  rw [HSU.out]
                  unfold act1
                  dsimp only
                  rw [ea, en]
                  exact ckF h8
                case measure => simp [intOf]; omega
              | false =>
                have en : actN A net (⟨3, xn, xi, ⟨vk, vn⟩, xl, xtx⟩ : Act13) = net := by rw [EN.out, if_neg (by rintro ⟨_, e⟩; cases e)]
                go_wp2_with fail
                go_roundw
                case rel =>
                  refine ⟨k + 1, m, X, by go_num, by omega, by omega, hX, ?_⟩
                  rw [HSU.out]
                  unfold act1
                  dsimp only
                  rw [ea, en]
                  exact h7.p2.drop
                case measure => simp [intOf]; omega
            · have hz2 : (pe == 0) = false := by simpa using hz
              have en : actN A net (⟨3, xn, xi, ⟨vk, vn⟩, xl, xtx⟩ : Act13) = net := by rw [EN.out, if_neg (by rintro ⟨e, _⟩; exact hz e)]
              have HZ := Lib.hid hz
              clear hz
              go_wp2_with fail
              go_roundw
              case rel =>
                refine ⟨k + 1, m, X, by go_num, by omega, by omega, hX, ?_⟩
                rw [HSU.out]
                unfold act1
                dsimp only
                rw [ea, en]
                exact h6
              case measure => simp [intOf]; omega
        · as_aux_lemma =>
            obtain rfl : what = 4 := by simpa using (by assumption : (what == 4) = true)
            have HC := Lib.hid (t_Drop HS.out.1 (by omega) hX.right.left HB.out.p2 ⟨vk, vn⟩)
            have ea : actA A (⟨4, xn, xi, ⟨vk, vn⟩, xl, xtx⟩ : Act13) = A.drop ⟨vk, vn⟩ := by simp [actA]
            have en0 : actN A net (⟨4, xn, xi, ⟨vk, vn⟩, xl, xtx⟩ : Act13) = if cntE A ⟨vk, vn⟩ = 0 ∧ refV ⟨vk, vn⟩ = true then incN net (clampI vn) (-1) else net := by simp [actN]
            generalize hpe : cntE A ⟨vk, vn⟩ = pe at *
            generalize hrf : refV ⟨vk, vn⟩ = rf at *
            have EN := Lib.hid en0
            have HRF := Lib.hid hrf
            clear en0 hrf hpe
            obtain ⟨cj, rfl⟩ : ∃ j : Nat, cv = j := ⟨cv.toNat, by have := HCL.out.1; have := clampI_rng vn; omega⟩
            have hcj : cj < 80 := by have := HCL.out.1; have := clampI_rng vn; omega
            refine HC.out.mono ?_
            rintro e w5 ⟨rfl, h5⟩
            have y3 := Sat.cell (T := 100) (cs := #[.int .i64 4, .int .i64 xn, .int .i64 xi, .int .i64 vk, .int .i64 vn, .slice la xl.length lc, .string xtx]) h5.p2 3 rfl
            have y4 := Sat.cell (T := 100) (cs := #[.int .i64 4, .int .i64 xn, .int .i64 xi, .int .i64 vk, .int .i64 vn, .slice la xl.length lc, .string xtx]) h5.p2 4 rfl
            have h6 := h5.p2.drop
            by_cases hz : pe = 0
            · subst hz
              go_wp2_with fail
              refine (val_Ref ⟨vk, vn⟩ h5).mono ?_
              rw [HRF.out]
              rintro e w6 ⟨rfl, h7⟩
              clear h6
              cases rf with
              | true =>
                have na := netAt h7.p4 HS.out.2.2.1 hcj
                have hnb := HS.out.2.2.2.1 cj
                generalize hzz : net.getD cj 0 = z at *
                have nw : IntKind.i64.wrap (z + (-1)) = z + (-1) := IntWalk.i64_in _ (by omega)
                have nw2 : IntKind.i64.wrap (z - 1) = z - 1 := IntWalk.i64_in _ (by omega)
                have na0 := na.1
                have na1 := na.2
                have h8 := netSet h7.p4 hcj (z + (-1))
                have en : actN A net (⟨4, xn, xi, ⟨vk, vn⟩, xl, xtx⟩ : Act13) = net.set cj (z + (-1)) := by rw [EN.out, if_pos (by first | exact ⟨rfl, rfl⟩ | simp)]; unfold incN; rw [← HCL.out.1, Int.toNat_natCast, hzz]
                go_wp2_with fail
                go_roundw
                case rel =>
                  refine ⟨k + 1, m, X, by go_num, by omega, by omega, hX, ?_⟩
                  rw [HSU.out]
                  unfold act1
                  dsimp only
                  rw [ea, en]
                  exact ckF h8
                case measure => simp [intOf]; omega
              | false =>
                have en : actN A net (⟨4, xn, xi, ⟨vk, vn⟩, xl, xtx⟩ : Act13) = net := by rw [EN.out, if_neg (by rintro ⟨_, e⟩; cases e)]
                go_wp2_with fail
                go_roundw
                case rel =>
                  refine ⟨k + 1, m, X, by go_num, by omega, by omega, hX, ?_⟩
                  rw [HSU.out]
                  unfold act1
                  dsimp only
                  rw [ea, en]
                  exact h7.p2.drop
                case measure => simp [intOf]; omega
            · have hz2 : (pe == 0) = false := by simpa using hz
              have en : actN A net (⟨4, xn, xi, ⟨vk, vn⟩, xl, xtx⟩ : Act13) = net := by rw [EN.out, if_neg (by rintro ⟨e, _⟩; exact hz e)]
              have HZ := Lib.hid hz
              clear hz
              go_wp2_with fail
              go_roundw
              case rel =>
                refine ⟨k + 1, m, X, by go_num, by omega, by omega, hX, ?_⟩
                rw [HSU.out]
                unfold act1
                dsimp only
                rw [ea, en]
                exact h6
              case measure => simp [intOf]; omega
        · as_aux_lemma =>
            obtain rfl : what = 5 := by simpa using (by assumption : (what == 5) = true)
            have HC := Lib.hid (t_Drop HS.out.1 (by omega) hX.right.left HB.out.p2 ⟨vk, vn⟩)
            have ea : actA A (⟨5, xn, xi, ⟨vk, vn⟩, xl, xtx⟩ : Act13) = A.drop ⟨vk, vn⟩ := by simp [actA]
            have en0 : actN A net (⟨5, xn, xi, ⟨vk, vn⟩, xl, xtx⟩ : Act13) = if cntE A ⟨vk, vn⟩ = 0 ∧ refV ⟨vk, vn⟩ = true then incN net (clampI vn) (-1) else net := by simp [actN]
            generalize hpe : cntE A ⟨vk, vn⟩ = pe at *
            generalize hrf : refV ⟨vk, vn⟩ = rf at *
            have EN := Lib.hid en0
            have HRF := Lib.hid hrf
            clear en0 hrf hpe
            obtain ⟨cj, rfl⟩ : ∃ j : Nat, cv = j := ⟨cv.toNat, by have := HCL.out.1; have := clampI_rng vn; omega⟩
            have hcj : cj < 80 := by have := HCL.out.1; have := clampI_rng vn; omega
            refine HC.out.mono ?_
            rintro e w5 ⟨rfl, h5⟩
            have y3 := Sat.cell (T := 100) (cs := #[.int .i64 5, .int .i64 xn, .int .i64 xi, .int .i64 vk, .int .i64 vn, .slice la xl.length lc, .string xtx]) h5.p2 3 rfl
            have y4 := Sat.cell (T := 100) (cs := #[.int .i64 5, .int .i64 xn, .int .i64 xi, .int .i64 vk, .int .i64 vn, .slice la xl.length lc, .string xtx]) h5.p2 4 rfl
            have h6 := h5.p2.drop
            by_cases hz : pe = 0
            · subst hz
              go_wp2_with fail
              refine (val_Ref ⟨vk, vn⟩ h5).mono ?_
              rw [HRF.out]
              rintro e w6 ⟨rfl, h7⟩
              clear h6
              cases rf with
              | true =>
                have na := netAt h7.p4 HS.out.2.2.1 hcj
                have hnb := HS.out.2.2.2.1 cj
                generalize hzz : net.getD cj 0 = z at *
                have nw : IntKind.i64.wrap (z + (-1)) = z + (-1) := IntWalk.i64_in _ (by omega)
                have nw2 : IntKind.i64.wrap (z - 1) = z - 1 := IntWalk.i64_in _ (by omega)
                have na0 := na.1
                have na1 := na.2
                have h8 := netSet h7.p4 hcj (z + (-1))
                have en : actN A net (⟨5, xn, xi, ⟨vk, vn⟩, xl, xtx⟩ : Act13) = net.set cj (z + (-1)) := by rw [EN.out, if_pos (by first | exact ⟨rfl, rfl⟩ | simp)]; unfold incN; rw [← HCL.out.1, Int.toNat_natCast, hzz]
                go_wp2_with fail
                go_roundw
                case rel =>
                  refine ⟨k + 1, m, X, by go_num, by omega, by omega, hX, ?_⟩
                  rw [HSU.out]
                  unfold act1
                  dsimp only
                  rw [ea, en]
                  exact ckF h8
                case measure => simp [intOf]; omega
              | false =>
                have en : actN A net (⟨5, xn, xi, ⟨vk, vn⟩, xl, xtx⟩ : Act13) = net := by rw [EN.out, if_neg (by rintro ⟨_, e⟩; cases e)]
                go_wp2_with fail
                go_roundw
                case rel =>
                  refine ⟨k + 1, m, X, by go_num, by omega, by omega, hX, ?_⟩
                  rw [HSU.out]
                  unfold act1
                  dsimp only
                  rw [ea, en]
                  exact h7.p2.drop
                case measure => simp [intOf]; omega
            · have hz2 : (pe == 0) = false := by simpa using hz
              have en : actN A net (⟨5, xn, xi, ⟨vk, vn⟩, xl, xtx⟩ : Act13) = net := by rw [EN.out, if_neg (by rintro ⟨e, _⟩; exact hz e)]
              have HZ := Lib.hid hz
              clear hz
              go_wp2_with fail
              go_roundw
              case rel =>
                refine ⟨k + 1, m, X, by go_num, by omega, by omega, hX, ?_⟩
                rw [HSU.out]
                unfold act1
                dsimp only
                rw [ea, en]
                exact h6
              case measure => simp [intOf]; omega
        · as_aux_lemma =>
            obtain rfl : what = 6 := by simpa using (by assumption : (what == 6) = true)
            have HC := Lib.hid (t_Drop HS.out.1 (by omega) hX.right.left HB.out.p2 ⟨vk, vn⟩)
            have ea : actA A (⟨6, xn, xi, ⟨vk, vn⟩, xl, xtx⟩ : Act13) = A.drop ⟨vk, vn⟩ := by simp [actA]
            have en0 : actN A net (⟨6, xn, xi, ⟨vk, vn⟩, xl, xtx⟩ : Act13) = if cntE A ⟨vk, vn⟩ = 0 ∧ refV ⟨vk, vn⟩ = true then incN net (clampI vn) (-1) else net := by simp [actN]
            generalize hpe : cntE A ⟨vk, vn⟩ = pe at *
            generalize hrf : refV ⟨vk, vn⟩ = rf at *
            have EN := Lib.hid en0
            have HRF := Lib.hid hrf
            clear en0 hrf hpe
            obtain ⟨cj, rfl⟩ : ∃ j : Nat, cv = j := ⟨cv.toNat, by have := HCL.out.1; have := clampI_rng vn; omega⟩
            have hcj : cj < 80 := by have := HCL.out.1; have := clampI_rng vn; omega
            refine HC.out.mono ?_
            rintro e w5 ⟨rfl, h5⟩
            have y3 := Sat.cell (T := 100) (cs := #[.int .i64 6, .int .i64 xn, .int .i64 xi, .int .i64 vk, .int .i64 vn, .slice la xl.length lc, .string xtx]) h5.p2 3 rfl
            have y4 := Sat.cell (T := 100) (cs := #[.int .i64 6, .int .i64 xn, .int .i64 xi, .int .i64 vk, .int .i64 vn, .slice la xl.length lc, .string xtx]) h5.p2 4 rfl
            have h6 := h5.p2.drop
            by_cases hz : pe = 0
            · subst hz
              go_wp2_with fail
              refine (val_Ref ⟨vk, vn⟩ h5).mono ?_
              rw [HRF.out]
              rintro e w6 ⟨rfl, h7⟩
              clear h6
              cases rf with
              | true =>
                have na := netAt h7.p4 HS.out.2.2.1 hcj
                have hnb := HS.out.2.2.2.1 cj
                generalize hzz : net.getD cj 0 = z at *
                have nw : IntKind.i64.wrap (z + (-1)) = z + (-1) := IntWalk.i64_in _ (by omega)
                have nw2 : IntKind.i64.wrap (z - 1) = z - 1 := IntWalk.i64_in _ (by omega)
                have na0 := na.1
                have na1 := na.2
                have h8 := netSet h7.p4 hcj (z + (-1))
                have en : actN A net (⟨6, xn, xi, ⟨vk, vn⟩, xl, xtx⟩ : Act13) = net.set cj (z + (-1)) := by rw [EN.out, if_pos (by first | exact ⟨rfl, rfl⟩ | simp)]; unfold incN; rw [← HCL.out.1, Int.toNat_natCast, hzz]
                go_wp2_with fail
                go_roundw
                case rel =>
                  refine ⟨k + 1, m, X, by go_num, by omega, by omega, hX, ?_⟩
                  rw [HSU.out]
                  unfold act1
                  dsimp only
                  rw [ea, en]
                  exact ckF h8
                case measure => simp [intOf]; omega
              | false =>
                have en : actN A net (⟨6, xn, xi, ⟨vk, vn⟩, xl, xtx⟩ : Act13) = net := by rw [EN.out, if_neg (by rintro ⟨_, e⟩; cases e)]
                go_wp2_with fail
                go_roundw
                case rel =>
                  refine ⟨k + 1, m, X, by go_num, by omega, by omega, hX, ?_⟩
                  rw [HSU.out]
                  unfold act1
                  dsimp only
                  rw [ea, en]
                  exact h7.p2.drop
                case measure => simp [intOf]; omega
            · have hz2 : (pe == 0) = false := by simpa using hz
              have en : actN A net (⟨6, xn, xi, ⟨vk, vn⟩, xl, xtx⟩ : Act13) = net := by rw [EN.out, if_neg (by rintro ⟨e, _⟩; exact hz e)]
              have HZ := Lib.hid hz
              clear hz
              go_wp2_with fail
              go_roundw
              case rel =>
                refine ⟨k + 1, m, X, by go_num, by omega, by omega, hX, ?_⟩
                rw [HSU.out]
                unfold act1
                dsimp only
                rw [ea, en]
                exact h6
              case measure => simp [intOf]; omega
        · as_aux_lemma =>
            obtain rfl : what = 7 := by simpa using (by assumption : (what == 7) = true)
            have HC := Lib.hid (t_Free HS.out.1 (by omega) hX.right.left HB.out.p2 xn)
            have ea : actA A (⟨7, xn, xi, ⟨vk, vn⟩, xl, xtx⟩ : Act13) = A.freeF xn := by simp [actA]
            have en0 : actN A net (⟨7, xn, xi, ⟨vk, vn⟩, xl, xtx⟩ : Act13) = if A.freeE xn = 0 then net.set (clampI xn).toNat 0 else net := by simp [actN]
            generalize hpe : A.freeE xn = pe at *
            have EN := Lib.hid en0
            clear en0 hpe
            obtain ⟨cj, rfl⟩ : ∃ j : Nat, cn = j := ⟨cn.toNat, by have := HCL.out.2; have := clampI_rng xn; omega⟩
            have hcj : cj < 80 := by have := HCL.out.2; have := clampI_rng xn; omega
            refine HC.out.mono ?_
            rintro e w5 ⟨rfl, h5⟩
            have h6 := h5.p2.drop
            by_cases hz : pe = 0
            · subst hz
              have na := netAt h6.p3 HS.out.2.2.1 hcj
              have hnb := HS.out.2.2.2.1 cj
              generalize hzz : net.getD cj 0 = z at *
              have nw : IntKind.i64.wrap (z + 1) = z + 1 := IntWalk.i64_in _ (by omega)
              have na0 := na.1
              have na1 := na.2
              have h8 := netSet h6.p3 hcj (0)
              have en : actN A net (⟨7, xn, xi, ⟨vk, vn⟩, xl, xtx⟩ : Act13) = net.set cj (0) := by rw [EN.out, if_pos (by first | rfl | trivial | simp)]; first | (unfold incN; rw [← HCL.out.2, Int.toNat_natCast, hzz]) | (rw [← HCL.out.2, Int.toNat_natCast])
              go_wp2_with fail
              go_roundw
              case rel =>
                refine ⟨k + 1, m, X, by go_num, by omega, by omega, hX, ?_⟩
                rw [HSU.out]
                unfold act1
                dsimp only
                rw [ea, en]
                exact h8.q3
              case measure => simp [intOf]; omega
            · have hz2 : (pe == 0) = false := by simpa using hz
              have en : actN A net (⟨7, xn, xi, ⟨vk, vn⟩, xl, xtx⟩ : Act13) = net := by rw [EN.out, if_neg hz]
              have HZ := Lib.hid hz
              clear hz
              go_wp2_with fail
              go_roundw
              case rel =>
                refine ⟨k + 1, m, X, by go_num, by omega, by omega, hX, ?_⟩
                rw [HSU.out]
                unfold act1
                dsimp only
                rw [ea, en]
                exact h6
              case measure => simp [intOf]; omega
        · as_aux_lemma =>
            obtain rfl : what = 8 := by simpa using (by assumption : (what == 8) = true)
            have ea : actA A (⟨8, xn, xi, ⟨vk, vn⟩, xl, xtx⟩ : Act13) = A.mark xn := by simp [actA]
            have en : actN A net (⟨8, xn, xi, ⟨vk, vn⟩, xl, xtx⟩ : Act13) = net := by simp [actN]
            have HC := Lib.hid (t_Mark HS.out.1 (by omega) hX.right.left HB.out.p2 xn)
            refine HC.out.mono ?_
            rintro e w5 ⟨rfl, h5⟩
            go_wp2_with fail
            go_roundw
            case rel =>
              refine ⟨k + 1, m, X, by go_num, by omega, by omega, hX, ?_⟩
              rw [HSU.out]
              unfold act1
              dsimp only
              rw [ea, en]
              exact h5.p2.drop
            case measure => simp [intOf]; omega
        · as_aux_lemma =>
            obtain rfl : what = 9 := by simpa using (by assumption : (what == 9) = true)
            have HC := Lib.hid (t_Fin HS.out.1 (by omega) hX.right.left HB.out.p2 xn)
            have ea : actA A (⟨9, xn, xi, ⟨vk, vn⟩, xl, xtx⟩ : Act13) = A.finF xn := by simp [actA]
            have en0 : actN A net (⟨9, xn, xi, ⟨vk, vn⟩, xl, xtx⟩ : Act13) = if A.finE xn = 0 then incN net (clampI xn) 1 else net := by simp [actN]
            generalize hpe : A.finE xn = pe at *
            have EN := Lib.hid en0
            clear en0 hpe
            obtain ⟨cj, rfl⟩ : ∃ j : Nat, cn = j := ⟨cn.toNat, by have := HCL.out.2; have := clampI_rng xn; omega⟩
            have hcj : cj < 80 := by have := HCL.out.2; have := clampI_rng xn; omega
            refine HC.out.mono ?_
            rintro e w5 ⟨rfl, h5⟩
            have h6 := h5.p2.drop
            by_cases hz : pe = 0
            · subst hz
              have na := netAt h6.p3 HS.out.2.2.1 hcj
              have hnb := HS.out.2.2.2.1 cj
              generalize hzz : net.getD cj 0 = z at *
              have nw : IntKind.i64.wrap (z + 1) = z + 1 := IntWalk.i64_in _ (by omega)
              have na0 := na.1
              have na1 := na.2
              have h8 := netSet h6.p3 hcj (z + 1)
              have en : actN A net (⟨9, xn, xi, ⟨vk, vn⟩, xl, xtx⟩ : Act13) = net.set cj (z + 1) := by rw [EN.out, if_pos (by first | rfl | trivial | simp)]; first | (unfold incN; rw [← HCL.out.2, Int.toNat_natCast, hzz]) | (rw [← HCL.out.2, Int.toNat_natCast])
              go_wp2_with fail
              go_roundw
              case rel =>
                refine ⟨k + 1, m, X, by go_num, by omega, by omega, hX, ?_⟩
                rw [HSU.out]
                unfold act1
                dsimp only
                rw [ea, en]
                exact h8.q3
              case measure => simp [intOf]; omega
            · have hz2 : (pe == 0) = false := by simpa using hz
              have en : actN A net (⟨9, xn, xi, ⟨vk, vn⟩, xl, xtx⟩ : Act13) = net := by rw [EN.out, if_neg hz]
              have HZ := Lib.hid hz
              clear hz
              go_wp2_with fail
              go_roundw
              case rel =>
                refine ⟨k + 1, m, X, by go_num, by omega, by omega, hX, ?_⟩
                rw [HSU.out]
                unfold act1
                dsimp only
                rw [ea, en]
                exact h6
              case measure => simp [intOf]; omega
        · as_aux_lemma =>
            obtain rfl : what = 10 := by simpa using (by assumption : (what == 10) = true)
            have ea : actA A (⟨10, xn, xi, ⟨vk, vn⟩, xl, xtx⟩ : Act13) = A.nextF := by simp [actA]
            have en : actN A net (⟨10, xn, xi, ⟨vk, vn⟩, xl, xtx⟩ : Act13) = net := by simp [actN]
            have HC := Lib.hid (t_Next HS.out.1 (by omega) HB.out.p2)
            refine HC.out.mono ?_
            rintro e w5 ⟨rfl, h5⟩
            go_wp2_with fail
            go_roundw
            case rel =>
              refine ⟨k + 1, m, X, by go_num, by omega, by omega, hX, ?_⟩
              rw [HSU.out]
              unfold act1
              dsimp only
              rw [ea, en]
              exact h5.p2.drop
            case measure => simp [intOf]; omega
        · as_aux_lemma =>
            obtain rfl : what = 11 := by simpa using (by assumption : (what == 11) = true)
            have ea : actA A (⟨11, xn, xi, ⟨vk, vn⟩, xl, xtx⟩ : Act13) = { A with buf := [] } := by simp [actA]
            have en : actN A net (⟨11, xn, xi, ⟨vk, vn⟩, xl, xtx⟩ : Act13) = net := by simp [actN]
            have HC := Lib.hid (heap_TakeBuffer HB.out.p2 (by have := HS.out.1.bl; omega))
            refine HC.out.mono ?_
            rintro e w5 ⟨a5, c5, rfl, h5⟩
            go_wp2_with fail
            go_roundw
            case rel =>
              refine ⟨k + 1, m, X, by go_num, by omega, by omega, hX, ?_⟩
              rw [HSU.out]
              unfold act1
              dsimp only
              rw [ea, en]
              exact h5.drop.p2.drop
            case measure => simp [intOf]; omega
        · as_aux_lemma =>
            obtain rfl : what = 12 := by simpa using (by assumption : (what == 12) = true)
            have ea : actA A (⟨12, xn, xi, ⟨vk, vn⟩, xl, xtx⟩ : Act13) = A.suspF xn := by simp [actA]
            have en : actN A net (⟨12, xn, xi, ⟨vk, vn⟩, xl, xtx⟩ : Act13) = net := by simp [actN]
            have HC := Lib.hid (t_Susp HS.out.1 (by omega) HB.out.p2 xn)
            refine HC.out.mono ?_
            rintro e w5 ⟨rfl, h5⟩
            go_wp2_with fail
            go_roundw
            case rel =>
              refine ⟨k + 1, m, X, by go_num, by omega, by omega, hX, ?_⟩
              rw [HSU.out]
              unfold act1
              dsimp only
              rw [ea, en]
              exact h5.p2.drop
            case measure => simp [intOf]; omega
        · as_aux_lemma =>
            obtain rfl : what = 13 := by simpa using (by assumption : (what == 13) = true)
            have hlist := HB.out.alloc (.cells #[.int .i64 xn, .int .i64 xi] 3)
            rw [size_alloc, hxb] at hlist
            have hl2 := Sat.litI (L := [xn, xi]) (n := 2) hlist rfl (by decide)
            have HC := Lib.hid (heap_Watch (hl2.cast (by unfold actP; ac_rfl : _ = slc 3 1 (some ⟨xb + 1, 0, none⟩) 2 2 ([xn, xi].map ival) * (heapR m p A * (pt xb (.cells #[.int .i64 13, .int .i64 xn, .int .i64 xi, .int .i64 vk, .int .i64 vn, .slice la xl.length lc, .string xtx] 100 (0, 0)) * (X * (slc 3 1 (some ⟨nb, 0, none⟩) 80 80 (net.map ival) * (CR * F))))))) rfl (by decide))
            have ea : actA A (⟨13, xn, xi, ⟨vk, vn⟩, xl, xtx⟩ : Act13) = A.watchF [xn, xi] := by simp [actA]
            have en : actN A net (⟨13, xn, xi, ⟨vk, vn⟩, xl, xtx⟩ : Act13) = net := by simp [actN]
            clear hlist hl2
            refine HC.out.mono ?_
            rintro e w5 ⟨rfl, m2, X2, hX2, h5⟩
            go_wp2_with fail
            go_roundw
            case rel =>
              refine ⟨k + 1, m2, X2 * X, by go_num, by omega, by omega, hX2.right, ?_⟩
              rw [HSU.out]
              unfold act1
              dsimp only
              rw [ea, en]
              exact (h5.p3.drop.p3.drop).cast (by unfold actP AHeap.watchF; ac_rfl)
            case measure => simp [intOf]; omega
        · as_aux_lemma =>
            obtain rfl : what = 14 := by simpa using (by assumption : (what == 14) = true)
            have ea : actA A (⟨14, xn, xi, ⟨vk, vn⟩, xl, xtx⟩ : Act13) = A.pushF xn ⟨vk, vn⟩ := by simp [actA]
            have en : actN A net (⟨14, xn, xi, ⟨vk, vn⟩, xl, xtx⟩ : Act13) = net := by simp [actN]
            have HC := Lib.hid (t_Push HS.out.1 (by omega) hX.right.left HB.out.p2 xn ⟨vk, vn⟩)
            refine HC.out.mono ?_
            rintro e w5 ⟨rfl, h5⟩
            go_wp2_with fail
            go_roundw
            case rel =>
              refine ⟨k + 1, m, X, by go_num, by omega, by omega, hX, ?_⟩
              rw [HSU.out]
              unfold act1
              dsimp only
              rw [ea, en]
              exact h5.p2.drop
            case measure => simp [intOf]; omega
        · as_aux_lemma =>
            obtain rfl : what = 15 := by simpa using (by assumption : (what == 15) = true)
            have ea : actA A (⟨15, xn, xi, ⟨vk, vn⟩, xl, xtx⟩ : Act13) = A.popF xn := by simp [actA]
            have en : actN A net (⟨15, xn, xi, ⟨vk, vn⟩, xl, xtx⟩ : Act13) = net := by simp [actN]
            have HC := Lib.hid (t_Pop HS.out.1 (by omega) hX.right.left HB.out.p2 xn)
            refine HC.out.mono ?_
            rintro e w5 ⟨rfl, h5⟩
            go_wp2_with fail
            go_roundw
            case rel =>
              refine ⟨k + 1, m, X, by go_num, by omega, by omega, hX, ?_⟩
              rw [HSU.out]
              unfold act1
              dsimp only
              rw [ea, en]
              exact h5.p2.drop
            case measure => simp [intOf]; omega
        · as_aux_lemma =>
            obtain rfl : what = 16 := by simpa using (by assumption : (what == 16) = true)
            have ea : actA A (⟨16, xn, xi, ⟨vk, vn⟩, xl, xtx⟩ : Act13) = A.swapF xn xi ⟨vk, vn⟩ := by simp [actA]
            have en : actN A net (⟨16, xn, xi, ⟨vk, vn⟩, xl, xtx⟩ : Act13) = net := by simp [actN]
            have HC := Lib.hid (t_Swap HS.out.1 (by omega) hX.right.left HB.out.p2 xn xi ⟨vk, vn⟩)
            refine HC.out.mono ?_
            rintro e w5 ⟨rfl, h5⟩
            go_wp2_with fail
            go_roundw
            case rel =>
              refine ⟨k + 1, m, X, by go_num, by omega, by omega, hX, ?_⟩
              rw [HSU.out]
              unfold act1
              dsimp only
              rw [ea, en]
              exact h5.p2.drop
            case measure => simp [intOf]; omega
        · as_aux_lemma =>
            have g0 : ¬ what = 0 := by first | ((have hh : (what == 0) = false := by assumption); simpa using hh) | ((have hh : ¬ (what == 0) = true := by assumption); simpa using hh)
            have g1 : ¬ what = 1 := by first | ((have hh : (what == 1) = false := by assumption); simpa using hh) | ((have hh : ¬ (what == 1) = true := by assumption); simpa using hh)
            have g2 : ¬ what = 2 := by first | ((have hh : (what == 2) = false := by assumption); simpa using hh) | ((have hh : ¬ (what == 2) = true := by assumption); simpa using hh)
            have g3 : ¬ what = 3 := by first | ((have hh : (what == 3) = false := by assumption); simpa using hh) | ((have hh : ¬ (what == 3) = true := by assumption); simpa using hh)
            have g4 : ¬ what = 4 := by first | ((have hh : (what == 4) = false := by assumption); simpa using hh) | ((have hh : ¬ (what == 4) = true := by assumption); simpa using hh)
            have g5 : ¬ what = 5 := by first | ((have hh : (what == 5) = false := by assumption); simpa using hh) | ((have hh : ¬ (what == 5) = true := by assumption); simpa using hh)
            have g6 : ¬ what = 6 := by first | ((have hh : (what == 6) = false := by assumption); simpa using hh) | ((have hh : ¬ (what == 6) = true := by assumption); simpa using hh)
            have g7 : ¬ what = 7 := by first | ((have hh : (what == 7) = false := by assumption); simpa using hh) | ((have hh : ¬ (what == 7) = true := by assumption); simpa using hh)
            have g8 : ¬ what = 8 := by first | ((have hh : (what == 8) = false := by assumption); simpa using hh) | ((have hh : ¬ (what == 8) = true := by assumption); simpa using hh)
            have g9 : ¬ what = 9 := by first | ((have hh : (what == 9) = false := by assumption); simpa using hh) | ((have hh : ¬ (what == 9) = true := by assumption); simpa using hh)
            have g10 : ¬ what = 10 := by first | ((have hh : (what == 10) = false := by assumption); simpa using hh) | ((have hh : ¬ (what == 10) = true := by assumption); simpa using hh)
            have g11 : ¬ what = 11 := by first | ((have hh : (what == 11) = false := by assumption); simpa using hh) | ((have hh : ¬ (what == 11) = true := by assumption); simpa using hh)
            have g12 : ¬ what = 12 := by first | ((have hh : (what == 12) = false := by assumption); simpa using hh) | ((have hh : ¬ (what == 12) = true := by assumption); simpa using hh)
            have g13 : ¬ what = 13 := by first | ((have hh : (what == 13) = false := by assumption); simpa using hh) | ((have hh : ¬ (what == 13) = true := by assumption); simpa using hh)
            have g14 : ¬ what = 14 := by first | ((have hh : (what == 14) = false := by assumption); simpa using hh) | ((have hh : ¬ (what == 14) = true := by assumption); simpa using hh)
            have g15 : ¬ what = 15 := by first | ((have hh : (what == 15) = false := by assumption); simpa using hh) | ((have hh : ¬ (what == 15) = true := by assumption); simpa using hh)
            have g16 : ¬ what = 16 := by first | ((have hh : (what == 16) = false := by assumption); simpa using hh) | ((have hh : ¬ (what == 16) = true := by assumption); simpa using hh)
            obtain ⟨tn, htn⟩ : ∃ q : Nat, q = min xl.length 20 := ⟨_, rfl⟩
            have hlt2 : xl.take 20 = xl.take tn := by rw [htn]; exact (List.take_eq_take_min).trans (by rw [Nat.min_comm])
            have hS2 := srcV_take HS.out.2.2.2.2 (show tn ≤ xl.length by omega)
            have HC := Lib.hid (t_Lay HS.out.1 (by omega) (SR := CR) (F := pt xb (.cells #[.int .i64 what, .int .i64 xn, .int .i64 xi, .int .i64 vk, .int .i64 vn, .slice la xl.length lc, .string xtx] 100 (0, 0)) * (X * (slc 3 1 (some ⟨nb, 0, none⟩) 80 80 (net.map ival) * F))) (hX.right.left) xn ((HB.out.drew.cast (by unfold actP; ac_rfl))) hS2 (by omega))
            have ea : actA A (⟨what, xn, xi, ⟨vk, vn⟩, xl, xtx⟩ : Act13) = A.layF xn (xl.take tn) := by rw [← hlt2]; simp [actA, g0, g1, g2, g3, g4, g5, g6, g7, g8, g9, g10, g11, g12, g13, g14, g15, g16]
            have en : actN A net (⟨what, xn, xi, ⟨vk, vn⟩, xl, xtx⟩ : Act13) = net := by simp [actN, g0, g1, g2, g3, g4, g5, g6, g7, g9]
            have ht1 : (if (20 : Int) < (xl.length : Int) then (20 : Int) else (xl.length : Int)) = (tn : Int) := by split <;> omega
            have ht2 : min (xl.length : Int) 20 = (tn : Int) := by omega
            have hcap := HS.out.2.2.2.2.2.2.2.1
            have ht3 : tn ≤ lc := by omega
            clear hS2 hlt2 htn
            refine wp_region_tail 10 (by kernel_rfl) (by kernel_rfl) ?_
            simp only [List.take_succ_cons, List.take_zero, List.drop_succ_cons, List.drop_zero]
            iterate 10 still_step
            refine wpStill_nil ?_
            go_wp2_with fail
            refine HC.out.mono ?_
            rintro e w5 ⟨rfl, h5⟩
            go_wp2_with fail
            go_roundw
            case rel =>
              refine ⟨k + 1, m, X, by go_num, by omega, by omega, hX, ?_⟩
              rw [HSU.out]
              unfold act1
              dsimp only
              rw [ea, en]
              exact (h5.p3.drop).cast (by unfold actP; ac_rfl)
            case measure => simp [intOf]; omega
      · have hk60 : k = 60 := by omega
        subst hk60
        go_wp2
        go_ret2
        exact ⟨p, _, _, m, X, hX, rfl, hs⟩
    · have hkn : k = n := by omega
      subst hkn
      have he : play13 (rs.map (·.x)) k = play13 (rs.map (·.x)) 60 := by
        unfold play13
        rw [List.take_of_length_le (by rw [List.length_map]; have := HM.out.1; omega), List.take_of_length_le (by rw [List.length_map]; have := HM.out.1; omega)]
      rw [he] at hs
      go_wp2
      go_ret2
      exact ⟨p, _, _, m, X, hX, rfl, hs⟩
end
end Go.Proofs.Ytkpcngcegipalaa.Tw
