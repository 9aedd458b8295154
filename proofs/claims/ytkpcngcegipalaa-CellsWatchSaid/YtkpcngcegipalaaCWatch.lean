/- CellsWatch: a heap that was watched was touched just if one of the watched objects changed, or something was done to its slots: proved for every slice of acts, an act and two numbers, without a condition. -/
import Derived.Test.YtkpcngcegipalaaCWa
import Derived.Test.YtkpcngcegipalaaCWo
import Derived.Test.YtkpcngcegipalaaGrowA
namespace Go.Proofs.Ytkpcngcegipalaa.CWatch
set_option linter.unusedVariables false
set_option linter.unusedSimpArgs false
open Go Go.RowKit Go.MapKept Go.Proofs.Ytkpcngcegipalaa.Tw
open Go.ChangeShapes Go.WideShapes Go.ChangeAt
attribute [local go_sem] lookE lkE valUpon

theorem mkTwo {w0 w : World} {b : Nat} {o : Obj} {A F : HP} {x : Option Addr} (h : Sat w0 w (A * (pt b o * F))) (hx : x = some ⟨b, 0, none⟩) : Sat w0 w (A * ((ex fun b => wh (x = some ⟨b, 0, none⟩) (pt b o)) * F)) :=
  (Sat.intro_ex (P := fun b => wh (x = some ⟨b, 0, none⟩) (pt b o)) b (Sat.intro_wh hx h.p2)).p2
section
variable {w0 w : World} {F CR : HP}
theorem actC {b : Nat} {y0 y1 y2 y3 y4 y5 y6 : Value} (h : Sat w0 w (pt b (.cells #[y0, y1, y2, y3, y4, y5, y6] 100 (0, 0)) * F)) :
    w.cell? ⟨b, 0, none⟩ = some y0 ∧ w.cell? ⟨b, 1, none⟩ = some y1 ∧ w.cell? ⟨b, 2, none⟩ = some y2 ∧ w.cell? ⟨b, 3, none⟩ = some y3 ∧ w.cell? ⟨b, 4, none⟩ = some y4 ∧ w.cell? ⟨b, 5, none⟩ = some y5 ∧ w.cell? ⟨b, 6, none⟩ = some y6 :=
  have c := fun i v hv => Sat.cell (T := 100) (cs := #[y0, y1, y2, y3, y4, y5, y6]) h i (v := v) hv
  ⟨c 0 _ rfl, c 1 _ rfl, c 2 _ rfl, c 3 _ rfl, c 4 _ rfl, c 5 _ rfl, c 6 _ rfl⟩
theorem act_none {q : Nat} (h : Sat w0 w (pt q (.cells #[] 100 (0, 0)) * F)) : Sat w0 w (slc 100 7 (some ⟨q, 0, none⟩) 0 0 (racells []) * F) :=
  Sat.shutSlc h (Nat.le_refl _) (by unfold maxLen; omega) (by simp) (by simp [racells])
theorem info_act : (Try.prog.info? 100).map (fun i => (i.zero, i.size, i.bytes)) = some (some (.agg #[.int .i64 0, .int .i64 0, .int .i64 0, .int .i64 0, .int .i64 0, .slice none 0 0, .string (ByteArray.mk #[])]), 7, 80) := by kernel_rfl
theorem rcells_length (r : RAct) : (rcells r).length = 7 := rfl
theorem racells_length (rs : List RAct) : (racells rs).length = rs.length * 7 := by
  unfold racells
  induction rs with
  | nil => rfl
  | cons r rs ih => rw [List.map_cons, List.flatten_cons, List.length_append, ih, rcells_length, List.length_cons]; omega
theorem racells_append (l r : List RAct) : racells (l ++ r) = racells l ++ racells r := by unfold racells; rw [List.map_append, List.flatten_append]
theorem oneCell_racells (rs : List RAct) : ∀ u ∈ racells rs, u.oneCell' = true := by
  intro u hu
  unfold racells at hu
  rw [List.mem_flatten] at hu
  obtain ⟨l, hl, hu⟩ := hu
  rw [List.mem_map] at hl
  obtain ⟨r, _, rfl⟩ := hl
  simp only [rcells, List.mem_cons, List.not_mem_nil, or_false] at hu
  rcases hu with rfl | rfl | rfl | rfl | rfl | rfl | rfl <;> rfl
theorem argAt_take {a : Option Addr} {rs : List RAct} {k : Nat} (h : ArgAt w0 CR a (racells rs)) : ArgAt w0 CR a (racells (rs.take k)) := fun w' G j v hs hj => by
  refine h w' G j v hs ?_
  conv => lhs; rw [← List.take_append_drop k rs, racells_append]
  rw [List.getElem?_append_left (by have := (List.getElem?_eq_some_iff.1 hj).1; omega)]; exact hj
theorem argAt_slc {a : Option Addr} {n c : Nat} {l : List RAct} : ArgAt w0 (slc 100 7 a n c (racells l) * CR) a (racells l) := fun w' G j v hs hj => by
  obtain ⟨g, off, e, c, _⟩ := (hs.cast (mul_assoc _ _ _)).slcAt hj
  exact ⟨g, off, e, c⟩
theorem argAt_two {q : Nat} {cs : List Value} {l : List RAct} (h : racells l = cs) : ArgAt w0 (pt q (.cells cs.toArray 100 (0, 0))) (some ⟨q, 0, none⟩) (racells l) := fun w' G j v hs hj => by
  subst h
  exact ⟨q, 0, rfl, by rw [Nat.zero_add]; exact Sat.cell (T := 100) (cs := (racells l).toArray) hs j (by simpa using hj)⟩
/-- append of acts -/
theorem cat_acts {o : Oper} {a : Act} {K : Act → World → Prop} {Q : Exit → Act → World → Prop} {sa xa : Option Addr} {n c m c' : Nat} {l r : List RAct} (s x : Operand) (hop : o.op = .call { callee := .builtin .append, args := #[s, x], argTypes := #[98, 98] })
    (hs : a.eval s = .slice sa n c) (h : Sat w0 w (slc 100 7 sa n c (racells l) * (CR * F))) (hx : a.eval x = .slice xa m c') (hA : ArgAt w0 CR xa (racells r)) (hr : r.length = m) (hn : xa = none → m = 0 ∧ c' = 0) (hb : n + m ≤ 1000000)
    (hK : ∀ a' c'' w', Sat w0 w' (slc 100 7 a' (n + m) c'' (racells (l ++ r)) * (CR * F)) → K (a.put o.dst (.slice a' (n + m) c'')) w') : o.wp Try.prog a w K Q := by
  obtain ⟨i0, hi, hz0, hz1, hz2⟩ := info_parts info_act
  refine wp_append_any s x 98 hop i0 (.agg #[.int .i64 0, .int .i64 0, .int .i64 0, .int .i64 0, .int .i64 0, .slice none 0 0, .string (ByteArray.mk #[])]) 80 Try.underlying98 hi hz0 hz1 hz2 rfl sa n c (racells l) hs h xa m c' (racells r) hx (by rw [racells_length, hr]) ⟨fun ad e j u hj => ?_, hn⟩ (oneCell_racells r) (by unfold maxLen; omega) (by omega) fun a' c'' w' h2 _ => ?_
  · obtain ⟨g, off, e2, hc⟩ := hA w _ j u h.p2 hj
    rw [e] at e2; cases e2
    rw [addr_add]; exact hc
  · exact hK a' c'' w' (by rw [racells_append]; exact h2)
end
theorem srcMono {w0 : World} {SR C : HP} {a : Option Addr} {n c : Nat} {l : List AVal} (h : SrcV w0 SR a n c l) : SrcV w0 (C * SR) a n c l := ⟨fun w' G hs => h.1 w' (C * G) (hs.cast (by ac_rfl)), h.2⟩
theorem twoC {w0 w : World} {F : HP} {b : Nat} {x y : Int} {T : TypeId} (h : Sat w0 w (pt b (.cells #[.int .i64 x, .int .i64 y] T (0, 0)) * F)) : w.cell? ⟨b, 0, none⟩ = some (.int .i64 x) ∧ w.cell? ⟨b, 1, none⟩ = some (.int .i64 y) :=
  ⟨Sat.cell (T := T) (cs := #[.int .i64 x, .int .i64 y]) h 0 rfl, Sat.cell (T := T) (cs := #[.int .i64 x, .int .i64 y]) h 1 rfl⟩
theorem obox5 {w0 w : World} {F : HP} {ob : Nat} {x0 x1 x2 x3 x4 : Value} (h : Sat w0 w (pt ob (.cells #[x0, x1, x2, x3, x4] 39 (0, 0)) * F)) :
    w.cell? ⟨ob, 0, none⟩ = some x0 ∧ w.cell? ⟨ob, 1, none⟩ = some x1 ∧ w.cell? ⟨ob, 2, none⟩ = some x2 ∧ w.cell? ⟨ob, 3, none⟩ = some x3 ∧ w.cell? ⟨ob, 4, none⟩ = some x4 :=
  have c := fun i v hv => Sat.cell (T := 39) (cs := #[x0, x1, x2, x3, x4]) h i (v := v) hv
  ⟨c 0 _ rfl, c 1 _ rfl, c 2 _ rfl, c 3 _ rfl, c 4 _ rfl⟩
theorem play_more {l : List RAct} {r s : RAct} (h : l.length ≤ 50) : (play13 ((l ++ [r, s]).map (·.x)) 60).1 = actA (actA (play13 (l.map (·.x)) 60).1 r.x) s.x := by
  unfold play13
  rw [List.take_of_length_le (by simp; omega), List.take_of_length_le (by simp; omega), List.map_append, List.foldl_append]
  rfl
set_option maxRecDepth 100000 in
set_option maxHeartbeats 8000000 in
theorem walk (pa : Option Addr) (len0 cap0 : Nat) (rs : List RAct) (rx : RAct) (a b : Int) (w : World) (w0 : IsActsN w pa len0 cap0 rs) (w1 : SrcV w (Old w) rx.la rx.x.l.length rx.lc rx.x.l) :
    Calls Try.prog 11 #[.slice pa len0 cap0, .agg (rcells rx).toArray, .agg #[.int .i64 a, .int .i64 b]] w fun e w' => e = .returned (.bool true) ∧ Below w.heap.size w w' := by
  have h0 := Sat.refl w
  obtain ⟨⟨hl, hc1, hc2, hrs, hA⟩, hnil⟩ := w0
  have hlen : len0 ≤ 9223372036854775807 := by unfold maxLen at hc2; omega
  obtain ⟨tn, htn⟩ : ∃ q : Nat, q = min len0 50 := ⟨_, rfl⟩
  have ht0 : tn ≤ len0 ∧ tn ≤ 50 := by omega
  have ht1 : (if (50 : Int) < (len0 : Int) then (50 : Int) else (len0 : Int)) = (tn : Int) := by split <;> omega
  have ht2 : min (len0 : Int) 50 = (tn : Int) := by omega
  have ht3 : (0 : Int) ≤ (tn : Int) ∧ (tn : Int) ≤ (cap0 : Int) := by omega
  have htl : (rs.take tn).length = tn := by rw [List.length_take]; omega
  obtain ⟨R13, hR13⟩ : ∃ r : RAct, r = ⟨⟨13, a, b, ⟨0, 0⟩, [], ByteArray.mk #[]⟩, none, 0⟩ := ⟨_, rfl⟩
  obtain ⟨RX, hRX⟩ : ∃ r : RAct, r = rx := ⟨_, rfl⟩
  have hlit : R13.x.what = 13 := by rw [hR13]
  obtain ⟨⟨what, xn, xi, ⟨vk, vn⟩, xl, xtx⟩, la, lc⟩ := rx
  have w1 : SrcV w (Old w) la xl.length lc xl := w1
  have hrsT : ∀ r ∈ rs.take tn, SrcV w (Old w) r.la r.x.l.length r.lc r.x.l := fun r hr => hrs r (List.mem_of_mem_take hr)
  have hAT := argAt_take (k := tn) hA
  have hnil2 : pa = none → tn = 0 ∧ cap0 = 0 := fun e => by have := hnil e; omega
  have hpm := play_more (r := R13) (s := RX) (show (rs.take tn).length ≤ 50 by omega)
  have hrs2 : ∀ r ∈ rs.take tn ++ [R13, RX], SrcV w (Old w) r.la r.x.l.length r.lc r.x.l := fun r hr => by
    rcases List.mem_append.1 hr with h | h
    · exact hrsT r h
    · simp only [List.mem_cons, List.not_mem_nil, or_false] at h
      rcases h with rfl | rfl
      · rw [hR13]; exact ⟨fun w' G h k x hx => by simp at hx, rfl, fun _ => ⟨rfl, rfl⟩, Nat.le_refl _, Nat.zero_le _⟩
      · rw [hRX]; exact w1
  obtain ⟨i1, -, -, -⟩ := play13_hw ((rs.take tn).map (·.x)) 60
  obtain ⟨j1, -, -, -⟩ := play13_hw ((rs.take tn ++ [R13, RX]).map (·.x)) 60
  have HP1 := Lib.hid (fun (w' : World) (F : HP) (h : Sat w w' (Old w * F)) => ck_play (c := cap0) htl (by omega) hrsT hAT h)
  have HP2 := Lib.hid (fun (w' : World) (F : HP) (ya : Option Addr) (yc : Nat) (h : Sat w w' ((slc 100 7 ya (tn + 2) yc (racells (rs.take tn ++ [R13, RX])) * Old w) * F)) => ck_play (c := yc) (n := tn + 2) (a := ya) (by rw [List.length_append, htl]; rfl) (by omega) (fun r hr => srcMono (hrs2 r hr)) argAt_slc h)
  generalize play13 ((rs.take tn).map (·.x)) 60 = s1 at *
  generalize play13 ((rs.take tn ++ [R13, RX]).map (·.x)) 60 = s2 at *
  obtain ⟨A, net⟩ := s1
  obtain ⟨B, net2⟩ := s2
  dsimp only at hpm i1 j1 HP1 HP2
  have e13 : actA A R13.x = A.watchF [a, b] := by rw [hR13]; simp [actA]
  rw [e13] at hpm
  have i1 : HW A 80 := i1
  have j1 : HW B 80 := j1
  have i2 : HW (A.watchF [a, b]) 80 := ⟨i1.q1, i1.q2, i1.qn, i1.b1, i1.bn, i1.f1, i1.fn, i1.c, i1.t, i1.ht, i1.m⟩
  have hwl := watch_law i1 RX.x a b
  rw [← hpm] at hwl
  have hmk : RX.x.what = 0 ∨ RX.x.what = 1 → B.touched = false := fun h => by
    rw [hpm]
    have : actA (A.watchF [a, b]) RX.x = (A.watchF [a, b]).makeF RX.x.i (txc RX.x.tx 100) := by unfold actA; rw [if_pos h]
    rw [this, make_touched]; rfl
  have hRw : RX.x.what = what := by rw [hRX]
  rw [hRw] at hwl hmk
  have hlit2 : racells [R13, RX] = [.int .i64 13, .int .i64 a, .int .i64 b, .int .i64 0, .int .i64 0, .slice none 0 0, .string (ByteArray.mk #[]), .int .i64 what, .int .i64 xn, .int .i64 xi, .int .i64 vk, .int .i64 vn, .slice la xl.length lc, .string xtx] := by rw [hR13, hRX]; rfl
  have HT := Lib.hid (And.intro hAT (And.intro htl (And.intro hlit2 hnil2)))
  have HW1 := Lib.hid (And.intro i1 (And.intro i2 (And.intro j1 (And.intro hwl hmk))))
  clear htn hlit2 hAT htl hnil hnil2 hrs hrsT hrs2 hA hl hpm hwl hmk e13 hlit hR13 hRX i1 i2 j1 hRw w1
  go_enter Try.func11, Try.ntmps11
  go_wp2_with fail
  have h2 := (h0.alloc (.cells #[.int .i64 what, .int .i64 xn, .int .i64 xi, .int .i64 vk, .int .i64 vn, .slice la xl.length lc, .string xtx] 100 (0, 0))).alloc (.cells #[.int .i64 a, .int .i64 b] 101 (0, 0))
  rw [size_alloc] at h2
  generalize hb4 : w.heap.size = b4 at *
  clear h0
  refine wp_region_qq (fun w' => Sat w w' (pt (b4 + 1) (.cells #[.int .i64 a, .int .i64 b] 101 (0, 0)) * (pt b4 (.cells #[.int .i64 what, .int .i64 xn, .int .i64 xi, .int .i64 vk, .int .i64 vn, .slice la xl.length lc, .string xtx] 100 (0, 0)) * Old w))) (by kernel_rfl) (by kernel_rfl) h2 ?_
  iterate 6 (first
    | (refine QQ.skip (by rfl) ?_; simp only [Act.put, List.setIfInBounds_toArray, List.set_cons_zero, List.set_cons_succ])
    | (refine QQ.want (by rfl) ?_
       apply Exists.intro
       refine ⟨?_, ?_⟩
       · intro w hw
         have ⟨c0, c1⟩ := twoC hw
         first
           | (go_simp; done)
           | (go_simp; rfl)
           | (go_simp; fail)
       simp only [Act.put, List.setIfInBounds_toArray, List.set_cons_zero, List.set_cons_succ]))
  refine QQ.nil ?_
  intro w3 h3
  clear h2
  go_wp2_with fail
  refine (HP1.out w3 (pt (b4 + 1) (.cells #[.int .i64 a, .int .i64 b] 101 (0, 0)) * pt b4 (.cells #[.int .i64 what, .int .i64 xn, .int .i64 xi, .int .i64 vk, .int .i64 vn, .slice la xl.length lc, .string xtx] 100 (0, 0))) (h3.cast (by ac_rfl))).mono ?_
  rintro e w4 ⟨p, na, nc, m, X0, hX, rfl, h4⟩
  clear h3 hX
  unfold actP at h4
  go_wp2_with fail
  have hl := Sat.litI (L := [a, b]) (n := 2) (h4.alloc (.cells #[.int .i64 a, .int .i64 b] 3)) rfl (by decide)
  refine (heap_Watch hl rfl (by omega)).mono ?_
  rintro e w5 ⟨rfl, mm, X2, hX2, h5⟩
  clear h4 hl hX2
  have h5 : Sat w w5 (heapR mm p (A.watchF [a, b]) * (pt b4 (.cells #[.int .i64 what, .int .i64 xn, .int .i64 xi, .int .i64 vk, .int .i64 vn, .slice la xl.length lc, .string xtx] 100 (0, 0)) * (Old w * (X2 * (slc 3 1 (some ⟨w4.heap.size, 0, none⟩) 2 2 ([a, b].map ival) * (X0 * (slc 3 1 na 80 nc (net.map ival) * pt (b4 + 1) (.cells #[.int .i64 a, .int .i64 b] 101 (0, 0))))))))) := h5.cast (by unfold AHeap.watchF; ac_rfl)
  generalize hR1 : (X2 * (slc 3 1 (some ⟨w4.heap.size, 0, none⟩) 2 2 ([a, b].map ival) * (X0 * (slc 3 1 na 80 nc (net.map ival) * pt (b4 + 1) (.cells #[.int .i64 a, .int .i64 b] 101 (0, 0)))))) = R1 at h5
  clear hR1
  go_wp2_with fail
  refine (x_Touched h5 (b := false) rfl).mono ?_
  rintro e w6 ⟨rfl, h6⟩
  clear h5
  have y0 := (actC h6.p2).1
  by_cases h13 : what = 13
  · subst h13
    go_wp2_with fail
    refine (x_Touched h6 (b := false) rfl).mono ?_
    rintro e w7 ⟨rfl, h7⟩
    go_wp2_with fail
    refine (law_works13 h7).mono ?_
    rintro e w8 ⟨rfl, h8⟩
    go_wp2_with fail
    go_ret
    exact ⟨rfl, hb4 ▸ Sat.below (h8.p3)⟩
  have f13 : (what == 13) = false := by simpa using h13
  have HX13 := Lib.hid h13
  clear h13
  have hoa : ∀ n, (A.watchF [a, b]).obj n = A.obj n := fun _ => rfl
  have ha1 := hoa a
  have hb1 := hoa b
  clear hoa
  generalize hA1 : A.watchF [a, b] = A1 at *
  have ht1A : A1.touched = false := by rw [← hA1]; rfl
  clear hA1
  generalize A.obj a = oa at *
  generalize A.obj b = ob at *
  obtain ⟨k1, c1, s1, t1, m1⟩ := oa
  obtain ⟨k2, c2, s2, t2, m2⟩ := ob
  obtain ⟨n1, hn1⟩ : ∃ n, n = s1.length := ⟨_, rfl⟩
  obtain ⟨n2, hn2⟩ : ∃ n, n = s2.length := ⟨_, rfl⟩
  have HO := Lib.hid (And.intro ha1 (And.intro hb1 (And.intro hn1 (And.intro hn2 ht1A))))
  clear ha1 hb1 hn1 hn2 ht1A
  go_wp2_with fail
  refine (x_Obj HW1.out.2.1 (by omega) h6 a HO.out.1 HO.out.2.2.1.symm).mono ?_
  rintro e w7 ⟨a1, d1, rfl, h7⟩
  clear h6
  go_wp2_with fail
  refine (x_Obj HW1.out.2.1 (by omega) h7.p2 b HO.out.2.1 HO.out.2.2.2.1.symm).mono ?_
  rintro e w8 ⟨a2, d2, rfl, h8⟩
  clear h7
  go_wp2_with fail
  have h9 := (h8.alloc (.cells #[.int .i64 k1, .int .i64 c1, .slice a1 n1 d1, .string t1, .int .i64 m1] 39 (0, 0))).alloc (.cells #[.int .i64 k2, .int .i64 c2, .slice a2 n2 d2, .string t2, .int .i64 m2] 39 (0, 0))
  rw [size_alloc] at h9
  generalize w8.heap.size = b8 at *
  clear h8 y0
  refine (x_Copy HW1.out.2.1 (by omega) h9.p4).mono ?_
  rintro e w9 ⟨qc, rfl, h10⟩
  clear h9
  go_wp2_with fail
  refine (x_Touched h10 (b := false) HO.out.2.2.2.2).mono ?_
  rintro e w10 ⟨rfl, h11⟩
  clear h10
  go_wp2_with fail
  obtain ⟨R8, hR8⟩ : ∃ R : HP, R = heapR mm qc A1 * (heapR mm p A1 * (pt (b8 + 1) (.cells #[.int .i64 k2, .int .i64 c2, .slice a2 n2 d2, .string t2, .int .i64 m2] 39 (0, 0)) * (pt b8 (.cells #[.int .i64 k1, .int .i64 c1, .slice a1 n1 d1, .string t1, .int .i64 m1] 39 (0, 0)) * (slc 28 2 a2 n2 d2 (avcells s2) * (slc 28 2 a1 n1 d1 (avcells s1) * R1))))) := ⟨_, rfl⟩
  have h12 : Sat w w10 (pt b4 (.cells #[.int .i64 what, .int .i64 xn, .int .i64 xi, .int .i64 vk, .int .i64 vn, .slice la xl.length lc, .string xtx] 100 (0, 0)) * (Old w * R8)) := h11.cast (by rw [hR8]; ac_rfl)
  have HR8 := Lib.hid hR8
  clear h11 hR8
  refine wp_gen fun a0 ha => ?_
  have hb0 : base a0 0 = .slice pa len0 cap0 := by rw [ha]; rfl
  have hb7 : base a0 7 = .int .i64 a := by rw [ha]; rfl
  have hb8 : base a0 8 = .int .i64 b := by rw [ha]; rfl
  have hb4' : base a0 4 = .pointer (some ⟨b4, 0, none⟩) := by rw [ha]; rfl
  have hsz0 : a0.tmps.size = 143 := by rw [ha]; rfl
  have HA0 := Lib.hid (And.intro hsz0 ha)
  clear ha hsz0
  refine GW.start (X := Option Addr × Nat) (w0 := w) (B := [pt b4 (.cells #[.int .i64 what, .int .i64 xn, .int .i64 xi, .int .i64 vk, .int .i64 vn, .slice la xl.length lc, .string xtx] 100 (0, 0)), Old w, R8]) (a0 := a0) ?_
  refine GW.new (d := (some 66)) 0 (fun x => .slice x.1 0 0) (fun x => ex fun q => wh (x.1 = some ⟨q, 0, none⟩) (pt q (.cells #[] 100 (0, 0)))) [] rfl rfl (fun e => by rfl) (fun e w' F K hs hK => ?_) ?_
  · go_simp; exact hK (some ⟨_, 0, none⟩, 0) _ (mkTwo ((hs.alloc (.cells #[] 100)).cast (mul_left_comm _ _ _)) rfl)
  refine GW.det (d := (some 67)) [] [] rfl (fun e => by rfl) ?_; apply Exists.intro; refine ⟨fun e w' F hs => ?_, ?_, ?_⟩
  · first | (go_simp; done) | (go_simp; rfl)
  · exact (fun _ _ _ => rfl)
  refine GW.det (d := (some 68)) [] [] rfl (fun e => by rfl) ?_; apply Exists.intro; refine ⟨fun e w' F hs => ?_, ?_, ?_⟩
  · first | (go_simp; done) | (go_simp; rfl)
  · exact (fun _ _ _ => rfl)
  refine GW.det (d := (some 69)) [] [] rfl (fun e => by rfl) ?_; apply Exists.intro; refine ⟨fun e w' F hs => ?_, ?_, ?_⟩
  · first | (go_simp; done) | (go_simp; rfl)
  · exact (fun _ _ _ => rfl)
  refine GW.det (d := (some 70)) [] [] rfl (fun e => by rfl) ?_; apply Exists.intro; refine ⟨fun e w' F hs => ?_, ?_, ?_⟩
  · first | (go_simp; done) | (go_simp; rfl)
  · exact (fun _ _ _ => rfl)
  refine GW.det (d := (some 71)) [] [] rfl (fun e => by rfl) ?_; apply Exists.intro; refine ⟨fun e w' F hs => ?_, ?_, ?_⟩
  · first | (go_simp; done) | (go_simp; rfl)
  · exact (fun _ _ _ => rfl)
  refine GW.take (d := (some 72)) 6 (fun e => .slice (e 6).1 tn (e 6).2) (fun e => slc 100 7 (e 6).1 tn (e 6).2 (racells (rs.take tn))) [1] [3] [6] rfl rfl (fun e => by rfl) (fun e e' hl => by simp only [hl 6 (by decide)]; exact ⟨trivial, trivial⟩) (fun e w' F K hs hK => ?_) ?_
  · obtain ⟨q, hs⟩ := Sat.elim_ex (show Sat w w' ((ex fun q => wh ((e 0).1 = some ⟨q, 0, none⟩) (pt q (.cells #[] 100 (0, 0)))) * (Old w * F)) from hs.cast (mul_left_comm _ _ _)); obtain ⟨hq, hs⟩ := hs.elim_wh; have hs := act_none hs; refine wp_look (d := 72) (sz := 143) rfl HA0.out.1 (by decide) (by rfl) fun a1 ha1 => ?_; refine cat_acts (sa := some ⟨q, 0, none⟩) (n := 0) (c := 0) (l := []) (r := rs.take tn) (CR := Old w) _ _ rfl ((ha1 _).trans (by rw [← hq]; rfl)) hs ((ha1 _).trans rfl) HT.out.1 HT.out.2.1 HT.out.2.2.2 (by omega) fun a' c'' w2 h2 => ⟨rfl, _, rfl, ?_⟩; rw [Nat.zero_add] at h2 ⊢; exact hK (a', c'') _ (h2.cast (mul_left_comm _ _ _))
  refine GW.det (d := (some 73)) [] [] rfl (fun e => by rfl) ?_; apply Exists.intro; refine ⟨fun e w' F hs => ?_, ?_, ?_⟩
  · first | (go_simp; done) | (go_simp; rfl)
  · exact (fun _ _ _ => rfl)
  refine GW.det (d := (some 74)) [] [] rfl (fun e => by rfl) ?_; apply Exists.intro; refine ⟨fun e w' F hs => ?_, ?_, ?_⟩
  · first | (go_simp; done) | (go_simp; rfl)
  · exact (fun _ _ _ => rfl)
  refine GW.det (d := (some 75)) [] [] rfl (fun e => by rfl) ?_; apply Exists.intro; refine ⟨fun e w' F hs => ?_, ?_, ?_⟩
  · first | (go_simp; done) | (go_simp; rfl)
  · exact (fun _ _ _ => rfl)
  refine GW.det (d := (some 76)) [0] [] rfl (fun e => by rfl) ?_; apply Exists.intro; refine ⟨fun e w' F hs => ?_, ?_, ?_⟩
  · have ⟨y0, y1, y2, y3, y4, y5, y6⟩ := actC (show Sat w w' (pt b4 (.cells #[.int .i64 what, .int .i64 xn, .int .i64 xi, .int .i64 vk, .int .i64 vn, .slice la xl.length lc, .string xtx] 100 (0, 0)) * F) from hs); first | (go_simp; done) | (go_simp; rfl)
  · exact (fun _ _ _ => rfl)
  refine GW.new (d := (some 77)) 11 (fun x => .slice x.1 2 2) (fun x => ex fun q => wh (x.1 = some ⟨q, 0, none⟩) (pt q (.cells #[.int .i64 13, .int .i64 a, .int .i64 b, .int .i64 0, .int .i64 0, .slice none 0 0, .string (ByteArray.mk #[]), .int .i64 what, .int .i64 xn, .int .i64 xi, .int .i64 vk, .int .i64 vn, .slice la xl.length lc, .string xtx] 100 (0, 0)))) [] rfl rfl (fun e => by rfl) (fun e w' F K hs hK => ?_) ?_
  · go_simp; exact hK (some ⟨_, 0, none⟩, 0) _ (mkTwo ((hs.alloc (.cells #[.int .i64 13, .int .i64 a, .int .i64 b, .int .i64 0, .int .i64 0, .slice none 0 0, .string (ByteArray.mk #[]), .int .i64 what, .int .i64 xn, .int .i64 xi, .int .i64 vk, .int .i64 vn, .slice la xl.length lc, .string xtx] 100 (0, 0))).cast (mul_left_comm _ _ _)) rfl)
  refine GW.take (d := (some 78)) 12 (fun e => .slice (e 12).1 (tn + 2) (e 12).2) (fun e => slc 100 7 (e 12).1 (tn + 2) (e 12).2 (racells (rs.take tn ++ [R13, RX]))) [14] [9] [12] rfl rfl (fun e => by rfl) (fun e e' hl => by simp only [hl 12 (by decide)]; exact ⟨trivial, trivial⟩) (fun e w' F K hs hK => ?_) ?_
  · obtain ⟨q, hs⟩ := Sat.elim_ex (show Sat w w' ((ex fun q => wh ((e 11).1 = some ⟨q, 0, none⟩) (pt q (.cells #[.int .i64 13, .int .i64 a, .int .i64 b, .int .i64 0, .int .i64 0, .slice none 0 0, .string (ByteArray.mk #[]), .int .i64 what, .int .i64 xn, .int .i64 xi, .int .i64 vk, .int .i64 vn, .slice la xl.length lc, .string xtx] 100 (0, 0)))) * (slc 100 7 (e 6).1 tn (e 6).2 (racells (rs.take tn)) * F)) from hs); obtain ⟨hq, hs⟩ := hs.elim_wh; refine wp_look (d := 78) (sz := 143) rfl HA0.out.1 (by decide) (by rfl) fun a1 ha1 => ?_; refine cat_acts (sa := (e 6).1) (n := tn) (c := (e 6).2) (l := rs.take tn) (r := [R13, RX]) (CR := pt q (.cells #[.int .i64 13, .int .i64 a, .int .i64 b, .int .i64 0, .int .i64 0, .slice none 0 0, .string (ByteArray.mk #[]), .int .i64 what, .int .i64 xn, .int .i64 xi, .int .i64 vk, .int .i64 vn, .slice la xl.length lc, .string xtx] 100 (0, 0))) _ _ rfl ((ha1 _).trans rfl) (hs.cast (mul_left_comm _ _ _)) ((ha1 _).trans (by rw [← hq]; rfl)) (argAt_two HT.out.2.2.1) (by rfl) (fun e => by cases e) (by omega) fun a' c'' w2 h2 => ⟨rfl, _, rfl, ?_⟩; exact hK (a', c'') _ ((mkTwo h2 hq).cast (mul_left_comm _ _ _))
  refine GW.det (d := (some 14)) [] [12] rfl (fun e => by rfl) ?_; apply Exists.intro; refine ⟨fun e w' F hs => ?_, ?_, ?_⟩
  · first | (go_simp; done) | (go_simp; rfl)
  · exact (fun e e' hl => by first | rfl | simp only [hl 12 (by decide)])
  refine GW.done (sz := 143) [0, 1, 2, 3 + 12] (by kernel_rfl) (by kernel_rfl) HA0.out.1 (by rfl) h12 (by rfl) fun e w11 gg => ?_
  have ha := HA0.out.2
  subst ha
  clear HA0 hb0 hb7 hb8 hb4' h12
  simp only [putL, Act.put, List.setIfInBounds_toArray, List.set_cons_zero, List.set_cons_succ]
  have g12 : Sat w w11 (pt b4 (.cells #[.int .i64 what, .int .i64 xn, .int .i64 xi, .int .i64 vk, .int .i64 vn, .slice la xl.length lc, .string xtx] 100 (0, 0)) * (Old w * (R8 * slc 100 7 (e 12).1 (tn + 2) (e 12).2 (racells (rs.take tn ++ [R13, RX]))))) := gg
  clear gg
  generalize e 12 = y12 at *
  generalize e 0 = y00
  generalize e 6 = y06
  generalize e 11 = y11
  clear e
  obtain ⟨ya, yc⟩ := y12
  dsimp only at g12 ⊢
  go_wp2_with fail
  refine (HP2.out w11 (pt b4 (.cells #[.int .i64 what, .int .i64 xn, .int .i64 xi, .int .i64 vk, .int .i64 vn, .slice la xl.length lc, .string xtx] 100 (0, 0)) * R8) ya yc (g12.cast (by ac_rfl))).mono ?_
  rintro e w12 ⟨p2, na2, nc2, mq, X3, -, rfl, g13⟩
  clear g12
  unfold actP at g13
  obtain ⟨R16, hR16⟩ : ∃ R : HP, R = pt b4 (.cells #[.int .i64 what, .int .i64 xn, .int .i64 xi, .int .i64 vk, .int .i64 vn, .slice la xl.length lc, .string xtx] 100 (0, 0)) * (heapR mm p A1 * (Old w * (X3 * (slc 3 1 na2 80 nc2 (net2.map ival) * (slc 100 7 ya (tn + 2) yc (racells (rs.take tn ++ [R13, RX])) * (heapR mm qc A1 * R1)))))) := ⟨_, rfl⟩
  have g14 : Sat w w12 (pt b8 (.cells #[.int .i64 k1, .int .i64 c1, .slice a1 n1 d1, .string t1, .int .i64 m1] 39 (0, 0)) * (pt (b8 + 1) (.cells #[.int .i64 k2, .int .i64 c2, .slice a2 n2 d2, .string t2, .int .i64 m2] 39 (0, 0)) * (slc 28 2 a1 n1 d1 (avcells s1) * (slc 28 2 a2 n2 d2 (avcells s2) * (heapR mq p2 B * R16))))) := g13.cast (by rw [HR8.out, hR16]; ac_rfl)
  have HR16 := Lib.hid hR16
  clear hR16 g13
  generalize hoB3 : B.obj a = o3 at *
  generalize hoB4 : B.obj b = o4 at *
  obtain ⟨k3, c3, s3, t3, m3⟩ := o3
  obtain ⟨k4, c4, s4, t4, m4⟩ := o4
  obtain ⟨n3, hn3⟩ : ∃ n, n = s3.length := ⟨_, rfl⟩
  obtain ⟨n4, hn4⟩ : ∃ n, n = s4.length := ⟨_, rfl⟩
  have hlens : n1 ≤ 100 ∧ n2 ≤ 100 ∧ n3 ≤ 100 ∧ n4 ≤ 100 := by
    have key : ∀ (Z : AHeap) (n : Int) (k c : Int) (s : List AVal) (t : ByteArray) (m : Int), HW Z 80 → Z.obj n = ⟨k, c, s, t, m⟩ → s.length ≤ 100 := fun Z n k c s t m H e => by
      unfold AHeap.obj at e
      cases ho : Z.objs n with
      | none => rw [ho] at e; have : s = [] := by have := congrArg AObj.slots e; simpa [AObj.none] using this.symm
                rw [this]; simp
      | some o => rw [ho] at e; have h1 := (H.c n o ho).2.2.1; have : o.slots = s := by have := congrArg AObj.slots e; simpa using this
                  rw [this] at h1; omega
    exact ⟨by rw [HO.out.2.2.1]; exact key _ _ _ _ _ _ _ HW1.out.2.1 HO.out.1, by rw [HO.out.2.2.2.1]; exact key _ _ _ _ _ _ _ HW1.out.2.1 HO.out.2.1, by rw [hn3]; exact key _ _ _ _ _ _ _ HW1.out.2.2.1 hoB3, by rw [hn4]; exact key _ _ _ _ _ _ _ HW1.out.2.2.1 hoB4⟩
  have HQ := Lib.hid (And.intro hoB3 (And.intro hoB4 (And.intro hn3 (And.intro hn4 hlens))))
  clear hoB3 hoB4 hn3 hn4 hlens
  go_wp2_with fail
  have hcs : (AlikeO ⟨k1, c1, s1, t1, m1⟩ ⟨k3, c3, s3, t3, m3⟩ ∧ AlikeO ⟨k2, c2, s2, t2, m2⟩ ⟨k4, c4, s4, t4, m4⟩) ∨ (AlikeO ⟨k1, c1, s1, t1, m1⟩ ⟨k3, c3, s3, t3, m3⟩ ∧ ¬ AlikeO ⟨k2, c2, s2, t2, m2⟩ ⟨k4, c4, s4, t4, m4⟩) ∨ ¬ AlikeO ⟨k1, c1, s1, t1, m1⟩ ⟨k3, c3, s3, t3, m3⟩ := by
    by_cases e1 : AlikeO ⟨k1, c1, s1, t1, m1⟩ ⟨k3, c3, s3, t3, m3⟩
    · by_cases e2 : AlikeO ⟨k2, c2, s2, t2, m2⟩ ⟨k4, c4, s4, t4, m4⟩
      · exact .inl ⟨e1, e2⟩
      · exact .inr (.inl ⟨e1, e2⟩)
    · exact .inr (.inr e1)
  refine wp_gen fun a0 ha => ?_
  have hb7 : base a0 7 = .int .i64 a := by rw [ha]; rfl
  have hb8 : base a0 8 = .int .i64 b := by rw [ha]; rfl
  have hb11 : base a0 11 = .pointer (some ⟨b8, 0, none⟩) := by rw [ha]; rfl
  have hb12 : base a0 12 = .pointer (some ⟨b8 + 1, 0, none⟩) := by rw [ha]; rfl
  have hb15 : base a0 15 = .pointer (some ⟨p2, 0, none⟩) := by rw [ha]; rfl
  have hsz0 : a0.tmps.size = 143 := by rw [ha]; rfl
  have HA0 := Lib.hid (And.intro hsz0 ha)
  clear ha hsz0
  rcases hcs with ⟨hpA, hpB⟩ | ⟨hpA, hpB⟩ | hpA
  · refine GW.start (X := Option Addr × Nat) (w0 := w) (B := [pt b8 (.cells #[.int .i64 k1, .int .i64 c1, .slice a1 n1 d1, .string t1, .int .i64 m1] 39 (0, 0)), pt (b8 + 1) (.cells #[.int .i64 k2, .int .i64 c2, .slice a2 n2 d2, .string t2, .int .i64 m2] 39 (0, 0)), slc 28 2 a1 n1 d1 (avcells s1), slc 28 2 a2 n2 d2 (avcells s2), heapR mq p2 B, R16]) (a0 := a0) ?_
    refine GW.det (d := (some 86)) [0] [] rfl (fun e => by rfl) ?_; apply Exists.intro; refine ⟨fun e w' F hs => ?_, ?_, ?_⟩
    · have ⟨y0, y1, y2, y3, y4⟩ := obox5 (show Sat w w' (pt b8 (.cells #[.int .i64 k1, .int .i64 c1, .slice a1 n1 d1, .string t1, .int .i64 m1] 39 (0, 0)) * F) from hs); first | (go_simp; done) | (go_simp; rfl)
    · exact (fun _ _ _ => rfl)
    refine GW.det (d := (some 87)) [] [] rfl (fun e => by rfl) ?_; apply Exists.intro; refine ⟨fun e w' F hs => ?_, ?_, ?_⟩
    · first | (go_simp; done) | (go_simp; rfl)
    · exact (fun _ _ _ => rfl)
    refine GW.det (d := (some 88)) [] [] rfl (fun e => by rfl) ?_; apply Exists.intro; refine ⟨fun e w' F hs => ?_, ?_, ?_⟩
    · first | (go_simp; done) | (go_simp; rfl)
    · exact (fun _ _ _ => rfl)
    refine GW.new (d := (some 89)) 3 (fun x => .agg #[.int .i64 k3, .int .i64 c3, .slice x.1 n3 x.2, .string t3, .int .i64 m3]) (fun x => slc 28 2 x.1 n3 x.2 (avcells s3)) [4] rfl rfl (fun e => by rfl) (fun e w' F K hs hK => ?_) ?_
    · go_simp; go_at_call 23; refine (x_Obj HW1.out.2.2.1 (by omega) (show Sat w w' (heapR mq p2 B * F) from hs) a HQ.out.1 HQ.out.2.2.1.symm).mono ?_; rintro e1 w1 ⟨oa, oc, rfl, hv⟩; exact ⟨_, rfl, hK (oa, oc) _ (hv.cast (mul_left_comm _ _ _))⟩
    refine GW.keep (d := (some 90)) (fun e => .bool true) [2, 9] [] rfl (fun e => by rfl) (fun _ _ _ => rfl) (fun e w' F K hs hK => ?_) ?_
    · go_simp; go_at_call 50; have hs := show Sat w w' (slc 28 2 a1 n1 d1 (avcells s1) * (slc 28 2 (e 3).1 n3 (e 3).2 (avcells s3) * F)) from hs.cast (mul_assoc _ _ _); refine (law_alike hs HO.out.2.2.1.symm HQ.out.2.2.1.symm (Nat.le_trans HQ.out.2.2.2.2.1 (by decide)) (Nat.le_trans HQ.out.2.2.2.2.2.2.1 (by decide))).mono ?_; rintro e1 w1 ⟨rfl, hv⟩; refine ⟨_, rfl, ?_⟩; rw [decide_eq_true hpA]; exact hK _ (hv.cast (mul_assoc _ _ _).symm)
    refine GW.det (d := (some 91)) [] [] rfl (fun e => by rfl) ?_; apply Exists.intro; refine ⟨fun e w' F hs => ?_, ?_, ?_⟩
    · first | (go_simp; done) | (go_simp; rfl)
    · exact (fun _ _ _ => rfl)
    refine GW.det (d := (some 92)) [1] [] rfl (fun e => by rfl) ?_; apply Exists.intro; refine ⟨fun e w' F hs => ?_, ?_, ?_⟩
    · have ⟨y0, y1, y2, y3, y4⟩ := obox5 (show Sat w w' (pt (b8 + 1) (.cells #[.int .i64 k2, .int .i64 c2, .slice a2 n2 d2, .string t2, .int .i64 m2] 39 (0, 0)) * F) from hs); first | (go_simp; done) | (go_simp; rfl)
    · exact (fun _ _ _ => rfl)
    refine GW.det (d := (some 93)) [] [] rfl (fun e => by rfl) ?_; apply Exists.intro; refine ⟨fun e w' F hs => ?_, ?_, ?_⟩
    · first | (go_simp; done) | (go_simp; rfl)
    · exact (fun _ _ _ => rfl)
    refine GW.det (d := (some 94)) [] [] rfl (fun e => by rfl) ?_; apply Exists.intro; refine ⟨fun e w' F hs => ?_, ?_, ?_⟩
    · first | (go_simp; done) | (go_simp; rfl)
    · exact (fun _ _ _ => rfl)
    refine GW.new (d := (some 95)) 9 (fun x => .agg #[.int .i64 k4, .int .i64 c4, .slice x.1 n4 x.2, .string t4, .int .i64 m4]) (fun x => slc 28 2 x.1 n4 x.2 (avcells s4)) [4] rfl rfl (fun e => by rfl) (fun e w' F K hs hK => ?_) ?_
    · go_simp; go_at_call 23; refine (x_Obj HW1.out.2.2.1 (by omega) (show Sat w w' (heapR mq p2 B * F) from hs) b HQ.out.2.1 HQ.out.2.2.2.1.symm).mono ?_; rintro e1 w1 ⟨oa, oc, rfl, hv⟩; exact ⟨_, rfl, hK (oa, oc) _ (hv.cast (mul_left_comm _ _ _))⟩
    refine GW.keep (d := (some 96)) (fun e => .bool true) [3, 15] [] rfl (fun e => by rfl) (fun _ _ _ => rfl) (fun e w' F K hs hK => ?_) ?_
    · go_simp; go_at_call 50; have hs := show Sat w w' (slc 28 2 a2 n2 d2 (avcells s2) * (slc 28 2 (e 9).1 n4 (e 9).2 (avcells s4) * F)) from hs.cast (mul_assoc _ _ _); refine (law_alike hs HO.out.2.2.2.1.symm HQ.out.2.2.2.1.symm (Nat.le_trans HQ.out.2.2.2.2.2.1 (by decide)) (Nat.le_trans HQ.out.2.2.2.2.2.2.2 (by decide))).mono ?_; rintro e1 w1 ⟨rfl, hv⟩; refine ⟨_, rfl, ?_⟩; rw [decide_eq_true hpB]; exact hK _ (hv.cast (mul_assoc _ _ _).symm)
    refine GW.det (d := (some 97)) [] [] rfl (fun e => by rfl) ?_; apply Exists.intro; refine ⟨fun e w' F hs => ?_, ?_, ?_⟩
    · first | (go_simp; done) | (go_simp; rfl)
    · exact (fun _ _ _ => rfl)
    refine GW.det (d := (some 17)) [] [] rfl (fun e => by rfl) ?_; apply Exists.intro; refine ⟨fun e w' F hs => ?_, ?_, ?_⟩
    · first | (go_simp; done) | (go_simp; rfl)
    · exact (fun _ _ _ => rfl)
    refine GW.done (sz := 143) [0, 1, 2, 3, 4, 5] (by kernel_rfl) (by kernel_rfl) HA0.out.1 (by rfl) g14 (by rfl) fun e w13 gg => ?_
    have ha := HA0.out.2
    subst ha
    clear HA0 hb7 hb8 hb11 hb12 hb15 g14
    simp only [putL, Act.put, List.setIfInBounds_toArray, List.set_cons_zero, List.set_cons_succ]
    have g15 : Sat w w13 (heapR mq p2 B * (pt b4 (.cells #[.int .i64 what, .int .i64 xn, .int .i64 xi, .int .i64 vk, .int .i64 vn, .slice la xl.length lc, .string xtx] 100 (0, 0)) * (heapR mm p A1 * (Old w * (X3 * (slc 3 1 na2 80 nc2 (net2.map ival) * (slc 100 7 ya (tn + 2) yc (racells (rs.take tn ++ [R13, RX])) * (heapR mm qc A1 * (R1 * (pt b8 (.cells #[.int .i64 k1, .int .i64 c1, .slice a1 n1 d1, .string t1, .int .i64 m1] 39 (0, 0)) * (pt (b8 + 1) (.cells #[.int .i64 k2, .int .i64 c2, .slice a2 n2 d2, .string t2, .int .i64 m2] 39 (0, 0)) * (slc 28 2 a1 n1 d1 (avcells s1) * slc 28 2 a2 n2 d2 (avcells s2))))))))))))) := Sat.cast (show Sat w w13 (pt b8 (.cells #[.int .i64 k1, .int .i64 c1, .slice a1 n1 d1, .string t1, .int .i64 m1] 39 (0, 0)) * (pt (b8 + 1) (.cells #[.int .i64 k2, .int .i64 c2, .slice a2 n2 d2, .string t2, .int .i64 m2] 39 (0, 0)) * (slc 28 2 a1 n1 d1 (avcells s1) * (slc 28 2 a2 n2 d2 (avcells s2) * (heapR mq p2 B * R16))))) from gg) (by rw [HR16.out]; ac_rfl)
    clear gg
    generalize e 3 = z3
    generalize e 9 = z9
    clear e
    have y0 := (actC g15.p2).1
    have hwh : what = 0 ∨ what = 1 ∨ 14 ≤ what ∨ what < 0 ∨ (2 ≤ what ∧ what < 14) := by omega
    rcases hwh with rfl | rfl | hwh | hwh | hwh
    · go_wp2_with fail
      refine (x_Touched g15 (b := false) (HW1.out.2.2.2.2 (by simp))).mono ?_
      rintro e w14 ⟨rfl, g16⟩
      go_wp2_with fail
      refine (law_works13 g16).mono ?_
      rintro e w16 ⟨rfl, g18⟩
      go_wp2_with fail
      go_ret
      exact ⟨rfl, hb4 ▸ Sat.below (g18.p4)⟩
    · go_wp2_with fail
      refine (x_Touched g15 (b := false) (HW1.out.2.2.2.2 (by simp))).mono ?_
      rintro e w14 ⟨rfl, g16⟩
      go_wp2_with fail
      refine (law_works13 g16).mono ?_
      rintro e w16 ⟨rfl, g18⟩
      go_wp2_with fail
      go_ret
      exact ⟨rfl, hb4 ▸ Sat.below (g18.p4)⟩
    · have f14 : decide (what < 14) = false := by simp; omega
      have f0 : (what == 0) = false := by simp; omega
      have f1 : (what == 1) = false := by simp; omega
      clear hwh
      go_wp2_with fail
      refine (x_Touched (g15).p3 (b := false) HO.out.2.2.2.2).mono ?_
      rintro e w15 ⟨rfl, g17⟩
      go_wp2_with fail
      refine (law_works13 g17).mono ?_
      rintro e w16 ⟨rfl, g18⟩
      go_wp2_with fail
      go_ret
      exact ⟨rfl, hb4 ▸ Sat.below (g18.p4)⟩
    · have f14 : decide (what < 14) = true := by simp; omega
      have fge : decide (0 ≤ what) = false := by simp; omega
      have f0 : (what == 0) = false := by simp; omega
      have f1 : (what == 1) = false := by simp; omega
      clear hwh
      go_wp2_with fail
      refine (x_Touched (g15).p3 (b := false) HO.out.2.2.2.2).mono ?_
      rintro e w15 ⟨rfl, g17⟩
      go_wp2_with fail
      refine (law_works13 g17).mono ?_
      rintro e w16 ⟨rfl, g18⟩
      go_wp2_with fail
      go_ret
      exact ⟨rfl, hb4 ▸ Sat.below (g18.p4)⟩
    · have f14 : decide (what < 14) = true := by simp; omega
      have fge : decide (0 ≤ what) = true := by simp; omega
      have f0 : (what == 0) = false := by simp; omega
      have f1 : (what == 1) = false := by simp; omega
      have htb := (HW1.out.2.2.2.1 (by omega) HX13.out).2 (by omega) hpA hpB
      have HQT := Lib.hid htb
      clear htb hwh
      go_wp2_with fail
      refine (x_Touched g15 (b := false) HQT.out).mono ?_
      rintro e w14 ⟨rfl, g16⟩
      go_wp2_with fail
      refine (x_Touched (g16).p3 (b := false) HO.out.2.2.2.2).mono ?_
      rintro e w15 ⟨rfl, g17⟩
      go_wp2_with fail
      refine (law_works13 g17).mono ?_
      rintro e w16 ⟨rfl, g18⟩
      go_wp2_with fail
      go_ret
      exact ⟨rfl, hb4 ▸ Sat.below (g18.p4)⟩
  · refine GW.start (X := Option Addr × Nat) (w0 := w) (B := [pt b8 (.cells #[.int .i64 k1, .int .i64 c1, .slice a1 n1 d1, .string t1, .int .i64 m1] 39 (0, 0)), pt (b8 + 1) (.cells #[.int .i64 k2, .int .i64 c2, .slice a2 n2 d2, .string t2, .int .i64 m2] 39 (0, 0)), slc 28 2 a1 n1 d1 (avcells s1), slc 28 2 a2 n2 d2 (avcells s2), heapR mq p2 B, R16]) (a0 := a0) ?_
    refine GW.det (d := (some 86)) [0] [] rfl (fun e => by rfl) ?_; apply Exists.intro; refine ⟨fun e w' F hs => ?_, ?_, ?_⟩
    · have ⟨y0, y1, y2, y3, y4⟩ := obox5 (show Sat w w' (pt b8 (.cells #[.int .i64 k1, .int .i64 c1, .slice a1 n1 d1, .string t1, .int .i64 m1] 39 (0, 0)) * F) from hs); first | (go_simp; done) | (go_simp; rfl)
    · exact (fun _ _ _ => rfl)
    refine GW.det (d := (some 87)) [] [] rfl (fun e => by rfl) ?_; apply Exists.intro; refine ⟨fun e w' F hs => ?_, ?_, ?_⟩
    · first | (go_simp; done) | (go_simp; rfl)
    · exact (fun _ _ _ => rfl)
    refine GW.det (d := (some 88)) [] [] rfl (fun e => by rfl) ?_; apply Exists.intro; refine ⟨fun e w' F hs => ?_, ?_, ?_⟩
    · first | (go_simp; done) | (go_simp; rfl)
    · exact (fun _ _ _ => rfl)
    refine GW.new (d := (some 89)) 3 (fun x => .agg #[.int .i64 k3, .int .i64 c3, .slice x.1 n3 x.2, .string t3, .int .i64 m3]) (fun x => slc 28 2 x.1 n3 x.2 (avcells s3)) [4] rfl rfl (fun e => by rfl) (fun e w' F K hs hK => ?_) ?_
    · go_simp; go_at_call 23; refine (x_Obj HW1.out.2.2.1 (by omega) (show Sat w w' (heapR mq p2 B * F) from hs) a HQ.out.1 HQ.out.2.2.1.symm).mono ?_; rintro e1 w1 ⟨oa, oc, rfl, hv⟩; exact ⟨_, rfl, hK (oa, oc) _ (hv.cast (mul_left_comm _ _ _))⟩
    refine GW.keep (d := (some 90)) (fun e => .bool true) [2, 9] [] rfl (fun e => by rfl) (fun _ _ _ => rfl) (fun e w' F K hs hK => ?_) ?_
    · go_simp; go_at_call 50; have hs := show Sat w w' (slc 28 2 a1 n1 d1 (avcells s1) * (slc 28 2 (e 3).1 n3 (e 3).2 (avcells s3) * F)) from hs.cast (mul_assoc _ _ _); refine (law_alike hs HO.out.2.2.1.symm HQ.out.2.2.1.symm (Nat.le_trans HQ.out.2.2.2.2.1 (by decide)) (Nat.le_trans HQ.out.2.2.2.2.2.2.1 (by decide))).mono ?_; rintro e1 w1 ⟨rfl, hv⟩; refine ⟨_, rfl, ?_⟩; rw [decide_eq_true hpA]; exact hK _ (hv.cast (mul_assoc _ _ _).symm)
    refine GW.det (d := (some 91)) [] [] rfl (fun e => by rfl) ?_; apply Exists.intro; refine ⟨fun e w' F hs => ?_, ?_, ?_⟩
    · first | (go_simp; done) | (go_simp; rfl)
    · exact (fun _ _ _ => rfl)
    refine GW.det (d := (some 92)) [1] [] rfl (fun e => by rfl) ?_; apply Exists.intro; refine ⟨fun e w' F hs => ?_, ?_, ?_⟩
    · have ⟨y0, y1, y2, y3, y4⟩ := obox5 (show Sat w w' (pt (b8 + 1) (.cells #[.int .i64 k2, .int .i64 c2, .slice a2 n2 d2, .string t2, .int .i64 m2] 39 (0, 0)) * F) from hs); first | (go_simp; done) | (go_simp; rfl)
    · exact (fun _ _ _ => rfl)
    refine GW.det (d := (some 93)) [] [] rfl (fun e => by rfl) ?_; apply Exists.intro; refine ⟨fun e w' F hs => ?_, ?_, ?_⟩
    · first | (go_simp; done) | (go_simp; rfl)
    · exact (fun _ _ _ => rfl)
    refine GW.det (d := (some 94)) [] [] rfl (fun e => by rfl) ?_; apply Exists.intro; refine ⟨fun e w' F hs => ?_, ?_, ?_⟩
    · first | (go_simp; done) | (go_simp; rfl)
    · exact (fun _ _ _ => rfl)
    refine GW.new (d := (some 95)) 9 (fun x => .agg #[.int .i64 k4, .int .i64 c4, .slice x.1 n4 x.2, .string t4, .int .i64 m4]) (fun x => slc 28 2 x.1 n4 x.2 (avcells s4)) [4] rfl rfl (fun e => by rfl) (fun e w' F K hs hK => ?_) ?_
    · go_simp; go_at_call 23; refine (x_Obj HW1.out.2.2.1 (by omega) (show Sat w w' (heapR mq p2 B * F) from hs) b HQ.out.2.1 HQ.out.2.2.2.1.symm).mono ?_; rintro e1 w1 ⟨oa, oc, rfl, hv⟩; exact ⟨_, rfl, hK (oa, oc) _ (hv.cast (mul_left_comm _ _ _))⟩
    refine GW.keep (d := (some 96)) (fun e => .bool false) [3, 15] [] rfl (fun e => by rfl) (fun _ _ _ => rfl) (fun e w' F K hs hK => ?_) ?_
    · go_simp; go_at_call 50; have hs := show Sat w w' (slc 28 2 a2 n2 d2 (avcells s2) * (slc 28 2 (e 9).1 n4 (e 9).2 (avcells s4) * F)) from hs.cast (mul_assoc _ _ _); refine (law_alike hs HO.out.2.2.2.1.symm HQ.out.2.2.2.1.symm (Nat.le_trans HQ.out.2.2.2.2.2.1 (by decide)) (Nat.le_trans HQ.out.2.2.2.2.2.2.2 (by decide))).mono ?_; rintro e1 w1 ⟨rfl, hv⟩; refine ⟨_, rfl, ?_⟩; rw [decide_eq_false hpB]; exact hK _ (hv.cast (mul_assoc _ _ _).symm)
    refine GW.det (d := (some 97)) [] [] rfl (fun e => by rfl) ?_; apply Exists.intro; refine ⟨fun e w' F hs => ?_, ?_, ?_⟩
    · first | (go_simp; done) | (go_simp; rfl)
    · exact (fun _ _ _ => rfl)
    refine GW.det (d := (some 17)) [] [] rfl (fun e => by rfl) ?_; apply Exists.intro; refine ⟨fun e w' F hs => ?_, ?_, ?_⟩
    · first | (go_simp; done) | (go_simp; rfl)
    · exact (fun _ _ _ => rfl)
    refine GW.done (sz := 143) [0, 1, 2, 3, 4, 5] (by kernel_rfl) (by kernel_rfl) HA0.out.1 (by rfl) g14 (by rfl) fun e w13 gg => ?_
    have ha := HA0.out.2
    subst ha
    clear HA0 hb7 hb8 hb11 hb12 hb15 g14
    simp only [putL, Act.put, List.setIfInBounds_toArray, List.set_cons_zero, List.set_cons_succ]
    have g15 : Sat w w13 (heapR mq p2 B * (pt b4 (.cells #[.int .i64 what, .int .i64 xn, .int .i64 xi, .int .i64 vk, .int .i64 vn, .slice la xl.length lc, .string xtx] 100 (0, 0)) * (heapR mm p A1 * (Old w * (X3 * (slc 3 1 na2 80 nc2 (net2.map ival) * (slc 100 7 ya (tn + 2) yc (racells (rs.take tn ++ [R13, RX])) * (heapR mm qc A1 * (R1 * (pt b8 (.cells #[.int .i64 k1, .int .i64 c1, .slice a1 n1 d1, .string t1, .int .i64 m1] 39 (0, 0)) * (pt (b8 + 1) (.cells #[.int .i64 k2, .int .i64 c2, .slice a2 n2 d2, .string t2, .int .i64 m2] 39 (0, 0)) * (slc 28 2 a1 n1 d1 (avcells s1) * slc 28 2 a2 n2 d2 (avcells s2))))))))))))) := Sat.cast (show Sat w w13 (pt b8 (.cells #[.int .i64 k1, .int .i64 c1, .slice a1 n1 d1, .string t1, .int .i64 m1] 39 (0, 0)) * (pt (b8 + 1) (.cells #[.int .i64 k2, .int .i64 c2, .slice a2 n2 d2, .string t2, .int .i64 m2] 39 (0, 0)) * (slc 28 2 a1 n1 d1 (avcells s1) * (slc 28 2 a2 n2 d2 (avcells s2) * (heapR mq p2 B * R16))))) from gg) (by rw [HR16.out]; ac_rfl)
    clear gg
    generalize e 3 = z3
    generalize e 9 = z9
    clear e
    have y0 := (actC g15.p2).1
    have hwh : what = 0 ∨ what = 1 ∨ 14 ≤ what ∨ what < 0 ∨ (2 ≤ what ∧ what < 14) := by omega
    rcases hwh with rfl | rfl | hwh | hwh | hwh
    · go_wp2_with fail
      refine (x_Touched g15 (b := false) (HW1.out.2.2.2.2 (by simp))).mono ?_
      rintro e w14 ⟨rfl, g16⟩
      go_wp2_with fail
      refine (law_works13 g16).mono ?_
      rintro e w16 ⟨rfl, g18⟩
      go_wp2_with fail
      go_ret
      exact ⟨rfl, hb4 ▸ Sat.below (g18.p4)⟩
    · go_wp2_with fail
      refine (x_Touched g15 (b := false) (HW1.out.2.2.2.2 (by simp))).mono ?_
      rintro e w14 ⟨rfl, g16⟩
      go_wp2_with fail
      refine (law_works13 g16).mono ?_
      rintro e w16 ⟨rfl, g18⟩
      go_wp2_with fail
      go_ret
      exact ⟨rfl, hb4 ▸ Sat.below (g18.p4)⟩
    · have f14 : decide (what < 14) = false := by simp; omega
      have f0 : (what == 0) = false := by simp; omega
      have f1 : (what == 1) = false := by simp; omega
      have htb := (HW1.out.2.2.2.1 (by omega) HX13.out).1.resolve_left (fun q => hpB q.2)
      have HQT := Lib.hid htb
      clear htb hwh
      go_wp2_with fail
      refine (x_Touched g15 (b := true) HQT.out).mono ?_
      rintro e w14 ⟨rfl, g16⟩
      go_wp2_with fail
      refine (x_Touched (g16).p3 (b := false) HO.out.2.2.2.2).mono ?_
      rintro e w15 ⟨rfl, g17⟩
      go_wp2_with fail
      refine (law_works13 g17).mono ?_
      rintro e w16 ⟨rfl, g18⟩
      go_wp2_with fail
      go_ret
      exact ⟨rfl, hb4 ▸ Sat.below (g18.p4)⟩
    · have f14 : decide (what < 14) = true := by simp; omega
      have fge : decide (0 ≤ what) = false := by simp; omega
      have f0 : (what == 0) = false := by simp; omega
      have f1 : (what == 1) = false := by simp; omega
      have htb := (HW1.out.2.2.2.1 (by omega) HX13.out).1.resolve_left (fun q => hpB q.2)
      have HQT := Lib.hid htb
      clear htb hwh
      go_wp2_with fail
      refine (x_Touched g15 (b := true) HQT.out).mono ?_
      rintro e w14 ⟨rfl, g16⟩
      go_wp2_with fail
      refine (x_Touched (g16).p3 (b := false) HO.out.2.2.2.2).mono ?_
      rintro e w15 ⟨rfl, g17⟩
      go_wp2_with fail
      refine (law_works13 g17).mono ?_
      rintro e w16 ⟨rfl, g18⟩
      go_wp2_with fail
      go_ret
      exact ⟨rfl, hb4 ▸ Sat.below (g18.p4)⟩
    · have f14 : decide (what < 14) = true := by simp; omega
      have fge : decide (0 ≤ what) = true := by simp; omega
      have f0 : (what == 0) = false := by simp; omega
      have f1 : (what == 1) = false := by simp; omega
      have htb := (HW1.out.2.2.2.1 (by omega) HX13.out).1.resolve_left (fun q => hpB q.2)
      have HQT := Lib.hid htb
      clear htb hwh
      go_wp2_with fail
      refine (x_Touched g15 (b := true) HQT.out).mono ?_
      rintro e w14 ⟨rfl, g16⟩
      go_wp2_with fail
      refine (x_Touched (g16).p3 (b := false) HO.out.2.2.2.2).mono ?_
      rintro e w15 ⟨rfl, g17⟩
      go_wp2_with fail
      refine (law_works13 g17).mono ?_
      rintro e w16 ⟨rfl, g18⟩
      go_wp2_with fail
      go_ret
      exact ⟨rfl, hb4 ▸ Sat.below (g18.p4)⟩
  · refine GW.start (X := Option Addr × Nat) (w0 := w) (B := [pt b8 (.cells #[.int .i64 k1, .int .i64 c1, .slice a1 n1 d1, .string t1, .int .i64 m1] 39 (0, 0)), pt (b8 + 1) (.cells #[.int .i64 k2, .int .i64 c2, .slice a2 n2 d2, .string t2, .int .i64 m2] 39 (0, 0)), slc 28 2 a1 n1 d1 (avcells s1), slc 28 2 a2 n2 d2 (avcells s2), heapR mq p2 B, R16]) (a0 := a0) ?_
    refine GW.det (d := (some 86)) [0] [] rfl (fun e => by rfl) ?_; apply Exists.intro; refine ⟨fun e w' F hs => ?_, ?_, ?_⟩
    · have ⟨y0, y1, y2, y3, y4⟩ := obox5 (show Sat w w' (pt b8 (.cells #[.int .i64 k1, .int .i64 c1, .slice a1 n1 d1, .string t1, .int .i64 m1] 39 (0, 0)) * F) from hs); first | (go_simp; done) | (go_simp; rfl)
    · exact (fun _ _ _ => rfl)
    refine GW.det (d := (some 87)) [] [] rfl (fun e => by rfl) ?_; apply Exists.intro; refine ⟨fun e w' F hs => ?_, ?_, ?_⟩
    · first | (go_simp; done) | (go_simp; rfl)
    · exact (fun _ _ _ => rfl)
    refine GW.det (d := (some 88)) [] [] rfl (fun e => by rfl) ?_; apply Exists.intro; refine ⟨fun e w' F hs => ?_, ?_, ?_⟩
    · first | (go_simp; done) | (go_simp; rfl)
    · exact (fun _ _ _ => rfl)
    refine GW.new (d := (some 89)) 3 (fun x => .agg #[.int .i64 k3, .int .i64 c3, .slice x.1 n3 x.2, .string t3, .int .i64 m3]) (fun x => slc 28 2 x.1 n3 x.2 (avcells s3)) [4] rfl rfl (fun e => by rfl) (fun e w' F K hs hK => ?_) ?_
    · go_simp; go_at_call 23; refine (x_Obj HW1.out.2.2.1 (by omega) (show Sat w w' (heapR mq p2 B * F) from hs) a HQ.out.1 HQ.out.2.2.1.symm).mono ?_; rintro e1 w1 ⟨oa, oc, rfl, hv⟩; exact ⟨_, rfl, hK (oa, oc) _ (hv.cast (mul_left_comm _ _ _))⟩
    refine GW.keep (d := (some 90)) (fun e => .bool false) [2, 9] [] rfl (fun e => by rfl) (fun _ _ _ => rfl) (fun e w' F K hs hK => ?_) ?_
    · go_simp; go_at_call 50; have hs := show Sat w w' (slc 28 2 a1 n1 d1 (avcells s1) * (slc 28 2 (e 3).1 n3 (e 3).2 (avcells s3) * F)) from hs.cast (mul_assoc _ _ _); refine (law_alike hs HO.out.2.2.1.symm HQ.out.2.2.1.symm (Nat.le_trans HQ.out.2.2.2.2.1 (by decide)) (Nat.le_trans HQ.out.2.2.2.2.2.2.1 (by decide))).mono ?_; rintro e1 w1 ⟨rfl, hv⟩; refine ⟨_, rfl, ?_⟩; rw [decide_eq_false hpA]; exact hK _ (hv.cast (mul_assoc _ _ _).symm)
    refine GW.det (d := (some 91)) [] [] rfl (fun e => by rfl) ?_; apply Exists.intro; refine ⟨fun e w' F hs => ?_, ?_, ?_⟩
    · first | (go_simp; done) | (go_simp; rfl)
    · exact (fun _ _ _ => rfl)
    refine GW.skip (d := (some 92)) rfl (fun e => by rfl) ?_
    refine GW.skip (d := (some 93)) rfl (fun e => by rfl) ?_
    refine GW.skip (d := (some 94)) rfl (fun e => by rfl) ?_
    refine GW.skip (d := (some 95)) rfl (fun e => by rfl) ?_
    refine GW.skip (d := (some 96)) rfl (fun e => by rfl) ?_
    refine GW.det (d := (some 97)) [] [] rfl (fun e => by rfl) ?_; apply Exists.intro; refine ⟨fun e w' F hs => ?_, ?_, ?_⟩
    · first | (go_simp; done) | (go_simp; rfl)
    · exact (fun _ _ _ => rfl)
    refine GW.det (d := (some 17)) [] [] rfl (fun e => by rfl) ?_; apply Exists.intro; refine ⟨fun e w' F hs => ?_, ?_, ?_⟩
    · first | (go_simp; done) | (go_simp; rfl)
    · exact (fun _ _ _ => rfl)
    refine GW.done (sz := 143) [0, 1, 2, 3, 4, 5] (by kernel_rfl) (by kernel_rfl) HA0.out.1 (by rfl) g14 (by rfl) fun e w13 gg => ?_
    have ha := HA0.out.2
    subst ha
    clear HA0 hb7 hb8 hb11 hb12 hb15 g14
    simp only [putL, Act.put, List.setIfInBounds_toArray, List.set_cons_zero, List.set_cons_succ]
    have g15 : Sat w w13 (heapR mq p2 B * (pt b4 (.cells #[.int .i64 what, .int .i64 xn, .int .i64 xi, .int .i64 vk, .int .i64 vn, .slice la xl.length lc, .string xtx] 100 (0, 0)) * (heapR mm p A1 * (Old w * (X3 * (slc 3 1 na2 80 nc2 (net2.map ival) * (slc 100 7 ya (tn + 2) yc (racells (rs.take tn ++ [R13, RX])) * (heapR mm qc A1 * (R1 * (pt b8 (.cells #[.int .i64 k1, .int .i64 c1, .slice a1 n1 d1, .string t1, .int .i64 m1] 39 (0, 0)) * (pt (b8 + 1) (.cells #[.int .i64 k2, .int .i64 c2, .slice a2 n2 d2, .string t2, .int .i64 m2] 39 (0, 0)) * (slc 28 2 a1 n1 d1 (avcells s1) * slc 28 2 a2 n2 d2 (avcells s2))))))))))))) := Sat.cast (show Sat w w13 (pt b8 (.cells #[.int .i64 k1, .int .i64 c1, .slice a1 n1 d1, .string t1, .int .i64 m1] 39 (0, 0)) * (pt (b8 + 1) (.cells #[.int .i64 k2, .int .i64 c2, .slice a2 n2 d2, .string t2, .int .i64 m2] 39 (0, 0)) * (slc 28 2 a1 n1 d1 (avcells s1) * (slc 28 2 a2 n2 d2 (avcells s2) * (heapR mq p2 B * R16))))) from gg) (by rw [HR16.out]; ac_rfl)
    clear gg
    generalize e 3 = z3
    clear e
    have y0 := (actC g15.p2).1
    have hwh : what = 0 ∨ what = 1 ∨ 14 ≤ what ∨ what < 0 ∨ (2 ≤ what ∧ what < 14) := by omega
    rcases hwh with rfl | rfl | hwh | hwh | hwh
    · go_wp2_with fail
      refine (x_Touched g15 (b := false) (HW1.out.2.2.2.2 (by simp))).mono ?_
      rintro e w14 ⟨rfl, g16⟩
      go_wp2_with fail
      refine (law_works13 g16).mono ?_
      rintro e w16 ⟨rfl, g18⟩
      go_wp2_with fail
      go_ret
      exact ⟨rfl, hb4 ▸ Sat.below (g18.p4)⟩
    · go_wp2_with fail
      refine (x_Touched g15 (b := false) (HW1.out.2.2.2.2 (by simp))).mono ?_
      rintro e w14 ⟨rfl, g16⟩
      go_wp2_with fail
      refine (law_works13 g16).mono ?_
      rintro e w16 ⟨rfl, g18⟩
      go_wp2_with fail
      go_ret
      exact ⟨rfl, hb4 ▸ Sat.below (g18.p4)⟩
    · have f14 : decide (what < 14) = false := by simp; omega
      have f0 : (what == 0) = false := by simp; omega
      have f1 : (what == 1) = false := by simp; omega
      have htb := (HW1.out.2.2.2.1 (by omega) HX13.out).1.resolve_left (fun q => hpA q.1)
      have HQT := Lib.hid htb
      clear htb hwh
      go_wp2_with fail
      refine (x_Touched g15 (b := true) HQT.out).mono ?_
      rintro e w14 ⟨rfl, g16⟩
      go_wp2_with fail
      refine (x_Touched (g16).p3 (b := false) HO.out.2.2.2.2).mono ?_
      rintro e w15 ⟨rfl, g17⟩
      go_wp2_with fail
      refine (law_works13 g17).mono ?_
      rintro e w16 ⟨rfl, g18⟩
      go_wp2_with fail
      go_ret
      exact ⟨rfl, hb4 ▸ Sat.below (g18.p4)⟩
    · have f14 : decide (what < 14) = true := by simp; omega
      have fge : decide (0 ≤ what) = false := by simp; omega
      have f0 : (what == 0) = false := by simp; omega
      have f1 : (what == 1) = false := by simp; omega
      have htb := (HW1.out.2.2.2.1 (by omega) HX13.out).1.resolve_left (fun q => hpA q.1)
      have HQT := Lib.hid htb
      clear htb hwh
      go_wp2_with fail
      refine (x_Touched g15 (b := true) HQT.out).mono ?_
      rintro e w14 ⟨rfl, g16⟩
      go_wp2_with fail
      refine (x_Touched (g16).p3 (b := false) HO.out.2.2.2.2).mono ?_
      rintro e w15 ⟨rfl, g17⟩
      go_wp2_with fail
      refine (law_works13 g17).mono ?_
      rintro e w16 ⟨rfl, g18⟩
      go_wp2_with fail
      go_ret
      exact ⟨rfl, hb4 ▸ Sat.below (g18.p4)⟩
    · have f14 : decide (what < 14) = true := by simp; omega
      have fge : decide (0 ≤ what) = true := by simp; omega
      have f0 : (what == 0) = false := by simp; omega
      have f1 : (what == 1) = false := by simp; omega
      have htb := (HW1.out.2.2.2.1 (by omega) HX13.out).1.resolve_left (fun q => hpA q.1)
      have HQT := Lib.hid htb
      clear htb hwh
      go_wp2_with fail
      refine (x_Touched g15 (b := true) HQT.out).mono ?_
      rintro e w14 ⟨rfl, g16⟩
      go_wp2_with fail
      refine (x_Touched (g16).p3 (b := false) HO.out.2.2.2.2).mono ?_
      rintro e w15 ⟨rfl, g17⟩
      go_wp2_with fail
      refine (law_works13 g17).mono ?_
      rintro e w16 ⟨rfl, g18⟩
      go_wp2_with fail
      go_ret
      exact ⟨rfl, hb4 ▸ Sat.below (g18.p4)⟩
theorem own : ownKnob Try.prog.godebug = none := by kernel_rfl
theorem laidOut : laidOutB Try.prog = true := by kernel_rfl
set_option maxRecDepth 100000 in
theorem lifted (os : Os) (started : os.Started) (H : Type) (enc : TypeId × Value → H) :
    ReturnsInHanded {} Try.checked os 11 .any (Rows.cellsWatchSpec.pre6 enc Try.prog Try.f11 Rows.cellsWatchRow.domain false) (Rows.cellsWatchSpec.post enc Try.prog Try.f11 false true false false) := by
  refine returnsInHanded_of_change (C := Try.checked) own started (by kernel_rfl) Try.func11
    (ChangeSpec.witness6 (enc := enc) (C := Try.checked) false ⟨#[], #[.slice none 0 0, .agg #[.int .i64 0, .int .i64 0, .int .i64 0, .int .i64 0, .int .i64 0, .slice none 0 0, .string ⟨#[]⟩], .agg #[.int .i64 0, .int .i64 0]], []⟩ 8 (by kernel_rfl) (by kernel_rfl) (by kernel_rfl) (by kernel_rfl)) ?_
  intro W base args ds gs before hval0 hW hcnd _
  have hval : ∀ (j : Nat) t v, Try.f11.params[j]? = some t → args[j]? = some v → Value.okWide Try.prog W .any base t v := hval0
  have hW' := hW
  obtain ⟨p, q, hA0, hV, rfl, hfz, hnd⟩ := hW
  have hA : DataW.TrodAll enc Try.prog W 0 (fun _ => true) true Try.f11.params.toList args.toList ds p := hA0
  rw [Try.params11] at hA hval
  obtain ⟨v0, vs0, d0, ds0, p0, q0, hargs, rfl, rfl, h0, r0⟩ := trodAll_cons hA
  obtain ⟨v1, vs1, d1, ds1, p1, q1, rfl, rfl, rfl, h1, r1⟩ := trodAll_cons r0
  obtain ⟨v2, vs2, d2, ds2, p2, q2, rfl, rfl, rfl, h2, r2⟩ := trodAll_cons r1
  obtain ⟨rfl, rfl, rfl⟩ := trodAll_nil r2
  obtain rfl : args = #[v0, v1, v2] := by cases args; simp_all
  obtain ⟨rfl, rfl⟩ := trodVars_none hV
  obtain ⟨a0, len0, cap0, rfl⟩ := okWide_slice Try.underlying98 (hval 0 98 v0 rfl rfl)
  have k0 := h0
  have lt0 : ∀ x ∈ p0, x.block < W.heap.size := by obtain ⟨m, hm⟩ := k0; exact DataW.trod_lt m _ _ _ hm
  obtain ⟨z0, w0⟩ : ∃ zs, IsActsN W a0 len0 cap0 zs := by
    obtain ⟨fuel, hf⟩ := h0
    exact open_actsN hf
  have k1 := h1
  have lt1 : ∀ x ∈ p1, x.block < W.heap.size := by obtain ⟨m, hm⟩ := k1; exact DataW.trod_lt m _ _ _ hm
  obtain ⟨ra1, w1, rfl⟩ : ∃ r : RAct, SrcV W (Old W) r.la r.x.l.length r.lc r.x.l ∧ v1 = .agg (rcells r).toArray := by
    obtain ⟨fuel, hf⟩ := h1
    exact open_act hf (okWide_struct Try.underlying100 (hval 1 100 v1 rfl rfl))
  have k2 := h2
  have lt2 : ∀ x ∈ p2, x.block < W.heap.size := by obtain ⟨m, hm⟩ := k2; exact DataW.trod_lt m _ _ _ hm
  obtain ⟨x2, y2, rfl⟩ : ∃ x y : Int, v2 = .agg #[.int .i64 x, .int .i64 y] := by
    obtain ⟨fuel, hf⟩ := h2
    exact open_two hf (okWide_array Try.underlying101 (hval 2 101 v2 rfl rfl))
  clear hA0 hval0
  refine (walk a0 len0 cap0 z0 ra1 x2 y2 W w0 w1).mono fun e W' ⟨he, bel⟩ => ?_
  subst he
  exact ⟨_, rfl, _, _, _, [], _, [], hW', trodAll_mk1 (shut_bool Try.underlying4 _), (trodAll_cons_mk (Below.trod laidOut (by kernel_rfl) (of_decide_eq_true (by kernel_rfl)) k0 bel lt0) (trodAll_cons_mk (Below.trod laidOut (by kernel_rfl) (of_decide_eq_true (by kernel_rfl)) k1 bel lt1) (trodAll_cons_mk (Below.trod laidOut (by kernel_rfl) (of_decide_eq_true (by kernel_rfl)) k2 bel lt2) trodAll_mk0))), rfl, bel.frame _, fun h => by cases h⟩
theorem over : Rows.cellsWatchRow.holds Try.pinned (OpenSpec.ofChange Rows.cellsWatchSpec) :=
  OpenClaim.holds_of_wide 11 Try.f11 rfl rfl rfl rfl rfl rfl rfl ⟨rfl, rfl, rfl, rfl, rfl⟩ rfl rfl rfl rfl rfl (by kernel_rfl) Try.func11 (by kernel_rfl)
    (of_decide_eq_true (by kernel_rfl)) (by unfold Func.isWrapper; first | (rw [if_pos (by decide +kernel)]; kernel_rfl) | (rw [if_neg (by decide +kernel)]; exact ⟨rfl, rfl⟩))
    (fun os started H enc _ => lifted os started H enc)
theorem cellsWatch_holds : Rows.CellsWatchSaid := over
#print axioms cellsWatch_holds
end Go.Proofs.Ytkpcngcegipalaa.CWatch
