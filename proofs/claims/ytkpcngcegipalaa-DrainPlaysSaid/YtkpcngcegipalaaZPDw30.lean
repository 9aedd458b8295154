/- The law of cells that compares two objects. No condition. -/
import Derived.Test.YtkpcngcegipalaaZPDw28
import Derived.Test.YtkpcngcegipalaaZPDw29
import Derived.Test.YtkpcngcegipalaaZPDw22
import Derived.Test.YtkpcngcegipalaaZPDw27
namespace Go.Proofs.Ytkpcngcegipalaa.Tw
set_option linter.unusedVariables false
set_option linter.unusedSimpArgs false
open Go Go.RowKit Go.MapKept

section
variable {w0 w : World} {F : HP}
theorem oboxC {ob : Nat} {ok oc om : Int} {sa : Option Addr} {sn sc : Nat} {tx : ByteArray} (h : Sat w0 w (pt ob (.cells #[.int .i64 ok, .int .i64 oc, .slice sa sn sc, .string tx, .int .i64 om] 39 (0, 0)) * F)) :
    w.cell? ⟨ob, 0, none⟩ = some (.int .i64 ok) ∧ w.cell? ⟨ob, 1, none⟩ = some (.int .i64 oc) ∧ w.cell? ⟨ob, 2, none⟩ = some (.slice sa sn sc) ∧ w.cell? ⟨ob, 4, none⟩ = some (.int .i64 om) :=
  have c := fun i v hv => Sat.cell (T := 39) (cs := #[.int .i64 ok, .int .i64 oc, .slice sa sn sc, .string tx, .int .i64 om]) h i (v := v) hv
  ⟨c 0 _ rfl, c 1 _ rfl, c 2 _ rfl, c 4 _ rfl⟩
theorem valC {a : Option Addr} {n c k : Nat} {l : List AVal} {x : AVal} (h : Sat w0 w (slc 28 2 a n c (avcells l) * F)) (hx : l[k]? = some x) : ∃ g off, a = some ⟨g, off, none⟩ ∧ w.cell? ⟨g, off + k * 2, none⟩ = some (.int .i64 x.kind) ∧ w.cell? ⟨g, off + k * 2 + 1, none⟩ = some (.int .i64 x.n) := by
  obtain ⟨e0, e1⟩ := avcells_get l k x hx
  obtain ⟨g, off, ea, c0, _⟩ := h.slcAt e0
  obtain ⟨g1, off1, ea1, c1, _⟩ := h.slcAt e1
  rw [ea] at ea1; cases ea1
  exact ⟨g, off, ea, c0, by rw [Nat.add_assoc]; exact c1⟩
set_option maxHeartbeats 1000000 in
theorem law_alike {k1 c1 m1 k2 c2 m2 : Int} {t1 t2 : ByteArray} {l1 l2 : List AVal} {a1 a2 : Option Addr} {n1 n2 d1 d2 : Nat} (h : Sat w0 w (slc 28 2 a1 n1 d1 (avcells l1) * (slc 28 2 a2 n2 d2 (avcells l2) * F))) (hl1 : l1.length = n1) (hl2 : l2.length = n2) (hn1 : n1 ≤ 1000000) (hn2 : n2 ≤ 1000000) :
    Calls Try.prog 50 #[.agg #[.int .i64 k1, .int .i64 c1, .slice a1 n1 d1, .string t1, .int .i64 m1], .agg #[.int .i64 k2, .int .i64 c2, .slice a2 n2 d2, .string t2, .int .i64 m2]] w fun e w' =>
      e = .returned (.bool (decide (AlikeO ⟨k1, c1, l1, t1, m1⟩ ⟨k2, c2, l2, t2, m2⟩))) ∧ Sat w0 w' (slc 28 2 a1 n1 d1 (avcells l1) * (slc 28 2 a2 n2 d2 (avcells l2) * F)) := by
  have HL := Lib.hid (And.intro hl1 hl2)
  clear hl1 hl2
  have hb := (h.alloc (.cells #[.int .i64 k1, .int .i64 c1, .slice a1 n1 d1, .string t1, .int .i64 m1] 39)).alloc (.cells #[.int .i64 k2, .int .i64 c2, .slice a2 n2 d2, .string t2, .int .i64 m2] 39)
  rw [size_alloc] at hb
  have ⟨y0, y1, y2, y4⟩ := oboxC hb
  have ⟨x0, x1, x2, x4⟩ := oboxC hb.p2
  have hfin := hb.drop.drop
  by_cases q1 : k1 = k2
  · subst q1
    by_cases q2 : c1 = c2
    · subst q2
      by_cases q3 : m1 = m2
      · subst q3
        by_cases q4 : n1 = n2
        · subst q4
          have HB := Lib.hid hb
          generalize hB1 : w.heap.size = B1 at *
          have HO := Lib.hid (fun (w' : World) (hx : Sat w0 w' (pt (B1 + 1) (.cells #[.int .i64 k1, .int .i64 c1, .slice a2 n1 d2, .string t2, .int .i64 m1] 39 (0, 0)) * (pt B1 (.cells #[.int .i64 k1, .int .i64 c1, .slice a1 n1 d1, .string t1, .int .i64 m1] 39 (0, 0)) * (slc 28 2 a1 n1 d1 (avcells l1) * (slc 28 2 a2 n1 d2 (avcells l2) * F))))) => And.intro (oboxC hx) (oboxC hx.p2))
          clear hfin hb h
          go_enter Try.func50, Try.ntmps50
          go_wp2_with fail
          go_loopw [5] (fun iv wr => ∃ k : Nat, iv = .int .i64 k ∧ k ≤ n1 ∧ Hid (l1.take k = l2.take k) ∧ Sat w0 wr (pt (B1 + 1) (.cells #[.int .i64 k1, .int .i64 c1, .slice a2 n1 d2, .string t2, .int .i64 m1] 39 (0, 0)) * (pt B1 (.cells #[.int .i64 k1, .int .i64 c1, .slice a1 n1 d1, .string t1, .int .i64 m1] 39 (0, 0)) * (slc 28 2 a1 n1 d1 (avcells l1) * (slc 28 2 a2 n1 d2 (avcells l2) * F))))) (fun iv _ => n1 - (intOf iv).toNat)
          case atStart => exact ⟨0, rfl, by omega, Lib.hid rfl, HB.out⟩
          case round =>
            clear x0 x1 x2 x4 y0 y1 y2 y4
            obtain ⟨k, rfl, hk, hb, hs⟩ := hrel
            have x2 := (HO.out _ hs).2.2.2.1
            have hal : l1 = l2 ↔ AlikeO ⟨k1, c1, l1, t1, m1⟩ ⟨k1, c1, l2, t2, m1⟩ := ⟨fun e => ⟨rfl, rfl, rfl, e⟩, fun e => e.2.2.2⟩
            have HA := Lib.hid hal
            clear hal
            by_cases hlt : k < n1
            · have hlen := HL.out
              have ex : l1[k]? = some (l1[k]'(by omega)) := List.getElem?_eq_getElem _
              have ey : l2[k]? = some (l2[k]'(by omega)) := List.getElem?_eq_getElem _
              generalize l1[k]'(by omega) = x at *
              generalize l2[k]'(by omega) = y at *
              obtain ⟨g, off, rfl, _, _⟩ := valC hs.p3 ex
              obtain ⟨g2, off2, rfl, _, _⟩ := valC hs.p4 ey
              have HC := Lib.hid (fun (w' : World) hx => And.intro (HO.out w' hx) (And.intro (valC hx.p3 ex) (valC hx.p4 ey)))
              have HX := Lib.hid (And.intro ex ey)
              have hkn : (k : Int) < (n1 : Int) := by omega
              have hk0 : (0 : Int) ≤ (k : Int) := by omega
              clear ex ey hlen
              obtain ⟨xk, xn⟩ := x
              obtain ⟨yk, yn⟩ := y
              by_cases hxy : xk = yk ∧ xn = yn
              · obtain ⟨rfl, rfl⟩ := hxy
                go_wp2_with fail
                refine wp_region_qq (fun w' => Sat w0 w' (pt (B1 + 1) (.cells #[.int .i64 k1, .int .i64 c1, .slice (some ⟨g2, off2, none⟩) n1 d2, .string t2, .int .i64 m1] 39 (0, 0)) * (pt B1 (.cells #[.int .i64 k1, .int .i64 c1, .slice (some ⟨g, off, none⟩) n1 d1, .string t1, .int .i64 m1] 39 (0, 0)) * (slc 28 2 (some ⟨g, off, none⟩) n1 d1 (avcells l1) * (slc 28 2 (some ⟨g2, off2, none⟩) n1 d2 (avcells l2) * F))))) (by kernel_rfl) (by kernel_rfl) hs ?_
                iterate 11 (first
                  | (refine QQ.skip (by rfl) ?_; simp only [Act.put, List.setIfInBounds_toArray, List.set_cons_zero, List.set_cons_succ])
                  | (refine QQ.want (by rfl) ?_
                     apply Exists.intro
                     refine ⟨?_, ?_⟩
                     · intro w hw
                       have ⟨⟨⟨_, _, z0, _⟩, ⟨_, _, z1, _⟩⟩, ⟨_, _, q0, q1, q2⟩, ⟨_, _, r0, r1, r2⟩⟩ := HC.out w hw; cases q0; cases r0
                       first
                         | (go_simp; done)
                         | (go_simp; rfl)
                         | (go_simp; fail)
                     simp only [Act.put, List.setIfInBounds_toArray, List.set_cons_zero, List.set_cons_succ]))
                refine QQ.nil ?_
                intro w9 h9
                go_wp2_with fail
                go_roundw
                case rel =>
                  refine ⟨k + 1, by go_num, by omega, Lib.hid ?_, h9⟩
                  rw [List.take_add_one, List.take_add_one, hb.out, HX.out.1, HX.out.2]
                case measure => simp [intOf]; omega
              · have hne : ¬ AlikeO ⟨k1, c1, l1, t1, m1⟩ ⟨k1, c1, l2, t2, m1⟩ := fun e => hxy (by
                  have h1 := HX.out.1
                  rw [HA.out.2 e, HX.out.2] at h1
                  have h2 := Option.some.inj h1
                  injection h2 with h3 h4
                  exact ⟨h3.symm, h4.symm⟩)
                have HNE := Lib.hid hne
                clear hne
                have fin : ∀ w', Sat w0 w' (pt (B1 + 1) (.cells #[.int .i64 k1, .int .i64 c1, .slice (some ⟨g2, off2, none⟩) n1 d2, .string t2, .int .i64 m1] 39 (0, 0)) * (pt B1 (.cells #[.int .i64 k1, .int .i64 c1, .slice (some ⟨g, off, none⟩) n1 d1, .string t1, .int .i64 m1] 39 (0, 0)) * (slc 28 2 (some ⟨g, off, none⟩) n1 d1 (avcells l1) * (slc 28 2 (some ⟨g2, off2, none⟩) n1 d2 (avcells l2) * F)))) → Sat w0 w' (slc 28 2 (some ⟨g, off, none⟩) n1 d1 (avcells l1) * (slc 28 2 (some ⟨g2, off2, none⟩) n1 d2 (avcells l2) * F)) := fun w' h => h.drop.drop
                have hcs : (xk = yk ∧ ¬ xn = yn) ∨ ¬ xk = yk := by
                  by_cases e : xk = yk
                  · exact .inl ⟨e, fun e2 => hxy ⟨e, e2⟩⟩
                  · exact .inr e
                clear hxy
                rcases hcs with ⟨rfl, hxy⟩ | hxy
                all_goals
                  go_wp2_with fail
                  refine wp_region_qq (fun w' => Sat w0 w' (pt (B1 + 1) (.cells #[.int .i64 k1, .int .i64 c1, .slice (some ⟨g2, off2, none⟩) n1 d2, .string t2, .int .i64 m1] 39 (0, 0)) * (pt B1 (.cells #[.int .i64 k1, .int .i64 c1, .slice (some ⟨g, off, none⟩) n1 d1, .string t1, .int .i64 m1] 39 (0, 0)) * (slc 28 2 (some ⟨g, off, none⟩) n1 d1 (avcells l1) * (slc 28 2 (some ⟨g2, off2, none⟩) n1 d2 (avcells l2) * F))))) (by kernel_rfl) (by kernel_rfl) hs ?_
                  iterate 11 (first
                    | (refine QQ.skip (by rfl) ?_; simp only [Act.put, List.setIfInBounds_toArray, List.set_cons_zero, List.set_cons_succ])
                    | (refine QQ.want (by rfl) ?_
                       apply Exists.intro
                       refine ⟨?_, ?_⟩
                       · intro w hw
                         have ⟨⟨⟨_, _, z0, _⟩, ⟨_, _, z1, _⟩⟩, ⟨_, _, q0, q1, q2⟩, ⟨_, _, r0, r1, r2⟩⟩ := HC.out w hw; cases q0; cases r0
                         first
                           | (go_simp; done)
                           | (go_simp; rfl)
                           | (go_simp; fail)
                       simp only [Act.put, List.setIfInBounds_toArray, List.set_cons_zero, List.set_cons_succ]))
                  refine QQ.nil ?_
                  intro w9 h9
                  go_wp2_with fail
                  go_ret
                  exact ⟨by rw [decide_eq_false HNE.out]; rfl, fin _ h9⟩
            · have hkn : k = n1 := by omega
              subst hkn
              go_wp2_with fail
              go_ret
              have e : l1 = l2 := by
                have := hb.out
                have hl1 := HL.out
                rwa [List.take_of_length_le (by omega), List.take_of_length_le (by omega)] at this
              exact ⟨by rw [decide_eq_true (HA.out.1 e)]; rfl, hs.drop.drop⟩
        · have f4 : ((n1 : Int) != (n2 : Int)) = true := by simp; omega
          have hne : ¬ AlikeO ⟨k1, c1, l1, t1, m1⟩ ⟨k1, c1, l2, t2, m1⟩ := fun e => q4 (by rw [← HL.out.1, ← HL.out.2, show l1 = l2 from e.2.2.2])
          rw [decide_eq_false hne]
          clear hne hb h q4
          go_enter Try.func50, Try.ntmps50
          go_wp2_with fail
          go_ret
          exact ⟨rfl, hfin⟩
      · have f4 : (m1 != m2) = true := by simp [q3]
        have hne : ¬ AlikeO ⟨k1, c1, l1, t1, m1⟩ ⟨k1, c1, l2, t2, m2⟩ := fun e => q3 e.2.2.1
        rw [decide_eq_false hne]
        clear hne hb h q3
        go_enter Try.func50, Try.ntmps50
        go_wp2_with fail
        go_ret
        exact ⟨rfl, hfin⟩
    · have f4 : (c1 != c2) = true := by simp [q2]
      have hne : ¬ AlikeO ⟨k1, c1, l1, t1, m1⟩ ⟨k1, c2, l2, t2, m2⟩ := fun e => q2 e.2.1
      rw [decide_eq_false hne]
      clear hne hb h q2
      go_enter Try.func50, Try.ntmps50
      go_wp2_with fail
      go_ret
      exact ⟨rfl, hfin⟩
  · have f4 : (k1 != k2) = true := by simp [q1]
    have hne : ¬ AlikeO ⟨k1, c1, l1, t1, m1⟩ ⟨k2, c2, l2, t2, m2⟩ := fun e => q1 e.1
    rw [decide_eq_false hne]
    clear hne hb h q1
    go_enter Try.func50, Try.ntmps50
    go_wp2_with fail
    go_ret
    exact ⟨rfl, hfin⟩
end
end Go.Proofs.Ytkpcngcegipalaa.Tw
namespace Go.Proofs.Ytkpcngcegipalaa.Tw
set_option linter.unusedVariables false
set_option linter.unusedSimpArgs false
open Go Go.RowKit Go.MapKept

section
variable {w0 w : World} {p : Nat} {A : AHeap} {F : HP} {B : Int} {X : List XObj} {oa : Option Addr} {oc : Nat} {qa : Option Addr} {qc : Nat} {ba : Option Addr} {bc : Nat} {fa : Option Addr} {fc : Nat} {sa : Option Addr} {sc : Nat}
theorem xslotsR_sets {l : List XObj} {k : Nat} {x : XObj} (hk : l[k]? = some x) : ∃ R, xslotsR l = slc 28 2 x.2.1 x.1.slots.length x.2.2 (avcells x.1.slots) * R ∧ ∀ y : XObj, xslotsR (l.set k y) = slc 28 2 y.2.1 y.1.slots.length y.2.2 (avcells y.1.slots) * R := by
  induction l generalizing k with
  | nil => simp at hk
  | cons z l ih =>
    cases k with
    | zero => simp at hk; subst hk; exact ⟨xslotsR l, rfl, fun _ => rfl⟩
    | succ k =>
      obtain ⟨R, e1, e2⟩ := ih (k := k) (by simpa using hk)
      refine ⟨slc 28 2 z.2.1 z.1.slots.length z.2.2 (avcells z.1.slots) * R, ?_, fun y => ?_⟩
      · rw [xslotsR, e1]; exact mul_left_comm _ _ _
      · rw [List.set_cons_succ, xslotsR, e2]; exact mul_left_comm _ _ _
/-- an object's slots in front -/
theorem ROpen.slots {j xc : Nat} {xa : Option Addr} {o : AObj} (h : ROpen w0 w p A F X oa oc qa qc ba bc fa fc sa sc) (hx : X[j]? = some (o, xa, xc)) :
    ∃ R, (∀ y : XObj, xslotsR (X.set j y) = slc 28 2 y.2.1 y.1.slots.length y.2.2 (avcells y.1.slots) * R) ∧
      Sat w0 w (slc 28 2 xa o.slots.length xc (avcells o.slots) * (row p 51 (rcellsH A oa oc qa qc ba bc fa fc sa sc) * (slc 39 5 oa A.T.length oc (xscells X) * (R * rrest A qa qc ba bc fa fc sa sc F)))) := by
  obtain ⟨R, e1, e2⟩ := xslotsR_sets hx
  exact ⟨R, e2, h.hs.cast (by rw [e1]; ac_rfl)⟩
/-- and put back, turned -/
theorem ROpen.putSlots {j : Nat} {y : XObj} {R : HP} {w' : World} (hX : X.map (·.1) = graphL A A.T.length) (hk : j < A.T.length) (e2 : xslotsR (X.set j y) = slc 28 2 y.2.1 y.1.slots.length y.2.2 (avcells y.1.slots) * R)
    (hs : Sat w0 w' (slc 28 2 y.2.1 y.1.slots.length y.2.2 (avcells y.1.slots) * (row p 51 (rcellsH A oa oc qa qc ba bc fa fc sa sc) * (slc 39 5 oa A.T.length oc (xscells (X.set j y)) * (R * rrest A qa qc ba bc fa fc sa sc F))))) :
    ROpen w0 w' p (A.upd ((j : Int) + 1) y.1) F (X.set j y) oa oc qa qc ba bc fa fc sa sc :=
  ⟨graphL_set (o := y.1) (y := y.2) hk hX (obj_upd _ _ _) (fun n hn => by unfold AHeap.obj AHeap.upd; simp [hn]), hs.cast (by rw [e2]; show _ * (row _ _ _ * (_ * (_ * rrest _ _ _ _ _ _ _ _ _ _))) = row _ _ _ * (_ * (_ * rrest _ _ _ _ _ _ _ _ _ _)); unfold rrest; ac_rfl)⟩
set_option maxRecDepth 100000 in
set_option maxHeartbeats 2000000 in
theorem r_At (H : HW A B) (hB : B ≤ 1000000) (h : Sat w0 w (refR13 p A * F)) (n i : Int) {v : AVal} {e0 : Int} (hv : A.atVV n i = v) (he : A.atE n i = e0) :
    Calls Try.prog 142 #[.pointer (some ⟨p, 0, none⟩), .int .i64 n, .int .i64 i] w fun e w' => e = .returned (.tuple #[.agg #[.int .i64 v.kind, .int .i64 v.n], .int .i64 e0]) ∧ Sat w0 w' (refR13 p A * F) := by
  subst hv he
  have h1 := h.alloc (.cells #[.int .i64 0, .int .i64 0] 28)
  have ⟨v0, v1, vf0, vf1⟩ := val2' h1
  cases ho : A.objs n with
  | none =>
    have HC := Lib.hid (r_There H hB h1.p2 n (b := false) (by rw [ho]; rfl))
    have e1 : atV A n i = none := by unfold atV; rw [ho]
    have e2 : A.atVV n i = ⟨0, 0⟩ := by unfold AHeap.atVV; rw [e1]; rfl
    have e3 : A.atE n i = 5 := by unfold AHeap.atE; rw [e1]
    rw [e2, e3]
    clear e1 e2 e3 ho H
    go_enter Try.func142, Try.ntmps142
    go_wp2_with fail
    refine HC.out.mono ?_
    rintro e w1 ⟨rfl, rfl⟩
    go_wp2_with fail
    exact bodyPost_cell_tmp rfl rfl rfl (load_val h1) rfl ⟨rfl, h1.drop⟩
  | some o =>
    have HC := Lib.hid (r_There H hB h1.p2 n (b := true) (by rw [ho]; rfl))
    have hrng := obj_in H (n := n) (by rw [ho]; rfl)
    have hT := H.t
    have hcn := H.c n o ho
    obtain ⟨j, rfl⟩ : ∃ j : Nat, n = (j : Int) + 1 := ⟨(n - 1).toNat, by omega⟩
    have hobj : A.obj ((j : Int) + 1) = o := by unfold AHeap.obj; rw [ho]; rfl
    obtain ⟨X, oa, oc, qa, qc, ba, bc, fa, fc, sa, sc, op⟩ := h1.p2.openR
    obtain ⟨g, off, xa, xc, eoa, hx, d0, d1, d2, d3, d4⟩ := op.obj (k := j) (by omega)
    subst eoa
    have c0 := op.c0
    rw [hobj] at d2 hx
    have hj1 : (j : Int) + 1 - 1 = j := by omega
    have hj2 : (0 : Int) ≤ (j : Int) := by omega
    have hj3 : (j : Int) < (A.T.length : Int) := by omega
    have hj4 : IntKind.i64.wrap (j : Int) = j := IntWalk.i64_in _ (by omega)
    have hat : atV A ((j : Int) + 1) i = if 0 ≤ i then o.slots[i.toNat]? else none := by unfold atV; rw [ho]
    by_cases hi0 : 0 ≤ i
    · by_cases hi1 : i < o.slots.length
      · obtain ⟨k, rfl⟩ : ∃ k : Nat, i = (k : Int) := ⟨i.toNat, by omega⟩
        obtain ⟨R, _, hsl⟩ := op.slots hx
        have hk : k < o.slots.length := by omega
        have hv : o.slots[k]? = some (o.slots[k]'hk) := List.getElem?_eq_getElem _
        obtain ⟨g2, off2, e2, x0, x1⟩ := valC hsl hv
        generalize o.slots[k]'hk = v at *
        obtain ⟨vk, vn⟩ := v
        dsimp only at x0 x1
        subst e2
        have e1 : atV A ((j : Int) + 1) (k : Int) = some ⟨vk, vn⟩ := by rw [hat, if_pos hi0, Int.toNat_natCast]; exact hv
        have e2 : A.atVV ((j : Int) + 1) (k : Int) = ⟨vk, vn⟩ := by unfold AHeap.atVV; rw [e1]; rfl
        have e3 : A.atE ((j : Int) + 1) (k : Int) = 0 := by unfold AHeap.atE; rw [e1]
        rw [e2, e3]
        have hv2 := h.alloc (.cells #[.int .i64 vk, .int .i64 vn] 28)
        have HV := Lib.hid hv2
        have q1 : decide ((k : Int) < 0) = false := by simp
        clear e1 e2 e3 ho H hat op hx hsl hv hv2 hobj
        generalize o.slots.length = sn at *
        generalize A.T.length = N at *
        go_enter Try.func142, Try.ntmps142
        go_wp2_with fail
        refine HC.out.mono ?_
        rintro e w1 ⟨rfl, rfl⟩
        go_wp2_with fail
        exact bodyPost_cell_tmp rfl rfl rfl (load_val HV.out) rfl ⟨rfl, HV.out.drop⟩
      · have e1 : atV A ((j : Int) + 1) i = none := by rw [hat, if_pos hi0, List.getElem?_eq_none (by omega)]
        have e2 : A.atVV ((j : Int) + 1) i = ⟨0, 0⟩ := by unfold AHeap.atVV; rw [e1]; rfl
        have e3 : A.atE ((j : Int) + 1) i = 5 := by unfold AHeap.atE; rw [e1]
        rw [e2, e3]
        have q1 : decide (i < 0) = false := by simp; omega
        have q2 : decide ((o.slots.length : Int) ≤ i) = true := by simp; omega
        clear e1 e2 e3 ho H hat op hx hobj hi0 hi1
        generalize o.slots.length = sn at *
        generalize A.T.length = N at *
        go_enter Try.func142, Try.ntmps142
        go_wp2_with fail
        refine HC.out.mono ?_
        rintro e w1 ⟨rfl, rfl⟩
        go_wp2_with fail
        exact bodyPost_cell_tmp rfl rfl rfl (load_val h1) rfl ⟨rfl, h1.drop⟩
    · have e1 : atV A ((j : Int) + 1) i = none := by rw [hat, if_neg hi0]
      have e2 : A.atVV ((j : Int) + 1) i = ⟨0, 0⟩ := by unfold AHeap.atVV; rw [e1]; rfl
      have e3 : A.atE ((j : Int) + 1) i = 5 := by unfold AHeap.atE; rw [e1]
      rw [e2, e3]
      have q1 : decide (i < 0) = true := by simp; omega
      clear e1 e2 e3 ho H hat op hx hobj hi0 d0 d1 d2 d3 d4 c0
      go_enter Try.func142, Try.ntmps142
      go_wp2_with fail
      refine HC.out.mono ?_
      rintro e w1 ⟨rfl, rfl⟩
      go_wp2_with fail
      exact bodyPost_cell_tmp rfl rfl rfl (load_val h1) rfl ⟨rfl, h1.drop⟩
set_option maxRecDepth 100000 in
set_option maxHeartbeats 2000000 in
theorem r_Pop (H : HW A B) (hB : B ≤ 1000000) (hW : A.watch.length ≤ 1000000) (h : Sat w0 w (refR13 p A * F)) (n : Int) {v : AVal} {e0 : Int} (hv : A.popV n = v) (he : A.popE n = e0) :
    Calls Try.prog 141 #[.pointer (some ⟨p, 0, none⟩), .int .i64 n] w fun e w' => e = .returned (.tuple #[.agg #[.int .i64 v.kind, .int .i64 v.n], .int .i64 e0]) ∧ Sat w0 w' (refR13 p (A.popF n) * F) := by
  subst hv he
  have h1 := h.alloc (.cells #[.int .i64 0, .int .i64 0] 28)
  have ⟨v0, v1, vf0, vf1⟩ := val2' h1
  cases ho : A.objs n with
  | none =>
    have HC := Lib.hid (r_There H hB h1.p2 n (b := false) (by rw [ho]; rfl))
    have e1 : A.popF n = A := by unfold AHeap.popF; rw [ho]
    have e2 : A.popV n = ⟨0, 0⟩ := by unfold AHeap.popV; rw [ho]
    have e3 : A.popE n = 5 := by unfold AHeap.popE; rw [ho]
    rw [e1, e2, e3]
    clear e1 e2 e3 ho H
    go_enter Try.func141, Try.ntmps141
    go_wp2_with fail
    refine HC.out.mono ?_
    rintro e w1 ⟨rfl, rfl⟩
    go_wp2_with fail
    exact bodyPost_cell_tmp rfl rfl rfl (load_val h1) rfl ⟨rfl, h1.drop⟩
  | some o =>
    have HC := Lib.hid (r_There H hB h1.p2 n (b := true) (by rw [ho]; rfl))
    have hrng := obj_in H (n := n) (by rw [ho]; rfl)
    have hT := H.t
    have hcn := H.c n o ho
    obtain ⟨j, rfl⟩ : ∃ j : Nat, n = (j : Int) + 1 := ⟨(n - 1).toNat, by omega⟩
    have hobj : A.obj ((j : Int) + 1) = o := by unfold AHeap.obj; rw [ho]; rfl
    obtain ⟨X, oa, oc, qa, qc, ba, bc, fa, fc, sa, sc, op⟩ := h1.p2.openR
    obtain ⟨g, off, xa, xc, eoa, hx, d0, d1, d2, d3, d4⟩ := op.obj (k := j) (by omega)
    subst eoa
    have c0 := op.c0
    rw [hobj] at d2 hx
    have hj1 : (j : Int) + 1 - 1 = j := by omega
    have hj2 : (0 : Int) ≤ (j : Int) := by omega
    have hj3 : (j : Int) < (A.T.length : Int) := by omega
    have hj4 : IntKind.i64.wrap (j : Int) = j := IntWalk.i64_in _ (by omega)
    rcases List.eq_nil_or_concat o.slots with hs | ⟨sl, v, hs⟩
    · have e1 : A.popF ((j : Int) + 1) = A := by unfold AHeap.popF; rw [ho]; simp [hs]
      have e2 : A.popV ((j : Int) + 1) = ⟨0, 0⟩ := by unfold AHeap.popV; rw [ho]; simp [hs]
      have e3 : A.popE ((j : Int) + 1) = 5 := by unfold AHeap.popE; rw [ho]; simp [hs]
      rw [e1, e2, e3]
      rw [hs] at d2
      simp only [List.length_nil] at d2
      clear e1 e2 e3 ho H op hx hobj hs
      generalize A.T.length = N at *
      go_enter Try.func141, Try.ntmps141
      go_wp2_with fail
      refine HC.out.mono ?_
      rintro e w1 ⟨rfl, rfl⟩
      go_wp2_with fail
      exact bodyPost_cell_tmp rfl rfl rfl (load_val h1) rfl ⟨rfl, h1.drop⟩
    · rw [List.concat_eq_append] at hs
      obtain ⟨vk, vn⟩ := v
      have hlen : o.slots.length = sl.length + 1 := by rw [hs]; simp
      have e1 : A.popF ((j : Int) + 1) = (A.upd ((j : Int) + 1) { o with slots := sl }).touch ((j : Int) + 1) := by unfold AHeap.popF; rw [ho]; simp [hs]
      have e2 : A.popV ((j : Int) + 1) = ⟨vk, vn⟩ := by unfold AHeap.popV; rw [ho]; simp [hs]
      have e3 : A.popE ((j : Int) + 1) = 0 := by unfold AHeap.popE; rw [ho]; simp [hs]
      rw [e1, e2, e3]
      obtain ⟨R, hR, hsl⟩ := op.slots hx
      have hcap := hsl.slcCap
      rw [hlen] at d2 hcap
      have hv : o.slots[sl.length]? = some ⟨vk, vn⟩ := by rw [hs]; simp
      obtain ⟨g2, off2, e4, x0, x1⟩ := valC hsl hv
      dsimp only at x0 x1
      subst e4
      have op2 := op.alloc (.cells #[.int .i64 vk, .int .i64 vn] 28)
      rw [size_alloc] at op2
      obtain ⟨R', hR', hsl2⟩ := op2.slots hx
      obtain ⟨_, _, _, _, e5, _, _, _, b2, _, _⟩ := op2.obj (k := j) (by omega)
      cases e5
      have b2f := op2.free rfl (k := j) (by omega) (j := 2) (by omega)
      have b0 := op2.c0
      have hs3 := hsl2
      rw [hs, show avcells (sl ++ [(⟨vk, vn⟩ : AVal)]) = avcells sl ++ [.int .i64 vk, .int .i64 vn] by simp [avcells, AVal.cells], List.length_append, List.length_cons, List.length_nil] at hs3
      have hs4 := (hs3.slcPop (by rw [avcells_length])).p3.slcStore (j := j * 5 + 2) (by omega) (.slice (some ⟨g2, off2, none⟩) sl.length xc)
      rw [← Nat.add_assoc, ← xscells_set (y := ({ o with slots := sl }, some ⟨g2, off2, none⟩, xc)) hx (by omega) rfl] at hs4
      have op3 : ROpen w0 _ p (A.upd ((j : Int) + 1) { o with slots := sl }) _ (X.set j ({ o with slots := sl }, some ⟨g2, off2, none⟩, xc)) _ oc qa qc ba bc fa fc sa sc := ROpen.putSlots (y := ({ o with slots := sl }, some ⟨g2, off2, none⟩, xc)) (R := R') op.hx (by omega) (hR' _) hs4.q3
      have HT := Lib.hid (r_touch (A := A.upd ((j : Int) + 1) { o with slots := sl }) hW op3.shut.drew ((j : Int) + 1))
      have hlt : sl.length < sl.length + 1 := by omega
      have hle : sl.length ≤ xc := by omega
      have hl5 : ((sl.length : Int) + 1) - 1 = (sl.length : Int) := by omega
      have hl6 : (0 : Int) ≤ (sl.length : Int) := by omega
      have hl7 : IntKind.i64.wrap (sl.length : Int) = (sl.length : Int) := IntWalk.i64_in _ (by omega)
      have hl8 : ((sl.length : Int) + 1 == 0) = false := by simp; omega
      clear e1 e2 e3 ho H op op2 op3 hx hobj hs hsl hsl2 hs3 hs4 hv hR hR'
      generalize sl.length = sn at *
      generalize A.T.length = N at *
      go_enter Try.func141, Try.ntmps141
      go_wp2_with fail
      refine HC.out.mono ?_
      rintro e w1 ⟨rfl, rfl⟩
      go_wp2_with fail
      refine wp_region_tail 13 (by kernel_rfl) (by kernel_rfl) ?_
      simp only [List.take_succ_cons, List.take_zero, List.drop_succ_cons, List.drop_zero]
      iterate 13 still_step
      refine wpStill_nil ?_
      go_wp2_with fail
      refine HT.out.mono ?_
      rintro e w2 ⟨rfl, h4⟩
      have ⟨u0, u1, _, _⟩ := val2' h4.p2
      have ⟨t0, t1, tf0, tf1⟩ := val2' h4.p3
      have hv2 := h4.p3.setVal vk vn
      go_wp2_with fail
      exact bodyPost_cell_tmp rfl rfl rfl (load_val hv2) rfl ⟨rfl, hv2.drop.drop2⟩
end
end Go.Proofs.Ytkpcngcegipalaa.Tw
