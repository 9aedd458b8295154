/- The law of cells that compares two objects. No condition. -/
import Derived.Test.YtkpcngcegipalaaCWp
import Derived.Test.YtkpcngcegipalaaCkW2
import Derived.Test.YtkpcngcegipalaaGrow
namespace Go.Proofs.Ytkpcngcegipalaa.Tw
set_option linter.unusedVariables false
set_option linter.unusedSimpArgs false
open Go Go.RowKit Go.MapKept

section
variable {w0 w : World} {F : HP}
theorem oboxC {ob : Nat} {ok oc om : Int} {sa : Option Addr} {sn sc : Nat} {tx : ByteArray} (h : Sat w0 w (pt ob (.cells #[.int .i64 ok, .int .i64 oc, .slice sa sn sc, .string tx, .int .i64 om] 39 (0, 0)) * F)) :
    w.cell? ⟨ob, 0, none⟩ = some (.int .i64 ok) ∧ w.cell? ⟨ob, 1, none⟩ = some (.int .i64 oc) ∧ w.cell? ⟨ob, 2, none⟩ = some (.slice sa sn sc) ∧ w.cell? ⟨ob, 4, none⟩ = some (.int .i64 om) :=
  have c := fun i v hv => Sat.cell (T := 39) (cs := #[.int .i64 ok, .int .i64 oc, .slice sa sn sc, .string tx, .int .i64 om]) h i (v := v) hv
  ⟨c 0 _ rfl, c 1 _ rfl, c 2 _ rfl, c 4 _ rfl⟩
theorem valC {a : Option Addr} {n c k : Nat} {l : List AVal} {x : AVal} (h : Sat w0 w (slc 28 2 a n c (avcells l) * F)) (hx : l[k]? = some x) : ∃ g off, a = some ⟨g, off, none⟩ ∧ w.cell? ⟨g, off + k * 2, none⟩ = some (.int .i64 x.kind) ∧ w.cell? ⟨g, off + k * 2 + 1, none⟩ = some (.int .i64 x.n) := by
  obtain ⟨e0, e1⟩ := avcells_get l k x hx
  obtain ⟨g, off, ea, c0, _⟩ := h.slcAt e0
  obtain ⟨g1, off1, ea1, c1, _⟩ := h.slcAt e1
  rw [ea] at ea1; cases ea1
  exact ⟨g, off, ea, c0, by rw [Nat.add_assoc]; exact c1⟩
set_option maxHeartbeats 1000000 in
theorem law_alike {k1 c1 m1 k2 c2 m2 : Int} {t1 t2 : ByteArray} {l1 l2 : List AVal} {a1 a2 : Option Addr} {n1 n2 d1 d2 : Nat} (h : Sat w0 w (slc 28 2 a1 n1 d1 (avcells l1) * (slc 28 2 a2 n2 d2 (avcells l2) * F))) (hl1 : l1.length = n1) (hl2 : l2.length = n2) (hn1 : n1 ≤ 1000000) (hn2 : n2 ≤ 1000000) :
    Calls Try.prog 50 #[.agg #[.int .i64 k1, .int .i64 c1, .slice a1 n1 d1, .string t1, .int .i64 m1], .agg #[.int .i64 k2, .int .i64 c2, .slice a2 n2 d2, .string t2, .int .i64 m2]] w fun e w' =>
      e = .returned (.bool (decide (AlikeO ⟨k1, c1, l1, t1, m1⟩ ⟨k2, c2, l2, t2, m2⟩))) ∧ Sat w0 w' (slc 28 2 a1 n1 d1 (avcells l1) * (slc 28 2 a2 n2 d2 (avcells l2) * F)) := by
  have HL := Lib.hid (And.intro hl1 hl2)
  clear hl1 hl2
  have hb := (h.alloc (.cells #[.int .i64 k1, .int .i64 c1, .slice a1 n1 d1, .string t1, .int .i64 m1] 39)).alloc (.cells #[.int .i64 k2, .int .i64 c2, .slice a2 n2 d2, .string t2, .int .i64 m2] 39)
  rw [size_alloc] at hb
  have ⟨y0, y1, y2, y4⟩ := oboxC hb
  have ⟨x0, x1, x2, x4⟩ := oboxC hb.p2
  have hfin := hb.drop.drop
  by_cases q1 : k1 = k2
  · subst q1
    by_cases q2 : c1 = c2
    · subst q2
      by_cases q3 : m1 = m2
      · subst q3
        by_cases q4 : n1 = n2
        · subst q4
          have HB := Lib.hid hb
          generalize hB1 : w.heap.size = B1 at *
          have HO := Lib.hid (fun (w' : World) (hx : Sat w0 w' (pt (B1 + 1) (.cells #[.int .i64 k1, .int .i64 c1, .slice a2 n1 d2, .string t2, .int .i64 m1] 39 (0, 0)) * (pt B1 (.cells #[.int .i64 k1, .int .i64 c1, .slice a1 n1 d1, .string t1, .int .i64 m1] 39 (0, 0)) * (slc 28 2 a1 n1 d1 (avcells l1) * (slc 28 2 a2 n1 d2 (avcells l2) * F))))) => And.intro (oboxC hx) (oboxC hx.p2))
          clear hfin hb h
          go_enter Try.func50, Try.ntmps50
          go_wp2_with fail
          go_loopw [5] (fun iv wr => ∃ k : Nat, iv = .int .i64 k ∧ k ≤ n1 ∧ Hid (l1.take k = l2.take k) ∧ Sat w0 wr (pt (B1 + 1) (.cells #[.int .i64 k1, .int .i64 c1, .slice a2 n1 d2, .string t2, .int .i64 m1] 39 (0, 0)) * (pt B1 (.cells #[.int .i64 k1, .int .i64 c1, .slice a1 n1 d1, .string t1, .int .i64 m1] 39 (0, 0)) * (slc 28 2 a1 n1 d1 (avcells l1) * (slc 28 2 a2 n1 d2 (avcells l2) * F))))) (fun iv _ => n1 - (intOf iv).toNat)
          case atStart => exact ⟨0, rfl, by omega, Lib.hid rfl, HB.out⟩
          case round =>
            clear x0 x1 x2 x4 y0 y1 y2 y4
            obtain ⟨k, rfl, hk, hb, hs⟩ := hrel
            have x2 := (HO.out _ hs).2.2.2.1
            have hal : l1 = l2 ↔ AlikeO ⟨k1, c1, l1, t1, m1⟩ ⟨k1, c1, l2, t2, m1⟩ := ⟨fun e => ⟨rfl, rfl, rfl, e⟩, fun e => e.2.2.2⟩
            have HA := Lib.hid hal
            clear hal
            by_cases hlt : k < n1
            · have hlen := HL.out
              have ex : l1[k]? = some (l1[k]'(by omega)) := List.getElem?_eq_getElem _
              have ey : l2[k]? = some (l2[k]'(by omega)) := List.getElem?_eq_getElem _
              generalize l1[k]'(by omega) = x at *
              generalize l2[k]'(by omega) = y at *
              obtain ⟨g, off, rfl, _, _⟩ := valC hs.p3 ex
              obtain ⟨g2, off2, rfl, _, _⟩ := valC hs.p4 ey
              have HC := Lib.hid (fun (w' : World) hx => And.intro (HO.out w' hx) (And.intro (valC hx.p3 ex) (valC hx.p4 ey)))
              have HX := Lib.hid (And.intro ex ey)
              have hkn : (k : Int) < (n1 : Int) := by omega
              have hk0 : (0 : Int) ≤ (k : Int) := by omega
              clear ex ey hlen
              obtain ⟨xk, xn⟩ := x
              obtain ⟨yk, yn⟩ := y
              by_cases hxy : xk = yk ∧ xn = yn
              · obtain ⟨rfl, rfl⟩ := hxy
                go_wp2_with fail
                refine wp_region_qq (fun w' => Sat w0 w' (pt (B1 + 1) (.cells #[.int .i64 k1, .int .i64 c1, .slice (some ⟨g2, off2, none⟩) n1 d2, .string t2, .int .i64 m1] 39 (0, 0)) * (pt B1 (.cells #[.int .i64 k1, .int .i64 c1, .slice (some ⟨g, off, none⟩) n1 d1, .string t1, .int .i64 m1] 39 (0, 0)) * (slc 28 2 (some ⟨g, off, none⟩) n1 d1 (avcells l1) * (slc 28 2 (some ⟨g2, off2, none⟩) n1 d2 (avcells l2) * F))))) (by kernel_rfl) (by kernel_rfl) hs ?_
                iterate 11 (first
                  | (refine QQ.skip (by rfl) ?_; simp only [Act.put, List.setIfInBounds_toArray, List.set_cons_zero, List.set_cons_succ])
                  | (refine QQ.want (by rfl) ?_
                     apply Exists.intro
                     refine ⟨?_, ?_⟩
                     · intro w hw
                       have ⟨⟨⟨_, _, z0, _⟩, ⟨_, _, z1, _⟩⟩, ⟨_, _, q0, q1, q2⟩, ⟨_, _, r0, r1, r2⟩⟩ := HC.out w hw; cases q0; cases r0
                       first
                         | (go_simp; done)
                         | (go_simp; rfl)
                         | (go_simp; fail)
                     simp only [Act.put, List.setIfInBounds_toArray, List.set_cons_zero, List.set_cons_succ]))
                refine QQ.nil ?_
                intro w9 h9
                go_wp2_with fail
                go_roundw
                case rel =>
                  refine ⟨k + 1, by go_num, by omega, Lib.hid ?_, h9⟩
                  rw [List.take_add_one, List.take_add_one, hb.out, HX.out.1, HX.out.2]
                case measure => simp [intOf]; omega
              · have hne : ¬ AlikeO ⟨k1, c1, l1, t1, m1⟩ ⟨k1, c1, l2, t2, m1⟩ := fun e => hxy (by
                  have h1 := HX.out.1
                  rw [HA.out.2 e, HX.out.2] at h1
                  have h2 := Option.some.inj h1
                  injection h2 with h3 h4
                  exact ⟨h3.symm, h4.symm⟩)
                have HNE := Lib.hid hne
                clear hne
                have fin : ∀ w', Sat w0 w' (pt (B1 + 1) (.cells #[.int .i64 k1, .int .i64 c1, .slice (some ⟨g2, off2, none⟩) n1 d2, .string t2, .int .i64 m1] 39 (0, 0)) * (pt B1 (.cells #[.int .i64 k1, .int .i64 c1, .slice (some ⟨g, off, none⟩) n1 d1, .string t1, .int .i64 m1] 39 (0, 0)) * (slc 28 2 (some ⟨g, off, none⟩) n1 d1 (avcells l1) * (slc 28 2 (some ⟨g2, off2, none⟩) n1 d2 (avcells l2) * F)))) → Sat w0 w' (slc 28 2 (some ⟨g, off, none⟩) n1 d1 (avcells l1) * (slc 28 2 (some ⟨g2, off2, none⟩) n1 d2 (avcells l2) * F)) := fun w' h => h.drop.drop
                have hcs : (xk = yk ∧ ¬ xn = yn) ∨ ¬ xk = yk := by
                  by_cases e : xk = yk
                  · exact .inl ⟨e, fun e2 => hxy ⟨e, e2⟩⟩
                  · exact .inr e
                clear hxy
                rcases hcs with ⟨rfl, hxy⟩ | hxy
                all_goals
                  go_wp2_with fail
                  refine wp_region_qq (fun w' => Sat w0 w' (pt (B1 + 1) (.cells #[.int .i64 k1, .int .i64 c1, .slice (some ⟨g2, off2, none⟩) n1 d2, .string t2, .int .i64 m1] 39 (0, 0)) * (pt B1 (.cells #[.int .i64 k1, .int .i64 c1, .slice (some ⟨g, off, none⟩) n1 d1, .string t1, .int .i64 m1] 39 (0, 0)) * (slc 28 2 (some ⟨g, off, none⟩) n1 d1 (avcells l1) * (slc 28 2 (some ⟨g2, off2, none⟩) n1 d2 (avcells l2) * F))))) (by kernel_rfl) (by kernel_rfl) hs ?_
                  iterate 11 (first
                    | (refine QQ.skip (by rfl) ?_; simp only [Act.put, List.setIfInBounds_toArray, List.set_cons_zero, List.set_cons_succ])
                    | (refine QQ.want (by rfl) ?_
                       apply Exists.intro
                       refine ⟨?_, ?_⟩
                       · intro w hw
                         have ⟨⟨⟨_, _, z0, _⟩, ⟨_, _, z1, _⟩⟩, ⟨_, _, q0, q1, q2⟩, ⟨_, _, r0, r1, r2⟩⟩ := HC.out w hw; cases q0; cases r0
                         first
                           | (go_simp; done)
                           | (go_simp; rfl)
                           | (go_simp; fail)
                       simp only [Act.put, List.setIfInBounds_toArray, List.set_cons_zero, List.set_cons_succ]))
                  refine QQ.nil ?_
                  intro w9 h9
                  go_wp2_with fail
                  go_ret
                  exact ⟨by rw [decide_eq_false HNE.out]; rfl, fin _ h9⟩
            · have hkn : k = n1 := by omega
              subst hkn
              go_wp2_with fail
              go_ret
              have e : l1 = l2 := by
                have := hb.out
                have hl1 := HL.out
                rwa [List.take_of_length_le (by omega), List.take_of_length_le (by omega)] at this
              exact ⟨by rw [decide_eq_true (HA.out.1 e)]; rfl, hs.drop.drop⟩
        · have f4 : ((n1 : Int) != (n2 : Int)) = true := by simp; omega
          have hne : ¬ AlikeO ⟨k1, c1, l1, t1, m1⟩ ⟨k1, c1, l2, t2, m1⟩ := fun e => q4 (by rw [← HL.out.1, ← HL.out.2, show l1 = l2 from e.2.2.2])
          rw [decide_eq_false hne]
          clear hne hb h q4
          go_enter Try.func50, Try.ntmps50
          go_wp2_with fail
          go_ret
          exact ⟨rfl, hfin⟩
      · have f4 : (m1 != m2) = true := by simp [q3]
        have hne : ¬ AlikeO ⟨k1, c1, l1, t1, m1⟩ ⟨k1, c1, l2, t2, m2⟩ := fun e => q3 e.2.2.1
        rw [decide_eq_false hne]
        clear hne hb h q3
        go_enter Try.func50, Try.ntmps50
        go_wp2_with fail
        go_ret
        exact ⟨rfl, hfin⟩
    · have f4 : (c1 != c2) = true := by simp [q2]
      have hne : ¬ AlikeO ⟨k1, c1, l1, t1, m1⟩ ⟨k1, c2, l2, t2, m2⟩ := fun e => q2 e.2.1
      rw [decide_eq_false hne]
      clear hne hb h q2
      go_enter Try.func50, Try.ntmps50
      go_wp2_with fail
      go_ret
      exact ⟨rfl, hfin⟩
  · have f4 : (k1 != k2) = true := by simp [q1]
    have hne : ¬ AlikeO ⟨k1, c1, l1, t1, m1⟩ ⟨k2, c2, l2, t2, m2⟩ := fun e => q1 e.1
    rw [decide_eq_false hne]
    clear hne hb h q1
    go_enter Try.func50, Try.ntmps50
    go_wp2_with fail
    go_ret
    exact ⟨rfl, hfin⟩
end
end Go.Proofs.Ytkpcngcegipalaa.Tw
