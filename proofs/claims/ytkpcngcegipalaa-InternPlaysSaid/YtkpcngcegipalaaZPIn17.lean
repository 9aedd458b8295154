/- tallowref13: touch, Value, count. No condition. -/
import Derived.Test.YtkpcngcegipalaaZPIn16
namespace Go.Proofs.Ytkpcngcegipalaa.Tw
set_option linter.unusedVariables false
set_option linter.unusedSimpArgs false
open Go Go.RowKit Go.MapKept

section
variable {w0 w : World} {p : Nat} {A : AHeap} {F : HP} {B : Int}
theorem ROpen.watch {X : List XObj} {oa : Option Addr} {oc : Nat} {qa : Option Addr} {qc : Nat} {ba : Option Addr} {bc : Nat} {fa : Option Addr} {fc : Nat} {sa : Option Addr} {sc : Nat} (h : ROpen w0 w p A F X oa oc qa qc ba bc fa fc sa sc) :
    ∃ G, Sat w0 w (slc 3 1 sa A.watch.length sc (A.watch.map ival) * G) :=
  ⟨row p 51 (rcellsH A oa oc qa qc ba bc fa fc sa sc) * (slc 39 5 oa A.T.length oc (xscells X) * (xslotsR X * (slc 3 1 qa A.queue.length qc (A.queue.map ival) * (slc 3 1 ba A.buf.length bc (A.buf.map ival) * (slc 176 2 fa A.fins.length fc (finCells A.fins) * F))))), h.hs.cast (by unfold rrest; ac_rfl)⟩
set_option maxHeartbeats 1000000 in
theorem r_touch (hW : A.watch.length ≤ 1000000) (h : Sat w0 w (refR13 p A * F)) (n : Int) :
    Calls Try.prog 130 #[.pointer (some ⟨p, 0, none⟩), .int .i64 n] w fun e w' => e = .returned (.tuple #[]) ∧ Sat w0 w' (refR13 p (A.touch n) * F) := by
  obtain ⟨X, oa, oc, qa, qc, ba, bc, fa, fc, sa, sc, op⟩ := h.openR
  obtain ⟨G, hg⟩ := op.watch
  have c5 := op.c5
  have c6 := op.c6
  have f6 := op.hs.free 6
  cases hd : decide (n ∈ A.watch) with
  | true =>
    have HC := Lib.hid (r_in hg rfl hW n hd)
    have op2 : ROpen w0 (w.setCell ⟨p, 6, none⟩ (.bool true)) p (A.touch n) F X oa oc qa qc ba bc fa fc sa sc := by
      refine ⟨op.hx, (op.hs.store (i := 6) (.bool true)).cast ?_⟩
      unfold AHeap.touch rcellsH rrest
      rw [hd, Bool.or_true]
      rfl
    have HO := Lib.hid op2.shut
    clear op op2 hg h hd
    generalize A.watch.length = wn at *
    go_enter Try.func130, Try.ntmps130
    go_wp2_with fail
    refine HC.out.mono ?_
    rintro e w1 ⟨rfl, rfl⟩
    go_wp2_with fail
    go_end0
    exact ⟨rfl, HO.out⟩
  | false =>
    have HC := Lib.hid (r_in hg rfl hW n hd)
    have e : A.touch n = A := by unfold AHeap.touch; rw [hd, Bool.or_false]
    have HO := Lib.hid (e.symm ▸ h : Sat w0 w (refR13 p (A.touch n) * F))
    clear op hg h hd e
    generalize A.watch.length = wn at *
    go_enter Try.func130, Try.ntmps130
    go_wp2_with fail
    refine HC.out.mono ?_
    rintro e w1 ⟨rfl, rfl⟩
    go_wp2_with fail
    go_end0
    exact ⟨rfl, HO.out⟩
theorem ref_range {v : AVal} (h : refV v = true) : 1 ≤ v.n ∧ v.n ≤ 2147483647 ∧ 5 ≤ v.kind ∧ v.kind ≤ 9 := by
  obtain ⟨k, n⟩ := v
  unfold refV at h
  simp only [Bool.and_eq_true, decide_eq_true_eq] at h
  obtain ⟨h1, h2⟩ := h
  unfold mayV within at h2
  simp only at h2
  split at h2
  · omega
  · split at h2
    · omega
    · split at h2
      · omega
      · split at h2
        · omega
        · simp only [Bool.and_eq_true, decide_eq_true_eq] at h2
          exact ⟨h2.2.1, h2.2.2, h2.1.1, h2.1.2⟩
theorem kind_obj (H : HW A B) {n k : Int} (hk : 5 ≤ k) : decide ((A.obj n).kind = k) = (match A.objs n with | some o => decide (o.kind = k) | none => false) := by
  unfold AHeap.obj
  cases A.objs n with
  | none => exact decide_eq_false (show ¬ (0 : Int) = k by omega)
  | some o => rfl
theorem valR {b : Nat} {x y : Int} (h : Sat w0 w (pt b (.cells #[.int .i64 x, .int .i64 y] 28 (0, 0)) * F)) : w.cell? ⟨b, 0, none⟩ = some (.int .i64 x) ∧ w.cell? ⟨b, 1, none⟩ = some (.int .i64 y) :=
  ⟨Sat.cell (T := 28) (cs := #[.int .i64 x, .int .i64 y]) h 0 rfl, Sat.cell (T := 28) (cs := #[.int .i64 x, .int .i64 y]) h 1 rfl⟩
set_option maxHeartbeats 2000000 in
theorem r_ValueO {X : List XObj} {oa : Option Addr} {oc : Nat} {qa : Option Addr} {qc : Nat} {ba : Option Addr} {bc : Nat} {fa : Option Addr} {fc : Nat} {sa : Option Addr} {sc : Nat} (H : HW A B) (hB : B ≤ 1000000) (op : ROpen w0 w p A F X oa oc qa qc ba bc fa fc sa sc) (k n : Int) {b : Bool} (hb : thereV A ⟨k, n⟩ = b) :
    Calls Try.prog 140 #[.pointer (some ⟨p, 0, none⟩), .agg #[.int .i64 k, .int .i64 n]] w fun e w' => e = .returned (.bool b) ∧ Sat w0 w' (opG p A X oa oc qa qc ba bc fa fc sa sc F) := by
  subst hb
  have h : Sat w0 w (opG p A X oa oc qa qc ba bc fa fc sa sc F) := op.hs
  have h1 := h.alloc (.cells #[.int .i64 k, .int .i64 n] 28)
  generalize hbx : w.heap.size = bx at *
  cases hm : mayV ⟨k, n⟩ with
  | false =>
    have HM := Lib.hid (show thereV A ⟨k, n⟩ = false by unfold thereV; rw [hm]; rfl)
    have HC := Lib.hid (ref_May ⟨k, n⟩ h1)
    have ⟨y0, y1⟩ := valR h1
    rw [hm] at HC
    clear hm h1 h
    go_enter Try.func140, Try.ntmps140
    go_wp2_with fail
    refine HC.out.mono ?_
    rintro e w1 ⟨rfl, h2⟩
    go_wp2_with fail
    go_ret
    exact ⟨by rw [HM.out]; rfl, h2.drop⟩
  | true =>
    by_cases hk0 : k = 0
    · subst hk0
      have HM := Lib.hid (show thereV A ⟨0, n⟩ = false by unfold thereV; simp)
      have HC := Lib.hid (ref_May ⟨0, n⟩ h1)
      have ⟨y0, y1⟩ := valR h1
      rw [hm] at HC
      clear hm h1 h
      go_enter Try.func140, Try.ntmps140
      go_wp2_with fail
      refine HC.out.mono ?_
      rintro e w1 ⟨rfl, h2⟩
      have ⟨x0, x1⟩ := valR h2
      go_wp2_with fail
      go_ret
      exact ⟨by rw [HM.out]; rfl, h2.drop⟩
    · have q0 : (k == 0) = false := by simpa using hk0
      have HC := Lib.hid (ref_May ⟨k, n⟩ h1)
      have ⟨y0, y1⟩ := valR h1
      have HCt : thereV A ⟨k, n⟩ = (!refV ⟨k, n⟩ || match A.objs n with | some o => decide (o.kind = k) | none => false) := by unfold thereV; rw [hm, decide_eq_false (show ¬ (⟨k, n⟩ : AVal).kind = 0 from hk0)]; rfl
      rw [hm] at HC
      clear hm hk0
      cases hr : refV ⟨k, n⟩ with
      | false =>
        have HM := Lib.hid (show thereV A ⟨k, n⟩ = true by rw [HCt, hr]; rfl)
        have HR := Lib.hid (fun (w' : World) (hx : Sat w0 w' (pt bx (.cells #[.int .i64 k, .int .i64 n] 28 (0, 0)) * (opG p A X oa oc qa qc ba bc fa fc sa sc F))) => ref_Ref ⟨k, n⟩ hx)
        rw [hr] at HR
        clear h1 h HCt hr
        go_enter Try.func140, Try.ntmps140
        go_wp2_with fail
        refine HC.out.mono ?_
        rintro e w1 ⟨rfl, h2⟩
        have ⟨x0, x1⟩ := valR h2
        go_wp2_with fail
        refine wp_region_qq (fun w' => Sat w0 w' (pt bx (.cells #[.int .i64 k, .int .i64 n] 28 (0, 0)) * (opG p A X oa oc qa qc ba bc fa fc sa sc F))) (by kernel_rfl) (by kernel_rfl) h2 ?_
        iterate 29 (first
          | (refine QQ.skip (by rfl) ?_; simp only [Act.put, List.setIfInBounds_toArray, List.set_cons_zero, List.set_cons_succ])
          | (refine QQ.want (by rfl) ?_
             apply Exists.intro
             refine ⟨?_, ?_⟩
             · intro w hw
               have ⟨z0, z1⟩ := valR hw
               first
                 | (go_simp; done)
                 | (go_simp; rfl)
                 | (go_simp; (go_at_call 149; exact HR.out _ hw))
             simp only [Act.put, List.setIfInBounds_toArray, List.set_cons_zero, List.set_cons_succ]))
        refine QQ.nil ?_
        intro w3 h3
        go_wp2_with fail
        go_ret
        exact ⟨by rw [HM.out]; rfl, h3.drop⟩
      | true =>
        obtain ⟨r1, r2, r3, r4⟩ := ref_range hr
        dsimp only at r1 r2 r3 r4
        have hT := H.t
        by_cases hle : n ≤ A.T.length
        · obtain ⟨j, rfl⟩ : ∃ j : Nat, n = (j : Int) + 1 := ⟨(n - 1).toNat, by omega⟩
          have HM := Lib.hid (show thereV A ⟨k, (j : Int) + 1⟩ = decide ((A.obj ((j : Int) + 1)).kind = k) by rw [HCt, hr, kind_obj H r3]; rfl)
          obtain ⟨g, off, xa, xc, eoa, _⟩ := op.obj (k := j) (by omega)
          subst eoa
          have h2' : ROpen w0 (w.alloc (.cells #[.int .i64 k, .int .i64 ((j : Int) + 1)] 28)) p A (pt bx (.cells #[.int .i64 k, .int .i64 ((j : Int) + 1)] 28 (0, 0)) * F) X (some ⟨g, off, none⟩) oc qa qc ba bc fa fc sa sc := ⟨op.hx, by have := op.hs.alloc (.cells #[.int .i64 k, .int .i64 ((j : Int) + 1)] 28); rw [hbx] at this; exact this.cast (by unfold rrest; ac_rfl)⟩
          have hfact : ∀ w', Sat w0 w' (pt bx (.cells #[.int .i64 k, .int .i64 ((j : Int) + 1)] 28 (0, 0)) * (row p 51 (rcellsH A (some ⟨g, off, none⟩) oc qa qc ba bc fa fc sa sc) * (slc 39 5 (some ⟨g, off, none⟩) A.T.length oc (xscells X) * (xslotsR X * rrest A qa qc ba bc fa fc sa sc F)))) →
              (w'.cell? ⟨bx, 0, none⟩ = some (.int .i64 k) ∧ w'.cell? ⟨bx, 1, none⟩ = some (.int .i64 ((j : Int) + 1))) ∧ w'.cell? ⟨p, 0, none⟩ = some (.slice (some ⟨g, off, none⟩) A.T.length oc) ∧ w'.cell? ⟨g, off + j * 5, none⟩ = some (.int .i64 (A.obj ((j : Int) + 1)).kind) := fun w' hx => by
            have o2 : ROpen w0 w' p A F X (some ⟨g, off, none⟩) oc qa qc ba bc fa fc sa sc := ⟨op.hx, hx.drop⟩
            obtain ⟨g', off', _, _, e, _, d0, _⟩ := o2.obj (k := j) (by omega)
            cases e
            exact ⟨valR hx, o2.c0, d0⟩
          have HF := Lib.hid hfact
          have HR := Lib.hid (fun (w' : World) (hx : Sat w0 w' (pt bx (.cells #[.int .i64 k, .int .i64 ((j : Int) + 1)] 28 (0, 0)) * (row p 51 (rcellsH A (some ⟨g, off, none⟩) oc qa qc ba bc fa fc sa sc) * (slc 39 5 (some ⟨g, off, none⟩) A.T.length oc (xscells X) * (xslotsR X * rrest A qa qc ba bc fa fc sa sc F))))) => ref_Ref ⟨k, (j : Int) + 1⟩ hx)
          rw [hr] at HR
          have HC2 := Lib.hid (ref_May ⟨k, (j : Int) + 1⟩ ((op.hs.alloc (.cells #[.int .i64 k, .int .i64 ((j : Int) + 1)] 28))))
          rw [show mayV ⟨k, (j : Int) + 1⟩ = true by unfold refV at hr; simp only [Bool.and_eq_true] at hr; exact hr.2, hbx] at HC2
          have HFIN := Lib.hid (fun (w' : World) (hx : Sat w0 w' (row p 51 (rcellsH A (some ⟨g, off, none⟩) oc qa qc ba bc fa fc sa sc) * (slc 39 5 (some ⟨g, off, none⟩) A.T.length oc (xscells X) * (xslotsR X * rrest A qa qc ba bc fa fc sa sc F)))) => (show Sat w0 w' (opG p A X (some ⟨g, off, none⟩) oc qa qc ba bc fa fc sa sc F) from hx))
          have hj1 : (j : Int) + 1 - 1 = j := by omega
          have hj2 : (0 : Int) ≤ (j : Int) := by omega
          have hj3 : (j : Int) < (A.T.length : Int) := by omega
          have hj4 : IntKind.i64.wrap (j : Int) = j := IntWalk.i64_in _ (by omega)
          have hle2 : decide ((j : Int) + 1 ≤ (A.T.length : Int)) = true := by simp; omega
          generalize (A.obj ((j : Int) + 1)).kind = kd at *
          generalize A.T.length = N at *
          clear hfact h2' op h h1 HCt hr HC H hT hle
          have hcs : kd = k ∨ ¬ kd = k := Classical.em _
          rcases hcs with hkk | hkk
          · subst hkk
            go_enter Try.func140, Try.ntmps140
            go_wp2_with fail
            refine HC2.out.mono ?_
            rintro e w1 ⟨rfl, h2⟩
            have ⟨⟨x0, x1⟩, x2, x3⟩ := HF.out _ h2
            go_wp2_with fail
            refine wp_region_qq (fun w' => Sat w0 w' (pt bx (.cells #[.int .i64 kd, .int .i64 ((j : Int) + 1)] 28 (0, 0)) * (row p 51 (rcellsH A (some ⟨g, off, none⟩) oc qa qc ba bc fa fc sa sc) * (slc 39 5 (some ⟨g, off, none⟩) N oc (xscells X) * (xslotsR X * rrest A qa qc ba bc fa fc sa sc F))))) (by kernel_rfl) (by kernel_rfl) h2 ?_
            iterate 29 (first
              | (refine QQ.skip (by rfl) ?_; simp only [Act.put, List.setIfInBounds_toArray, List.set_cons_zero, List.set_cons_succ])
              | (refine QQ.want (by rfl) ?_
                 apply Exists.intro
                 refine ⟨?_, ?_⟩
                 · intro w hw
                   have ⟨⟨z0, z1⟩, z2, z3⟩ := HF.out w hw
                   first
                     | (go_simp; done)
                     | (go_simp; rfl)
                     | (go_simp; (go_at_call 149; exact HR.out _ hw))
                 simp only [Act.put, List.setIfInBounds_toArray, List.set_cons_zero, List.set_cons_succ]))
            refine QQ.nil ?_
            intro w3 h3
            go_wp2_with fail
            go_ret
            exact ⟨by rw [HM.out]; first | rfl | (rw [decide_eq_true rfl]; rfl), HFIN.out _ h3.drop⟩
          · have hq : (kd == k) = false := by simpa using hkk
            have HKK := Lib.hid hkk
            clear hkk
            go_enter Try.func140, Try.ntmps140
            go_wp2_with fail
            refine HC2.out.mono ?_
            rintro e w1 ⟨rfl, h2⟩
            have ⟨⟨x0, x1⟩, x2, x3⟩ := HF.out _ h2
            go_wp2_with fail
            refine wp_region_qq (fun w' => Sat w0 w' (pt bx (.cells #[.int .i64 k, .int .i64 ((j : Int) + 1)] 28 (0, 0)) * (row p 51 (rcellsH A (some ⟨g, off, none⟩) oc qa qc ba bc fa fc sa sc) * (slc 39 5 (some ⟨g, off, none⟩) N oc (xscells X) * (xslotsR X * rrest A qa qc ba bc fa fc sa sc F))))) (by kernel_rfl) (by kernel_rfl) h2 ?_
            iterate 29 (first
              | (refine QQ.skip (by rfl) ?_; simp only [Act.put, List.setIfInBounds_toArray, List.set_cons_zero, List.set_cons_succ])
              | (refine QQ.want (by rfl) ?_
                 apply Exists.intro
                 refine ⟨?_, ?_⟩
                 · intro w hw
                   have ⟨⟨z0, z1⟩, z2, z3⟩ := HF.out w hw
                   first
                     | (go_simp; done)
                     | (go_simp; rfl)
                     | (go_simp; (go_at_call 149; exact HR.out _ hw))
                 simp only [Act.put, List.setIfInBounds_toArray, List.set_cons_zero, List.set_cons_succ]))
            refine QQ.nil ?_
            intro w3 h3
            go_wp2_with fail
            go_ret
            exact ⟨by rw [HM.out]; first | (rw [decide_eq_false HKK.out]; rfl) | rfl, HFIN.out _ h3.drop⟩
        · have HM := Lib.hid (show thereV A ⟨k, n⟩ = false by
            rw [HCt, hr]
            cases ho : A.objs n with
            | none => rfl
            | some o => have := obj_in H (n := n) (by rw [ho]; rfl); omega)
          have hfact : ∀ w', Sat w0 w' (pt bx (.cells #[.int .i64 k, .int .i64 n] 28 (0, 0)) * (row p 51 (rcellsH A oa oc qa qc ba bc fa fc sa sc) * (slc 39 5 oa A.T.length oc (xscells X) * (xslotsR X * rrest A qa qc ba bc fa fc sa sc F)))) →
              (w'.cell? ⟨bx, 0, none⟩ = some (.int .i64 k) ∧ w'.cell? ⟨bx, 1, none⟩ = some (.int .i64 n)) ∧ w'.cell? ⟨p, 0, none⟩ = some (.slice oa A.T.length oc) := fun w' hx => ⟨valR hx, ROpen.c0 ⟨op.hx, hx.drop⟩⟩
          have HF := Lib.hid hfact
          have HR := Lib.hid (fun (w' : World) (hx : Sat w0 w' (pt bx (.cells #[.int .i64 k, .int .i64 n] 28 (0, 0)) * (row p 51 (rcellsH A oa oc qa qc ba bc fa fc sa sc) * (slc 39 5 oa A.T.length oc (xscells X) * (xslotsR X * rrest A qa qc ba bc fa fc sa sc F))))) => ref_Ref ⟨k, n⟩ hx)
          rw [hr] at HR
          have HC2 := Lib.hid (ref_May ⟨k, n⟩ ((op.hs.alloc (.cells #[.int .i64 k, .int .i64 n] 28))))
          rw [show mayV ⟨k, n⟩ = true by unfold refV at hr; simp only [Bool.and_eq_true] at hr; exact hr.2, hbx] at HC2
          have HFIN := Lib.hid (fun (w' : World) (hx : Sat w0 w' (row p 51 (rcellsH A oa oc qa qc ba bc fa fc sa sc) * (slc 39 5 oa A.T.length oc (xscells X) * (xslotsR X * rrest A qa qc ba bc fa fc sa sc F)))) => (show Sat w0 w' (opG p A X oa oc qa qc ba bc fa fc sa sc F) from hx))
          have hle2 : decide (n ≤ (A.T.length : Int)) = false := by simp; omega
          generalize A.T.length = N at *
          clear hfact op h h1 HCt hr HC H hT hle
          go_enter Try.func140, Try.ntmps140
          go_wp2_with fail
          refine HC2.out.mono ?_
          rintro e w1 ⟨rfl, h2⟩
          have ⟨⟨x0, x1⟩, x2⟩ := HF.out _ h2
          go_wp2_with fail
          refine wp_region_qq (fun w' => Sat w0 w' (pt bx (.cells #[.int .i64 k, .int .i64 n] 28 (0, 0)) * (row p 51 (rcellsH A oa oc qa qc ba bc fa fc sa sc) * (slc 39 5 oa N oc (xscells X) * (xslotsR X * rrest A qa qc ba bc fa fc sa sc F))))) (by kernel_rfl) (by kernel_rfl) h2 ?_
          iterate 29 (first
            | (refine QQ.skip (by rfl) ?_; simp only [Act.put, List.setIfInBounds_toArray, List.set_cons_zero, List.set_cons_succ])
            | (refine QQ.want (by rfl) ?_
               apply Exists.intro
               refine ⟨?_, ?_⟩
               · intro w hw
                 have ⟨⟨z0, z1⟩, z2⟩ := HF.out w hw
                 first
                   | (go_simp; done)
                   | (go_simp; rfl)
                   | (go_simp; (go_at_call 149; exact HR.out _ hw))
               simp only [Act.put, List.setIfInBounds_toArray, List.set_cons_zero, List.set_cons_succ]))
          refine QQ.nil ?_
          intro w3 h3
          go_wp2_with fail
          go_ret
          exact ⟨by rw [HM.out]; rfl, HFIN.out _ h3.drop⟩
theorem r_Value (H : HW A B) (hB : B ≤ 1000000) (h : Sat w0 w (refR13 p A * F)) (k n : Int) {b : Bool} (hb : thereV A ⟨k, n⟩ = b) :
    Calls Try.prog 140 #[.pointer (some ⟨p, 0, none⟩), .agg #[.int .i64 k, .int .i64 n]] w fun e w' => e = .returned (.bool b) ∧ Sat w0 w' (refR13 p A * F) := by
  obtain ⟨X, oa, oc, qa, qc, ba, bc, fa, fc, sa, sc, op⟩ := h.openR
  refine (r_ValueO H hB op k n hb).mono ?_
  rintro e w' ⟨rfl, hx⟩
  exact ⟨rfl, ROpen.shut ⟨op.hx, hx⟩⟩
end
end Go.Proofs.Ytkpcngcegipalaa.Tw
namespace Go.Proofs.Ytkpcngcegipalaa.Tw
set_option linter.unusedVariables false
set_option linter.unusedSimpArgs false
open Go Go.RowKit Go.MapKept

section
variable {w0 w : World} {p : Nat} {A : AHeap} {F : HP} {B : Int} {X : List XObj} {oa : Option Addr} {oc : Nat} {qa : Option Addr} {qc : Nat} {ba : Option Addr} {bc : Nat} {fa : Option Addr} {fc : Nat} {sa : Option Addr} {sc : Nat}
theorem ROpen.free (h : ROpen w0 w p A F X oa oc qa qc ba bc fa fc sa sc) {k g off : Nat} (e : oa = some ⟨g, off, none⟩) (hk : k < A.T.length) {j : Nat} (hj : j < 5) : w.frozen? ⟨g, off + k * 5 + j, none⟩ = false := by
  have hl := h.len
  have hlt : k * 5 + j < (xscells X).length := by rw [xscells_length]; omega
  obtain ⟨g', off', e', _, f⟩ := h.hs.p2.slcAt (List.getElem?_eq_getElem hlt)
  rw [e] at e'; cases e'
  rw [Nat.add_assoc]; exact f
/-- a store into an object's field -/
theorem storeObjX {RW R : HP} {N k f g off : Nat} {o o' : AObj} {xa : Option Addr} {xc : Nat} {v : Value} (h : Sat w0 w (RW * (slc 39 5 (some ⟨g, off, none⟩) N oc (xscells X) * (xslotsR X * R)))) (hx : X[k]? = some (o, xa, xc)) (hk : k < N) (hf : f < 5)
    (hc : xcells (o', xa, xc) = (xcells (o, xa, xc)).set f v) (hs : o'.slots = o.slots) :
    Sat w0 (w.setCell ⟨g, off + k * 5 + f, none⟩ v) (RW * (slc 39 5 (some ⟨g, off, none⟩) N oc (xscells (X.set k (o', xa, xc))) * (xslotsR (X.set k (o', xa, xc)) * R))) := by
  have h1 := (h.p2).slcStore (j := k * 5 + f) (by omega) v
  rw [← Nat.add_assoc] at h1
  obtain ⟨R', e1, e2⟩ := xslotsR_set (y := (o', xa, xc)) hx
  rw [xscells_set hx hf hc, e2]
  dsimp only
  rw [hs]
  dsimp only at e1
  rw [e1] at h1
  exact h1.p2
theorem cnt_cases (A : AHeap) (v : AVal) : (refV v = false ∧ cntO A v = none ∧ cntE A v = 0) ∨ (refV v = true ∧ thereV A v = false ∧ cntO A v = none ∧ cntE A v = 5) ∨
    (refV v = true ∧ thereV A v = true ∧ ∃ o, A.objs v.n = some o ∧ o.count = 0 ∧ cntO A v = none ∧ cntE A v = 5) ∨ (refV v = true ∧ thereV A v = true ∧ ∃ o, A.objs v.n = some o ∧ o.count ≠ 0 ∧ cntO A v = some o ∧ cntE A v = 0) := by
  cases hr : refV v with
  | false => exact .inl ⟨rfl, by unfold cntO; rw [hr]; rfl, by unfold cntE cntO; rw [hr]; rfl⟩
  | true =>
    cases ht : thereV A v with
    | false => exact .inr (.inl ⟨rfl, rfl, by unfold cntO; rw [hr, ht]; rfl, by unfold cntE cntO; rw [hr, ht]; rfl⟩)
    | true =>
      have hmt := ht
      unfold thereV at hmt
      rw [hr] at hmt
      cases ho : A.objs v.n with
      | none => rw [ho] at hmt; simp at hmt
      | some o =>
        have e : cntO A v = if o.count = 0 then none else some o := by unfold cntO; rw [hr, ht, ho]; rfl
        by_cases hc : o.count = 0
        · rw [if_pos hc] at e
          exact .inr (.inr (.inl ⟨rfl, rfl, o, rfl, hc, e, by unfold cntE; rw [hr, e]; rfl⟩))
        · rw [if_neg hc] at e
          exact .inr (.inr (.inr ⟨rfl, rfl, o, rfl, hc, e, by unfold cntE; rw [hr, e]; rfl⟩))
/-- the number that count hands back -/
def cntN (A : AHeap) (v : AVal) : Int := match cntO A v with | some _ => v.n | none => 0
set_option maxHeartbeats 2000000 in
theorem r_count (H : HW A B) (hB : B ≤ 1000000) (h : Sat w0 w (refR13 p A * F)) (k n : Int) {m e0 : Int} (hm : cntN A ⟨k, n⟩ = m) (he : cntE A ⟨k, n⟩ = e0) :
    Calls Try.prog 129 #[.pointer (some ⟨p, 0, none⟩), .agg #[.int .i64 k, .int .i64 n]] w fun e w' => e = .returned (.tuple #[.int .i64 m, .int .i64 e0]) ∧ Sat w0 w' (refR13 p A * F) := by
  subst hm he
  have h1 := h.alloc (.cells #[.int .i64 k, .int .i64 n] 28)
  generalize hbx : w.heap.size = bx at *
  have ⟨y0, y1⟩ := valR h1
  rcases cnt_cases A ⟨k, n⟩ with ⟨hr, c1, c2⟩ | ⟨hr, ht, c1, c2⟩ | ⟨hr, ht, o, ho, hc, c1, c2⟩ | ⟨hr, ht, o, ho, hc, c1, c2⟩
  · have HC := Lib.hid (ref_Ref ⟨k, n⟩ h1)
    rw [hr] at HC
    have e1 : cntN A ⟨k, n⟩ = 0 := by unfold cntN; rw [c1]
    rw [e1, c2]
    clear h1 h hr c1 c2 e1
    go_enter Try.func129, Try.ntmps129
    go_wp2_with fail
    refine HC.out.mono ?_
    rintro e w1 ⟨rfl, h2⟩
    go_wp2_with fail
    go_ret2
    exact ⟨rfl, h2.drop⟩
  · obtain ⟨X, oa, oc, qa, qc, ba, bc, fa, fc, sa, sc, op⟩ := h.openR
    have h1' : ROpen w0 (w.alloc (.cells #[.int .i64 k, .int .i64 n] 28)) p A (pt bx (.cells #[.int .i64 k, .int .i64 n] 28 (0, 0)) * F) X oa oc qa qc ba bc fa fc sa sc := ⟨op.hx, by have := op.hs.alloc (.cells #[.int .i64 k, .int .i64 n] 28); rw [hbx] at this; exact this.cast (by unfold rrest; ac_rfl)⟩
    have HC := Lib.hid (ref_Ref ⟨k, n⟩ h1'.hs)
    rw [hr] at HC
    have HV := Lib.hid (fun (w' : World) (hx : Sat w0 w' (opG p A X oa oc qa qc ba bc fa fc sa sc (pt bx (.cells #[.int .i64 k, .int .i64 n] 28 (0, 0)) * F))) => r_ValueO H hB ⟨op.hx, hx⟩ k n ht)
    have HD := Lib.hid (fun (w' : World) (hx : Sat w0 w' (opG p A X oa oc qa qc ba bc fa fc sa sc (pt bx (.cells #[.int .i64 k, .int .i64 n] 28 (0, 0)) * F))) => valR (hx.cast (show _ = pt bx (.cells #[.int .i64 k, .int .i64 n] 28 (0, 0)) * opG p A X oa oc qa qc ba bc fa fc sa sc F by unfold opG rrest; ac_rfl)))
    have HFIN := Lib.hid (fun (w' : World) (hx : Sat w0 w' (opG p A X oa oc qa qc ba bc fa fc sa sc (pt bx (.cells #[.int .i64 k, .int .i64 n] 28 (0, 0)) * F))) => ((ROpen.shut ⟨op.hx, hx⟩).p2.drop : Sat w0 w' (refR13 p A * F)))
    have e1 : cntN A ⟨k, n⟩ = 0 := by unfold cntN; rw [c1]
    rw [e1, c2]
    clear h1 h hr c1 c2 e1 h1' op ht H
    go_enter Try.func129, Try.ntmps129
    go_wp2_with fail
    refine HC.out.mono ?_
    rintro e w1 ⟨rfl, h2⟩
    have ⟨x0, x1⟩ := HD.out _ h2
    go_wp2_with fail
    refine wp_region_qq (fun w' => Sat w0 w' (opG p A X oa oc qa qc ba bc fa fc sa sc (pt bx (.cells #[.int .i64 k, .int .i64 n] 28 (0, 0)) * F))) (by kernel_rfl) (by kernel_rfl) h2 ?_
    iterate 17 (first
      | (refine QQ.skip (by rfl) ?_; simp only [Act.put, List.setIfInBounds_toArray, List.set_cons_zero, List.set_cons_succ])
      | (refine QQ.want (by rfl) ?_
         apply Exists.intro
         refine ⟨?_, ?_⟩
         · intro w hw
           have ⟨z0, z1⟩ := HD.out w hw
           first
             | (go_simp; done)
             | (go_simp; rfl)
             | (go_simp; (go_at_call 140; exact HV.out _ hw))
         simp only [Act.put, List.setIfInBounds_toArray, List.set_cons_zero, List.set_cons_succ]))
    refine QQ.nil ?_
    intro w3 h3
    go_wp2_with fail
    go_ret2
    exact ⟨rfl, HFIN.out _ h3⟩
  all_goals
    have hrng := obj_in H (n := n) (by dsimp only at ho; rw [ho]; rfl)
    obtain ⟨j, rfl⟩ : ∃ j : Nat, n = (j : Int) + 1 := ⟨(n - 1).toNat, by omega⟩
    dsimp only at ho
    have hobj : A.obj ((j : Int) + 1) = o := by unfold AHeap.obj; rw [ho]; rfl
    obtain ⟨X, oa, oc, qa, qc, ba, bc, fa, fc, sa, sc, op⟩ := h.openR
    obtain ⟨g, off, xa, xc, eoa, _⟩ := op.obj (k := j) (by omega)
    subst eoa
    have h1' : ROpen w0 (w.alloc (.cells #[.int .i64 k, .int .i64 ((j : Int) + 1)] 28)) p A (pt bx (.cells #[.int .i64 k, .int .i64 ((j : Int) + 1)] 28 (0, 0)) * F) X (some ⟨g, off, none⟩) oc qa qc ba bc fa fc sa sc := ⟨op.hx, by have := op.hs.alloc (.cells #[.int .i64 k, .int .i64 ((j : Int) + 1)] 28); rw [hbx] at this; exact this.cast (by unfold rrest; ac_rfl)⟩
    have HC := Lib.hid (ref_Ref ⟨k, (j : Int) + 1⟩ h1'.hs)
    rw [hr] at HC
    have HV := Lib.hid (fun (w' : World) (hx : Sat w0 w' (opG p A X (some ⟨g, off, none⟩) oc qa qc ba bc fa fc sa sc (pt bx (.cells #[.int .i64 k, .int .i64 ((j : Int) + 1)] 28 (0, 0)) * F))) => r_ValueO H hB ⟨op.hx, hx⟩ k ((j : Int) + 1) ht)
    have hfact : ∀ (w' : World) (hx : Sat w0 w' (opG p A X (some ⟨g, off, none⟩) oc qa qc ba bc fa fc sa sc (pt bx (.cells #[.int .i64 k, .int .i64 ((j : Int) + 1)] 28 (0, 0)) * F))), (w'.cell? ⟨bx, 0, none⟩ = some (.int .i64 k) ∧ w'.cell? ⟨bx, 1, none⟩ = some (.int .i64 ((j : Int) + 1))) ∧ w'.cell? ⟨p, 0, none⟩ = some (.slice (some ⟨g, off, none⟩) A.T.length oc) ∧ w'.cell? ⟨g, off + j * 5 + 1, none⟩ = some (.int .i64 o.count) := fun w' hx => by
      have o2 : ROpen w0 w' p A (pt bx (.cells #[.int .i64 k, .int .i64 ((j : Int) + 1)] 28 (0, 0)) * F) X (some ⟨g, off, none⟩) oc qa qc ba bc fa fc sa sc := ⟨op.hx, hx⟩
      obtain ⟨g', off', _, _, e, _, _, d1, _⟩ := o2.obj (k := j) (by omega)
      cases e
      rw [hobj] at d1
      exact ⟨valR (hx.cast (show _ = pt bx (.cells #[.int .i64 k, .int .i64 ((j : Int) + 1)] 28 (0, 0)) * opG p A X (some ⟨g, off, none⟩) oc qa qc ba bc fa fc sa sc F by unfold opG rrest; ac_rfl)), o2.c0, d1⟩
    have HF := Lib.hid hfact
    have HFIN := Lib.hid (fun (w' : World) (hx : Sat w0 w' (opG p A X (some ⟨g, off, none⟩) oc qa qc ba bc fa fc sa sc (pt bx (.cells #[.int .i64 k, .int .i64 ((j : Int) + 1)] 28 (0, 0)) * F))) => ((ROpen.shut ⟨op.hx, hx⟩).p2.drop : Sat w0 w' (refR13 p A * F)))
    have e1 : cntN A ⟨k, (j : Int) + 1⟩ = if o.count = 0 then 0 else (j : Int) + 1 := by unfold cntN; rw [c1]; simp [hc]
    rw [e1, c2]
    have hT := H.t
    have hj1 : (j : Int) + 1 - 1 = j := by omega
    have hj2 : (0 : Int) ≤ (j : Int) := by omega
    have hj3 : (j : Int) < (A.T.length : Int) := by omega
    have hj4 : IntKind.i64.wrap (j : Int) = j := IntWalk.i64_in _ (by omega)
    first | (have hcb : (o.count == 0) = true := by simpa using hc) | (have hcb : (o.count == 0) = false := by simpa using hc)
    generalize o.count = cnt at *
    have HNN := Lib.hid hc
    clear hfact h1 h hr c1 c2 e1 h1' ht H ho hobj hc hT hrng
    clear op
    go_enter Try.func129, Try.ntmps129
    go_wp2_with fail
    refine HC.out.mono ?_
    rintro e w1 ⟨rfl, h2⟩
    have ⟨⟨x0, x1⟩, x2, x3⟩ := HF.out _ h2
    go_wp2_with fail
    refine wp_region_qq (fun w' => Sat w0 w' (opG p A X (some ⟨g, off, none⟩) oc qa qc ba bc fa fc sa sc (pt bx (.cells #[.int .i64 k, .int .i64 ((j : Int) + 1)] 28 (0, 0)) * F))) (by kernel_rfl) (by kernel_rfl) h2 ?_
    iterate 17 (first
      | (refine QQ.skip (by rfl) ?_; simp only [Act.put, List.setIfInBounds_toArray, List.set_cons_zero, List.set_cons_succ])
      | (refine QQ.want (by rfl) ?_
         apply Exists.intro
         refine ⟨?_, ?_⟩
         · intro w hw
           have ⟨⟨z0, z1⟩, z2, z3⟩ := HF.out w hw
           first
             | (go_simp; done)
             | (go_simp; rfl)
             | (go_simp; (go_at_call 140; exact HV.out _ hw))
         simp only [Act.put, List.setIfInBounds_toArray, List.set_cons_zero, List.set_cons_succ]))
    refine QQ.nil ?_
    intro w3 h3
    have ⟨⟨u0, u1⟩, u2, u3⟩ := HF.out _ h3
    go_wp2_with fail
    go_ret2
    exact ⟨rfl, HFIN.out _ h3⟩
end
end Go.Proofs.Ytkpcngcegipalaa.Tw
