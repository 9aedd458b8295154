/- tallowref13: Free. No condition. -/
import Derived.Test.YtkpcngcegipalaaZPDw32
namespace Go.Proofs.Ytkpcngcegipalaa.Tw
set_option linter.unusedVariables false
set_option linter.unusedSimpArgs false
open Go Go.RowKit Go.MapKept
section
variable {P : Program} {w0 w : World} {F : HP} {ops : Array Oper} {rest : List Oper} {o : Oper} {a : Act} {Q : Exit → Act → World → Prop}
theorem wpList_pushFinR (hg : o.guard = none) (s x : Operand) (hop : o.op = .call { callee := .builtin .append, args := #[s, x], argTypes := #[49, 49] })
    (sa : Option Addr) (n c : Nat) (l : List (Int × Int)) (hs : a.eval s = .slice sa n c) (h : Sat w0 w (slc 176 2 sa n c (finCells l) * F)) (bx c' : Nat) (v : Int × Int) (hx : a.eval x = .slice (some ⟨bx, 0, none⟩) 1 c') (hc0 : w.cell? ⟨bx, 0, none⟩ = some (.int .i64 v.1)) (hc1 : w.cell? ⟨bx, 1, none⟩ = some (.int .i64 v.2)) (hn : n ≤ 1000000000)
    (hK : ∀ a' c'' w', Sat w0 w' (slc 176 2 a' (n + 1) c'' (finCells (l ++ [v])) * F) → wpList Try.prog ops Q rest (a.put o.dst (.slice a' (n + 1) c'')) w') : wpList Try.prog ops Q (o :: rest) a w :=
  wpList_plain hg fun _ hK' => wp_pushFinR s x hop sa n c l hs h bx c' v hx hc0 hc1 hn fun a' c'' w' h2 => hK' _ _ (hK a' c'' w' h2)
end
section
variable {w0 w : World} {p : Nat} {A : AHeap} {F SR : HP} {B : Int} {X : List XObj} {oa : Option Addr} {oc : Nat} {qa : Option Addr} {qc : Nat} {ba : Option Addr} {bc : Nat} {fa : Option Addr} {fc : Nat} {sa : Option Addr} {sc : Nat}
def zX : XObj := (AObj.none, none, 0)
theorem setZero {g off N oc k xc : Nat} {xa : Option Addr} {o : AObj} (h : Sat w0 w (slc 39 5 (some ⟨g, off, none⟩) N oc (xscells X) * F)) (hx : X[k]? = some (o, xa, xc)) (hk : k < N) :
    Sat w0 (((((w.setCell ⟨g, off + k * 5, none⟩ (.int .i64 0)).setCell ⟨g, off + k * 5 + 1, none⟩ (.int .i64 0)).setCell ⟨g, off + k * 5 + 2, none⟩ (.slice none 0 0)).setCell ⟨g, off + k * 5 + 3, none⟩ (.string (ByteArray.mk #[]))).setCell ⟨g, off + k * 5 + 4, none⟩ (.int .i64 0))
      (slc 39 5 (some ⟨g, off, none⟩) N oc (xscells (X.set k zX)) * F) := by
  have hl := (List.getElem?_eq_some_iff.1 hx).1
  have key : ∀ (Y : List XObj) (y : XObj), k < Y.length → (Y.set k y)[k]? = some y := fun Y y h => by rw [List.getElem?_set_self h]
  have h0 := h.slcStore (j := k * 5 + 0) (by omega) (.int .i64 0)
  rw [← xscells_set (y := ({ o with kind := 0 }, xa, xc)) hx (by omega) rfl] at h0
  have h1 := h0.slcStore (j := k * 5 + 1) (by omega) (.int .i64 0)
  rw [← xscells_set (y := ({ o with kind := 0, count := 0 }, xa, xc)) (key _ _ (by simpa using hl)) (by omega) rfl] at h1
  have h2 := h1.slcStore (j := k * 5 + 2) (by omega) (.slice none 0 0)
  rw [← xscells_set (y := ({ o with kind := 0, count := 0, slots := [] }, none, 0)) (key _ _ (by simpa using hl)) (by omega) rfl] at h2
  have h3 := h2.slcStore (j := k * 5 + 3) (by omega) (.string (ByteArray.mk #[]))
  rw [← xscells_set (y := ({ o with kind := 0, count := 0, slots := [], text := ByteArray.mk #[] }, none, 0)) (key _ _ (by simpa using hl)) (by omega) rfl] at h3
  have h4 := h3.slcStore (j := k * 5 + 4) (by omega) (.int .i64 0)
  rw [← xscells_set (y := zX) (key _ _ (by simpa using hl)) (by omega) rfl] at h4
  simp only [List.set_set, Nat.add_zero, ← Nat.add_assoc] at h4
  exact h4
theorem wout_head {l : List Int} {n : Int} (hn : l.Nodup) (hh : l.head? = some n) : wout l n = l.tail := by
  cases l with
  | nil => cases hh
  | cons x l =>
    simp at hh; subst hh
    rw [List.nodup_cons] at hn
    unfold wout
    rw [List.filter_cons]
    simp only [decide_true, Bool.not_true, Bool.false_eq_true, if_false, List.tail_cons]
    rw [List.filter_eq_self.2]
    intro y hy
    simp only [Bool.not_eq_true', decide_eq_false_iff_not]
    rintro rfl
    exact hn.1 hy
def finF (l : List (Int × Int)) (n : Int) : List (Int × Int) := l.filter fun f => !decide (f.1 = n)
theorem finF_snoc (l : List (Int × Int)) (n : Int) (x : Int × Int) : finF (l ++ [x]) n = finF l n ++ if x.1 = n then [] else [x] := by
  unfold finF; rw [List.filter_append]; by_cases e : x.1 = n <;> simp [e]
set_option maxRecDepth 100000 in
set_option maxHeartbeats 2000000 in
theorem r_Free (H : HW A B) (hB : B ≤ 1000000) (hW : A.watch.length ≤ 1000000) (h : Sat w0 w (refR13 p A * F)) (n : Int) {r : Int} (hr : A.freeE n = r) :
    Calls Try.prog 90 #[.pointer (some ⟨p, 0, none⟩), .int .i64 n] w fun e w' => e = .returned (.int .i64 r) ∧ Sat w0 w' (refR13 p (A.freeF n) * F) := by
  subst hr
  have hql := H.ql
  have hfl := H.fl
  obtain ⟨X, oa, oc, qa, qc, ba, bc, fa, fc, sa, sc, op⟩ := h.openR
  have c1 := op.c1
  have no : A.freeB n = false → A.freeF n = A ∧ A.freeE n = 2 := fun hb => ⟨by unfold AHeap.freeF; rw [hb]; rfl, by unfold AHeap.freeE; rw [hb]; rfl⟩
  cases hq : A.queue with
  | nil =>
    obtain ⟨e1, e2⟩ := no (by unfold AHeap.freeB; rw [hq]; rfl)
    rw [e1, e2]
    rw [hq] at c1
    simp only [List.length_nil] at c1
    clear e1 e2 no op H hq
    go_enter Try.func90, Try.ntmps90
    go_wp2_with fail
    go_ret
    exact ⟨rfl, h⟩
  | cons q0 qs =>
    have hqq : Sat w0 w (slc 3 1 qa A.queue.length qc (A.queue.map ival) * (row p 51 (rcellsH A oa oc qa qc ba bc fa fc sa sc) * (slc 39 5 oa A.T.length oc (xscells X) * (xslotsR X * (slc 3 1 ba A.buf.length bc (A.buf.map ival) * (slc 176 2 fa A.fins.length fc (finCells A.fins) * (slc 3 1 sa A.watch.length sc (A.watch.map ival) * F))))))) := op.hs.cast (by unfold rrest; ac_rfl)
    obtain ⟨gq, oq, eqa, z0, _⟩ := intCells hqq (k := 0) (x := q0) (by rw [hq]; rfl)
    rw [Nat.add_zero] at z0
    subst eqa
    have hlen : A.queue.length = qs.length + 1 := by rw [hq]; rfl
    have hl1 : ((qs.length : Int) + 1 == 0) = false := by simp; omega
    have hl2 : 0 < qs.length + 1 := by omega
    rw [hlen] at c1
    by_cases hqn : q0 = n
    · subst hqn
      obtain ⟨o, ho, hcnt⟩ := H.q1 q0 (by rw [hq]; exact List.mem_cons_self)
      have hrng := obj_in H (n := q0) (by rw [ho]; rfl)
      have hT := H.t
      obtain ⟨j, rfl⟩ : ∃ j : Nat, q0 = (j : Int) + 1 := ⟨(q0 - 1).toNat, by omega⟩
      have hobj : A.obj ((j : Int) + 1) = o := by unfold AHeap.obj; rw [ho]; rfl
      obtain ⟨g, off, xa, xc, eoa, hx, _, _, d2, _⟩ := op.obj (k := j) (by omega)
      subst eoa
      have c0 := op.c0
      rw [hobj] at d2 hx
      have hj1 : (j : Int) + 1 - 1 = j := by omega
      have hj2 : (0 : Int) ≤ (j : Int) := by omega
      have hj3 : (j : Int) < (A.T.length : Int) := by omega
      have hj4 : IntKind.i64.wrap (j : Int) = j := IntWalk.i64_in _ (by omega)
      by_cases hsl : o.slots = []
      · have hfb : A.freeB ((j : Int) + 1) = true := by unfold AHeap.freeB; rw [hq, hobj, hsl]; simp
        have e1 : A.freeF ((j : Int) + 1) = A.free ((j : Int) + 1) := by unfold AHeap.freeF; rw [hfb]; rfl
        have e2 : A.freeE ((j : Int) + 1) = 0 := by unfold AHeap.freeE; rw [hfb]; rfl
        rw [e1, e2]
        rw [hsl] at d2
        simp only [List.length_nil] at d2
        have hwo : wout A.queue ((j : Int) + 1) = A.queue.tail := wout_head H.qn (by rw [hq]; rfl)
        have HQ := Lib.hid (r_without hqq rfl (by omega) ((j : Int) + 1))
        have hfn : A.fins.length ≤ 1000000 := by omega
        have HX := Lib.hid (And.intro hx (And.intro (show j < A.T.length by omega) (And.intro hwo op.hx)))
        rw [hlen] at HQ
        have HR := Lib.hid hlen
        have HFX := Lib.hid hfn
        clear op hqq hx H ho e1 e2 hfb hobj no hwo hq hlen hfn
        go_enter Try.func90, Try.ntmps90
        go_wp2_with fail
        refine HQ.out.mono ?_
        rintro e w2 ⟨ra, rc, rfl, h2⟩
        have k1 := (Sat.drop2 h2).p2.cell (i := 1) (v := .slice (some ⟨gq, oq, none⟩) A.queue.length qc) rfl
        have k1f := (Sat.drop2 h2).p2.free 1
        have h3 := (Sat.drop2 h2).p2.store (i := 1) (.slice ra (wout A.queue ((j : Int) + 1)).length rc)
        obtain ⟨A1, hA1⟩ : ∃ A1, A1 = { A with queue := wout A.queue ((j : Int) + 1) } := ⟨_, rfl⟩
        have op1 : Sat w0 (w2.setCell ⟨p, 1, none⟩ (.slice ra (wout A.queue ((j : Int) + 1)).length rc)) (opG p A1 X (some ⟨g, off, none⟩) oc ra rc ba bc fa fc sa sc F) := h3.cast (by rw [hA1]; unfold opG rrest; show row _ _ _ * _ = row _ _ (rcellsH { A with queue := wout A.queue ((j : Int) + 1) } _ _ ra rc _ _ _ _ _ _) * _; ac_rfl)
        have hX1 : X.map (·.1) = graphL A1 A1.T.length := by rw [hA1]; exact HX.out.2.2.2
        have hf1 : A1.fins = A.fins := by rw [hA1]
        have h0 : Sat w0 (w2.setCell ⟨p, 1, none⟩ (.slice ra (wout A.queue ((j : Int) + 1)).length rc)) (slc 176 2 none 0 0 (finCells (finF (A.fins.take 0) ((j : Int) + 1))) * opG p A1 X (some ⟨g, off, none⟩) oc ra rc ba bc fa fc sa sc F) := op1.nilSlc
        have HC3 := Lib.hid (fun (w' : World) (G : HP) (hx : Sat w0 w' (G * opG p A1 X (some ⟨g, off, none⟩) oc ra rc ba bc fa fc sa sc F)) => (by have := (show ROpen w0 w' p A1 (G * F) X (some ⟨g, off, none⟩) oc ra rc ba bc fa fc sa sc from ⟨hX1, hx.cast (by unfold opG rrest; ac_rfl)⟩).c3; rw [hf1] at this; exact this : w'.cell? ⟨p, 3, none⟩ = some (.slice fa A.fins.length fc)))
        have HFA := Lib.hid (fun (w' : World) (G : HP) (hx : Sat w0 w' (G * opG p A1 X (some ⟨g, off, none⟩) oc ra rc ba bc fa fc sa sc F)) (k : Nat) (x : Int × Int) (hk : A.fins[k]? = some x) => finAtR (hx.cast (show _ = slc 176 2 fa A.fins.length fc (finCells A.fins) * (G * (row p 51 (rcellsH A1 (some ⟨g, off, none⟩) oc ra rc ba bc fa fc sa sc) * (slc 39 5 (some ⟨g, off, none⟩) A1.T.length oc (xscells X) * (xslotsR X * (slc 3 1 ra A1.queue.length rc (A1.queue.map ival) * (slc 3 1 ba A1.buf.length bc (A1.buf.map ival) * (slc 3 1 sa A1.watch.length sc (A1.watch.map ival) * F))))))) by unfold opG rrest; rw [hf1]; ac_rfl)) hk)
        have H0 := Lib.hid h0
        have HA1 := Lib.hid hA1
        have HX1 := Lib.hid hX1
        clear h3 op1 hX1 hf1 h0 hA1 h2 HQ
        generalize (wout A.queue ((j : Int) + 1)).length = wn at *
        clear c0 c1 d2 z0
        go_wp2_with fail
        go_loopw [5, 6] (fun ov iv wr => ∃ (k m : Nat) (a' : Option Addr) (c' : Nat), iv = .int .i64 k ∧ k ≤ A.fins.length ∧ ov = .slice a' m c' ∧ m ≤ k ∧ Hid ((finF (A.fins.take k) ((j : Int) + 1)).length = m) ∧ Sat w0 wr (slc 176 2 a' m c' (finCells (finF (A.fins.take k) ((j : Int) + 1))) * opG p A1 X (some ⟨g, off, none⟩) oc ra rc ba bc fa fc sa sc F)) (fun _ iv _ => A.fins.length - (intOf iv).toNat)
        case atStart => exact ⟨0, 0, none, 0, rfl, by omega, rfl, by omega, Lib.hid rfl, H0.out⟩
        case round =>
          clear k1 k1f
          obtain ⟨k, m, a', c', rfl, hk, rfl, hmk, hm, hs⟩ := hrel
          have c3 := HC3.out _ _ hs
          have hfb := HFX.out
          by_cases hlt : k < A.fins.length
          · obtain ⟨x, hx⟩ : ∃ x, A.fins[k]? = some x := ⟨A.fins[k]'(by omega), List.getElem?_eq_getElem _⟩
            obtain ⟨g3, off3, rfl, x0, x1⟩ := HFA.out _ _ hs k x hx
            obtain ⟨y, z⟩ := x
            dsimp only at x0 x1
            have htk : A.fins.take (k + 1) = A.fins.take k ++ [(y, z)] := by rw [List.take_add_one, hx]; rfl
            have hw := finF_snoc (A.fins.take k) ((j : Int) + 1) (y, z)
            rw [← htk] at hw
            dsimp only at hw
            by_cases hy : y = (j : Int) + 1
            · have fy : (y != (j : Int) + 1) = false := by simpa using hy
              rw [if_pos hy, List.append_nil] at hw
              have HW2 := Lib.hid hw
              clear hw htk hx hy
              go_wp2_with fail
              go_roundw
              case rel => exact ⟨k + 1, m, a', c', by go_num, by omega, rfl, by omega, Lib.hid (by rw [HW2.out]; exact hm.out), by rw [HW2.out]; exact hs⟩
              case measure => simp [intOf]; omega
            · have fy : (y != (j : Int) + 1) = true := by simpa using hy
              rw [if_neg hy] at hw
              have HW2 := Lib.hid hw
              have h1 := hs.alloc (.cells #[.int .i64 y, .int .i64 z] 176)
              have b0 : (wr.alloc (.cells #[.int .i64 y, .int .i64 z] 176)).cell? ⟨wr.heap.size, 0, none⟩ = some (.int .i64 y) := Sat.cell (T := 176) (cs := #[.int .i64 y, .int .i64 z]) h1 0 rfl
              have b1 : (wr.alloc (.cells #[.int .i64 y, .int .i64 z] 176)).cell? ⟨wr.heap.size, 1, none⟩ = some (.int .i64 z) := Sat.cell (T := 176) (cs := #[.int .i64 y, .int .i64 z]) h1 1 rfl
              clear hw htk hx hy
              go_wp2_with (at_builtin; refine wpList_pushFinR rfl _ _ rfl a' m c' (finF (A.fins.take k) ((j : Int) + 1)) rfl h1.p2 wr.heap.size 1 (y, z) rfl b0 b1 (by omega) ?_; intro a'' c'' w4 h4)
              go_roundw
              case rel => exact ⟨k + 1, m + 1, a'', c'', by go_num, by omega, rfl, by omega, Lib.hid (by rw [HW2.out, List.length_append, hm.out]; rfl), by rw [HW2.out]; exact h4.drop2⟩
              case measure => simp [intOf]; omega
          · obtain rfl : k = A.fins.length := by omega
            rw [List.take_of_length_le (Nat.le_refl _)] at hs hm
            have hm := hm.out
            subst hm
            have hx := HX.out.1
            have hjT : A1.T = A.T := by rw [HA1.out]
            have hjN := HX.out.2.1
            have k3 := hs.p2.cell (i := 3) (v := .slice fa A1.fins.length fc) rfl
            have k3f := hs.p2.free 3
            have h5 := hs.p2.store (i := 3) (.slice a' (finF A.fins ((j : Int) + 1)).length c')
            have c0 := h5.cell (i := 0) (v := .slice (some ⟨g, off, none⟩) A1.T.length oc) rfl
            rw [hjT] at c0
            obtain ⟨_, _, e1, d0, d1, d2, d3, d4⟩ := objAtX h5.p3 hx
            cases e1
            dsimp only at d0 d1 d2 d3 d4
            have f0 := slcO_free h5.p3 hx (j := 0) (by omega)
            have f1 := slcO_free h5.p3 hx (j := 1) (by omega)
            have f2 := slcO_free h5.p3 hx (j := 2) (by omega)
            have f3 := slcO_free h5.p3 hx (j := 3) (by omega)
            have f4 := slcO_free h5.p3 hx (j := 4) (by omega)
            rw [Nat.add_zero] at f0
            have h6 := setZero h5.p3 hx (by rw [hjT]; exact hjN)
            obtain ⟨R, hR1, hR2⟩ := xslotsR_sets hx
            have h7 := (Sat.drop (P := slc 176 2 fa A1.fins.length fc (finCells A1.fins)) (Sat.drop (P := slc 28 2 xa o.slots.length xc (avcells o.slots)) (h6.cast (show _ = slc 28 2 xa o.slots.length xc (avcells o.slots) * (slc 176 2 fa A1.fins.length fc (finCells A1.fins) * (row p 51 ((rcellsH A1 (some ⟨g, off, none⟩) oc ra rc ba bc fa fc sa sc).setIfInBounds 3 (.slice a' (finF A.fins ((j : Int) + 1)).length c')) * (slc 39 5 (some ⟨g, off, none⟩) A1.T.length oc (xscells (X.set j zX)) * (R * (slc 3 1 ra A1.queue.length rc (A1.queue.map ival) * (slc 3 1 ba A1.buf.length bc (A1.buf.map ival) * (slc 176 2 a' (finF A.fins ((j : Int) + 1)).length c' (finCells (finF A.fins ((j : Int) + 1))) * (slc 3 1 sa A1.watch.length sc (A1.watch.map ival) * F)))))))) by rw [hR1]; unfold rrest; ac_rfl)))).nilSlc (T := 28) (sz := 2)
            obtain ⟨A2, hA2⟩ : ∃ A2 : AHeap, A2 = { A1 with fins := finF A.fins ((j : Int) + 1), objs := fun k => if k = (j : Int) + 1 then none else A1.objs k, T := giveT A1.T ((j : Int) + 1) } := ⟨_, rfl⟩
            have op2 : ROpen w0 ((((((wr.setCell ⟨p, 3, none⟩ (.slice a' (finF A.fins ((j : Int) + 1)).length c')).setCell ⟨g, off + j * 5, none⟩ (.int .i64 0)).setCell ⟨g, off + j * 5 + 1, none⟩ (.int .i64 0)).setCell ⟨g, off + j * 5 + 2, none⟩ (.slice none 0 0)).setCell ⟨g, off + j * 5 + 3, none⟩ (.string (ByteArray.mk #[]))).setCell ⟨g, off + j * 5 + 4, none⟩ (.int .i64 0)) p A2 F (X.set j zX) (some ⟨g, off, none⟩) oc ra rc ba bc a' c' sa sc := by
              refine ⟨?_, h7.cast ?_⟩
              · rw [hA2]
                show _ = graphL _ (giveT A1.T ((j : Int) + 1)).length
                rw [giveT_length]
                exact graphL_set (by rw [hjT]; exact hjN) HX1.out (by unfold AHeap.obj; simp) (fun n hn => by unfold AHeap.obj; simp [hn])
              · rw [hR2 zX, hA2]
                show slc _ 2 none 0 0 [] * _ = row _ _ (rcellsH _ _ _ _ _ _ _ _ _ _ _) * (slc _ 5 _ (giveT A1.T ((j : Int) + 1)).length _ _ * (slc _ 2 none 0 0 [] * R * _))
                have er : rcellsH { A1 with fins := finF A.fins ((j : Int) + 1), objs := fun k => if k = (j : Int) + 1 then none else A1.objs k, T := giveT A1.T ((j : Int) + 1) } (some ⟨g, off, none⟩) oc ra rc ba bc a' c' sa sc = (rcellsH A1 (some ⟨g, off, none⟩) oc ra rc ba bc fa fc sa sc).setIfInBounds 3 (.slice a' (finF A.fins ((j : Int) + 1)).length c') := by unfold rcellsH; dsimp only; rw [giveT_length]; rfl
                rw [er, giveT_length]
                unfold rrest
                dsimp only
                ac_rfl
            have ef : A2.touch ((j : Int) + 1) = A.free ((j : Int) + 1) := by rw [hA2, HA1.out, HX.out.2.2.1]; rfl
            have HT := Lib.hid (ef ▸ r_touch (by rw [hA2, HA1.out]; exact hW) op2.shut ((j : Int) + 1))
            clear op2 h7 h6 h5 hR1 hR2 hs hx ef hA2 hm hmk
            generalize A1.T.length = N1 at *
            generalize (finF A.fins ((j : Int) + 1)).length = mf at *
            generalize A1.fins.length = n1 at *
            go_wp2_with fail
            refine HT.out.mono ?_
            rintro e w5 ⟨rfl, h8⟩
            go_wp2_with fail
            go_ret
            exact ⟨rfl, h8⟩
      · have hfb : A.freeB ((j : Int) + 1) = false := by unfold AHeap.freeB; rw [hobj, decide_eq_false hsl, Bool.and_false]
        obtain ⟨e1, e2⟩ := no hfb
        rw [e1, e2]
        have hs0 : decide (0 < o.slots.length) = true := by
          cases hh : o.slots with
          | nil => exact absurd hh hsl
          | cons _ _ => simp
        clear op hqq hx H ho e1 e2 hfb hobj no hsl hq hlen
        generalize o.slots.length = sn at *
        generalize A.T.length = N at *
        go_enter Try.func90, Try.ntmps90
        go_wp2_with fail
        go_ret
        exact ⟨rfl, h⟩
    · have hfb : A.freeB n = false := by unfold AHeap.freeB; rw [hq, decide_eq_false (by simpa using hqn)]; rfl
      obtain ⟨e1, e2⟩ := no hfb
      rw [e1, e2]
      have fq : (q0 != n) = true := by simpa using hqn
      clear op hqq H e1 e2 hfb no hqn hq hlen
      go_enter Try.func90, Try.ntmps90
      go_wp2_with fail
      go_ret
      exact ⟨rfl, h⟩
end
end Go.Proofs.Ytkpcngcegipalaa.Tw
