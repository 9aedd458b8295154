/- tallowref13: Watch, TakeBuffer, Waiting, NextFin. No condition. -/
import Derived.Test.YtkpcngcegipalaaZPDw25
import Derived.Test.YtkpcngcegipalaaZPDw16
namespace Go.Proofs.Ytkpcngcegipalaa.Tw
set_option linter.unusedVariables false
set_option linter.unusedSimpArgs false
open Go Go.RowKit Go.MapKept

section
variable {P : Program} {w0 w : World} {F : HP} {ops : Array Oper} {rest : List Oper} {o : Oper} {a : Act} {Q : Exit → Act → World → Prop} {K : Act → World → Prop}
/-- numbers behind an owned slice, from wherever -/
theorem wpList_catInt (hg : o.guard = none) (s x : Operand) (hop : o.op = .call { callee := .builtin .append, args := #[s, x], argTypes := #[48, 48] })
    (sa : Option Addr) (n c : Nat) (l : List Int) (hs : a.eval s = .slice sa n c) (h : Sat w0 w (slc 3 1 sa n c (l.map ival) * F)) (xa : Option Addr) (m c' : Nat) (r : List Int) (hx : a.eval x = .slice xa m c') (hr : r.length = m)
    (hsrc : (∀ ad, xa = some ad → ∀ j u, (r.map ival)[j]? = some u → w.cell? (ad.add j) = some u) ∧ (xa = none → m = 0 ∧ c' = 0)) (hn : n + m ≤ 1000000000)
    (hK : ∀ a' c'' w', Sat w0 w' (slc 3 1 a' (n + m) c'' ((l ++ r).map ival) * F) → wpList Try.prog ops Q rest (a.put o.dst (.slice a' (n + m) c'')) w') : wpList Try.prog ops Q (o :: rest) a w := by
  obtain ⟨i0, hi, hz0, hz1, hz2⟩ := info_parts info_int'
  refine wpList_append_any hg s x 48 hop i0 (.int .i64 0) 8 Try.underlying48 hi hz0 hz1 hz2 rfl sa n c (l.map ival) hs h xa m c' (r.map ival) hx (by simp [hr]) hsrc (oneCell_ivals _) (by unfold maxLen; omega) (by omega) fun a' c'' w' h2 _ => ?_
  exact hK a' c'' w' (by rw [List.map_append]; exact h2)
end
section
variable {w0 w : World} {p : Nat} {A : AHeap} {F : HP} {B : Int} {X : List XObj} {oa : Option Addr} {oc : Nat} {qa : Option Addr} {qc : Nat} {ba : Option Addr} {bc : Nat} {fa : Option Addr} {fc : Nat} {sa : Option Addr} {sc : Nat}
set_option maxHeartbeats 1000000 in
theorem r_Watch {a : Option Addr} {n c : Nat} {l : List Int} (h : Sat w0 w (slc 3 1 a n c (l.map ival) * (refR13 p A * F))) (hl : l.length = n) (hn : n ≤ 1000000) :
    Calls Try.prog 112 #[.pointer (some ⟨p, 0, none⟩), .slice a n c] w fun e w' => e = .returned (.tuple #[]) ∧ Sat w0 w' (refR13 p (A.watchF l) * (slc 3 1 a n c (l.map ival) * F)) := by
  obtain ⟨X, oa, oc, qa, qc, ba, bc, fa, fc, sa, sc, op⟩ := h.p2.openR
  have hsrc := h.slcSrc
  have h1 : Sat w0 w (slc 3 1 none 0 0 (([] : List Int).map ival) * opG p A X oa oc qa qc ba bc fa fc sa sc (slc 3 1 a n c (l.map ival) * F)) := op.hs.nilSlc
  have hOX := Lib.hid op.hx
  clear op h
  go_enter Try.func112, Try.ntmps112
  go_wp2_with (at_builtin; refine wpList_catInt rfl _ _ rfl none 0 0 [] rfl h1 a n c l rfl hl hsrc (by omega) ?_; intro a' c' w4 h6; rw [Nat.zero_add] at h6; have k5 := h6.p2.cell (i := 5) (v := .slice sa A.watch.length sc) rfl; have k5f := h6.p2.free 5; have h7 := h6.p2.store (i := 5) (.slice a' n c'); have k6 := h7.cell (i := 6) (v := .bool A.touched) rfl; have k6f := h7.free 6; have h8 := h7.store (i := 6) (.bool false))
  go_end0
  refine ⟨rfl, ROpen.shut (X := X) (oa := oa) (oc := oc) (qa := qa) (qc := qc) (ba := ba) (bc := bc) (fa := fa) (fc := fc) (sa := a') (sc := c') ⟨hOX.out, ?_⟩⟩
  subst hl
  have h9 := Sat.drop (P := slc 3 1 sa A.watch.length sc (A.watch.map ival)) (h8.cast (show _ = slc 3 1 sa A.watch.length sc (A.watch.map ival) * opG p (A.watchF l) X oa oc qa qc ba bc fa fc a' c' (slc 3 1 a l.length c (l.map ival) * F) by unfold opG rrest rcellsH AHeap.watchF; dsimp only; rw [List.nil_append]; ac_rfl))
  exact h9
theorem r_TakeBuffer (h : Sat w0 w (refR13 p A * F)) :
    Calls Try.prog 110 #[.pointer (some ⟨p, 0, none⟩)] w fun e w' => ∃ a c, e = .returned (.slice a A.buf.length c) ∧ Sat w0 w' (slc 3 1 a A.buf.length c (A.buf.map ival) * (refR13 p { A with buf := [] } * F)) := by
  obtain ⟨X, oa, oc, qa, qc, ba, bc, fa, fc, sa, sc, op⟩ := h.openR
  have c2 := op.c2
  have f2 := op.hs.free 2
  have h1 := op.hs.store (i := 2) (.slice none 0 0)
  have h2 : Sat w0 (w.setCell ⟨p, 2, none⟩ (.slice none 0 0)) (refR13 p { A with buf := [] } * (slc 3 1 ba A.buf.length bc (A.buf.map ival) * F)) :=
    ROpen.shut (X := X) (oa := oa) (oc := oc) (qa := qa) (qc := qc) (ba := none) (bc := 0) (fa := fa) (fc := fc) (sa := sa) (sc := sc) ⟨op.hx, (h1.nilSlc (T := 3) (sz := 1)).cast (by unfold rrest rcellsH; dsimp only; rw [List.length_nil, List.map_nil]; ac_rfl)⟩
  generalize A.buf.length = bn at *
  clear op h1 h
  go_enter Try.func110, Try.ntmps110
  go_wp2_with fail
  go_ret
  exact ⟨ba, bc, rfl, h2.p2⟩
theorem finAtR {fa : Option Addr} {n c : Nat} {l : List (Int × Int)} (h : Sat w0 w (slc 176 2 fa n c (finCells l) * F)) {k : Nat} {x : Int × Int} (hk : l[k]? = some x) :
    ∃ g off, fa = some ⟨g, off, none⟩ ∧ w.cell? ⟨g, off + k * 2, none⟩ = some (.int .i64 x.1) ∧ w.cell? ⟨g, off + k * 2 + 1, none⟩ = some (.int .i64 x.2) := by
  have key : ∀ (l : List (Int × Int)) (k : Nat) (x : Int × Int), l[k]? = some x → (finCells l)[k * 2]? = some (.int .i64 x.1) ∧ (finCells l)[k * 2 + 1]? = some (.int .i64 x.2) := by
    intro l
    induction l with
    | nil => intro k x h; simp at h
    | cons v vs ih =>
      intro k x h
      cases k with
      | zero => simp at h; subst h; simp [finCells]
      | succ k =>
        have := ih k x (by simpa using h)
        have e : finCells (v :: vs) = [Value.int .i64 v.1, Value.int .i64 v.2] ++ finCells vs := rfl
        rw [e, List.getElem?_append_right (by simp; omega), List.getElem?_append_right (by simp; omega)]
        simp only [List.length_cons, List.length_nil]
        rw [show (k + 1) * 2 - (0 + 1 + 1) = k * 2 by omega, show (k + 1) * 2 + 1 - (0 + 1 + 1) = k * 2 + 1 by omega]
        exact this
  obtain ⟨e0, e1⟩ := key l k x hk
  obtain ⟨g, off, ea, c0, _⟩ := h.slcAt e0
  obtain ⟨g', off', ea', c1, _⟩ := h.slcAt e1
  rw [ea] at ea'; cases ea'
  exact ⟨g, off, ea, c0, by rw [Nat.add_assoc]; exact c1⟩
set_option maxHeartbeats 1000000 in
theorem r_Waiting_O (op : ROpen w0 w p A F X oa oc qa qc ba bc fa fc sa sc) (hf : A.fins.length ≤ 1000000) {n : Nat} {L : List Int} (hL : A.fins.map (·.1) = L) (hn : L.length = n) :
    Calls Try.prog 106 #[.pointer (some ⟨p, 0, none⟩)] w fun e w' => ∃ a c, e = .returned (.slice a n c) ∧ Sat w0 w' (slc 3 1 a n c (L.map ival) * opG p A X oa oc qa qc ba bc fa fc sa sc F) := by
  subst hL hn
  rw [List.length_map]
  have hOX := Lib.hid op.hx
  have h0 : Sat w0 w (slc 3 1 none 0 0 (((A.fins.map (·.1)).take 0).map ival) * opG p A X oa oc qa qc ba bc fa fc sa sc F) := op.hs.nilSlc
  have HFA := Lib.hid (fun (w' : World) (G : HP) (hx : Sat w0 w' (G * opG p A X oa oc qa qc ba bc fa fc sa sc F)) (k : Nat) (x : Int × Int) (hk : A.fins[k]? = some x) => And.intro (ROpen.c3 (F := G * F) ⟨op.hx, hx.cast (by unfold opG rrest; ac_rfl)⟩) (finAtR (hx.cast (show _ = slc 176 2 fa A.fins.length fc (finCells A.fins) * (G * (row p 51 (rcellsH A oa oc qa qc ba bc fa fc sa sc) * (slc 39 5 oa A.T.length oc (xscells X) * (xslotsR X * (slc 3 1 qa A.queue.length qc (A.queue.map ival) * (slc 3 1 ba A.buf.length bc (A.buf.map ival) * (slc 3 1 sa A.watch.length sc (A.watch.map ival) * F))))))) by unfold opG rrest; ac_rfl)) hk))
  have HC3 := Lib.hid (fun (w' : World) (G : HP) (hx : Sat w0 w' (G * opG p A X oa oc qa qc ba bc fa fc sa sc F)) => ROpen.c3 (F := G * F) ⟨op.hx, hx.cast (by unfold opG rrest; ac_rfl)⟩)
  clear op
  go_enter Try.func106, Try.ntmps106
  go_wp2_with fail
  go_loopw [3, 4] (fun ov iv wr => ∃ (k : Nat) (a : Option Addr) (c : Nat), iv = .int .i64 k ∧ k ≤ A.fins.length ∧ ov = .slice a k c ∧ Sat w0 wr (slc 3 1 a k c (((A.fins.map (·.1)).take k).map ival) * opG p A X oa oc qa qc ba bc fa fc sa sc F)) (fun _ iv _ => A.fins.length - (intOf iv).toNat)
  case atStart => exact ⟨0, none, 0, rfl, by omega, rfl, h0⟩
  case round =>
    obtain ⟨k, a, c, rfl, hk, rfl, hs⟩ := hrel
    have c3 := HC3.out _ _ hs
    by_cases hlt : k < A.fins.length
    · obtain ⟨x, hx⟩ : ∃ x, A.fins[k]? = some x := ⟨A.fins[k]'(by omega), List.getElem?_eq_getElem _⟩
      obtain ⟨_, g, off, rfl, x0, x1⟩ := HFA.out _ _ hs k x hx
      obtain ⟨y, z⟩ := x
      dsimp only at x0 x1
      have h1 := hs.alloc (.cells #[.int .i64 y] 3)
      have b0 : (wr.alloc (.cells #[.int .i64 y] 3)).cell? ⟨wr.heap.size, 0, none⟩ = some (.int .i64 y) := Sat.cell (T := 3) (cs := #[.int .i64 y]) h1 0 rfl
      have htk : (A.fins.map (·.1)).take (k + 1) = (A.fins.map (·.1)).take k ++ [y] := by rw [List.take_add_one, List.getElem?_map, hx]; rfl
      have HTK := Lib.hid htk
      clear hx htk
      go_wp2_with (at_builtin; refine wpList_push rfl _ _ rfl a k c ((A.fins.map (·.1)).take k) rfl h1.p2 wr.heap.size 1 y rfl b0 (by omega) ?_; intro a' c' w4 h4)
      go_roundw
      case rel =>
        refine ⟨k + 1, a', c', by go_num, by omega, rfl, ?_⟩
        rw [HTK.out]
        exact h4.drop2
      case measure => simp [intOf]; omega
    · obtain rfl : k = A.fins.length := by omega
      go_wp2_with fail
      go_ret
      refine ⟨a, c, rfl, ?_⟩
      rw [List.take_of_length_le (by simp)] at hs
      exact hs
theorem r_Waiting (h : Sat w0 w (refR13 p A * F)) (hf : A.fins.length ≤ 1000000) {n : Nat} {L : List Int} (hL : A.fins.map (·.1) = L) (hn : L.length = n) :
    Calls Try.prog 106 #[.pointer (some ⟨p, 0, none⟩)] w fun e w' => ∃ a c, e = .returned (.slice a n c) ∧ Sat w0 w' (slc 3 1 a n c (L.map ival) * (refR13 p A * F)) := by
  obtain ⟨X, oa, oc, qa, qc, ba, bc, fa, fc, sa, sc, op⟩ := h.openR
  refine (r_Waiting_O op hf hL hn).mono ?_
  rintro e w' ⟨a, c, rfl, h2⟩
  exact ⟨a, c, rfl, (ROpen.shutO op.hx h2).p2⟩
end
end Go.Proofs.Ytkpcngcegipalaa.Tw
namespace Go.Proofs.Ytkpcngcegipalaa.Tw
set_option linter.unusedVariables false
set_option linter.unusedSimpArgs false
open Go Go.RowKit Go.MapKept

section
variable {w0 w : World} {p : Nat} {A : AHeap} {F : HP} {B : Int} {X : List XObj} {oa : Option Addr} {oc : Nat} {qa : Option Addr} {qc : Nat} {ba : Option Addr} {bc : Nat} {fa : Option Addr} {fc : Nat} {sa : Option Addr} {sc : Nat}
theorem ROpen.alloc (h : ROpen w0 w p A F X oa oc qa qc ba bc fa fc sa sc) (o : Obj) : ROpen w0 (w.alloc o) p A (pt w.heap.size o * F) X oa oc qa qc ba bc fa fc sa sc := ⟨h.hx, (h.hs.alloc o).cast (by unfold rrest; ac_rfl)⟩
theorem ROpen.drew (h : ROpen w0 w p A F X oa oc qa qc ba bc fa fc sa sc) : ROpen w0 w.drew p A F X oa oc qa qc ba bc fa fc sa sc := ⟨h.hx, h.hs.drew⟩
/-- the frame's first block in front -/
theorem ROpen.front {G : HP} (h : ROpen w0 w p A (G * F) X oa oc qa qc ba bc fa fc sa sc) : Sat w0 w (G * opG p A X oa oc qa qc ba bc fa fc sa sc F) := h.hs.cast (by unfold opG rrest; ac_rfl)
theorem ROpen.unfront {G : HP} (hx : X.map (·.1) = graphL A A.T.length) (h : Sat w0 w (G * opG p A X oa oc qa qc ba bc fa fc sa sc F)) : ROpen w0 w p A (G * F) X oa oc qa qc ba bc fa fc sa sc := ⟨hx, h.cast (by unfold opG rrest; ac_rfl)⟩
set_option maxRecDepth 100000 in
set_option maxHeartbeats 2000000 in
theorem r_NextFin (H : HW A B) (hB : B ≤ 1000000) (h : Sat w0 w (refR13 p A * F)) :
    Calls Try.prog 104 #[.pointer (some ⟨p, 0, none⟩)] w fun e w' => e = .returned (.tuple #[.agg #[.int .i64 A.nextV.kind, .int .i64 A.nextV.n], .int .i64 A.nextM, .bool (!A.fins.isEmpty)]) ∧ Sat w0 w' (refR13 p A.nextF * F) := by
  obtain ⟨X, oa, oc, qa, qc, ba, bc, fa, fc, sa, sc, op⟩ := h.openR
  have op1 := op.alloc (.cells #[.int .i64 0, .int .i64 0] 28)
  have c3 := op1.c3
  have hfl := H.fl
  cases hf : A.fins with
  | nil =>
    have h1 := (h.alloc (.cells #[.int .i64 0, .int .i64 0] 28))
    have e1 : A.nextF = A := by unfold AHeap.nextF; rw [hf]; cases A; simp at hf; subst hf; rfl
    have e2 : A.nextV = ⟨0, 0⟩ := by unfold AHeap.nextV; rw [hf]
    have e3 : A.nextM = 0 := by unfold AHeap.nextM; rw [hf]
    rw [e1, e2, e3]
    rw [hf] at c3
    simp only [List.length_nil] at c3
    clear e1 e2 e3 op op1 hf hfl H
    go_enter Try.func104, Try.ntmps104
    go_wp2
    refine bodyPost_cell_tmp2 rfl rfl rfl rfl (load_val h1) rfl ⟨rfl, h1.drop⟩
  | cons x q =>
    obtain ⟨n, mk⟩ := x
    obtain ⟨o, ho, _⟩ := H.f1 (n, mk) (by rw [hf]; exact List.mem_cons_self)
    dsimp only at ho
    have hrng := obj_in H (n := n) (by rw [ho]; rfl)
    have hT := H.t
    obtain ⟨j, rfl⟩ : ∃ j : Nat, n = (j : Int) + 1 := ⟨(n - 1).toNat, by omega⟩
    have hobj : A.obj ((j : Int) + 1) = o := by unfold AHeap.obj; rw [ho]; rfl
    have e2 : A.nextV = ⟨o.kind, (j : Int) + 1⟩ := by unfold AHeap.nextV; rw [hf]; dsimp only; rw [hobj]
    have e3 : A.nextM = mk := by unfold AHeap.nextM; rw [hf]
    rw [e2, e3]
    have hlen : A.fins.length = q.length + 1 := by rw [hf]; rfl
    have hs7 : Sat w0 w (slc 176 2 fa A.fins.length fc (finCells A.fins) * _) := op.hs.cast (show _ = slc 176 2 fa A.fins.length fc (finCells A.fins) * (row p 51 (rcellsH A oa oc qa qc ba bc fa fc sa sc) * (slc 39 5 oa A.T.length oc (xscells X) * (xslotsR X * (slc 3 1 qa A.queue.length qc (A.queue.map ival) * (slc 3 1 ba A.buf.length bc (A.buf.map ival) * (slc 3 1 sa A.watch.length sc (A.watch.map ival) * F)))))) by unfold rrest; ac_rfl)
    obtain ⟨g, off, rfl, _, _⟩ := finAtR hs7 (k := 0) (by rw [hf]; rfl)
    have hcap := hs7.slcCap
    rw [hlen] at hcap
    have op2 := op1.alloc (.cells #[.int .i64 ((j : Int) + 1), .int .i64 mk] 176)
    rw [size_alloc] at op2
    have hsA : Sat w0 _ (slc 176 2 (some ⟨g, off, none⟩) A.fins.length fc (finCells A.fins) * _) := op1.hs.cast (show _ = slc 176 2 (some ⟨g, off, none⟩) A.fins.length fc (finCells A.fins) * (row p 51 (rcellsH A oa oc qa qc ba bc (some ⟨g, off, none⟩) fc sa sc) * (slc 39 5 oa A.T.length oc (xscells X) * (xslotsR X * (slc 3 1 qa A.queue.length qc (A.queue.map ival) * (slc 3 1 ba A.buf.length bc (A.buf.map ival) * (slc 3 1 sa A.watch.length sc (A.watch.map ival) * (pt w.heap.size (.cells #[.int .i64 0, .int .i64 0] 28) * F))))))) by unfold rrest; ac_rfl)
    obtain ⟨_, _, e', x0, x1⟩ := finAtR hsA (k := 0) (by rw [hf]; rfl)
    cases e'
    simp only [Nat.zero_mul, Nat.add_zero] at x0 x1
    have hsB : Sat w0 _ (slc 176 2 (some ⟨g, off, none⟩) A.fins.length fc (finCells A.fins) * _) := op2.hs.cast (show _ = slc 176 2 (some ⟨g, off, none⟩) A.fins.length fc (finCells A.fins) * (row p 51 (rcellsH A oa oc qa qc ba bc (some ⟨g, off, none⟩) fc sa sc) * (slc 39 5 oa A.T.length oc (xscells X) * (xslotsR X * (slc 3 1 qa A.queue.length qc (A.queue.map ival) * (slc 3 1 ba A.buf.length bc (A.buf.map ival) * (slc 3 1 sa A.watch.length sc (A.watch.map ival) * (pt (w.heap.size + 1) (.cells #[.int .i64 ((j : Int) + 1), .int .i64 mk] 176) * (pt w.heap.size (.cells #[.int .i64 0, .int .i64 0] 28) * F)))))))) by unfold rrest; ac_rfl)
    have eF : finCells A.fins = [.int .i64 ((j : Int) + 1), .int .i64 mk] ++ finCells q := by rw [hf]; rfl
    rw [eF, hlen] at hsB
    have hs3 := (hsB.slcTailN rfl).p2
    obtain ⟨off', hoff⟩ : ∃ off', (if fc = 1 then off else off + 2) = off' := ⟨_, rfl⟩
    rw [hoff] at hs3
    have hl1 : ((q.length : Int) + 1 == 0) = false := by simp; omega
    have hl2 : 0 < q.length + 1 := by omega
    have c3b : (((w.alloc (.cells #[.int .i64 0, .int .i64 0] 28)).alloc (.cells #[.int .i64 ((j : Int) + 1), .int .i64 mk] 176))).cell? ⟨p, 3, none⟩ = some (.slice (some ⟨g, off, none⟩) (q.length + 1) fc) := by rw [← hlen]; exact op2.c3
    rw [hlen] at c3
    have f3 := op2.hs.free 3
    have hs4 := hs3.store (i := 3) (.slice (some ⟨g, off', none⟩) q.length (fc - 1))
    have hrun : (Instr.sliceAt 49 (.slice (some ⟨g, off, none⟩) (q.length + 1) fc) (some (.int .i64 1)) none none).run Try.prog ((w.alloc (.cells #[.int .i64 0, .int .i64 0] 28)).alloc (.cells #[.int .i64 ((j : Int) + 1), .int .i64 mk] 176)) = .ok (.slice (some ⟨g, off', none⟩) q.length (fc - 1)) ((w.alloc (.cells #[.int .i64 0, .int .i64 0] 28)).alloc (.cells #[.int .i64 ((j : Int) + 1), .int .i64 mk] 176)) := by
      have := run_tail1 (P := Try.prog) ((w.alloc (.cells #[.int .i64 0, .int .i64 0] 28)).alloc (.cells #[.int .i64 ((j : Int) + 1), .int .i64 mk] 176)) 49 176 Try.underlying49 2 (fun w => by kernel_rfl) g off q.length fc hcap.1
      rw [hoff] at this
      simpa [Instr.sliceAt] using this
    have op3 : ROpen w0 (((w.alloc (.cells #[.int .i64 0, .int .i64 0] 28)).alloc (.cells #[.int .i64 ((j : Int) + 1), .int .i64 mk] 176)).setCell ⟨p, 3, none⟩ (.slice (some ⟨g, off', none⟩) q.length (fc - 1))) p A.nextF (pt (w.heap.size + 1) (.cells #[.int .i64 ((j : Int) + 1), .int .i64 mk] 176) * (pt w.heap.size (.cells #[.int .i64 0, .int .i64 0] 28) * F)) X oa oc qa qc ba bc (some ⟨g, off', none⟩) (fc - 1) sa sc :=
      ⟨op.hx, hs4.cast (by unfold rrest rcellsH AHeap.nextF; dsimp only; rw [hf]; simp only [List.tail_cons]; ac_rfl)⟩
    have hobj2 : A.nextF.obj ((j : Int) + 1) = o := hobj
    generalize hr : w.heap.size = rb at *
    clear hs4 hs3 hsB hsA hs7 eF hf hoff op op1 op2 h H hcap hobj e2 e3 ho
    go_enter Try.func104, Try.ntmps104
    go_wp2_with fail
    generalize hw3 : World.setCell _ ⟨p, 3, none⟩ (.slice (some ⟨g, off', none⟩) q.length (fc - 1)) = w3 at *
    obtain ⟨g2, off2, xa, xc, e1, hx, d0, _⟩ := op3.obj (k := j) (by show j < A.T.length; omega)
    subst e1
    rw [hobj2] at d0
    have b0 := op3.c0
    have hj1 : (j : Int) + 1 - 1 = j := by omega
    have hj2 : (0 : Int) ≤ (j : Int) := by omega
    have hj3 : (j : Int) < (A.nextF.T.length : Int) := by show (j : Int) < (A.T.length : Int); omega
    have hj4 : IntKind.i64.wrap (j : Int) = j := IntWalk.i64_in _ (by omega)
    have hj5 : IntKind.i64.wrap ((j : Int) + 1 - 1) = j := by rw [hj1]; exact hj4
    have y0 : w3.cell? ⟨rb + 1, 0, none⟩ = some (.int .i64 ((j : Int) + 1)) := Sat.cell (T := 176) (cs := #[.int .i64 ((j : Int) + 1), .int .i64 mk]) op3.front 0 rfl
    have y1 : w3.cell? ⟨rb + 1, 1, none⟩ = some (.int .i64 mk) := Sat.cell (T := 176) (cs := #[.int .i64 ((j : Int) + 1), .int .i64 mk]) op3.front 1 rfl
    have hv : Sat w0 w3 (pt rb (.cells #[.int .i64 0, .int .i64 0] 28) * opG p A.nextF X (some ⟨g2, off2, none⟩) oc qa qc ba bc (some ⟨g, off', none⟩) (fc - 1) sa sc F) := ROpen.front ⟨op3.hx, op3.front.drop⟩
    have ⟨v0, v1, vf0, vf1⟩ := val2' hv
    have hv2 := (hv.setVal o.kind ((j : Int) + 1)).drew
    have HFIN := Lib.hid (And.intro hv2 (ROpen.shut ⟨op3.hx, hv2.drop⟩))
    clear op3 hx hv hv2
    generalize A.nextF.T.length = N at *
    go_region
    go_wp2_with fail
    refine bodyPost_cell_tmp2 rfl rfl rfl rfl (load_val HFIN.out.1) rfl ⟨rfl, HFIN.out.2⟩
end
end Go.Proofs.Ytkpcngcegipalaa.Tw
