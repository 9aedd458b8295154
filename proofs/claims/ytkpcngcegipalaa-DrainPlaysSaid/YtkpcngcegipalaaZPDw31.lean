/- tallowref13: Obj, Push. No condition. -/
import Derived.Test.YtkpcngcegipalaaZPDw30
namespace Go.Proofs.Ytkpcngcegipalaa.Tw
set_option linter.unusedVariables false
set_option linter.unusedSimpArgs false
open Go Go.RowKit Go.MapKept

section
variable {P : Program} {w0 w : World} {F : HP} {ops : Array Oper} {rest : List Oper} {o : Oper} {a : Act} {Q : Exit → Act → World → Prop} {K : Act → World → Prop}
/-- values behind an owned slice, from wherever -/
theorem wp_catV (s x : Operand) (hop : o.op = .call { callee := .builtin .append, args := #[s, x], argTypes := #[37, 37] })
    (sa : Option Addr) (n c : Nat) (l : List AVal) (hs : a.eval s = .slice sa n c) (h : Sat w0 w (slc 28 2 sa n c (avcells l) * F)) (xa : Option Addr) (m c' : Nat) (r : List AVal) (hx : a.eval x = .slice xa m c') (hr : r.length = m)
    (hsrc : (∀ ad, xa = some ad → ∀ j u, (avcells r)[j]? = some u → w.cell? (ad.add j) = some u) ∧ (xa = none → m = 0 ∧ c' = 0)) (hn : n + m ≤ 1000000000)
    (hK : ∀ a' c'' w', Sat w0 w' (slc 28 2 a' (n + m) c'' (avcells (l ++ r)) * F) → K (a.put o.dst (.slice a' (n + m) c'')) w') : o.wp Try.prog a w K Q := by
  obtain ⟨i0, hi, hz0, hz1, hz2⟩ := info_parts info_val
  refine wp_append_any s x 37 hop i0 (.agg #[.int .i64 0, .int .i64 0]) 16 Try.underlying37 hi hz0 hz1 hz2 rfl sa n c (avcells l) hs h xa m c' (avcells r) hx (by rw [avcells_length, hr]) hsrc (oneCell_avcells r) (by unfold maxLen; omega) (by omega) fun a' c'' w' h2 _ => ?_
  exact hK a' c'' w' (by rw [show avcells (l ++ r) = avcells l ++ avcells r by simp [avcells]]; exact h2)
theorem wpList_catV (hg : o.guard = none) (s x : Operand) (hop : o.op = .call { callee := .builtin .append, args := #[s, x], argTypes := #[37, 37] })
    (sa : Option Addr) (n c : Nat) (l : List AVal) (hs : a.eval s = .slice sa n c) (h : Sat w0 w (slc 28 2 sa n c (avcells l) * F)) (xa : Option Addr) (m c' : Nat) (r : List AVal) (hx : a.eval x = .slice xa m c') (hr : r.length = m)
    (hsrc : (∀ ad, xa = some ad → ∀ j u, (avcells r)[j]? = some u → w.cell? (ad.add j) = some u) ∧ (xa = none → m = 0 ∧ c' = 0)) (hn : n + m ≤ 1000000000)
    (hK : ∀ a' c'' w', Sat w0 w' (slc 28 2 a' (n + m) c'' (avcells (l ++ r)) * F) → wpList Try.prog ops Q rest (a.put o.dst (.slice a' (n + m) c'')) w') : wpList Try.prog ops Q (o :: rest) a w :=
  wpList_plain hg fun _ hK' => wp_catV s x hop sa n c l hs h xa m c' r hx hr hsrc hn fun a' c'' w' h2 => hK' _ _ (hK a' c'' w' h2)
end
section
variable {w0 w : World} {p : Nat} {A : AHeap} {F : HP} {B : Int} {X : List XObj} {oa : Option Addr} {oc : Nat} {qa : Option Addr} {qc : Nat} {ba : Option Addr} {bc : Nat} {fa : Option Addr} {fc : Nat} {sa : Option Addr} {sc : Nat}
theorem ocells {k c mk : Int} {xa : Option Addr} {n xc : Nat} {tx : ByteArray} (h : Sat w0 w (pt p (.cells #[.int .i64 k, .int .i64 c, .slice xa n xc, .string tx, .int .i64 mk] 39 (0, 0)) * F)) :
    w.cell? ⟨p, 0, none⟩ = some (.int .i64 k) ∧ w.cell? ⟨p, 1, none⟩ = some (.int .i64 c) ∧ w.cell? ⟨p, 2, none⟩ = some (.slice xa n xc) ∧ w.cell? ⟨p, 3, none⟩ = some (.string tx) ∧ w.cell? ⟨p, 4, none⟩ = some (.int .i64 mk) ∧ w.frozen? ⟨p, 2, none⟩ = false :=
  have cc := fun i v hv => Sat.cell (T := 39) (cs := #[.int .i64 k, .int .i64 c, .slice xa n xc, .string tx, .int .i64 mk]) h i (v := v) hv
  ⟨cc 0 _ rfl, cc 1 _ rfl, cc 2 _ rfl, cc 3 _ rfl, cc 4 _ rfl, Sat.free (T := 39) (cs := #[.int .i64 k, .int .i64 c, .slice xa n xc, .string tx, .int .i64 mk]) h 2⟩
theorem ofree {k c mk : Int} {xa : Option Addr} {n xc : Nat} {tx : ByteArray} (h : Sat w0 w (pt p (.cells #[.int .i64 k, .int .i64 c, .slice xa n xc, .string tx, .int .i64 mk] 39 (0, 0)) * F)) :
    w.frozen? ⟨p, 0, none⟩ = false ∧ w.frozen? ⟨p, 1, none⟩ = false ∧ w.frozen? ⟨p, 2, none⟩ = false ∧ w.frozen? ⟨p, 3, none⟩ = false ∧ w.frozen? ⟨p, 4, none⟩ = false :=
  have cc := fun i => Sat.free (T := 39) (cs := #[.int .i64 k, .int .i64 c, .slice xa n xc, .string tx, .int .i64 mk]) h i
  ⟨cc 0, cc 1, cc 2, cc 3, cc 4⟩
/-- an object's box, written -/
theorem setObj5 {k c mk k' c' mk' : Int} {xa xa' : Option Addr} {n xc n' xc' : Nat} {tx tx' : ByteArray} (h : Sat w0 w (pt p (.cells #[.int .i64 k, .int .i64 c, .slice xa n xc, .string tx, .int .i64 mk] 39 (0, 0)) * F)) :
    Sat w0 (((((w.setCell ⟨p, 0, none⟩ (.int .i64 k')).setCell ⟨p, 1, none⟩ (.int .i64 c')).setCell ⟨p, 2, none⟩ (.slice xa' n' xc')).setCell ⟨p, 3, none⟩ (.string tx')).setCell ⟨p, 4, none⟩ (.int .i64 mk')) (pt p (.cells #[.int .i64 k', .int .i64 c', .slice xa' n' xc', .string tx', .int .i64 mk'] 39 (0, 0)) * F) :=
  Sat.store (T := 39) (cs := #[.int .i64 k', .int .i64 c', .slice xa' n' xc', .string tx', .int .i64 mk]) (Sat.store (T := 39) (cs := #[.int .i64 k', .int .i64 c', .slice xa' n' xc', .string tx, .int .i64 mk]) (Sat.store (T := 39) (cs := #[.int .i64 k', .int .i64 c', .slice xa n xc, .string tx, .int .i64 mk]) (Sat.store (T := 39) (cs := #[.int .i64 k', .int .i64 c, .slice xa n xc, .string tx, .int .i64 mk]) (Sat.store (T := 39) (cs := #[.int .i64 k, .int .i64 c, .slice xa n xc, .string tx, .int .i64 mk]) h (i := 0) (.int .i64 k')) (i := 1) (.int .i64 c')) (i := 2) (.slice xa' n' xc')) (i := 3) (.string tx')) (i := 4) (.int .i64 mk')
set_option maxRecDepth 100000 in
set_option maxHeartbeats 2000000 in
theorem r_Obj_O (H : HW A B) (hB : B ≤ 1000000) (op : ROpen w0 w p A F X oa oc qa qc ba bc fa fc sa sc) (n : Int) {k c mk : Int} {sl : List AVal} {tx : ByteArray} {sn : Nat} (ho' : A.obj n = ⟨k, c, sl, tx, mk⟩) (hsn : sl.length = sn) :
    Calls Try.prog 57 #[.pointer (some ⟨p, 0, none⟩), .int .i64 n] w fun e w' => ∃ a cc, e = .returned (.agg #[.int .i64 k, .int .i64 c, .slice a sn cc, .string tx, .int .i64 mk]) ∧ Sat w0 w' (slc 28 2 a sn cc (avcells sl) * opG p A X oa oc qa qc ba bc fa fc sa sc F) := by
  subst hsn
  have op1 := op.alloc (.cells #[.int .i64 0, .int .i64 0, .slice none 0 0, .string (ByteArray.mk #[]), .int .i64 0] 39)
  cases ho : A.objs n with
  | none =>
    have HC := Lib.hid (r_There H hB op1.shut n (b := false) (by rw [ho]; rfl))
    have e1 : A.obj n = ⟨0, 0, [], ByteArray.mk #[], 0⟩ := by unfold AHeap.obj; rw [ho]; rfl
    rw [e1] at ho'
    injection ho' with q1 q2 q3 q4 q5
    subst q1 q2 q3 q4 q5
    have h1 := op1.front
    have h2 := h1.drop.nilSlc (T := 28) (sz := 2)
    clear e1 ho H op op1
    go_enter Try.func57, Try.ntmps57
    go_wp2_with fail
    refine HC.out.mono ?_
    rintro e w1 ⟨rfl, rfl⟩
    go_wp2_with fail
    exact bodyPost_cell rfl rfl (load_obj h1) rfl ⟨none, 0, rfl, h2⟩
  | some o =>
    have HC := Lib.hid (r_There H hB op1.shut n (b := true) (by rw [ho]; rfl))
    have hrng := obj_in H (n := n) (by rw [ho]; rfl)
    have hT := H.t
    have hcn := H.c n o ho
    obtain ⟨j, rfl⟩ : ∃ j : Nat, n = (j : Int) + 1 := ⟨(n - 1).toNat, by omega⟩
    have hobj : A.obj ((j : Int) + 1) = o := by unfold AHeap.obj; rw [ho]; rfl
    rw [hobj] at ho'
    subst ho'
    dsimp only at hcn
    replace op := op1
    clear op1
    obtain ⟨g, off, xa, xc, eoa, hx, d0, d1, d2, d3, d4⟩ := op.obj (k := j) (by omega)
    subst eoa
    have c0 := op.c0
    rw [hobj] at d0 d1 d2 d3 d4 hx
    dsimp only at d0 d1 d2 d3 d4
    have hj1 : (j : Int) + 1 - 1 = j := by omega
    have hj2 : (0 : Int) ≤ (j : Int) := by omega
    have hj3 : (j : Int) < (A.T.length : Int) := by omega
    have hj4 : IntKind.i64.wrap (j : Int) = j := IntWalk.i64_in _ (by omega)
    have op2 := op.alloc (.cells #[.int .i64 k, .int .i64 c, .slice xa sl.length xc, .string tx, .int .i64 mk] 39)
    rw [size_alloc] at op2
    obtain ⟨R, _, hsl⟩ := op2.slots hx
    have hsrc := hsl.slcSrc
    dsimp only at hsrc
    have h3 : Sat w0 _ (slc 28 2 none 0 0 (avcells []) * _) := op2.hs.nilSlc
    have h2c := op2.front
    have ⟨y0, y1, y2, y3, y4, y5⟩ := ocells h2c
    have hOX := Lib.hid op.hx
    have hll : sl.length ≤ 1000000 := by omega
    clear ho H op op2 hx hobj hsl
    go_enter Try.func57, Try.ntmps57
    go_wp2_with fail
    refine HC.out.mono ?_
    rintro e w1 ⟨rfl, rfl⟩
    go_wp2_with (at_builtin; refine wpList_catV rfl _ _ rfl none 0 0 [] rfl h3 xa sl.length xc sl rfl rfl hsrc (by omega) ?_; intro a' c' w4 h6; rw [Nat.zero_add] at h6; have h7 := ROpen.front ⟨hOX.out, h6.cast (show _ = opG p A X (some ⟨g, off, none⟩) oc qa qc ba bc fa fc sa sc (pt (w.heap.size + 1) (.cells #[.int .i64 k, .int .i64 c, .slice xa sl.length xc, .string tx, .int .i64 mk] 39) * (slc 28 2 a' sl.length c' (avcells ([] ++ sl)) * (pt w.heap.size (.cells #[.int .i64 0, .int .i64 0, .slice none 0 0, .string (ByteArray.mk #[]), .int .i64 0] 39) * F))) by unfold opG rrest; ac_rfl)⟩; have ⟨z0, z1, z2, z3, z4, z5⟩ := ocells h7; have h8 : Sat w0 (w4.setCell ⟨w.heap.size + 1, 2, none⟩ (.slice a' sl.length c')) _ := Sat.store (T := 39) (cs := #[.int .i64 k, .int .i64 c, .slice xa sl.length xc, .string tx, .int .i64 mk]) h7 (i := 2) (.slice a' sl.length c'); have h9 := (ROpen.front ⟨hOX.out, (h8.drop).cast (show _ = opG p A X (some ⟨g, off, none⟩) oc qa qc ba bc fa fc sa sc (pt w.heap.size (.cells #[.int .i64 0, .int .i64 0, .slice none 0 0, .string (ByteArray.mk #[]), .int .i64 0] 39) * (slc 28 2 a' sl.length c' (avcells ([] ++ sl)) * F)) by unfold opG rrest; ac_rfl)⟩); have ⟨u0, u1, u2, u3, u4, _⟩ := ocells h9; have ⟨v0, v1, v2, v3, v4⟩ := ofree h9; have h10 := setObj5 (k' := k) (c' := c) (xa' := a') (n' := sl.length) (xc' := c') (tx' := tx) (mk' := mk) h9)
    have hfin := h10.drop.cast (show _ = slc 28 2 a' sl.length c' (avcells ([] ++ sl)) * opG p A X (some ⟨g, off, none⟩) oc qa qc ba bc fa fc sa sc F by unfold opG rrest; ac_rfl)
    rw [List.nil_append] at hfin
    exact bodyPost_cell rfl rfl (load_obj h10) rfl ⟨a', c', rfl, hfin⟩
theorem r_Obj (H : HW A B) (hB : B ≤ 1000000) (h : Sat w0 w (refR13 p A * F)) (n : Int) {k c mk : Int} {sl : List AVal} {tx : ByteArray} {sn : Nat} (ho' : A.obj n = ⟨k, c, sl, tx, mk⟩) (hsn : sl.length = sn) :
    Calls Try.prog 57 #[.pointer (some ⟨p, 0, none⟩), .int .i64 n] w fun e w' => ∃ a cc, e = .returned (.agg #[.int .i64 k, .int .i64 c, .slice a sn cc, .string tx, .int .i64 mk]) ∧ Sat w0 w' (slc 28 2 a sn cc (avcells sl) * (refR13 p A * F)) := by
  obtain ⟨X, oa, oc, qa, qc, ba, bc, fa, fc, sa, sc, op⟩ := h.openR
  refine (r_Obj_O H hB op n ho' hsn).mono ?_
  rintro e w' ⟨a, cc, rfl, h2⟩
  exact ⟨a, cc, rfl, (ROpen.shutO op.hx h2).p2⟩
end
end Go.Proofs.Ytkpcngcegipalaa.Tw
namespace Go.Proofs.Ytkpcngcegipalaa.Tw
set_option linter.unusedVariables false
set_option linter.unusedSimpArgs false
open Go Go.RowKit Go.MapKept
attribute [local go_sem] lookE lkE valUpon
section
variable {w0 w : World} {p : Nat} {A : AHeap} {F : HP} {B : Int} {X : List XObj} {oa : Option Addr} {oc : Nat} {qa : Option Addr} {qc : Nat} {ba : Option Addr} {bc : Nat} {fa : Option Addr} {fc : Nat} {sa : Option Addr} {sc : Nat}
theorem srcOne {q : Nat} {k m : Int} (h : Sat w0 w (pt q (.cells #[.int .i64 k, .int .i64 m] 28 (0, 0)) * F)) : (∀ ad, (some ⟨q, 0, none⟩ : Option Addr) = some ad → ∀ j u, (avcells [⟨k, m⟩])[j]? = some u → w.cell? (ad.add j) = some u) ∧ ((some ⟨q, 0, none⟩ : Option Addr) = none → (1 : Nat) = 0 ∧ (1 : Nat) = 0) := by
  refine ⟨fun ad e j u hj => ?_, fun e => by cases e⟩
  cases e
  rw [addr_add, Nat.zero_add]
  have ⟨y0, y1⟩ := valR h
  match j, hj with
  | 0, hj => cases hj; exact y0
  | 1, hj => cases hj; exact y1
  | j + 2, hj => simp [avcells, AVal.cells] at hj
theorem slcO_free {g off N oc k : Nat} {x : XObj} (h : Sat w0 w (slc 39 5 (some ⟨g, off, none⟩) N oc (xscells X) * F)) (hx : X[k]? = some x) {j : Nat} (hj : j < 5) : w.frozen? ⟨g, off + k * 5 + j, none⟩ = false := by
  have hk := (List.getElem?_eq_some_iff.1 hx).1
  have hlt : k * 5 + j < (xscells X).length := by rw [xscells_length]; omega
  obtain ⟨g', off', e', _, f⟩ := h.slcAt (List.getElem?_eq_getElem hlt)
  cases e'
  rw [Nat.add_assoc]; exact f
theorem setSlots {g off N oc k xc : Nat} {xa : Option Addr} {o : AObj} (h : Sat w0 w (slc 39 5 (some ⟨g, off, none⟩) N oc (xscells X) * F)) (hx : X[k]? = some (o, xa, xc)) (hk : k < N) (sl : List AVal) (y : Option Addr × Nat) {q : Nat} (hq : sl.length = q) :
    Sat w0 (w.setCell ⟨g, off + k * 5 + 2, none⟩ (.slice y.1 q y.2)) (slc 39 5 (some ⟨g, off, none⟩) N oc (xscells (X.set k ({ o with slots := sl }, y.1, y.2))) * F) := by
  subst hq
  have := h.slcStore (j := k * 5 + 2) (by omega) (.slice y.1 sl.length y.2)
  rw [← Nat.add_assoc, ← xscells_set (y := ({ o with slots := sl }, y.1, y.2)) hx (by omega) rfl] at this
  exact this
set_option maxRecDepth 100000 in
set_option maxHeartbeats 2000000 in
theorem r_Push (H : HW A B) (hB : B ≤ 1000000) (hW : A.watch.length ≤ 1000000) (h : Sat w0 w (refR13 p A * F)) (n k m : Int) {r : Int} (hr : A.pushE n ⟨k, m⟩ = r) :
    Calls Try.prog 100 #[.pointer (some ⟨p, 0, none⟩), .int .i64 n, .agg #[.int .i64 k, .int .i64 m]] w fun e w' => e = .returned (.int .i64 r) ∧ Sat w0 w' (refR13 p (A.pushF n ⟨k, m⟩) * F) := by
  subst hr
  have h1 := h.alloc (.cells #[.int .i64 k, .int .i64 m] 28)
  have ⟨y0, y1⟩ := valR h1
  cases ho : A.objs n with
  | none =>
    have HC := Lib.hid (r_There H hB h1.p2 n (b := false) (by rw [ho]; rfl))
    have e1 : A.pushF n ⟨k, m⟩ = A := by unfold AHeap.pushF; rw [ho]
    have e2 : A.pushE n ⟨k, m⟩ = 5 := by unfold AHeap.pushE; rw [ho]
    rw [e1, e2]
    clear e1 e2 ho H
    go_enter Try.func100, Try.ntmps100
    go_wp2_with fail
    refine HC.out.mono ?_
    rintro e w1 ⟨rfl, rfl⟩
    go_wp2_with fail
    go_ret
    exact ⟨rfl, h1.drop⟩
  | some o =>
    have HC := Lib.hid (r_There H hB h1.p2 n (b := true) (by rw [ho]; rfl))
    have hrng := obj_in H (n := n) (by rw [ho]; rfl)
    have hT := H.t
    have hcn := H.c n o ho
    obtain ⟨j, rfl⟩ : ∃ j : Nat, n = (j : Int) + 1 := ⟨(n - 1).toNat, by omega⟩
    have hobj : A.obj ((j : Int) + 1) = o := by unfold AHeap.obj; rw [ho]; rfl
    have ep : pushB A o ⟨k, m⟩ = (!decide (o.kind = 5) && thereV A ⟨k, m⟩) := rfl
    obtain ⟨X, oa, oc, qa, qc, ba, bc, fa, fc, sa, sc, op⟩ := h1.p2.openR
    obtain ⟨g, off, xa, xc, eoa, hx, d0, d1, d2, d3, d4⟩ := op.obj (k := j) (by omega)
    subst eoa
    have c0 := op.c0
    rw [hobj] at d0 d2 hx
    have hj1 : (j : Int) + 1 - 1 = j := by omega
    have hj2 : (0 : Int) ≤ (j : Int) := by omega
    have hj3 : (j : Int) < (A.T.length : Int) := by omega
    have hj4 : IntKind.i64.wrap (j : Int) = j := IntWalk.i64_in _ (by omega)
    by_cases hk5 : o.kind = 5
    · have e0 : pushB A o ⟨k, m⟩ = false := by rw [ep, decide_eq_true hk5]; rfl
      have e1 : A.pushF ((j : Int) + 1) ⟨k, m⟩ = A := by unfold AHeap.pushF; rw [ho]; simp [e0]
      have e2 : A.pushE ((j : Int) + 1) ⟨k, m⟩ = 2 := by unfold AHeap.pushE; rw [ho]; simp [e0]
      rw [e1, e2]
      have fk : (o.kind == 5) = true := by simpa using hk5
      clear op hx H ho e1 e2 e0 ep hobj hk5
      generalize A.T.length = N at *
      go_enter Try.func100, Try.ntmps100
      go_wp2_with fail
      refine HC.out.mono ?_
      rintro e w1 ⟨rfl, rfl⟩
      go_wp2_with fail
      go_ret
      exact ⟨rfl, h1.drop⟩
    · have fk : (o.kind == 5) = false := by simpa using hk5
      cases ht : thereV A ⟨k, m⟩ with
      | false =>
        have e0 : pushB A o ⟨k, m⟩ = false := by rw [ep, ht, Bool.and_false]
        have e1 : A.pushF ((j : Int) + 1) ⟨k, m⟩ = A := by unfold AHeap.pushF; rw [ho]; simp [e0]
        have e2 : A.pushE ((j : Int) + 1) ⟨k, m⟩ = 2 := by unfold AHeap.pushE; rw [ho]; simp [e0]
        rw [e1, e2]
        have HV := Lib.hid (r_Value H hB h1.p2 k m ht)
        clear op hx H ho e1 e2 e0 ep hobj hk5 ht
        generalize A.T.length = N at *
        go_enter Try.func100, Try.ntmps100
        go_wp2_with fail
        refine HC.out.mono ?_
        rintro e w1 ⟨rfl, rfl⟩
        go_wp2_with fail
        refine HV.out.mono ?_
        rintro e w2 ⟨rfl, h2⟩
        go_wp2_with fail
        go_ret
        exact ⟨rfl, h2.p2.drop⟩
      | true =>
        have e0 : pushB A o ⟨k, m⟩ = true := by rw [ep, ht, decide_eq_false hk5]; rfl
        have e1 : A.pushF ((j : Int) + 1) ⟨k, m⟩ = (A.upd ((j : Int) + 1) { o with slots := o.slots ++ [⟨k, m⟩] }).touch ((j : Int) + 1) := by unfold AHeap.pushF; rw [ho]; simp only [e0, if_true]; rfl
        have e2 : A.pushE ((j : Int) + 1) ⟨k, m⟩ = 0 := by unfold AHeap.pushE; rw [ho]; simp [e0]
        rw [e1, e2]
        have HV := Lib.hid (r_Value H hB h1.p2 k m ht)
        have hso : o.slots.length ≤ 1000000 := by omega
        have HOB := Lib.hid (And.intro hobj (show j < A.T.length by omega))
        clear op hx H ho e1 e2 e0 ep hobj hk5 ht hcn
        go_enter Try.func100, Try.ntmps100
        go_wp2_with fail
        refine HC.out.mono ?_
        rintro e w1 ⟨rfl, rfl⟩
        go_wp2_with fail
        refine HV.out.mono ?_
        rintro e w2 ⟨rfl, h2⟩
        clear c0 d0 d1 d2 d3 d4
        obtain ⟨X, oa, oc, qa, qc, ba, bc, fa, fc, sa, sc, op⟩ := h2.openR
        obtain ⟨g, off, xa, xc, eoa, hx, d0, d1, d2, d3, d4⟩ := op.obj (k := j) HOB.out.2
        subst eoa
        rw [HOB.out.1] at hx
        obtain ⟨R, hR, hsl⟩ := op.slots hx
        generalize w.heap.size = b5 at *
        obtain ⟨RR, hRR⟩ : ∃ RR : HP, RR = R * rrest A qa qc ba bc fa fc sa sc F := ⟨_, rfl⟩
        have h0 : Sat w0 w2 (row p 51 (rcellsH A (some ⟨g, off, none⟩) oc qa qc ba bc fa fc sa sc) * (slc 39 5 (some ⟨g, off, none⟩) A.T.length oc (xscells X) * (slc 28 2 xa o.slots.length xc (avcells o.slots) * (pt b5 (.cells #[.int .i64 k, .int .i64 m] 28 (0, 0)) * (RR))))) := hsl.cast (by rw [hRR]; unfold rrest; ac_rfl)
        have HX := Lib.hid hx
        have HJ := Lib.hid HOB.out.2
        have hOX := Lib.hid op.hx
        have HRR := Lib.hid (And.intro hRR (hR ({ o with slots := o.slots ++ [⟨k, m⟩] }, xa, xc)))
        have HR2 := Lib.hid hR
        clear op hx hsl hRR hR d0 d1 d2 d3 d4 h2
        go_wp2_with fail
        refine wp_gen fun a0 ha => ?_
        have hb0 : base a0 0 = .pointer (some ⟨p, 0, none⟩) := by rw [ha]; rfl
        have hb1 : base a0 1 = .int .i64 ((j : Int) + 1) := by rw [ha]; rfl
        have hb5 : base a0 5 = .pointer (some ⟨b5, 0, none⟩) := by rw [ha]; rfl
        have hsz0 : a0.tmps.size = 50 := by rw [ha]; rfl
        have HA0 := Lib.hid (And.intro hsz0 ha)
        clear ha hsz0
        refine GW.start (X := Option Addr × Nat) (w0 := w0) (B := [row p 51 (rcellsH A (some ⟨g, off, none⟩) oc qa qc ba bc fa fc sa sc), slc 39 5 (some ⟨g, off, none⟩) A.T.length oc (xscells X), slc 28 2 xa o.slots.length xc (avcells o.slots), pt b5 (.cells #[.int .i64 k, .int .i64 m] 28 (0, 0)), RR]) (a0 := a0) ?_
        refine GW.det (d := (some 27)) [] [] rfl (fun e => by rfl) ?_; apply Exists.intro; refine ⟨fun e w' F hs => ?_, ?_, ?_⟩
        · first | (go_simp; done) | (go_simp; rfl)
        · exact (fun _ _ _ => rfl)
        refine GW.det (d := (some 28)) [] [] rfl (fun e => by rfl) ?_; apply Exists.intro; refine ⟨fun e w' F hs => ?_, ?_, ?_⟩
        · first | (go_simp; done) | (go_simp; rfl)
        · exact (fun _ _ _ => rfl)
        refine GW.det (d := (some 29)) [] [] rfl (fun e => by rfl) ?_; apply Exists.intro; refine ⟨fun e w' F hs => ?_, ?_, ?_⟩
        · first | (go_simp; done) | (go_simp; rfl)
        · exact (fun _ _ _ => rfl)
        refine GW.det (d := (some 30)) [0] [] rfl (fun e => by rfl) ?_; apply Exists.intro; refine ⟨fun e w' F hs => ?_, ?_, ?_⟩
        · have y0 : w'.cell? ⟨p, 0, none⟩ = some (.slice (some ⟨g, off, none⟩) A.T.length oc) := (show Sat w0 w' (row p 51 (rcellsH A (some ⟨g, off, none⟩) oc qa qc ba bc fa fc sa sc) * F) from hs).cell 0 rfl; first | (go_simp; done) | (go_simp; rfl)
        · exact (fun _ _ _ => rfl)
        refine GW.det (d := (some 31)) [] [] rfl (fun e => by rfl) ?_; apply Exists.intro; refine ⟨fun e w' F hs => ?_, ?_, ?_⟩
        · first | (go_simp; done) | (go_simp; rfl)
        · exact (fun _ _ _ => rfl)
        refine GW.det (d := (some 32)) [] [] rfl (fun e => by rfl) ?_; apply Exists.intro; refine ⟨fun e w' F hs => ?_, ?_, ?_⟩
        · first | (go_simp; done) | (go_simp; rfl)
        · exact (fun _ _ _ => rfl)
        refine GW.det (d := (some 33)) [] [] rfl (fun e => by rfl) ?_; apply Exists.intro; refine ⟨fun e w' F hs => ?_, ?_, ?_⟩
        · first | (go_simp; done) | (go_simp; rfl)
        · exact (fun _ _ _ => rfl)
        refine GW.det (d := (some 34)) [] [] rfl (fun e => by rfl) ?_; apply Exists.intro; refine ⟨fun e w' F hs => ?_, ?_, ?_⟩
        · first | (go_simp; done) | (go_simp; rfl)
        · exact (fun _ _ _ => rfl)
        refine GW.det (d := (some 35)) [] [] rfl (fun e => by rfl) ?_; apply Exists.intro; refine ⟨fun e w' F hs => ?_, ?_, ?_⟩
        · first | (go_simp; done) | (go_simp; rfl)
        · exact (fun _ _ _ => rfl)
        refine GW.det (d := (some 36)) [0] [] rfl (fun e => by rfl) ?_; apply Exists.intro; refine ⟨fun e w' F hs => ?_, ?_, ?_⟩
        · have y0 : w'.cell? ⟨p, 0, none⟩ = some (.slice (some ⟨g, off, none⟩) A.T.length oc) := (show Sat w0 w' (row p 51 (rcellsH A (some ⟨g, off, none⟩) oc qa qc ba bc fa fc sa sc) * F) from hs).cell 0 rfl; first | (go_simp; done) | (go_simp; rfl)
        · exact (fun _ _ _ => rfl)
        refine GW.det (d := (some 37)) [] [] rfl (fun e => by rfl) ?_; apply Exists.intro; refine ⟨fun e w' F hs => ?_, ?_, ?_⟩
        · first | (go_simp; done) | (go_simp; rfl)
        · exact (fun _ _ _ => rfl)
        refine GW.det (d := (some 38)) [] [] rfl (fun e => by rfl) ?_; apply Exists.intro; refine ⟨fun e w' F hs => ?_, ?_, ?_⟩
        · first | (go_simp; done) | (go_simp; rfl)
        · exact (fun _ _ _ => rfl)
        refine GW.det (d := (some 39)) [] [] rfl (fun e => by rfl) ?_; apply Exists.intro; refine ⟨fun e w' F hs => ?_, ?_, ?_⟩
        · first | (go_simp; done) | (go_simp; rfl)
        · exact (fun _ _ _ => rfl)
        refine GW.det (d := (some 40)) [] [] rfl (fun e => by rfl) ?_; apply Exists.intro; refine ⟨fun e w' F hs => ?_, ?_, ?_⟩
        · first | (go_simp; done) | (go_simp; rfl)
        · exact (fun _ _ _ => rfl)
        refine GW.det (d := (some 41)) [1] [] rfl (fun e => by rfl) ?_; apply Exists.intro; refine ⟨fun e w' F hs => ?_, ?_, ?_⟩
        · obtain ⟨g', off', e', _, _, y2, _, _⟩ := objAtX (show Sat w0 w' (slc 39 5 (some ⟨g, off, none⟩) A.T.length oc (xscells X) * F) from hs) HX.out; cases e'; dsimp only at y2; first | (go_simp; done) | (go_simp; rfl)
        · exact (fun _ _ _ => rfl)
        refine GW.det (d := (some 42)) [3] [] rfl (fun e => by rfl) ?_; apply Exists.intro; refine ⟨fun e w' F hs => ?_, ?_, ?_⟩
        · have y := val2' (show Sat w0 w' (pt b5 (.cells #[.int .i64 k, .int .i64 m] 28 (0, 0)) * F) from hs); have y0 := y.1; have y1 := y.2.1; first | (go_simp; done) | (go_simp; rfl)
        · exact (fun _ _ _ => rfl)
        refine GW.new (d := (some 43)) 16 (fun x => .slice x.1 1 1) (fun x => lits x.1 28 [.int .i64 k, .int .i64 m]) [] rfl rfl (fun e => by rfl) (fun e w' F K hs hK => ?_) ?_
        · go_simp; exact hK (some ⟨_, 0, none⟩, 0) _ (lits_mk ((hs.alloc (.cells #[.int .i64 k, .int .i64 m] 28)).cast (mul_left_comm _ _ _)))
        refine GW.take (d := (some 44)) 17 (fun e => .slice (e 17).1 (o.slots.length + 1) (e 17).2) (fun e => slc 28 2 (e 17).1 (o.slots.length + 1) (e 17).2 (avcells (o.slots ++ [⟨k, m⟩]))) [] [2, 21] [17] rfl rfl (fun e => by rfl) (fun e e' hl => by simp only [hl 17 (by decide)]; exact ⟨trivial, trivial⟩) (fun e w' F K hs hK => ?_) ?_
        · obtain ⟨q, hq, hs⟩ := lits_open (show Sat w0 w' ((lits (e 16).1 28 [.int .i64 k, .int .i64 m]) * (slc 28 2 xa o.slots.length xc (avcells o.slots) * F)) from Sat.cast (show Sat w0 w' ((slc 28 2 xa o.slots.length xc (avcells o.slots) * lits (e 16).1 28 [.int .i64 k, .int .i64 m]) * F) from one_out hs) (by ac_rfl)); refine wp_look (d := 44) (sz := 50) rfl HA0.out.1 (by decide) (by rfl) fun a1 ha1 => ?_; refine wp_catV _ _ rfl xa o.slots.length xc o.slots ((ha1 _).trans rfl) hs.p2 (some ⟨q, 0, none⟩) 1 1 [⟨k, m⟩] ((ha1 _).trans (by rw [← hq]; rfl)) rfl (srcOne hs) (by omega) fun a' c'' w2 h2 => ⟨rfl, _, rfl, ?_⟩; exact hK (a', c'') _ (one_in (h2.drop2))
        refine GW.det (d := (some 45)) [] [] rfl (fun e => by rfl) ?_; apply Exists.intro; refine ⟨fun e w' F hs => ?_, ?_, ?_⟩
        · first | (go_simp; done) | (go_simp; rfl)
        · exact (fun _ _ _ => rfl)
        refine GW.det (d := (some 46)) [] [] rfl (fun e => by rfl) ?_; apply Exists.intro; refine ⟨fun e w' F hs => ?_, ?_, ?_⟩
        · first | (go_simp; done) | (go_simp; rfl)
        · exact (fun _ _ _ => rfl)
        refine GW.take (d := none) 20 (fun e => undef) (fun e => slc 39 5 (some ⟨g, off, none⟩) A.T.length oc (xscells (X.set j ({ o with slots := o.slots ++ [⟨k, m⟩] }, (e 17).1, (e 17).2)))) [] [1] [17] rfl rfl (fun e => by rfl) (fun e e' hl => by simp only [hl 17 (by decide)]; exact ⟨trivial, trivial⟩) (fun e w' F K hs hK => ?_) ?_
        · have hs := show Sat w0 w' (slc 39 5 (some ⟨g, off, none⟩) A.T.length oc (xscells X) * F) from one_out hs; obtain ⟨g', off', e', _, _, y2, _, _⟩ := objAtX hs HX.out; cases e'; dsimp only at y2; have yf := slcO_free hs HX.out (j := 2) (by omega); go_simp; exact hK default _ (one_in (setSlots hs HX.out HJ.out (o.slots ++ [⟨k, m⟩]) ((e 17).1, (e 17).2) (by simp)))
        refine GW.done (sz := 50) [5 + 17, 0, 5 + 20, 4, 3] (by kernel_rfl) (by kernel_rfl) HA0.out.1 (by rfl) h0 (by rfl) fun e w3 gg => ?_
        have ha := HA0.out.2
        subst ha
        clear HA0 hb0 hb1 hb5 h0
        simp only [putL, Act.put, List.setIfInBounds_toArray, List.set_cons_zero, List.set_cons_succ]
        have h3 : Sat w0 w3 (slc 28 2 (e 17).1 (o.slots.length + 1) (e 17).2 (avcells (o.slots ++ [⟨k, m⟩])) * (row p 51 (rcellsH A (some ⟨g, off, none⟩) oc qa qc ba bc fa fc sa sc) * (slc 39 5 (some ⟨g, off, none⟩) A.T.length oc (xscells (X.set j ({ o with slots := o.slots ++ [⟨k, m⟩] }, (e 17).1, (e 17).2))) * (RR * (pt b5 (.cells #[.int .i64 k, .int .i64 m] 28 (0, 0))))))) := gg
        clear gg
        generalize e 17 = y17 at *
        generalize e 16 = y16
        obtain ⟨xa', xc'⟩ := y17
        dsimp only at h3 ⊢
        have op3 : ROpen w0 w3 p (A.upd ((j : Int) + 1) { o with slots := o.slots ++ [⟨k, m⟩] }) (pt b5 (.cells #[.int .i64 k, .int .i64 m] 28 (0, 0)) * F) _ (some ⟨g, off, none⟩) oc qa qc ba bc fa fc sa sc := ROpen.putSlots (y := ({ o with slots := o.slots ++ [⟨k, m⟩] }, xa', xc')) (R := R) hOX.out HJ.out (HR2.out _) (h3.cast (by rw [HRR.out.1]; dsimp only; rw [List.length_append]; unfold rrest; ac_rfl))
        have HT := Lib.hid (r_touch (A := A.upd ((j : Int) + 1) { o with slots := o.slots ++ [⟨k, m⟩] }) hW op3.shut ((j : Int) + 1))
        clear op3 h3
        go_wp2_with fail
        refine HT.out.mono ?_
        rintro e w4 ⟨rfl, h4⟩
        go_wp2_with fail
        go_ret
        exact ⟨rfl, h4.p2.drop⟩
end
end Go.Proofs.Ytkpcngcegipalaa.Tw
