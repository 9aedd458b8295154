/- tallowref13: At, Pop, Obj. No condition. -/
import Derived.Test.YtkpcngcegipalaaZPIn19
import Derived.Test.YtkpcngcegipalaaZPIn21
namespace Go.Proofs.Ytkpcngcegipalaa.Tw
set_option linter.unusedVariables false
set_option linter.unusedSimpArgs false
open Go Go.RowKit Go.MapKept

section
variable {w0 w : World} {p : Nat} {A : AHeap} {F : HP} {B : Int} {X : List XObj} {oa : Option Addr} {oc : Nat} {qa : Option Addr} {qc : Nat} {ba : Option Addr} {bc : Nat} {fa : Option Addr} {fc : Nat} {sa : Option Addr} {sc : Nat}
theorem xslotsR_sets {l : List XObj} {k : Nat} {x : XObj} (hk : l[k]? = some x) : ∃ R, xslotsR l = slc 28 2 x.2.1 x.1.slots.length x.2.2 (avcells x.1.slots) * R ∧ ∀ y : XObj, xslotsR (l.set k y) = slc 28 2 y.2.1 y.1.slots.length y.2.2 (avcells y.1.slots) * R := by
  induction l generalizing k with
  | nil => simp at hk
  | cons z l ih =>
    cases k with
    | zero => simp at hk; subst hk; exact ⟨xslotsR l, rfl, fun _ => rfl⟩
    | succ k =>
      obtain ⟨R, e1, e2⟩ := ih (k := k) (by simpa using hk)
      refine ⟨slc 28 2 z.2.1 z.1.slots.length z.2.2 (avcells z.1.slots) * R, ?_, fun y => ?_⟩
      · rw [xslotsR, e1]; exact mul_left_comm _ _ _
      · rw [List.set_cons_succ, xslotsR, e2]; exact mul_left_comm _ _ _
/-- an object's slots in front -/
theorem ROpen.slots {j xc : Nat} {xa : Option Addr} {o : AObj} (h : ROpen w0 w p A F X oa oc qa qc ba bc fa fc sa sc) (hx : X[j]? = some (o, xa, xc)) :
    ∃ R, (∀ y : XObj, xslotsR (X.set j y) = slc 28 2 y.2.1 y.1.slots.length y.2.2 (avcells y.1.slots) * R) ∧
      Sat w0 w (slc 28 2 xa o.slots.length xc (avcells o.slots) * (row p 51 (rcellsH A oa oc qa qc ba bc fa fc sa sc) * (slc 39 5 oa A.T.length oc (xscells X) * (R * rrest A qa qc ba bc fa fc sa sc F)))) := by
  obtain ⟨R, e1, e2⟩ := xslotsR_sets hx
  exact ⟨R, e2, h.hs.cast (by rw [e1]; ac_rfl)⟩
/-- and put back, turned -/
theorem ROpen.putSlots {j : Nat} {y : XObj} {R : HP} {w' : World} (hX : X.map (·.1) = graphL A A.T.length) (hk : j < A.T.length) (e2 : xslotsR (X.set j y) = slc 28 2 y.2.1 y.1.slots.length y.2.2 (avcells y.1.slots) * R)
    (hs : Sat w0 w' (slc 28 2 y.2.1 y.1.slots.length y.2.2 (avcells y.1.slots) * (row p 51 (rcellsH A oa oc qa qc ba bc fa fc sa sc) * (slc 39 5 oa A.T.length oc (xscells (X.set j y)) * (R * rrest A qa qc ba bc fa fc sa sc F))))) :
    ROpen w0 w' p (A.upd ((j : Int) + 1) y.1) F (X.set j y) oa oc qa qc ba bc fa fc sa sc :=
  ⟨graphL_set (o := y.1) (y := y.2) hk hX (obj_upd _ _ _) (fun n hn => by unfold AHeap.obj AHeap.upd; simp [hn]), hs.cast (by rw [e2]; show _ * (row _ _ _ * (_ * (_ * rrest _ _ _ _ _ _ _ _ _ _))) = row _ _ _ * (_ * (_ * rrest _ _ _ _ _ _ _ _ _ _)); unfold rrest; ac_rfl)⟩
set_option maxRecDepth 100000 in
set_option maxHeartbeats 2000000 in
theorem r_At (H : HW A B) (hB : B ≤ 1000000) (h : Sat w0 w (refR13 p A * F)) (n i : Int) {v : AVal} {e0 : Int} (hv : A.atVV n i = v) (he : A.atE n i = e0) :
    Calls Try.prog 142 #[.pointer (some ⟨p, 0, none⟩), .int .i64 n, .int .i64 i] w fun e w' => e = .returned (.tuple #[.agg #[.int .i64 v.kind, .int .i64 v.n], .int .i64 e0]) ∧ Sat w0 w' (refR13 p A * F) := by
  subst hv he
  have h1 := h.alloc (.cells #[.int .i64 0, .int .i64 0] 28)
  have ⟨v0, v1, vf0, vf1⟩ := val2' h1
  cases ho : A.objs n with
  | none =>
    have HC := Lib.hid (r_There H hB h1.p2 n (b := false) (by rw [ho]; rfl))
    have e1 : atV A n i = none := by unfold atV; rw [ho]
    have e2 : A.atVV n i = ⟨0, 0⟩ := by unfold AHeap.atVV; rw [e1]; rfl
    have e3 : A.atE n i = 5 := by unfold AHeap.atE; rw [e1]
    rw [e2, e3]
    clear e1 e2 e3 ho H
    go_enter Try.func142, Try.ntmps142
    go_wp2_with fail
    refine HC.out.mono ?_
    rintro e w1 ⟨rfl, rfl⟩
    go_wp2_with fail
    exact bodyPost_cell_tmp rfl rfl rfl (load_val h1) rfl ⟨rfl, h1.drop⟩
  | some o =>
    have HC := Lib.hid (r_There H hB h1.p2 n (b := true) (by rw [ho]; rfl))
    have hrng := obj_in H (n := n) (by rw [ho]; rfl)
    have hT := H.t
    have hcn := H.c n o ho
    obtain ⟨j, rfl⟩ : ∃ j : Nat, n = (j : Int) + 1 := ⟨(n - 1).toNat, by omega⟩
    have hobj : A.obj ((j : Int) + 1) = o := by unfold AHeap.obj; rw [ho]; rfl
    obtain ⟨X, oa, oc, qa, qc, ba, bc, fa, fc, sa, sc, op⟩ := h1.p2.openR
    obtain ⟨g, off, xa, xc, eoa, hx, d0, d1, d2, d3, d4⟩ := op.obj (k := j) (by omega)
    subst eoa
    have c0 := op.c0
    rw [hobj] at d2 hx
    have hj1 : (j : Int) + 1 - 1 = j := by omega
    have hj2 : (0 : Int) ≤ (j : Int) := by omega
    have hj3 : (j : Int) < (A.T.length : Int) := by omega
    have hj4 : IntKind.i64.wrap (j : Int) = j := IntWalk.i64_in _ (by omega)
    have hat : atV A ((j : Int) + 1) i = if 0 ≤ i then o.slots[i.toNat]? else none := by unfold atV; rw [ho]
    by_cases hi0 : 0 ≤ i
    · by_cases hi1 : i < o.slots.length
      · obtain ⟨k, rfl⟩ : ∃ k : Nat, i = (k : Int) := ⟨i.toNat, by omega⟩
        obtain ⟨R, _, hsl⟩ := op.slots hx
        have hk : k < o.slots.length := by omega
        have hv : o.slots[k]? = some (o.slots[k]'hk) := List.getElem?_eq_getElem _
        obtain ⟨g2, off2, e2, x0, x1⟩ := valC hsl hv
        generalize o.slots[k]'hk = v at *
        obtain ⟨vk, vn⟩ := v
        dsimp only at x0 x1
        subst e2
        have e1 : atV A ((j : Int) + 1) (k : Int) = some ⟨vk, vn⟩ := by rw [hat, if_pos hi0, Int.toNat_natCast]; exact hv
        have e2 : A.atVV ((j : Int) + 1) (k : Int) = ⟨vk, vn⟩ := by unfold AHeap.atVV; rw [e1]; rfl
        have e3 : A.atE ((j : Int) + 1) (k : Int) = 0 := by unfold AHeap.atE; rw [e1]
        rw [e2, e3]
        have hv2 := h.alloc (.cells #[.int .i64 vk, .int .i64 vn] 28)
        have HV := Lib.hid hv2
        have q1 : decide ((k : Int) < 0) = false := by simp
        clear e1 e2 e3 ho H hat op hx hsl hv hv2 hobj
        generalize o.slots.length = sn at *
        generalize A.T.length = N at *
        go_enter Try.func142, Try.ntmps142
        go_wp2_with fail
        refine HC.out.mono ?_
        rintro e w1 ⟨rfl, rfl⟩
        go_wp2_with fail
        exact bodyPost_cell_tmp rfl rfl rfl (load_val HV.out) rfl ⟨rfl, HV.out.drop⟩
      · have e1 : atV A ((j : Int) + 1) i = none := by rw [hat, if_pos hi0, List.getElem?_eq_none (by omega)]
        have e2 : A.atVV ((j : Int) + 1) i = ⟨0, 0⟩ := by unfold AHeap.atVV; rw [e1]; rfl
        have e3 : A.atE ((j : Int) + 1) i = 5 := by unfold AHeap.atE; rw [e1]
        rw [e2, e3]
        have q1 : decide (i < 0) = false := by simp; omega
        have q2 : decide ((o.slots.length : Int) ≤ i) = true := by simp; omega
        clear e1 e2 e3 ho H hat op hx hobj hi0 hi1
        generalize o.slots.length = sn at *
        generalize A.T.length = N at *
        go_enter Try.func142, Try.ntmps142
        go_wp2_with fail
        refine HC.out.mono ?_
        rintro e w1 ⟨rfl, rfl⟩
        go_wp2_with fail
        exact bodyPost_cell_tmp rfl rfl rfl (load_val h1) rfl ⟨rfl, h1.drop⟩
    · have e1 : atV A ((j : Int) + 1) i = none := by rw [hat, if_neg hi0]
      have e2 : A.atVV ((j : Int) + 1) i = ⟨0, 0⟩ := by unfold AHeap.atVV; rw [e1]; rfl
      have e3 : A.atE ((j : Int) + 1) i = 5 := by unfold AHeap.atE; rw [e1]
      rw [e2, e3]
      have q1 : decide (i < 0) = true := by simp; omega
      clear e1 e2 e3 ho H hat op hx hobj hi0 d0 d1 d2 d3 d4 c0
      go_enter Try.func142, Try.ntmps142
      go_wp2_with fail
      refine HC.out.mono ?_
      rintro e w1 ⟨rfl, rfl⟩
      go_wp2_with fail
      exact bodyPost_cell_tmp rfl rfl rfl (load_val h1) rfl ⟨rfl, h1.drop⟩
set_option maxRecDepth 100000 in
set_option maxHeartbeats 2000000 in
theorem r_Pop (H : HW A B) (hB : B ≤ 1000000) (hW : A.watch.length ≤ 1000000) (h : Sat w0 w (refR13 p A * F)) (n : Int) {v : AVal} {e0 : Int} (hv : A.popV n = v) (he : A.popE n = e0) :
    Calls Try.prog 141 #[.pointer (some ⟨p, 0, none⟩), .int .i64 n] w fun e w' => e = .returned (.tuple #[.agg #[.int .i64 v.kind, .int .i64 v.n], .int .i64 e0]) ∧ Sat w0 w' (refR13 p (A.popF n) * F) := by
  subst hv he
  have h1 := h.alloc (.cells #[.int .i64 0, .int .i64 0] 28)
  have ⟨v0, v1, vf0, vf1⟩ := val2' h1
  cases ho : A.objs n with
  | none =>
    have HC := Lib.hid (r_There H hB h1.p2 n (b := false) (by rw [ho]; rfl))
    have e1 : A.popF n = A := by unfold AHeap.popF; rw [ho]
    have e2 : A.popV n = ⟨0, 0⟩ := by unfold AHeap.popV; rw [ho]
    have e3 : A.popE n = 5 := by unfold AHeap.popE; rw [ho]
    rw [e1, e2, e3]
    clear e1 e2 e3 ho H
    go_enter Try.func141, Try.ntmps141
    go_wp2_with fail
    refine HC.out.mono ?_
    rintro e w1 ⟨rfl, rfl⟩
    go_wp2_with fail
    exact bodyPost_cell_tmp rfl rfl rfl (load_val h1) rfl ⟨rfl, h1.drop⟩
  | some o =>
    have HC := Lib.hid (r_There H hB h1.p2 n (b := true) (by rw [ho]; rfl))
    have hrng := obj_in H (n := n) (by rw [ho]; rfl)
    have hT := H.t
    have hcn := H.c n o ho
    obtain ⟨j, rfl⟩ : ∃ j : Nat, n = (j : Int) + 1 := ⟨(n - 1).toNat, by omega⟩
    have hobj : A.obj ((j : Int) + 1) = o := by unfold AHeap.obj; rw [ho]; rfl
    obtain ⟨X, oa, oc, qa, qc, ba, bc, fa, fc, sa, sc, op⟩ := h1.p2.openR
    obtain ⟨g, off, xa, xc, eoa, hx, d0, d1, d2, d3, d4⟩ := op.obj (k := j) (by omega)
    subst eoa
    have c0 := op.c0
    rw [hobj] at d2 hx
    have hj1 : (j : Int) + 1 - 1 = j := by omega
    have hj2 : (0 : Int) ≤ (j : Int) := by omega
    have hj3 : (j : Int) < (A.T.length : Int) := by omega
    have hj4 : IntKind.i64.wrap (j : Int) = j := IntWalk.i64_in _ (by omega)
    rcases List.eq_nil_or_concat o.slots with hs | ⟨sl, v, hs⟩
    · have e1 : A.popF ((j : Int) + 1) = A := by unfold AHeap.popF; rw [ho]; simp [hs]
      have e2 : A.popV ((j : Int) + 1) = ⟨0, 0⟩ := by unfold AHeap.popV; rw [ho]; simp [hs]
      have e3 : A.popE ((j : Int) + 1) = 5 := by unfold AHeap.popE; rw [ho]; simp [hs]
      rw [e1, e2, e3]
      rw [hs] at d2
      simp only [List.length_nil] at d2
      clear e1 e2 e3 ho H op hx hobj hs
      generalize A.T.length = N at *
      go_enter Try.func141, Try.ntmps141
      go_wp2_with fail
      refine HC.out.mono ?_
      rintro e w1 ⟨rfl, rfl⟩
      go_wp2_with fail
      exact bodyPost_cell_tmp rfl rfl rfl (load_val h1) rfl ⟨rfl, h1.drop⟩
    · rw [List.concat_eq_append] at hs
      obtain ⟨vk, vn⟩ := v
      have hlen : o.slots.length = sl.length + 1 := by rw [hs]; simp
      have e1 : A.popF ((j : Int) + 1) = (A.upd ((j : Int) + 1) { o with slots := sl }).touch ((j : Int) + 1) := by unfold AHeap.popF; rw [ho]; simp [hs]
      have e2 : A.popV ((j : Int) + 1) = ⟨vk, vn⟩ := by unfold AHeap.popV; rw [ho]; simp [hs]
      have e3 : A.popE ((j : Int) + 1) = 0 := by unfold AHeap.popE; rw [ho]; simp [hs]
      rw [e1, e2, e3]
      obtain ⟨R, hR, hsl⟩ := op.slots hx
      have hcap := hsl.slcCap
      rw [hlen] at d2 hcap
      have hv : o.slots[sl.length]? = some ⟨vk, vn⟩ := by rw [hs]; simp
      obtain ⟨g2, off2, e4, x0, x1⟩ := valC hsl hv
      dsimp only at x0 x1
      subst e4
      have op2 := op.alloc (.cells #[.int .i64 vk, .int .i64 vn] 28)
      rw [size_alloc] at op2
      obtain ⟨R', hR', hsl2⟩ := op2.slots hx
      obtain ⟨_, _, _, _, e5, _, _, _, b2, _, _⟩ := op2.obj (k := j) (by omega)
      cases e5
      have b2f := op2.free rfl (k := j) (by omega) (j := 2) (by omega)
      have b0 := op2.c0
      have hs3 := hsl2
      rw [hs, show avcells (sl ++ [(⟨vk, vn⟩ : AVal)]) = avcells sl ++ [.int .i64 vk, .int .i64 vn] by simp [avcells, AVal.cells], List.length_append, List.length_cons, List.length_nil] at hs3
      have hs4 := (hs3.slcPop (by rw [avcells_length])).p3.slcStore (j := j * 5 + 2) (by omega) (.slice (some ⟨g2, off2, none⟩) sl.length xc)
      rw [← Nat.add_assoc, ← xscells_set (y := ({ o with slots := sl }, some ⟨g2, off2, none⟩, xc)) hx (by omega) rfl] at hs4
      have op3 : ROpen w0 _ p (A.upd ((j : Int) + 1) { o with slots := sl }) _ (X.set j ({ o with slots := sl }, some ⟨g2, off2, none⟩, xc)) _ oc qa qc ba bc fa fc sa sc := ROpen.putSlots (y := ({ o with slots := sl }, some ⟨g2, off2, none⟩, xc)) (R := R') op.hx (by omega) (hR' _) hs4.q3
      have HT := Lib.hid (r_touch (A := A.upd ((j : Int) + 1) { o with slots := sl }) hW op3.shut.drew ((j : Int) + 1))
      have hlt : sl.length < sl.length + 1 := by omega
      have hle : sl.length ≤ xc := by omega
      have hl5 : ((sl.length : Int) + 1) - 1 = (sl.length : Int) := by omega
      have hl6 : (0 : Int) ≤ (sl.length : Int) := by omega
      have hl7 : IntKind.i64.wrap (sl.length : Int) = (sl.length : Int) := IntWalk.i64_in _ (by omega)
      have hl8 : ((sl.length : Int) + 1 == 0) = false := by simp; omega
      clear e1 e2 e3 ho H op op2 op3 hx hobj hs hsl hsl2 hs3 hs4 hv hR hR'
      generalize sl.length = sn at *
      generalize A.T.length = N at *
      go_enter Try.func141, Try.ntmps141
      go_wp2_with fail
      refine HC.out.mono ?_
      rintro e w1 ⟨rfl, rfl⟩
      go_wp2_with fail
      refine wp_region_tail 13 (by kernel_rfl) (by kernel_rfl) ?_
      simp only [List.take_succ_cons, List.take_zero, List.drop_succ_cons, List.drop_zero]
      iterate 13 still_step
      refine wpStill_nil ?_
      go_wp2_with fail
      refine HT.out.mono ?_
      rintro e w2 ⟨rfl, h4⟩
      have ⟨u0, u1, _, _⟩ := val2' h4.p2
      have ⟨t0, t1, tf0, tf1⟩ := val2' h4.p3
      have hv2 := h4.p3.setVal vk vn
      go_wp2_with fail
      exact bodyPost_cell_tmp rfl rfl rfl (load_val hv2) rfl ⟨rfl, hv2.drop.drop2⟩
end
end Go.Proofs.Ytkpcngcegipalaa.Tw
namespace Go.Proofs.Ytkpcngcegipalaa.Tw
set_option linter.unusedVariables false
set_option linter.unusedSimpArgs false
open Go Go.RowKit Go.MapKept

section
variable {P : Program} {w0 w : World} {F : HP} {ops : Array Oper} {rest : List Oper} {o : Oper} {a : Act} {Q : Exit → Act → World → Prop} {K : Act → World → Prop}
/-- values behind an owned slice, from wherever -/
theorem wp_catV (s x : Operand) (hop : o.op = .call { callee := .builtin .append, args := #[s, x], argTypes := #[37, 37] })
    (sa : Option Addr) (n c : Nat) (l : List AVal) (hs : a.eval s = .slice sa n c) (h : Sat w0 w (slc 28 2 sa n c (avcells l) * F)) (xa : Option Addr) (m c' : Nat) (r : List AVal) (hx : a.eval x = .slice xa m c') (hr : r.length = m)
    (hsrc : (∀ ad, xa = some ad → ∀ j u, (avcells r)[j]? = some u → w.cell? (ad.add j) = some u) ∧ (xa = none → m = 0 ∧ c' = 0)) (hn : n + m ≤ 1000000000)
    (hK : ∀ a' c'' w', Sat w0 w' (slc 28 2 a' (n + m) c'' (avcells (l ++ r)) * F) → K (a.put o.dst (.slice a' (n + m) c'')) w') : o.wp Try.prog a w K Q := by
  obtain ⟨i0, hi, hz0, hz1, hz2⟩ := info_parts info_val
  refine wp_append_any s x 37 hop i0 (.agg #[.int .i64 0, .int .i64 0]) 16 Try.underlying37 hi hz0 hz1 hz2 rfl sa n c (avcells l) hs h xa m c' (avcells r) hx (by rw [avcells_length, hr]) hsrc (oneCell_avcells r) (by unfold maxLen; omega) (by omega) fun a' c'' w' h2 _ => ?_
  exact hK a' c'' w' (by rw [show avcells (l ++ r) = avcells l ++ avcells r by simp [avcells]]; exact h2)
theorem wpList_catV (hg : o.guard = none) (s x : Operand) (hop : o.op = .call { callee := .builtin .append, args := #[s, x], argTypes := #[37, 37] })
    (sa : Option Addr) (n c : Nat) (l : List AVal) (hs : a.eval s = .slice sa n c) (h : Sat w0 w (slc 28 2 sa n c (avcells l) * F)) (xa : Option Addr) (m c' : Nat) (r : List AVal) (hx : a.eval x = .slice xa m c') (hr : r.length = m)
    (hsrc : (∀ ad, xa = some ad → ∀ j u, (avcells r)[j]? = some u → w.cell? (ad.add j) = some u) ∧ (xa = none → m = 0 ∧ c' = 0)) (hn : n + m ≤ 1000000000)
    (hK : ∀ a' c'' w', Sat w0 w' (slc 28 2 a' (n + m) c'' (avcells (l ++ r)) * F) → wpList Try.prog ops Q rest (a.put o.dst (.slice a' (n + m) c'')) w') : wpList Try.prog ops Q (o :: rest) a w :=
  wpList_plain hg fun _ hK' => wp_catV s x hop sa n c l hs h xa m c' r hx hr hsrc hn fun a' c'' w' h2 => hK' _ _ (hK a' c'' w' h2)
end
section
variable {w0 w : World} {p : Nat} {A : AHeap} {F : HP} {B : Int} {X : List XObj} {oa : Option Addr} {oc : Nat} {qa : Option Addr} {qc : Nat} {ba : Option Addr} {bc : Nat} {fa : Option Addr} {fc : Nat} {sa : Option Addr} {sc : Nat}
theorem ocells {k c mk : Int} {xa : Option Addr} {n xc : Nat} {tx : ByteArray} (h : Sat w0 w (pt p (.cells #[.int .i64 k, .int .i64 c, .slice xa n xc, .string tx, .int .i64 mk] 39 (0, 0)) * F)) :
    w.cell? ⟨p, 0, none⟩ = some (.int .i64 k) ∧ w.cell? ⟨p, 1, none⟩ = some (.int .i64 c) ∧ w.cell? ⟨p, 2, none⟩ = some (.slice xa n xc) ∧ w.cell? ⟨p, 3, none⟩ = some (.string tx) ∧ w.cell? ⟨p, 4, none⟩ = some (.int .i64 mk) ∧ w.frozen? ⟨p, 2, none⟩ = false :=
  have cc := fun i v hv => Sat.cell (T := 39) (cs := #[.int .i64 k, .int .i64 c, .slice xa n xc, .string tx, .int .i64 mk]) h i (v := v) hv
  ⟨cc 0 _ rfl, cc 1 _ rfl, cc 2 _ rfl, cc 3 _ rfl, cc 4 _ rfl, Sat.free (T := 39) (cs := #[.int .i64 k, .int .i64 c, .slice xa n xc, .string tx, .int .i64 mk]) h 2⟩
theorem ofree {k c mk : Int} {xa : Option Addr} {n xc : Nat} {tx : ByteArray} (h : Sat w0 w (pt p (.cells #[.int .i64 k, .int .i64 c, .slice xa n xc, .string tx, .int .i64 mk] 39 (0, 0)) * F)) :
    w.frozen? ⟨p, 0, none⟩ = false ∧ w.frozen? ⟨p, 1, none⟩ = false ∧ w.frozen? ⟨p, 2, none⟩ = false ∧ w.frozen? ⟨p, 3, none⟩ = false ∧ w.frozen? ⟨p, 4, none⟩ = false :=
  have cc := fun i => Sat.free (T := 39) (cs := #[.int .i64 k, .int .i64 c, .slice xa n xc, .string tx, .int .i64 mk]) h i
  ⟨cc 0, cc 1, cc 2, cc 3, cc 4⟩
/-- an object's box, written -/
theorem setObj5 {k c mk k' c' mk' : Int} {xa xa' : Option Addr} {n xc n' xc' : Nat} {tx tx' : ByteArray} (h : Sat w0 w (pt p (.cells #[.int .i64 k, .int .i64 c, .slice xa n xc, .string tx, .int .i64 mk] 39 (0, 0)) * F)) :
    Sat w0 (((((w.setCell ⟨p, 0, none⟩ (.int .i64 k')).setCell ⟨p, 1, none⟩ (.int .i64 c')).setCell ⟨p, 2, none⟩ (.slice xa' n' xc')).setCell ⟨p, 3, none⟩ (.string tx')).setCell ⟨p, 4, none⟩ (.int .i64 mk')) (pt p (.cells #[.int .i64 k', .int .i64 c', .slice xa' n' xc', .string tx', .int .i64 mk'] 39 (0, 0)) * F) :=
  Sat.store (T := 39) (cs := #[.int .i64 k', .int .i64 c', .slice xa' n' xc', .string tx', .int .i64 mk]) (Sat.store (T := 39) (cs := #[.int .i64 k', .int .i64 c', .slice xa' n' xc', .string tx, .int .i64 mk]) (Sat.store (T := 39) (cs := #[.int .i64 k', .int .i64 c', .slice xa n xc, .string tx, .int .i64 mk]) (Sat.store (T := 39) (cs := #[.int .i64 k', .int .i64 c, .slice xa n xc, .string tx, .int .i64 mk]) (Sat.store (T := 39) (cs := #[.int .i64 k, .int .i64 c, .slice xa n xc, .string tx, .int .i64 mk]) h (i := 0) (.int .i64 k')) (i := 1) (.int .i64 c')) (i := 2) (.slice xa' n' xc')) (i := 3) (.string tx')) (i := 4) (.int .i64 mk')
set_option maxRecDepth 100000 in
set_option maxHeartbeats 2000000 in
theorem r_Obj_O (H : HW A B) (hB : B ≤ 1000000) (op : ROpen w0 w p A F X oa oc qa qc ba bc fa fc sa sc) (n : Int) {k c mk : Int} {sl : List AVal} {tx : ByteArray} {sn : Nat} (ho' : A.obj n = ⟨k, c, sl, tx, mk⟩) (hsn : sl.length = sn) :
    Calls Try.prog 57 #[.pointer (some ⟨p, 0, none⟩), .int .i64 n] w fun e w' => ∃ a cc, e = .returned (.agg #[.int .i64 k, .int .i64 c, .slice a sn cc, .string tx, .int .i64 mk]) ∧ Sat w0 w' (slc 28 2 a sn cc (avcells sl) * opG p A X oa oc qa qc ba bc fa fc sa sc F) := by
  subst hsn
  have op1 := op.alloc (.cells #[.int .i64 0, .int .i64 0, .slice none 0 0, .string (ByteArray.mk #[]), .int .i64 0] 39)
  cases ho : A.objs n with
  | none =>
    have HC := Lib.hid (r_There H hB op1.shut n (b := false) (by rw [ho]; rfl))
    have e1 : A.obj n = ⟨0, 0, [], ByteArray.mk #[], 0⟩ := by unfold AHeap.obj; rw [ho]; rfl
    rw [e1] at ho'
    injection ho' with q1 q2 q3 q4 q5
    subst q1 q2 q3 q4 q5
    have h1 := op1.front
    have h2 := h1.drop.nilSlc (T := 28) (sz := 2)
    clear e1 ho H op op1
    go_enter Try.func57, Try.ntmps57
    go_wp2_with fail
    refine HC.out.mono ?_
    rintro e w1 ⟨rfl, rfl⟩
    go_wp2_with fail
    exact bodyPost_cell rfl rfl (load_obj h1) rfl ⟨none, 0, rfl, h2⟩
  | some o =>
    have HC := Lib.hid (r_There H hB op1.shut n (b := true) (by rw [ho]; rfl))
    have hrng := obj_in H (n := n) (by rw [ho]; rfl)
    have hT := H.t
    have hcn := H.c n o ho
    obtain ⟨j, rfl⟩ : ∃ j : Nat, n = (j : Int) + 1 := ⟨(n - 1).toNat, by omega⟩
    have hobj : A.obj ((j : Int) + 1) = o := by unfold AHeap.obj; rw [ho]; rfl
    rw [hobj] at ho'
    subst ho'
    dsimp only at hcn
    replace op := op1
    clear op1
    obtain ⟨g, off, xa, xc, eoa, hx, d0, d1, d2, d3, d4⟩ := op.obj (k := j) (by omega)
    subst eoa
    have c0 := op.c0
    rw [hobj] at d0 d1 d2 d3 d4 hx
    dsimp only at d0 d1 d2 d3 d4
    have hj1 : (j : Int) + 1 - 1 = j := by omega
    have hj2 : (0 : Int) ≤ (j : Int) := by omega
    have hj3 : (j : Int) < (A.T.length : Int) := by omega
    have hj4 : IntKind.i64.wrap (j : Int) = j := IntWalk.i64_in _ (by omega)
    have op2 := op.alloc (.cells #[.int .i64 k, .int .i64 c, .slice xa sl.length xc, .string tx, .int .i64 mk] 39)
    rw [size_alloc] at op2
    obtain ⟨R, _, hsl⟩ := op2.slots hx
    have hsrc := hsl.slcSrc
    dsimp only at hsrc
    have h3 : Sat w0 _ (slc 28 2 none 0 0 (avcells []) * _) := op2.hs.nilSlc
    have h2c := op2.front
    have ⟨y0, y1, y2, y3, y4, y5⟩ := ocells h2c
    have hOX := Lib.hid op.hx
    have hll : sl.length ≤ 1000000 := by omega
    clear ho H op op2 hx hobj hsl
    go_enter Try.func57, Try.ntmps57
    go_wp2_with fail
    refine HC.out.mono ?_
    rintro e w1 ⟨rfl, rfl⟩
    go_wp2_with (at_builtin; refine wpList_catV rfl _ _ rfl none 0 0 [] rfl h3 xa sl.length xc sl rfl rfl hsrc (by omega) ?_; intro a' c' w4 h6; rw [Nat.zero_add] at h6; have h7 := ROpen.front ⟨hOX.out, h6.cast (show _ = opG p A X (some ⟨g, off, none⟩) oc qa qc ba bc fa fc sa sc (pt (w.heap.size + 1) (.cells #[.int .i64 k, .int .i64 c, .slice xa sl.length xc, .string tx, .int .i64 mk] 39) * (slc 28 2 a' sl.length c' (avcells ([] ++ sl)) * (pt w.heap.size (.cells #[.int .i64 0, .int .i64 0, .slice none 0 0, .string (ByteArray.mk #[]), .int .i64 0] 39) * F))) by unfold opG rrest; ac_rfl)⟩; have ⟨z0, z1, z2, z3, z4, z5⟩ := ocells h7; have h8 : Sat w0 (w4.setCell ⟨w.heap.size + 1, 2, none⟩ (.slice a' sl.length c')) _ := Sat.store (T := 39) (cs := #[.int .i64 k, .int .i64 c, .slice xa sl.length xc, .string tx, .int .i64 mk]) h7 (i := 2) (.slice a' sl.length c'); have h9 := (ROpen.front ⟨hOX.out, (h8.drop).cast (show _ = opG p A X (some ⟨g, off, none⟩) oc qa qc ba bc fa fc sa sc (pt w.heap.size (.cells #[.int .i64 0, .int .i64 0, .slice none 0 0, .string (ByteArray.mk #[]), .int .i64 0] 39) * (slc 28 2 a' sl.length c' (avcells ([] ++ sl)) * F)) by unfold opG rrest; ac_rfl)⟩); have ⟨u0, u1, u2, u3, u4, _⟩ := ocells h9; have ⟨v0, v1, v2, v3, v4⟩ := ofree h9; have h10 := setObj5 (k' := k) (c' := c) (xa' := a') (n' := sl.length) (xc' := c') (tx' := tx) (mk' := mk) h9)
    have hfin := h10.drop.cast (show _ = slc 28 2 a' sl.length c' (avcells ([] ++ sl)) * opG p A X (some ⟨g, off, none⟩) oc qa qc ba bc fa fc sa sc F by unfold opG rrest; ac_rfl)
    rw [List.nil_append] at hfin
    exact bodyPost_cell rfl rfl (load_obj h10) rfl ⟨a', c', rfl, hfin⟩
theorem r_Obj (H : HW A B) (hB : B ≤ 1000000) (h : Sat w0 w (refR13 p A * F)) (n : Int) {k c mk : Int} {sl : List AVal} {tx : ByteArray} {sn : Nat} (ho' : A.obj n = ⟨k, c, sl, tx, mk⟩) (hsn : sl.length = sn) :
    Calls Try.prog 57 #[.pointer (some ⟨p, 0, none⟩), .int .i64 n] w fun e w' => ∃ a cc, e = .returned (.agg #[.int .i64 k, .int .i64 c, .slice a sn cc, .string tx, .int .i64 mk]) ∧ Sat w0 w' (slc 28 2 a sn cc (avcells sl) * (refR13 p A * F)) := by
  obtain ⟨X, oa, oc, qa, qc, ba, bc, fa, fc, sa, sc, op⟩ := h.openR
  refine (r_Obj_O H hB op n ho' hsn).mono ?_
  rintro e w' ⟨a, cc, rfl, h2⟩
  exact ⟨a, cc, rfl, (ROpen.shutO op.hx h2).p2⟩
end
end Go.Proofs.Ytkpcngcegipalaa.Tw
