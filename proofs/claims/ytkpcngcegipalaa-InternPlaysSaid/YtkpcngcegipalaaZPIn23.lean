/- tallowref13: Push. No condition. -/
import Derived.Test.YtkpcngcegipalaaZPIn22
namespace Go.Proofs.Ytkpcngcegipalaa.Tw
set_option linter.unusedVariables false
set_option linter.unusedSimpArgs false
open Go Go.RowKit Go.MapKept
attribute [local go_sem] lookE lkE valUpon
section
variable {w0 w : World} {p : Nat} {A : AHeap} {F : HP} {B : Int} {X : List XObj} {oa : Option Addr} {oc : Nat} {qa : Option Addr} {qc : Nat} {ba : Option Addr} {bc : Nat} {fa : Option Addr} {fc : Nat} {sa : Option Addr} {sc : Nat}
theorem srcOne {q : Nat} {k m : Int} (h : Sat w0 w (pt q (.cells #[.int .i64 k, .int .i64 m] 28 (0, 0)) * F)) : (∀ ad, (some ⟨q, 0, none⟩ : Option Addr) = some ad → ∀ j u, (avcells [⟨k, m⟩])[j]? = some u → w.cell? (ad.add j) = some u) ∧ ((some ⟨q, 0, none⟩ : Option Addr) = none → (1 : Nat) = 0 ∧ (1 : Nat) = 0) := by
  refine ⟨fun ad e j u hj => ?_, fun e => by cases e⟩
  cases e
  rw [addr_add, Nat.zero_add]
  have ⟨y0, y1⟩ := valR h
  match j, hj with
  | 0, hj => cases hj; exact y0
  | 1, hj => cases hj; exact y1
  | j + 2, hj => simp [avcells, AVal.cells] at hj
theorem slcO_free {g off N oc k : Nat} {x : XObj} (h : Sat w0 w (slc 39 5 (some ⟨g, off, none⟩) N oc (xscells X) * F)) (hx : X[k]? = some x) {j : Nat} (hj : j < 5) : w.frozen? ⟨g, off + k * 5 + j, none⟩ = false := by
  have hk := (List.getElem?_eq_some_iff.1 hx).1
  have hlt : k * 5 + j < (xscells X).length := by rw [xscells_length]; omega
  obtain ⟨g', off', e', _, f⟩ := h.slcAt (List.getElem?_eq_getElem hlt)
  cases e'
  rw [Nat.add_assoc]; exact f
theorem setSlots {g off N oc k xc : Nat} {xa : Option Addr} {o : AObj} (h : Sat w0 w (slc 39 5 (some ⟨g, off, none⟩) N oc (xscells X) * F)) (hx : X[k]? = some (o, xa, xc)) (hk : k < N) (sl : List AVal) (y : Option Addr × Nat) {q : Nat} (hq : sl.length = q) :
    Sat w0 (w.setCell ⟨g, off + k * 5 + 2, none⟩ (.slice y.1 q y.2)) (slc 39 5 (some ⟨g, off, none⟩) N oc (xscells (X.set k ({ o with slots := sl }, y.1, y.2))) * F) := by
  subst hq
  have := h.slcStore (j := k * 5 + 2) (by omega) (.slice y.1 sl.length y.2)
  rw [← Nat.add_assoc, ← xscells_set (y := ({ o with slots := sl }, y.1, y.2)) hx (by omega) rfl] at this
  exact this
set_option maxRecDepth 100000 in
set_option maxHeartbeats 2000000 in
theorem r_Push (H : HW A B) (hB : B ≤ 1000000) (hW : A.watch.length ≤ 1000000) (h : Sat w0 w (refR13 p A * F)) (n k m : Int) {r : Int} (hr : A.pushE n ⟨k, m⟩ = r) :
    Calls Try.prog 100 #[.pointer (some ⟨p, 0, none⟩), .int .i64 n, .agg #[.int .i64 k, .int .i64 m]] w fun e w' => e = .returned (.int .i64 r) ∧ Sat w0 w' (refR13 p (A.pushF n ⟨k, m⟩) * F) := by
  subst hr
  have h1 := h.alloc (.cells #[.int .i64 k, .int .i64 m] 28)
  have ⟨y0, y1⟩ := valR h1
  cases ho : A.objs n with
  | none =>
    have HC := Lib.hid (r_There H hB h1.p2 n (b := false) (by rw [ho]; rfl))
    have e1 : A.pushF n ⟨k, m⟩ = A := by unfold AHeap.pushF; rw [ho]
    have e2 : A.pushE n ⟨k, m⟩ = 5 := by unfold AHeap.pushE; rw [ho]
    rw [e1, e2]
    clear e1 e2 ho H
    go_enter Try.func100, Try.ntmps100
    go_wp2_with fail
    refine HC.out.mono ?_
    rintro e w1 ⟨rfl, rfl⟩
    go_wp2_with fail
    go_ret
    exact ⟨rfl, h1.drop⟩
  | some o =>
    have HC := Lib.hid (r_There H hB h1.p2 n (b := true) (by rw [ho]; rfl))
    have hrng := obj_in H (n := n) (by rw [ho]; rfl)
    have hT := H.t
    have hcn := H.c n o ho
    obtain ⟨j, rfl⟩ : ∃ j : Nat, n = (j : Int) + 1 := ⟨(n - 1).toNat, by omega⟩
    have hobj : A.obj ((j : Int) + 1) = o := by unfold AHeap.obj; rw [ho]; rfl
    have ep : pushB A o ⟨k, m⟩ = (!decide (o.kind = 5) && thereV A ⟨k, m⟩) := rfl
    obtain ⟨X, oa, oc, qa, qc, ba, bc, fa, fc, sa, sc, op⟩ := h1.p2.openR
    obtain ⟨g, off, xa, xc, eoa, hx, d0, d1, d2, d3, d4⟩ := op.obj (k := j) (by omega)
    subst eoa
    have c0 := op.c0
    rw [hobj] at d0 d2 hx
    have hj1 : (j : Int) + 1 - 1 = j := by omega
    have hj2 : (0 : Int) ≤ (j : Int) := by omega
    have hj3 : (j : Int) < (A.T.length : Int) := by omega
    have hj4 : IntKind.i64.wrap (j : Int) = j := IntWalk.i64_in _ (by omega)
    by_cases hk5 : o.kind = 5
    · have e0 : pushB A o ⟨k, m⟩ = false := by rw [ep, decide_eq_true hk5]; rfl
      have e1 : A.pushF ((j : Int) + 1) ⟨k, m⟩ = A := by unfold AHeap.pushF; rw [ho]; simp [e0]
      have e2 : A.pushE ((j : Int) + 1) ⟨k, m⟩ = 2 := by unfold AHeap.pushE; rw [ho]; simp [e0]
      rw [e1, e2]
      have fk : (o.kind == 5) = true := by simpa using hk5
      clear op hx H ho e1 e2 e0 ep hobj hk5
      generalize A.T.length = N at *
      go_enter Try.func100, Try.ntmps100
      go_wp2_with fail
      refine HC.out.mono ?_
      rintro e w1 ⟨rfl, rfl⟩
      go_wp2_with fail
      go_ret
      exact ⟨rfl, h1.drop⟩
    · have fk : (o.kind == 5) = false := by simpa using hk5
      cases ht : thereV A ⟨k, m⟩ with
      | false =>
        have e0 : pushB A o ⟨k, m⟩ = false := by rw [ep, ht, Bool.and_false]
        have e1 : A.pushF ((j : Int) + 1) ⟨k, m⟩ = A := by unfold AHeap.pushF; rw [ho]; simp [e0]
        have e2 : A.pushE ((j : Int) + 1) ⟨k, m⟩ = 2 := by unfold AHeap.pushE; rw [ho]; simp [e0]
        rw [e1, e2]
        have HV := Lib.hid (r_Value H hB h1.p2 k m ht)
        clear op hx H ho e1 e2 e0 ep hobj hk5 ht
        generalize A.T.length = N at *
        go_enter Try.func100, Try.ntmps100
        go_wp2_with fail
        refine HC.out.mono ?_
        rintro e w1 ⟨rfl, rfl⟩
        go_wp2_with fail
        refine HV.out.mono ?_
        rintro e w2 ⟨rfl, h2⟩
        go_wp2_with fail
        go_ret
        exact ⟨rfl, h2.p2.drop⟩
      | true =>
        have e0 : pushB A o ⟨k, m⟩ = true := by rw [ep, ht, decide_eq_false hk5]; rfl
        have e1 : A.pushF ((j : Int) + 1) ⟨k, m⟩ = (A.upd ((j : Int) + 1) { o with slots := o.slots ++ [⟨k, m⟩] }).touch ((j : Int) + 1) := by unfold AHeap.pushF; rw [ho]; simp only [e0, if_true]; rfl
        have e2 : A.pushE ((j : Int) + 1) ⟨k, m⟩ = 0 := by unfold AHeap.pushE; rw [ho]; simp [e0]
        rw [e1, e2]
        have HV := Lib.hid (r_Value H hB h1.p2 k m ht)
        have hso : o.slots.length ≤ 1000000 := by omega
        have HOB := Lib.hid (And.intro hobj (show j < A.T.length by omega))
        clear op hx H ho e1 e2 e0 ep hobj hk5 ht hcn
        go_enter Try.func100, Try.ntmps100
        go_wp2_with fail
        refine HC.out.mono ?_
        rintro e w1 ⟨rfl, rfl⟩
        go_wp2_with fail
        refine HV.out.mono ?_
        rintro e w2 ⟨rfl, h2⟩
        clear c0 d0 d1 d2 d3 d4
        obtain ⟨X, oa, oc, qa, qc, ba, bc, fa, fc, sa, sc, op⟩ := h2.openR
        obtain ⟨g, off, xa, xc, eoa, hx, d0, d1, d2, d3, d4⟩ := op.obj (k := j) HOB.out.2
        subst eoa
        rw [HOB.out.1] at hx
        obtain ⟨R, hR, hsl⟩ := op.slots hx
        generalize w.heap.size = b5 at *
        obtain ⟨RR, hRR⟩ : ∃ RR : HP, RR = R * rrest A qa qc ba bc fa fc sa sc F := ⟨_, rfl⟩
        have h0 : Sat w0 w2 (row p 51 (rcellsH A (some ⟨g, off, none⟩) oc qa qc ba bc fa fc sa sc) * (slc 39 5 (some ⟨g, off, none⟩) A.T.length oc (xscells X) * (slc 28 2 xa o.slots.length xc (avcells o.slots) * (pt b5 (.cells #[.int .i64 k, .int .i64 m] 28 (0, 0)) * (RR))))) := hsl.cast (by rw [hRR]; unfold rrest; ac_rfl)
        have HX := Lib.hid hx
        have HJ := Lib.hid HOB.out.2
        have hOX := Lib.hid op.hx
        have HRR := Lib.hid (And.intro hRR (hR ({ o with slots := o.slots ++ [⟨k, m⟩] }, xa, xc)))
        have HR2 := Lib.hid hR
        clear op hx hsl hRR hR d0 d1 d2 d3 d4 h2
        go_wp2_with fail
        refine wp_gen fun a0 ha => ?_
        have hb0 : base a0 0 = .pointer (some ⟨p, 0, none⟩) := by rw [ha]; rfl
        have hb1 : base a0 1 = .int .i64 ((j : Int) + 1) := by rw [ha]; rfl
        have hb5 : base a0 5 = .pointer (some ⟨b5, 0, none⟩) := by rw [ha]; rfl
        have hsz0 : a0.tmps.size = 50 := by rw [ha]; rfl
        have HA0 := Lib.hid (And.intro hsz0 ha)
        clear ha hsz0
        refine GW.start (X := Option Addr × Nat) (w0 := w0) (B := [row p 51 (rcellsH A (some ⟨g, off, none⟩) oc qa qc ba bc fa fc sa sc), slc 39 5 (some ⟨g, off, none⟩) A.T.length oc (xscells X), slc 28 2 xa o.slots.length xc (avcells o.slots), pt b5 (.cells #[.int .i64 k, .int .i64 m] 28 (0, 0)), RR]) (a0 := a0) ?_
        refine GW.det (d := (some 27)) [] [] rfl (fun e => by rfl) ?_; apply Exists.intro; refine ⟨fun e w' F hs => ?_, ?_, ?_⟩
        · first | (go_simp; done) | (go_simp; rfl)
        · exact (fun _ _ _ => rfl)
        refine GW.det (d := (some 28)) [] [] rfl (fun e => by rfl) ?_; apply Exists.intro; refine ⟨fun e w' F hs => ?_, ?_, ?_⟩
        · first | (go_simp; done) | (go_simp; rfl)
        · exact (fun _ _ _ => rfl)
        refine GW.det (d := (some 29)) [] [] rfl (fun e => by rfl) ?_; apply Exists.intro; refine ⟨fun e w' F hs => ?_, ?_, ?_⟩
        · first | (go_simp; done) | (go_simp; rfl)
        · exact (fun _ _ _ => rfl)
        refine GW.det (d := (some 30)) [0] [] rfl (fun e => by rfl) ?_; apply Exists.intro; refine ⟨fun e w' F hs => ?_, ?_, ?_⟩
        · have y0 : w'.cell? ⟨p, 0, none⟩ = some (.slice (some ⟨g, off, none⟩) A.T.length oc) := (show Sat w0 w' (row p 51 (rcellsH A (some ⟨g, off, none⟩) oc qa qc ba bc fa fc sa sc) * F) from hs).cell 0 rfl; first | (go_simp; done) | (go_simp; rfl)
        · exact (fun _ _ _ => rfl)
        refine GW.det (d := (some 31)) [] [] rfl (fun e => by rfl) ?_; apply Exists.intro; refine ⟨fun e w' F hs => ?_, ?_, ?_⟩
        · first | (go_simp; done) | (go_simp; rfl)
        · exact (fun _ _ _ => rfl)
        refine GW.det (d := (some 32)) [] [] rfl (fun e => by rfl) ?_; apply Exists.intro; refine ⟨fun e w' F hs => ?_, ?_, ?_⟩
        · first | (go_simp; done) | (go_simp; rfl)
        · exact (fun _ _ _ => rfl)
        refine GW.det (d := (some 33)) [] [] rfl (fun e => by rfl) ?_; apply Exists.intro; refine ⟨fun e w' F hs => ?_, ?_, ?_⟩
        · first | (go_simp; done) | (go_simp; rfl)
        · exact (fun _ _ _ => rfl)
        refine GW.det (d := (some 34)) [] [] rfl (fun e => by rfl) ?_; apply Exists.intro; refine ⟨fun e w' F hs => ?_, ?_, ?_⟩
        · first | (go_simp; done) | (go_simp; rfl)
        · exact (fun _ _ _ => rfl)
        refine GW.det (d := (some 35)) [] [] rfl (fun e => by rfl) ?_; apply Exists.intro; refine ⟨fun e w' F hs => ?_, ?_, ?_⟩
        · first | (go_simp; done) | (go_simp; rfl)
        · exact (fun _ _ _ => rfl)
        refine GW.det (d := (some 36)) [0] [] rfl (fun e => by rfl) ?_; apply Exists.intro; refine ⟨fun e w' F hs => ?_, ?_, ?_⟩
        · have y0 : w'.cell? ⟨p, 0, none⟩ = some (.slice (some ⟨g, off, none⟩) A.T.length oc) := (show Sat w0 w' (row p 51 (rcellsH A (some ⟨g, off, none⟩) oc qa qc ba bc fa fc sa sc) * F) from hs).cell 0 rfl; first | (go_simp; done) | (go_simp; rfl)
        · exact (fun _ _ _ => rfl)
        refine GW.det (d := (some 37)) [] [] rfl (fun e => by rfl) ?_; apply Exists.intro; refine ⟨fun e w' F hs => ?_, ?_, ?_⟩
        · first | (go_simp; done) | (go_simp; rfl)
        · exact (fun _ _ _ => rfl)
        refine GW.det (d := (some 38)) [] [] rfl (fun e => by rfl) ?_; apply Exists.intro; refine ⟨fun e w' F hs => ?_, ?_, ?_⟩
        · first | (go_simp; done) | (go_simp; rfl)
        · exact (fun _ _ _ => rfl)
        refine GW.det (d := (some 39)) [] [] rfl (fun e => by rfl) ?_; apply Exists.intro; refine ⟨fun e w' F hs => ?_, ?_, ?_⟩
        · first | (go_simp; done) | (go_simp; rfl)
        · exact (fun _ _ _ => rfl)
        refine GW.det (d := (some 40)) [] [] rfl (fun e => by rfl) ?_; apply Exists.intro; refine ⟨fun e w' F hs => ?_, ?_, ?_⟩
        · first | (go_simp; done) | (go_simp; rfl)
        · exact (fun _ _ _ => rfl)
        refine GW.det (d := (some 41)) [1] [] rfl (fun e => by rfl) ?_; apply Exists.intro; refine ⟨fun e w' F hs => ?_, ?_, ?_⟩
        · obtain ⟨g', off', e', _, _, y2, _, _⟩ := objAtX (show Sat w0 w' (slc 39 5 (some ⟨g, off, none⟩) A.T.length oc (xscells X) * F) from hs) HX.out; cases e'; dsimp only at y2; first | (go_simp; done) | (go_simp; rfl)
        · exact (fun _ _ _ => rfl)
        refine GW.det (d := (some 42)) [3] [] rfl (fun e => by rfl) ?_; apply Exists.intro; refine ⟨fun e w' F hs => ?_, ?_, ?_⟩
        · have y := val2' (show Sat w0 w' (pt b5 (.cells #[.int .i64 k, .int .i64 m] 28 (0, 0)) * F) from hs); have y0 := y.1; have y1 := y.2.1; first | (go_simp; done) | (go_simp; rfl)
        · exact (fun _ _ _ => rfl)
        refine GW.new (d := (some 43)) 16 (fun x => .slice x.1 1 1) (fun x => lits x.1 28 [.int .i64 k, .int .i64 m]) [] rfl rfl (fun e => by rfl) (fun e w' F K hs hK => ?_) ?_
        · go_simp; exact hK (some ⟨_, 0, none⟩, 0) _ (lits_mk ((hs.alloc (.cells #[.int .i64 k, .int .i64 m] 28)).cast (mul_left_comm _ _ _)))
        refine GW.take (d := (some 44)) 17 (fun e => .slice (e 17).1 (o.slots.length + 1) (e 17).2) (fun e => slc 28 2 (e 17).1 (o.slots.length + 1) (e 17).2 (avcells (o.slots ++ [⟨k, m⟩]))) [] [2, 21] [17] rfl rfl (fun e => by rfl) (fun e e' hl => by simp only [hl 17 (by decide)]; exact ⟨trivial, trivial⟩) (fun e w' F K hs hK => ?_) ?_
        · obtain ⟨q, hq, hs⟩ := lits_open (show Sat w0 w' ((lits (e 16).1 28 [.int .i64 k, .int .i64 m]) * (slc 28 2 xa o.slots.length xc (avcells o.slots) * F)) from Sat.cast (show Sat w0 w' ((slc 28 2 xa o.slots.length xc (avcells o.slots) * lits (e 16).1 28 [.int .i64 k, .int .i64 m]) * F) from one_out hs) (by ac_rfl)); refine wp_look (d := 44) (sz := 50) rfl HA0.out.1 (by decide) (by rfl) fun a1 ha1 => ?_; refine wp_catV _ _ rfl xa o.slots.length xc o.slots ((ha1 _).trans rfl) hs.p2 (some ⟨q, 0, none⟩) 1 1 [⟨k, m⟩] ((ha1 _).trans (by rw [← hq]; rfl)) rfl (srcOne hs) (by omega) fun a' c'' w2 h2 => ⟨rfl, _, rfl, ?_⟩; exact hK (a', c'') _ (one_in (h2.drop2))
        refine GW.det (d := (some 45)) [] [] rfl (fun e => by rfl) ?_; apply Exists.intro; refine ⟨fun e w' F hs => ?_, ?_, ?_⟩
        · first | (go_simp; done) | (go_simp; rfl)
        · exact (fun _ _ _ => rfl)
        refine GW.det (d := (some 46)) [] [] rfl (fun e => by rfl) ?_; apply Exists.intro; refine ⟨fun e w' F hs => ?_, ?_, ?_⟩
        · first | (go_simp; done) | (go_simp; rfl)
        · exact (fun _ _ _ => rfl)
        refine GW.take (d := none) 20 (fun e => undef) (fun e => slc 39 5 (some ⟨g, off, none⟩) A.T.length oc (xscells (X.set j ({ o with slots := o.slots ++ [⟨k, m⟩] }, (e 17).1, (e 17).2)))) [] [1] [17] rfl rfl (fun e => by rfl) (fun e e' hl => by simp only [hl 17 (by decide)]; exact ⟨trivial, trivial⟩) (fun e w' F K hs hK => ?_) ?_
        · have hs := show Sat w0 w' (slc 39 5 (some ⟨g, off, none⟩) A.T.length oc (xscells X) * F) from one_out hs; obtain ⟨g', off', e', _, _, y2, _, _⟩ := objAtX hs HX.out; cases e'; dsimp only at y2; have yf := slcO_free hs HX.out (j := 2) (by omega); go_simp; exact hK default _ (one_in (setSlots hs HX.out HJ.out (o.slots ++ [⟨k, m⟩]) ((e 17).1, (e 17).2) (by simp)))
        refine GW.done (sz := 50) [5 + 17, 0, 5 + 20, 4, 3] (by kernel_rfl) (by kernel_rfl) HA0.out.1 (by rfl) h0 (by rfl) fun e w3 gg => ?_
        have ha := HA0.out.2
        subst ha
        clear HA0 hb0 hb1 hb5 h0
        simp only [putL, Act.put, List.setIfInBounds_toArray, List.set_cons_zero, List.set_cons_succ]
        have h3 : Sat w0 w3 (slc 28 2 (e 17).1 (o.slots.length + 1) (e 17).2 (avcells (o.slots ++ [⟨k, m⟩])) * (row p 51 (rcellsH A (some ⟨g, off, none⟩) oc qa qc ba bc fa fc sa sc) * (slc 39 5 (some ⟨g, off, none⟩) A.T.length oc (xscells (X.set j ({ o with slots := o.slots ++ [⟨k, m⟩] }, (e 17).1, (e 17).2))) * (RR * (pt b5 (.cells #[.int .i64 k, .int .i64 m] 28 (0, 0))))))) := gg
        clear gg
        generalize e 17 = y17 at *
        generalize e 16 = y16
        obtain ⟨xa', xc'⟩ := y17
        dsimp only at h3 ⊢
        have op3 : ROpen w0 w3 p (A.upd ((j : Int) + 1) { o with slots := o.slots ++ [⟨k, m⟩] }) (pt b5 (.cells #[.int .i64 k, .int .i64 m] 28 (0, 0)) * F) _ (some ⟨g, off, none⟩) oc qa qc ba bc fa fc sa sc := ROpen.putSlots (y := ({ o with slots := o.slots ++ [⟨k, m⟩] }, xa', xc')) (R := R) hOX.out HJ.out (HR2.out _) (h3.cast (by rw [HRR.out.1]; dsimp only; rw [List.length_append]; unfold rrest; ac_rfl))
        have HT := Lib.hid (r_touch (A := A.upd ((j : Int) + 1) { o with slots := o.slots ++ [⟨k, m⟩] }) hW op3.shut ((j : Int) + 1))
        clear op3 h3
        go_wp2_with fail
        refine HT.out.mono ?_
        rintro e w4 ⟨rfl, h4⟩
        go_wp2_with fail
        go_ret
        exact ⟨rfl, h4.p2.drop⟩
end
end Go.Proofs.Ytkpcngcegipalaa.Tw
namespace Go.Proofs.Ytkpcngcegipalaa.Tw
set_option linter.unusedVariables false
set_option linter.unusedSimpArgs false
open Go Go.RowKit Go.MapKept
section
variable {w0 w : World} {p : Nat} {A : AHeap} {F : HP} {B : Int} {X : List XObj} {oa : Option Addr} {oc : Nat} {qa : Option Addr} {qc : Nat} {ba : Option Addr} {bc : Nat} {fa : Option Addr} {fc : Nat} {sa : Option Addr} {sc : Nat}
theorem xscells_same {l : List XObj} {k : Nat} {x y : XObj} (hk : l[k]? = some x) (hv : xcells y = xcells x) : xscells (l.set k y) = xscells l := by
  induction l generalizing k with
  | nil => simp at hk
  | cons z l ih =>
    have e : ∀ (z : XObj) (l : List XObj), xscells (z :: l) = xcells z ++ xscells l := fun _ _ => rfl
    cases k with
    | zero => simp at hk; subst hk; rw [List.set_cons_zero, e, e, hv]
    | succ k => rw [List.set_cons_succ, e, e, ih (by simpa using hk)]
set_option maxRecDepth 100000 in
set_option maxHeartbeats 2000000 in
theorem r_Swap (H : HW A B) (hB : B ≤ 1000000) (hW : A.watch.length ≤ 1000000) (h : Sat w0 w (refR13 p A * F)) (n i k m : Int) {v : AVal} {e0 : Int} (hv : A.swapV n i ⟨k, m⟩ = v) (he : A.swapE n i ⟨k, m⟩ = e0) :
    Calls Try.prog 143 #[.pointer (some ⟨p, 0, none⟩), .int .i64 n, .int .i64 i, .agg #[.int .i64 k, .int .i64 m]] w fun e w' => e = .returned (.tuple #[.agg #[.int .i64 v.kind, .int .i64 v.n], .int .i64 e0]) ∧ Sat w0 w' (refR13 p (A.swapF n i ⟨k, m⟩) * F) := by
  subst hv he
  have h1 := (h.alloc (.cells #[.int .i64 k, .int .i64 m] 28)).alloc (.cells #[.int .i64 0, .int .i64 0] 28)
  rw [size_alloc] at h1
  have HA := Lib.hid (r_At H hB h1.p3 n i rfl rfl)
  generalize hb : w.heap.size = b at *
  cases hat : atV A n i with
  | none =>
    have e1 : A.swapF n i ⟨k, m⟩ = A := by unfold AHeap.swapF; rw [hat]
    have e2 : A.swapV n i ⟨k, m⟩ = ⟨0, 0⟩ := by unfold AHeap.swapV; rw [hat]
    have e3 : A.swapE n i ⟨k, m⟩ = 5 := by unfold AHeap.swapE; rw [hat]
    have e4 : A.atVV n i = ⟨0, 0⟩ := by unfold AHeap.atVV; rw [hat]; rfl
    have e5 : A.atE n i = 5 := by unfold AHeap.atE; rw [hat]
    rw [e1, e2, e3]
    rw [e4, e5] at HA
    clear e1 e2 e3 e4 e5 hat H h h1
    go_enter Try.func143, Try.ntmps143
    go_wp2_with fail
    refine HA.out.mono ?_
    rintro e w1 ⟨rfl, h2⟩
    have ⟨v0, v1, vf0, vf1⟩ := val2' h2.p2
    have hz := h2.p2.setVal 0 0
    have h3 := (h2.alloc (.cells #[.int .i64 0, .int .i64 0] 28)).p3
    have ⟨t0, t1, tf0, tf1⟩ := val2' h3
    have h4 := h3.setVal 0 0
    go_wp2_with fail
    exact bodyPost_cell_tmp rfl rfl rfl (load_val h4) rfl ⟨rfl, h4.drop.drop.p2.drop⟩
  | some u =>
    have e4 : A.atVV n i = u := by unfold AHeap.atVV; rw [hat]; rfl
    have e5 : A.atE n i = 0 := by unfold AHeap.atE; rw [hat]
    obtain ⟨uk, un⟩ := u
    rw [e4, e5] at HA
    dsimp only at HA
    cases ht : thereV A ⟨k, m⟩ with
    | false =>
      have e1 : A.swapF n i ⟨k, m⟩ = A := by
        unfold AHeap.swapF; rw [hat]
        cases ho : A.objs n with
        | none => rfl
        | some o => simp [ht]
      have e2 : A.swapV n i ⟨k, m⟩ = ⟨0, 0⟩ := by unfold AHeap.swapV; rw [hat]; simp [ht]
      have e3 : A.swapE n i ⟨k, m⟩ = 2 := by unfold AHeap.swapE; rw [hat]; simp [ht]
      rw [e1, e2, e3]
      have HV := Lib.hid (fun (w' : World) (G : HP) (hh : Sat w0 w' (refR13 p A * G)) => r_Value H hB hh k m ht)
      clear e1 e2 e3 e4 e5 hat h h1 H
      go_enter Try.func143, Try.ntmps143
      go_wp2_with fail
      refine HA.out.mono ?_
      rintro e w1 ⟨rfl, h2⟩
      have ⟨r0, r1⟩ := valR h2.p3
      have h3 := (h2.alloc (.cells #[.int .i64 uk, .int .i64 un] 28)).p2
      have ⟨q0, q1⟩ := valR h3.p4
      go_wp2_with fail
      refine (HV.out _ _ h3).mono ?_
      rintro e w2 ⟨rfl, h4⟩
      have ⟨t0, t1, tf0, tf1⟩ := val2' h4.p3
      have h5 := h4.p3.setVal 0 0
      go_wp2_with fail
      exact bodyPost_cell_tmp rfl rfl rfl (load_val h5) rfl ⟨rfl, h5.drop.p2.drop.p2.drop⟩
    | true =>
      cases ho : A.objs n with
      | none => unfold atV at hat; rw [ho] at hat; cases hat
      | some o =>
        have hi : 0 ≤ i ∧ o.slots[i.toNat]? = some ⟨uk, un⟩ := by
          unfold atV at hat; rw [ho] at hat
          dsimp only at hat
          split at hat
          · exact ⟨by assumption, hat⟩
          · cases hat
        have e1 : A.swapF n i ⟨k, m⟩ = (A.upd n { o with slots := o.slots.set i.toNat ⟨k, m⟩ }).touch n := by unfold AHeap.swapF; rw [hat, ho]; simp only [ht, if_true]; rfl
        have e2 : A.swapV n i ⟨k, m⟩ = ⟨uk, un⟩ := by unfold AHeap.swapV; rw [hat]; simp [ht]
        have e3 : A.swapE n i ⟨k, m⟩ = 0 := by unfold AHeap.swapE; rw [hat]; simp [ht]
        rw [e1, e2, e3]
        have hrng := obj_in H (n := n) (by rw [ho]; rfl)
        have hT := H.t
        have hcn := H.c n o ho
        obtain ⟨j, rfl⟩ : ∃ j : Nat, n = (j : Int) + 1 := ⟨(n - 1).toNat, by omega⟩
        obtain ⟨z, rfl⟩ : ∃ z : Nat, i = (z : Int) := ⟨i.toNat, by omega⟩
        rw [Int.toNat_natCast] at hi ⊢
        have hobj : A.obj ((j : Int) + 1) = o := by unfold AHeap.obj; rw [ho]; rfl
        have HV := Lib.hid (fun (w' : World) (G : HP) (hh : Sat w0 w' (refR13 p A * G)) => r_Value H hB hh k m ht)
        have HOB := Lib.hid (And.intro hobj (And.intro (show j < A.T.length by omega) hi.2))
        have hj1 : (j : Int) + 1 - 1 = j := by omega
        have hj2 : (0 : Int) ≤ (j : Int) := by omega
        have hj3 : (j : Int) < (A.T.length : Int) := by omega
        have hj4 : IntKind.i64.wrap (j : Int) = j := IntWalk.i64_in _ (by omega)
        have hz : z < o.slots.length := (List.getElem?_eq_some_iff.1 hi.2).1
        clear e1 e2 e3 e4 e5 hat h h1 H hi hobj ho ht
        go_enter Try.func143, Try.ntmps143
        go_wp2_with fail
        refine HA.out.mono ?_
        rintro e w1 ⟨rfl, h2⟩
        have ⟨r0, r1⟩ := valR h2.p3
        have h3 := (h2.alloc (.cells #[.int .i64 uk, .int .i64 un] 28)).p2
        have ⟨q0, q1⟩ := valR h3.p4
        go_wp2_with fail
        refine (HV.out _ _ h3).mono ?_
        rintro e w2 ⟨rfl, h4⟩
        obtain ⟨X, oa, oc, qa, qc, ba, bc, fa, fc, sa, sc, op⟩ := h4.openR
        obtain ⟨g, off, xa, xc, eoa, hx, d0, d1, d2, d3, d4⟩ := op.obj (k := j) HOB.out.2.1
        subst eoa
        have c0 := op.c0
        rw [HOB.out.1] at d2 hx
        obtain ⟨R, hR, hsl⟩ := op.slots hx
        obtain ⟨g2, off2, exa, x0, x1⟩ := valC hsl HOB.out.2.2
        dsimp only at x0 x1
        subst exa
        have ⟨s0, s1⟩ := valR h4.p4
        have hls := avcells_length o.slots
        obtain ⟨_, _, ex0, -, xf0⟩ := hsl.slcAt (j := z * 2) (List.getElem?_eq_getElem (by omega))
        cases ex0
        obtain ⟨_, _, ex1, -, xf1⟩ := hsl.slcAt (j := z * 2 + 1) (List.getElem?_eq_getElem (by omega))
        cases ex1
        rw [← Nat.add_assoc] at xf1
        have hs1 := (hsl.slcStore (j := z * 2) (by omega) (.int .i64 k)).slcStore (j := z * 2 + 1) (by omega) (.int .i64 m)
        rw [avcells_set o.slots z ⟨k, m⟩] at hs1
        rw [← Nat.add_assoc] at hs1
        have op3 : ROpen w0 _ p (A.upd ((j : Int) + 1) { o with slots := o.slots.set z ⟨k, m⟩ }) _ (X.set j ({ o with slots := o.slots.set z ⟨k, m⟩ }, some ⟨g2, off2, none⟩, xc)) _ oc qa qc ba bc fa fc sa sc := ROpen.putSlots (y := ({ o with slots := o.slots.set z ⟨k, m⟩ }, some ⟨g2, off2, none⟩, xc)) (R := R) op.hx HOB.out.2.1 (hR _) (hs1.cast (by rw [xscells_same hx (by simp [xcells])]; dsimp only; rw [List.length_set]))
        have HT := Lib.hid (r_touch (A := A.upd ((j : Int) + 1) { o with slots := o.slots.set z ⟨k, m⟩ }) hW op3.shut.drew ((j : Int) + 1))
        have hzs : (z : Int) < (o.slots.length : Int) := by omega
        clear op op3 hsl hs1 hx hR h2 h3 h4 d0 d1 d3 d4 hcn
        generalize o.slots.length = sn at *
        generalize A.T.length = N at *
        go_wp2_with fail
        refine wp_region_tail 12 (by kernel_rfl) (by kernel_rfl) ?_
        simp only [List.take_succ_cons, List.take_zero, List.drop_succ_cons, List.drop_zero]
        iterate 12 still_step
        refine wpStill_nil ?_
        go_wp2_with fail
        refine HT.out.mono ?_
        rintro e w3 ⟨rfl, h5⟩
        have ⟨u0, u1⟩ := valR h5.p2
        have ⟨t0, t1, tf0, tf1⟩ := val2' h5.p3
        have h6 := h5.p3.setVal uk un
        go_wp2_with fail
        exact bodyPost_cell_tmp rfl rfl rfl (load_val h6) rfl ⟨rfl, h6.drop.p2.drop.p2.drop⟩
end
end Go.Proofs.Ytkpcngcegipalaa.Tw
