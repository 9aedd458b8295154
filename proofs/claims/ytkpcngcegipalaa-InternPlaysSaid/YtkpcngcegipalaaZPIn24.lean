/- tallowref13: Lay. No condition. -/
import Derived.Test.YtkpcngcegipalaaZPIn23
namespace Go.Proofs.Ytkpcngcegipalaa.Tw
set_option linter.unusedVariables false
set_option linter.unusedSimpArgs false
open Go Go.RowKit Go.MapKept
attribute [local go_sem] lookE lkE valUpon
section
variable {w0 w : World} {p : Nat} {A : AHeap} {F SR : HP} {B : Int} {X : List XObj} {oa : Option Addr} {oc : Nat} {qa : Option Addr} {qc : Nat} {ba : Option Addr} {bc : Nat} {fa : Option Addr} {fc : Nat} {sa : Option Addr} {sc : Nat}
theorem srcV_flat {a : Option Addr} {n c : Nat} {l : List AVal} (hS : SrcV w0 SR a n c l) (h : Sat w0 w (SR * F)) : (∀ ad, a = some ad → ∀ j u, (avcells l)[j]? = some u → w.cell? (ad.add j) = some u) ∧ (a = none → n = 0 ∧ c = 0) := by
  refine ⟨fun ad e j u hj => ?_, hS.2.2.1⟩
  have hlt : j < l.length * 2 := by have := (List.getElem?_eq_some_iff.1 hj).1; rwa [avcells_length] at this
  obtain ⟨i, hi⟩ : ∃ i, i = j / 2 := ⟨_, rfl⟩
  obtain ⟨x, hk⟩ : ∃ x, l[i]? = some x := ⟨l[i]'(by omega), List.getElem?_eq_getElem _⟩
  obtain ⟨g, off, ea, c0, c1⟩ := hS.1 _ _ h _ _ hk
  obtain ⟨e0, e1⟩ := avcells_get l _ _ hk
  rw [e] at ea; cases ea
  rw [addr_add]
  rcases Nat.mod_two_eq_zero_or_one j with hm | hm
  · obtain rfl : j = i * 2 := by omega
    rw [e0] at hj; cases hj
    exact c0
  · obtain rfl : j = i * 2 + 1 := by omega
    rw [e1] at hj; cases hj
    rw [← Nat.add_assoc]; exact c1
set_option maxRecDepth 100000 in
set_option maxHeartbeats 2000000 in
theorem r_Lay (H : HW A B) (hB : B ≤ 1000000) (hW : A.watch.length ≤ 1000000) (n : Int) {a : Option Addr} {sn c : Nat} {s : List AVal} (h : Sat w0 w (refR13 p A * (SR * F))) (hS : SrcV w0 SR a sn c s) (hn : sn ≤ 1000000) {r : Int} (hr : A.layE n s = r) :
    Calls Try.prog 144 #[.pointer (some ⟨p, 0, none⟩), .int .i64 n, .slice a sn c] w fun e w' => e = .returned (.int .i64 r) ∧ Sat w0 w' (refR13 p (A.layF n s) * (SR * F)) := by
  subst hr
  cases ho : A.objs n with
  | none =>
    have HC := Lib.hid (r_There H hB h n (b := false) (by rw [ho]; rfl))
    have e1 : A.layF n s = A := by unfold AHeap.layF; rw [ho]
    have e2 : A.layE n s = 5 := by unfold AHeap.layE; rw [ho]
    rw [e1, e2]
    clear e1 e2 ho H
    go_enter Try.func144, Try.ntmps144
    go_wp2_with fail
    refine HC.out.mono ?_
    rintro e w1 ⟨rfl, rfl⟩
    go_wp2_with fail
    go_ret
    exact ⟨rfl, h⟩
  | some o =>
    have HC := Lib.hid (r_There H hB h n (b := true) (by rw [ho]; rfl))
    have hrng := obj_in H (n := n) (by rw [ho]; rfl)
    have hT := H.t
    obtain ⟨j, rfl⟩ : ∃ j : Nat, n = (j : Int) + 1 := ⟨(n - 1).toNat, by omega⟩
    have hobj : A.obj ((j : Int) + 1) = o := by unfold AHeap.obj; rw [ho]; rfl
    have el : layB A o s = (!decide (o.kind = 5) && s.all (thereV A)) := rfl
    obtain ⟨X, oa, oc, qa, qc, ba, bc, fa, fc, sa, sc, op⟩ := h.openR
    obtain ⟨g, off, xa, xc, eoa, hx, d0, _⟩ := op.obj (k := j) (by omega)
    subst eoa
    have c0 := op.c0
    rw [hobj] at d0
    have hj1 : (j : Int) + 1 - 1 = j := by omega
    have hj2 : (0 : Int) ≤ (j : Int) := by omega
    have hj3 : (j : Int) < (A.T.length : Int) := by omega
    have hj4 : IntKind.i64.wrap (j : Int) = j := IntWalk.i64_in _ (by omega)
    by_cases hk5 : o.kind = 5
    · have e0 : layB A o s = false := by rw [el, decide_eq_true hk5]; rfl
      have e1 : A.layF ((j : Int) + 1) s = A := by unfold AHeap.layF; rw [ho]; simp [e0]
      have e2 : A.layE ((j : Int) + 1) s = 2 := by unfold AHeap.layE; rw [ho]; simp [e0]
      rw [e1, e2]
      have fk : (o.kind == 5) = true := by simpa using hk5
      clear op hx H ho e1 e2 e0 el hobj hk5
      generalize A.T.length = N at *
      go_enter Try.func144, Try.ntmps144
      go_wp2_with fail
      refine HC.out.mono ?_
      rintro e w1 ⟨rfl, rfl⟩
      go_wp2_with fail
      go_ret
      exact ⟨rfl, h⟩
    · have fk : (o.kind == 5) = false := by simpa using hk5
      have HOB := Lib.hid (And.intro hobj (And.intro (show j < A.T.length by omega) hT))
      have e1y : s.all (thereV A) = true → A.layF ((j : Int) + 1) s = (A.upd ((j : Int) + 1) { o with slots := s }).touch ((j : Int) + 1) ∧ A.layE ((j : Int) + 1) s = 0 := fun ha => by
        have e0 : layB A o s = true := by rw [el, decide_eq_false hk5, ha]; rfl
        exact ⟨by unfold AHeap.layF; rw [ho]; simp only [e0, if_true]; rfl, by unfold AHeap.layE; rw [ho]; simp [e0]⟩
      have e1n : s.all (thereV A) = false → A.layF ((j : Int) + 1) s = A ∧ A.layE ((j : Int) + 1) s = 2 := fun ha => by
        have e0 : layB A o s = false := by rw [el, ha, Bool.and_false]
        exact ⟨by unfold AHeap.layF; rw [ho]; simp [e0], by unfold AHeap.layE; rw [ho]; simp [e0]⟩
      have HE := Lib.hid (And.intro e1y e1n)
      have HS := Lib.hid (And.intro hS.2.1 (fun {w : World} {F : HP} (h : Sat w0 w (SR * F)) => srcV_flat hS h))
      have HSA := Lib.hid hS.1
      have HVT := Lib.hid (fun (w' : World) (G : HP) (k m : Int) (hh : Sat w0 w' (refR13 p A * G)) => r_Value H hB hh k m rfl)
      clear op hx H ho el hobj hk5 e1y e1n hS hrng
      go_enter Try.func144, Try.ntmps144
      go_wp2_with fail
      refine HC.out.mono ?_
      rintro e w1 ⟨rfl, rfl⟩
      go_wp2_with fail
      clear c0 d0 hj3
      go_loopw [7] (fun iv wr => ∃ k : Nat, iv = .int .i64 k ∧ k ≤ sn ∧ Hid ((s.take k).all (thereV A) = true) ∧ Sat w0 wr (refR13 p A * (SR * F))) (fun iv _ => sn - (intOf iv).toNat)
      case atStart => exact ⟨0, rfl, by omega, Lib.hid rfl, h⟩
      case round =>
        obtain ⟨k, rfl, hk, hb, hs⟩ := hrel
        by_cases hlt : k < sn
        · have hl := HS.out.1
          have ex : s[k]? = some (s[k]'(by omega)) := List.getElem?_eq_getElem _
          generalize s[k]'(by omega) = x at *
          obtain ⟨g3, off3, rfl, x0, x1⟩ := HSA.out _ _ hs.p2 k x ex
          obtain ⟨xk, xn⟩ := x
          dsimp only at x0 x1
          have HV := Lib.hid (HVT.out _ _ xk xn hs)
          have htk : s.take (k + 1) = s.take k ++ [⟨xk, xn⟩] := by rw [List.take_add_one, ex]; rfl
          have HX := Lib.hid (And.intro ex htk)
          clear ex htk hl
          cases ht : thereV A ⟨xk, xn⟩ with
          | true =>
            rw [ht] at HV
            have HT2 := Lib.hid ht
            clear ht
            go_wp2_with fail
            refine HV.out.mono ?_
            rintro e w2 ⟨rfl, h2⟩
            go_wp2_with fail
            go_roundw
            case rel => exact ⟨k + 1, by go_num, by omega, Lib.hid (by rw [HX.out.2, List.all_append, hb.out]; simp [HT2.out]), h2⟩
            case measure => simp [intOf]; omega
          | false =>
            rw [ht] at HV
            have hne : s.all (thereV A) = false := by
              cases hq : s.all (thereV A) with
              | false => rfl
              | true =>
                have := List.all_eq_true.1 hq _ (List.mem_of_getElem? HX.out.1)
                rw [ht] at this; cases this
            have HN := Lib.hid (HE.out.2 hne)
            clear ht hne
            go_wp2_with fail
            refine HV.out.mono ?_
            rintro e w2 ⟨rfl, h2⟩
            go_wp2_with fail
            go_ret
            exact ⟨by rw [HN.out.2]; rfl, by rw [HN.out.1]; exact h2⟩
        · obtain rfl : k = sn := by omega
          rename_i hk'
          have hall : s.all (thereV A) = true := by
            have h1 := hb.out
            rwa [List.take_of_length_le (by have := HS.out.1; omega)] at h1
          have HY := Lib.hid (HE.out.1 hall)
          obtain ⟨X, oa, oc, qa, qc, ba, bc, fa, fc, sa, sc, op⟩ := hs.openR
          obtain ⟨g, off, xa, xc, eoa, hx, _⟩ := op.obj (k := j) HOB.out.2.1
          subst eoa
          rw [HOB.out.1] at hx
          obtain ⟨R, hR, hsl⟩ := op.slots hx
          obtain ⟨RR, hRR⟩ : ∃ RR : HP, RR = slc 28 2 xa o.slots.length xc (avcells o.slots) * (R * rrest A qa qc ba bc fa fc sa sc F) := ⟨_, rfl⟩
          have h0 : Sat w0 wr (row p 51 (rcellsH A (some ⟨g, off, none⟩) oc qa qc ba bc fa fc sa sc) * (slc 39 5 (some ⟨g, off, none⟩) A.T.length oc (xscells X) * (SR * (RR)))) := hsl.cast (by rw [hRR]; unfold rrest; ac_rfl)
          have HX := Lib.hid hx
          have HJ := Lib.hid HOB.out.2.1
          have hOX := Lib.hid op.hx
          have HRR := Lib.hid hRR
          have HR2 := Lib.hid hR
          have hj3 : (j : Int) < (A.T.length : Int) := by have := HOB.out.2.1; omega
          clear op hx hsl hRR hR hs hall hb hlt
          go_wp2_with fail
          refine wp_gen fun a0 ha => ?_
          have hb0 : base a0 0 = .pointer (some ⟨p, 0, none⟩) := by rw [ha]; rfl
          have hb1 : base a0 1 = .int .i64 ((j : Int) + 1) := by rw [ha]; rfl
          have hb2 : base a0 2 = .slice a k c := by rw [ha]; rfl
          have hb8 : base a0 8 = .slice none 0 0 := by rw [ha]; rfl
          have hsz0 : a0.tmps.size = 50 := by rw [ha]; rfl
          have HA0 := Lib.hid (And.intro hsz0 ha)
          clear ha hsz0
          refine GW.start (X := Option Addr × Nat) (w0 := w0) (B := [row p 51 (rcellsH A (some ⟨g, off, none⟩) oc qa qc ba bc fa fc sa sc), slc 39 5 (some ⟨g, off, none⟩) A.T.length oc (xscells X), SR, RR]) (a0 := a0) ?_
          refine GW.det (d := (some 36)) [] [] rfl (fun e => by rfl) ?_; apply Exists.intro; refine ⟨fun e w' F hs => ?_, ?_, ?_⟩
          · first | (go_simp; done) | (go_simp; rfl)
          · exact (fun _ _ _ => rfl)
          refine GW.det (d := (some 37)) [] [] rfl (fun e => by rfl) ?_; apply Exists.intro; refine ⟨fun e w' F hs => ?_, ?_, ?_⟩
          · first | (go_simp; done) | (go_simp; rfl)
          · exact (fun _ _ _ => rfl)
          refine GW.det (d := (some 38)) [] [] rfl (fun e => by rfl) ?_; apply Exists.intro; refine ⟨fun e w' F hs => ?_, ?_, ?_⟩
          · first | (go_simp; done) | (go_simp; rfl)
          · exact (fun _ _ _ => rfl)
          refine GW.det (d := (some 39)) [0] [] rfl (fun e => by rfl) ?_; apply Exists.intro; refine ⟨fun e w' F hs => ?_, ?_, ?_⟩
          · have y0 : w'.cell? ⟨p, 0, none⟩ = some (.slice (some ⟨g, off, none⟩) A.T.length oc) := (show Sat w0 w' (row p 51 (rcellsH A (some ⟨g, off, none⟩) oc qa qc ba bc fa fc sa sc) * F) from hs).cell 0 rfl; first | (go_simp; done) | (go_simp; rfl)
          · exact (fun _ _ _ => rfl)
          refine GW.det (d := (some 40)) [] [] rfl (fun e => by rfl) ?_; apply Exists.intro; refine ⟨fun e w' F hs => ?_, ?_, ?_⟩
          · first | (go_simp; done) | (go_simp; rfl)
          · exact (fun _ _ _ => rfl)
          refine GW.det (d := (some 41)) [] [] rfl (fun e => by rfl) ?_; apply Exists.intro; refine ⟨fun e w' F hs => ?_, ?_, ?_⟩
          · first | (go_simp; done) | (go_simp; rfl)
          · exact (fun _ _ _ => rfl)
          refine GW.det (d := (some 42)) [] [] rfl (fun e => by rfl) ?_; apply Exists.intro; refine ⟨fun e w' F hs => ?_, ?_, ?_⟩
          · first | (go_simp; done) | (go_simp; rfl)
          · exact (fun _ _ _ => rfl)
          refine GW.det (d := (some 43)) [] [] rfl (fun e => by rfl) ?_; apply Exists.intro; refine ⟨fun e w' F hs => ?_, ?_, ?_⟩
          · first | (go_simp; done) | (go_simp; rfl)
          · exact (fun _ _ _ => rfl)
          refine GW.new (d := (some 44)) 8 (fun x => .slice x.1 k x.2) (fun x => slc 28 2 x.1 k x.2 (avcells s)) [2] rfl rfl (fun e => by rfl) (fun e w' F K hs hK => ?_) ?_
          · have hs := show Sat w0 w' (SR * F) from hs; refine wp_look (d := 44) (sz := 50) rfl HA0.out.1 (by decide) (by rfl) fun a1 ha1 => ?_; refine wp_catV (F := SR * F) _ _ rfl none 0 0 [] ((ha1 _).trans rfl) hs.nilSlc a k c s ((ha1 _).trans rfl) HS.out.1 (HS.out.2 hs) (by omega) fun a' c'' w2 h2 => ⟨rfl, _, rfl, ?_⟩; rw [Nat.zero_add] at h2 ⊢; exact hK (a', c'') _ (h2.cast (by rw [List.nil_append]; exact mul_left_comm _ _ _))
          refine GW.det (d := (some 45)) [] [] rfl (fun e => by rfl) ?_; apply Exists.intro; refine ⟨fun e w' F hs => ?_, ?_, ?_⟩
          · first | (go_simp; done) | (go_simp; rfl)
          · exact (fun _ _ _ => rfl)
          refine GW.det (d := (some 46)) [] [] rfl (fun e => by rfl) ?_; apply Exists.intro; refine ⟨fun e w' F hs => ?_, ?_, ?_⟩
          · first | (go_simp; done) | (go_simp; rfl)
          · exact (fun _ _ _ => rfl)
          refine GW.take (d := none) 11 (fun e => undef) (fun e => slc 39 5 (some ⟨g, off, none⟩) A.T.length oc (xscells (X.set j ({ o with slots := s }, (e 8).1, (e 8).2)))) [] [1] [8] rfl rfl (fun e => by rfl) (fun e e' hl => by simp only [hl 8 (by decide)]; exact ⟨trivial, trivial⟩) (fun e w' F K hs hK => ?_) ?_
          · have hs := show Sat w0 w' (slc 39 5 (some ⟨g, off, none⟩) A.T.length oc (xscells X) * F) from one_out hs; obtain ⟨g', off', e', _, _, y2, _, _⟩ := objAtX hs HX.out; cases e'; dsimp only at y2; have yf := slcO_free hs HX.out (j := 2) (by omega); go_simp; exact hK default _ (one_in (setSlots hs HX.out HJ.out s ((e 8).1, (e 8).2) HS.out.1))
          refine GW.done (sz := 50) [4 + 8, 0, 4 + 11, 3, 2] (by kernel_rfl) (by kernel_rfl) HA0.out.1 (by rfl) h0 (by rfl) fun e w3 gg => ?_
          have ha := HA0.out.2
          subst ha
          clear HA0 hb0 hb1 hb2 hb8 h0
          simp only [putL, Act.put, List.setIfInBounds_toArray, List.set_cons_zero, List.set_cons_succ]
          have h3 : Sat w0 w3 (slc 28 2 (e 8).1 k (e 8).2 (avcells s) * (row p 51 (rcellsH A (some ⟨g, off, none⟩) oc qa qc ba bc fa fc sa sc) * (slc 39 5 (some ⟨g, off, none⟩) A.T.length oc (xscells (X.set j ({ o with slots := s }, (e 8).1, (e 8).2))) * (RR * SR)))) := gg
          clear gg
          generalize e 8 = y8 at *
          obtain ⟨xa', xc'⟩ := y8
          dsimp only at h3 ⊢
          have op3 : ROpen w0 w3 p (A.upd ((j : Int) + 1) { o with slots := s }) (SR * F) _ (some ⟨g, off, none⟩) oc qa qc ba bc fa fc sa sc := ROpen.putSlots (y := ({ o with slots := s }, xa', xc')) (R := R) hOX.out HJ.out (HR2.out _) (Sat.drop (P := slc 28 2 xa o.slots.length xc (avcells o.slots)) (h3.cast (by rw [HRR.out]; dsimp only; rw [HS.out.1]; unfold rrest; ac_rfl)))
          have HT := Lib.hid (r_touch (A := A.upd ((j : Int) + 1) { o with slots := s }) hW op3.shut ((j : Int) + 1))
          clear op3 h3
          go_wp2_with fail
          refine HT.out.mono ?_
          rintro e w4 ⟨rfl, h4⟩
          go_wp2_with fail
          go_ret
          exact ⟨by rw [HY.out.2]; rfl, by rw [HY.out.1]; exact h4⟩
end
end Go.Proofs.Ytkpcngcegipalaa.Tw
namespace Go.Proofs.Ytkpcngcegipalaa.Tw
set_option linter.unusedVariables false
set_option linter.unusedSimpArgs false
open Go Go.RowKit Go.MapKept
section
variable {P : Program} {w0 w : World} {F : HP} {ops : Array Oper} {rest : List Oper} {o : Oper} {a : Act} {Q : Exit → Act → World → Prop}
theorem wpList_pushFinR (hg : o.guard = none) (s x : Operand) (hop : o.op = .call { callee := .builtin .append, args := #[s, x], argTypes := #[49, 49] })
    (sa : Option Addr) (n c : Nat) (l : List (Int × Int)) (hs : a.eval s = .slice sa n c) (h : Sat w0 w (slc 176 2 sa n c (finCells l) * F)) (bx c' : Nat) (v : Int × Int) (hx : a.eval x = .slice (some ⟨bx, 0, none⟩) 1 c') (hc0 : w.cell? ⟨bx, 0, none⟩ = some (.int .i64 v.1)) (hc1 : w.cell? ⟨bx, 1, none⟩ = some (.int .i64 v.2)) (hn : n ≤ 1000000000)
    (hK : ∀ a' c'' w', Sat w0 w' (slc 176 2 a' (n + 1) c'' (finCells (l ++ [v])) * F) → wpList Try.prog ops Q rest (a.put o.dst (.slice a' (n + 1) c'')) w') : wpList Try.prog ops Q (o :: rest) a w :=
  wpList_plain hg fun _ hK' => wp_pushFinR s x hop sa n c l hs h bx c' v hx hc0 hc1 hn fun a' c'' w' h2 => hK' _ _ (hK a' c'' w' h2)
end
section
variable {w0 w : World} {p : Nat} {A : AHeap} {F SR : HP} {B : Int} {X : List XObj} {oa : Option Addr} {oc : Nat} {qa : Option Addr} {qc : Nat} {ba : Option Addr} {bc : Nat} {fa : Option Addr} {fc : Nat} {sa : Option Addr} {sc : Nat}
def zX : XObj := (AObj.none, none, 0)
theorem setZero {g off N oc k xc : Nat} {xa : Option Addr} {o : AObj} (h : Sat w0 w (slc 39 5 (some ⟨g, off, none⟩) N oc (xscells X) * F)) (hx : X[k]? = some (o, xa, xc)) (hk : k < N) :
    Sat w0 (((((w.setCell ⟨g, off + k * 5, none⟩ (.int .i64 0)).setCell ⟨g, off + k * 5 + 1, none⟩ (.int .i64 0)).setCell ⟨g, off + k * 5 + 2, none⟩ (.slice none 0 0)).setCell ⟨g, off + k * 5 + 3, none⟩ (.string (ByteArray.mk #[]))).setCell ⟨g, off + k * 5 + 4, none⟩ (.int .i64 0))
      (slc 39 5 (some ⟨g, off, none⟩) N oc (xscells (X.set k zX)) * F) := by
  have hl := (List.getElem?_eq_some_iff.1 hx).1
  have key : ∀ (Y : List XObj) (y : XObj), k < Y.length → (Y.set k y)[k]? = some y := fun Y y h => by rw [List.getElem?_set_self h]
  have h0 := h.slcStore (j := k * 5 + 0) (by omega) (.int .i64 0)
  rw [← xscells_set (y := ({ o with kind := 0 }, xa, xc)) hx (by omega) rfl] at h0
  have h1 := h0.slcStore (j := k * 5 + 1) (by omega) (.int .i64 0)
  rw [← xscells_set (y := ({ o with kind := 0, count := 0 }, xa, xc)) (key _ _ (by simpa using hl)) (by omega) rfl] at h1
  have h2 := h1.slcStore (j := k * 5 + 2) (by omega) (.slice none 0 0)
  rw [← xscells_set (y := ({ o with kind := 0, count := 0, slots := [] }, none, 0)) (key _ _ (by simpa using hl)) (by omega) rfl] at h2
  have h3 := h2.slcStore (j := k * 5 + 3) (by omega) (.string (ByteArray.mk #[]))
  rw [← xscells_set (y := ({ o with kind := 0, count := 0, slots := [], text := ByteArray.mk #[] }, none, 0)) (key _ _ (by simpa using hl)) (by omega) rfl] at h3
  have h4 := h3.slcStore (j := k * 5 + 4) (by omega) (.int .i64 0)
  rw [← xscells_set (y := zX) (key _ _ (by simpa using hl)) (by omega) rfl] at h4
  simp only [List.set_set, Nat.add_zero, ← Nat.add_assoc] at h4
  exact h4
theorem wout_head {l : List Int} {n : Int} (hn : l.Nodup) (hh : l.head? = some n) : wout l n = l.tail := by
  cases l with
  | nil => cases hh
  | cons x l =>
    simp at hh; subst hh
    rw [List.nodup_cons] at hn
    unfold wout
    rw [List.filter_cons]
    simp only [decide_true, Bool.not_true, Bool.false_eq_true, if_false, List.tail_cons]
    rw [List.filter_eq_self.2]
    intro y hy
    simp only [Bool.not_eq_true', decide_eq_false_iff_not]
    rintro rfl
    exact hn.1 hy
def finF (l : List (Int × Int)) (n : Int) : List (Int × Int) := l.filter fun f => !decide (f.1 = n)
theorem finF_snoc (l : List (Int × Int)) (n : Int) (x : Int × Int) : finF (l ++ [x]) n = finF l n ++ if x.1 = n then [] else [x] := by
  unfold finF; rw [List.filter_append]; by_cases e : x.1 = n <;> simp [e]
set_option maxRecDepth 100000 in
set_option maxHeartbeats 2000000 in
theorem r_Free (H : HW A B) (hB : B ≤ 1000000) (hW : A.watch.length ≤ 1000000) (h : Sat w0 w (refR13 p A * F)) (n : Int) {r : Int} (hr : A.freeE n = r) :
    Calls Try.prog 90 #[.pointer (some ⟨p, 0, none⟩), .int .i64 n] w fun e w' => e = .returned (.int .i64 r) ∧ Sat w0 w' (refR13 p (A.freeF n) * F) := by
  subst hr
  have hql := H.ql
  have hfl := H.fl
  obtain ⟨X, oa, oc, qa, qc, ba, bc, fa, fc, sa, sc, op⟩ := h.openR
  have c1 := op.c1
  have no : A.freeB n = false → A.freeF n = A ∧ A.freeE n = 2 := fun hb => ⟨by unfold AHeap.freeF; rw [hb]; rfl, by unfold AHeap.freeE; rw [hb]; rfl⟩
  cases hq : A.queue with
  | nil =>
    obtain ⟨e1, e2⟩ := no (by unfold AHeap.freeB; rw [hq]; rfl)
    rw [e1, e2]
    rw [hq] at c1
    simp only [List.length_nil] at c1
    clear e1 e2 no op H hq
    go_enter Try.func90, Try.ntmps90
    go_wp2_with fail
    go_ret
    exact ⟨rfl, h⟩
  | cons q0 qs =>
    have hqq : Sat w0 w (slc 3 1 qa A.queue.length qc (A.queue.map ival) * (row p 51 (rcellsH A oa oc qa qc ba bc fa fc sa sc) * (slc 39 5 oa A.T.length oc (xscells X) * (xslotsR X * (slc 3 1 ba A.buf.length bc (A.buf.map ival) * (slc 176 2 fa A.fins.length fc (finCells A.fins) * (slc 3 1 sa A.watch.length sc (A.watch.map ival) * F))))))) := op.hs.cast (by unfold rrest; ac_rfl)
    obtain ⟨gq, oq, eqa, z0, _⟩ := intCells hqq (k := 0) (x := q0) (by rw [hq]; rfl)
    rw [Nat.add_zero] at z0
    subst eqa
    have hlen : A.queue.length = qs.length + 1 := by rw [hq]; rfl
    have hl1 : ((qs.length : Int) + 1 == 0) = false := by simp; omega
    have hl2 : 0 < qs.length + 1 := by omega
    rw [hlen] at c1
    by_cases hqn : q0 = n
    · subst hqn
      obtain ⟨o, ho, hcnt⟩ := H.q1 q0 (by rw [hq]; exact List.mem_cons_self)
      have hrng := obj_in H (n := q0) (by rw [ho]; rfl)
      have hT := H.t
      obtain ⟨j, rfl⟩ : ∃ j : Nat, q0 = (j : Int) + 1 := ⟨(q0 - 1).toNat, by omega⟩
      have hobj : A.obj ((j : Int) + 1) = o := by unfold AHeap.obj; rw [ho]; rfl
      obtain ⟨g, off, xa, xc, eoa, hx, _, _, d2, _⟩ := op.obj (k := j) (by omega)
      subst eoa
      have c0 := op.c0
      rw [hobj] at d2 hx
      have hj1 : (j : Int) + 1 - 1 = j := by omega
      have hj2 : (0 : Int) ≤ (j : Int) := by omega
      have hj3 : (j : Int) < (A.T.length : Int) := by omega
      have hj4 : IntKind.i64.wrap (j : Int) = j := IntWalk.i64_in _ (by omega)
      by_cases hsl : o.slots = []
      · have hfb : A.freeB ((j : Int) + 1) = true := by unfold AHeap.freeB; rw [hq, hobj, hsl]; simp
        have e1 : A.freeF ((j : Int) + 1) = A.free ((j : Int) + 1) := by unfold AHeap.freeF; rw [hfb]; rfl
        have e2 : A.freeE ((j : Int) + 1) = 0 := by unfold AHeap.freeE; rw [hfb]; rfl
        rw [e1, e2]
        rw [hsl] at d2
        simp only [List.length_nil] at d2
        have hwo : wout A.queue ((j : Int) + 1) = A.queue.tail := wout_head H.qn (by rw [hq]; rfl)
        have HQ := Lib.hid (r_without hqq rfl (by omega) ((j : Int) + 1))
        have hfn : A.fins.length ≤ 1000000 := by omega
        have HX := Lib.hid (And.intro hx (And.intro (show j < A.T.length by omega) (And.intro hwo op.hx)))
        rw [hlen] at HQ
        have HR := Lib.hid hlen
        have HFX := Lib.hid hfn
        clear op hqq hx H ho e1 e2 hfb hobj no hwo hq hlen hfn
        go_enter Try.func90, Try.ntmps90
        go_wp2_with fail
        refine HQ.out.mono ?_
        rintro e w2 ⟨ra, rc, rfl, h2⟩
        have k1 := (Sat.drop2 h2).p2.cell (i := 1) (v := .slice (some ⟨gq, oq, none⟩) A.queue.length qc) rfl
        have k1f := (Sat.drop2 h2).p2.free 1
        have h3 := (Sat.drop2 h2).p2.store (i := 1) (.slice ra (wout A.queue ((j : Int) + 1)).length rc)
        obtain ⟨A1, hA1⟩ : ∃ A1, A1 = { A with queue := wout A.queue ((j : Int) + 1) } := ⟨_, rfl⟩
        have op1 : Sat w0 (w2.setCell ⟨p, 1, none⟩ (.slice ra (wout A.queue ((j : Int) + 1)).length rc)) (opG p A1 X (some ⟨g, off, none⟩) oc ra rc ba bc fa fc sa sc F) := h3.cast (by rw [hA1]; unfold opG rrest; show row _ _ _ * _ = row _ _ (rcellsH { A with queue := wout A.queue ((j : Int) + 1) } _ _ ra rc _ _ _ _ _ _) * _; ac_rfl)
        have hX1 : X.map (·.1) = graphL A1 A1.T.length := by rw [hA1]; exact HX.out.2.2.2
        have hf1 : A1.fins = A.fins := by rw [hA1]
        have h0 : Sat w0 (w2.setCell ⟨p, 1, none⟩ (.slice ra (wout A.queue ((j : Int) + 1)).length rc)) (slc 176 2 none 0 0 (finCells (finF (A.fins.take 0) ((j : Int) + 1))) * opG p A1 X (some ⟨g, off, none⟩) oc ra rc ba bc fa fc sa sc F) := op1.nilSlc
        have HC3 := Lib.hid (fun (w' : World) (G : HP) (hx : Sat w0 w' (G * opG p A1 X (some ⟨g, off, none⟩) oc ra rc ba bc fa fc sa sc F)) => (by have := (show ROpen w0 w' p A1 (G * F) X (some ⟨g, off, none⟩) oc ra rc ba bc fa fc sa sc from ⟨hX1, hx.cast (by unfold opG rrest; ac_rfl)⟩).c3; rw [hf1] at this; exact this : w'.cell? ⟨p, 3, none⟩ = some (.slice fa A.fins.length fc)))
        have HFA := Lib.hid (fun (w' : World) (G : HP) (hx : Sat w0 w' (G * opG p A1 X (some ⟨g, off, none⟩) oc ra rc ba bc fa fc sa sc F)) (k : Nat) (x : Int × Int) (hk : A.fins[k]? = some x) => finAtR (hx.cast (show _ = slc 176 2 fa A.fins.length fc (finCells A.fins) * (G * (row p 51 (rcellsH A1 (some ⟨g, off, none⟩) oc ra rc ba bc fa fc sa sc) * (slc 39 5 (some ⟨g, off, none⟩) A1.T.length oc (xscells X) * (xslotsR X * (slc 3 1 ra A1.queue.length rc (A1.queue.map ival) * (slc 3 1 ba A1.buf.length bc (A1.buf.map ival) * (slc 3 1 sa A1.watch.length sc (A1.watch.map ival) * F))))))) by unfold opG rrest; rw [hf1]; ac_rfl)) hk)
        have H0 := Lib.hid h0
        have HA1 := Lib.hid hA1
        have HX1 := Lib.hid hX1
        clear h3 op1 hX1 hf1 h0 hA1 h2 HQ
        generalize (wout A.queue ((j : Int) + 1)).length = wn at *
        clear c0 c1 d2 z0
        go_wp2_with fail
        go_loopw [5, 6] (fun ov iv wr => ∃ (k m : Nat) (a' : Option Addr) (c' : Nat), iv = .int .i64 k ∧ k ≤ A.fins.length ∧ ov = .slice a' m c' ∧ m ≤ k ∧ Hid ((finF (A.fins.take k) ((j : Int) + 1)).length = m) ∧ Sat w0 wr (slc 176 2 a' m c' (finCells (finF (A.fins.take k) ((j : Int) + 1))) * opG p A1 X (some ⟨g, off, none⟩) oc ra rc ba bc fa fc sa sc F)) (fun _ iv _ => A.fins.length - (intOf iv).toNat)
        case atStart => exact ⟨0, 0, none, 0, rfl, by omega, rfl, by omega, Lib.hid rfl, H0.out⟩
        case round =>
          clear k1 k1f
          obtain ⟨k, m, a', c', rfl, hk, rfl, hmk, hm, hs⟩ := hrel
          have c3 := HC3.out _ _ hs
          have hfb := HFX.out
          by_cases hlt : k < A.fins.length
          · obtain ⟨x, hx⟩ : ∃ x, A.fins[k]? = some x := ⟨A.fins[k]'(by omega), List.getElem?_eq_getElem _⟩
            obtain ⟨g3, off3, rfl, x0, x1⟩ := HFA.out _ _ hs k x hx
            obtain ⟨y, z⟩ := x
            dsimp only at x0 x1
            have htk : A.fins.take (k + 1) = A.fins.take k ++ [(y, z)] := by rw [List.take_add_one, hx]; rfl
            have hw := finF_snoc (A.fins.take k) ((j : Int) + 1) (y, z)
            rw [← htk] at hw
            dsimp only at hw
            by_cases hy : y = (j : Int) + 1
            · have fy : (y != (j : Int) + 1) = false := by simpa using hy
              rw [if_pos hy, List.append_nil] at hw
              have HW2 := Lib.hid hw
              clear hw htk hx hy
              go_wp2_with fail
              go_roundw
              case rel => exact ⟨k + 1, m, a', c', by go_num, by omega, rfl, by omega, Lib.hid (by rw [HW2.out]; exact hm.out), by rw [HW2.out]; exact hs⟩
              case measure => simp [intOf]; omega
            · have fy : (y != (j : Int) + 1) = true := by simpa using hy
              rw [if_neg hy] at hw
              have HW2 := Lib.hid hw
              have h1 := hs.alloc (.cells #[.int .i64 y, .int .i64 z] 176)
              have b0 : (wr.alloc (.cells #[.int .i64 y, .int .i64 z] 176)).cell? ⟨wr.heap.size, 0, none⟩ = some (.int .i64 y) := Sat.cell (T := 176) (cs := #[.int .i64 y, .int .i64 z]) h1 0 rfl
              have b1 : (wr.alloc (.cells #[.int .i64 y, .int .i64 z] 176)).cell? ⟨wr.heap.size, 1, none⟩ = some (.int .i64 z) := Sat.cell (T := 176) (cs := #[.int .i64 y, .int .i64 z]) h1 1 rfl
              clear hw htk hx hy
              go_wp2_with (at_builtin; refine wpList_pushFinR rfl _ _ rfl a' m c' (finF (A.fins.take k) ((j : Int) + 1)) rfl h1.p2 wr.heap.size 1 (y, z) rfl b0 b1 (by omega) ?_; intro a'' c'' w4 h4)
              go_roundw
              case rel => exact ⟨k + 1, m + 1, a'', c'', by go_num, by omega, rfl, by omega, Lib.hid (by rw [HW2.out, List.length_append, hm.out]; rfl), by rw [HW2.out]; exact h4.drop2⟩
              case measure => simp [intOf]; omega
          · obtain rfl : k = A.fins.length := by omega
            rw [List.take_of_length_le (Nat.le_refl _)] at hs hm
            have hm := hm.out
            subst hm
            have hx := HX.out.1
            have hjT : A1.T = A.T := by rw [HA1.out]
            have hjN := HX.out.2.1
            have k3 := hs.p2.cell (i := 3) (v := .slice fa A1.fins.length fc) rfl
            have k3f := hs.p2.free 3
            have h5 := hs.p2.store (i := 3) (.slice a' (finF A.fins ((j : Int) + 1)).length c')
            have c0 := h5.cell (i := 0) (v := .slice (some ⟨g, off, none⟩) A1.T.length oc) rfl
            rw [hjT] at c0
            obtain ⟨_, _, e1, d0, d1, d2, d3, d4⟩ := objAtX h5.p3 hx
            cases e1
            dsimp only at d0 d1 d2 d3 d4
            have f0 := slcO_free h5.p3 hx (j := 0) (by omega)
            have f1 := slcO_free h5.p3 hx (j := 1) (by omega)
            have f2 := slcO_free h5.p3 hx (j := 2) (by omega)
            have f3 := slcO_free h5.p3 hx (j := 3) (by omega)
            have f4 := slcO_free h5.p3 hx (j := 4) (by omega)
            rw [Nat.add_zero] at f0
            have h6 := setZero h5.p3 hx (by rw [hjT]; exact hjN)
            obtain ⟨R, hR1, hR2⟩ := xslotsR_sets hx
            have h7 := (Sat.drop (P := slc 176 2 fa A1.fins.length fc (finCells A1.fins)) (Sat.drop (P := slc 28 2 xa o.slots.length xc (avcells o.slots)) (h6.cast (show _ = slc 28 2 xa o.slots.length xc (avcells o.slots) * (slc 176 2 fa A1.fins.length fc (finCells A1.fins) * (row p 51 ((rcellsH A1 (some ⟨g, off, none⟩) oc ra rc ba bc fa fc sa sc).setIfInBounds 3 (.slice a' (finF A.fins ((j : Int) + 1)).length c')) * (slc 39 5 (some ⟨g, off, none⟩) A1.T.length oc (xscells (X.set j zX)) * (R * (slc 3 1 ra A1.queue.length rc (A1.queue.map ival) * (slc 3 1 ba A1.buf.length bc (A1.buf.map ival) * (slc 176 2 a' (finF A.fins ((j : Int) + 1)).length c' (finCells (finF A.fins ((j : Int) + 1))) * (slc 3 1 sa A1.watch.length sc (A1.watch.map ival) * F)))))))) by rw [hR1]; unfold rrest; ac_rfl)))).nilSlc (T := 28) (sz := 2)
            obtain ⟨A2, hA2⟩ : ∃ A2 : AHeap, A2 = { A1 with fins := finF A.fins ((j : Int) + 1), objs := fun k => if k = (j : Int) + 1 then none else A1.objs k, T := giveT A1.T ((j : Int) + 1) } := ⟨_, rfl⟩
            have op2 : ROpen w0 ((((((wr.setCell ⟨p, 3, none⟩ (.slice a' (finF A.fins ((j : Int) + 1)).length c')).setCell ⟨g, off + j * 5, none⟩ (.int .i64 0)).setCell ⟨g, off + j * 5 + 1, none⟩ (.int .i64 0)).setCell ⟨g, off + j * 5 + 2, none⟩ (.slice none 0 0)).setCell ⟨g, off + j * 5 + 3, none⟩ (.string (ByteArray.mk #[]))).setCell ⟨g, off + j * 5 + 4, none⟩ (.int .i64 0)) p A2 F (X.set j zX) (some ⟨g, off, none⟩) oc ra rc ba bc a' c' sa sc := by
              refine ⟨?_, h7.cast ?_⟩
              · rw [hA2]
                show _ = graphL _ (giveT A1.T ((j : Int) + 1)).length
                rw [giveT_length]
                exact graphL_set (by rw [hjT]; exact hjN) HX1.out (by unfold AHeap.obj; simp) (fun n hn => by unfold AHeap.obj; simp [hn])
              · rw [hR2 zX, hA2]
                show slc _ 2 none 0 0 [] * _ = row _ _ (rcellsH _ _ _ _ _ _ _ _ _ _ _) * (slc _ 5 _ (giveT A1.T ((j : Int) + 1)).length _ _ * (slc _ 2 none 0 0 [] * R * _))
                have er : rcellsH { A1 with fins := finF A.fins ((j : Int) + 1), objs := fun k => if k = (j : Int) + 1 then none else A1.objs k, T := giveT A1.T ((j : Int) + 1) } (some ⟨g, off, none⟩) oc ra rc ba bc a' c' sa sc = (rcellsH A1 (some ⟨g, off, none⟩) oc ra rc ba bc fa fc sa sc).setIfInBounds 3 (.slice a' (finF A.fins ((j : Int) + 1)).length c') := by unfold rcellsH; dsimp only; rw [giveT_length]; rfl
                rw [er, giveT_length]
                unfold rrest
                dsimp only
                ac_rfl
            have ef : A2.touch ((j : Int) + 1) = A.free ((j : Int) + 1) := by rw [hA2, HA1.out, HX.out.2.2.1]; rfl
            have HT := Lib.hid (ef ▸ r_touch (by rw [hA2, HA1.out]; exact hW) op2.shut ((j : Int) + 1))
            clear op2 h7 h6 h5 hR1 hR2 hs hx ef hA2 hm hmk
            generalize A1.T.length = N1 at *
            generalize (finF A.fins ((j : Int) + 1)).length = mf at *
            generalize A1.fins.length = n1 at *
            go_wp2_with fail
            refine HT.out.mono ?_
            rintro e w5 ⟨rfl, h8⟩
            go_wp2_with fail
            go_ret
            exact ⟨rfl, h8⟩
      · have hfb : A.freeB ((j : Int) + 1) = false := by unfold AHeap.freeB; rw [hobj, decide_eq_false hsl, Bool.and_false]
        obtain ⟨e1, e2⟩ := no hfb
        rw [e1, e2]
        have hs0 : decide (0 < o.slots.length) = true := by
          cases hh : o.slots with
          | nil => exact absurd hh hsl
          | cons _ _ => simp
        clear op hqq hx H ho e1 e2 hfb hobj no hsl hq hlen
        generalize o.slots.length = sn at *
        generalize A.T.length = N at *
        go_enter Try.func90, Try.ntmps90
        go_wp2_with fail
        go_ret
        exact ⟨rfl, h⟩
    · have hfb : A.freeB n = false := by unfold AHeap.freeB; rw [hq, decide_eq_false (by simpa using hqn)]; rfl
      obtain ⟨e1, e2⟩ := no hfb
      rw [e1, e2]
      have fq : (q0 != n) = true := by simpa using hqn
      clear op hqq H e1 e2 hfb no hqn hq hlen
      go_enter Try.func90, Try.ntmps90
      go_wp2_with fail
      go_ret
      exact ⟨rfl, h⟩
end
end Go.Proofs.Ytkpcngcegipalaa.Tw
