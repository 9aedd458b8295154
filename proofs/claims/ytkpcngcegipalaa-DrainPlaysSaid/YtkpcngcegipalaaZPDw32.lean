/- tallowref13: Swap. No condition. -/
import Derived.Test.YtkpcngcegipalaaZPDw31
namespace Go.Proofs.Ytkpcngcegipalaa.Tw
set_option linter.unusedVariables false
set_option linter.unusedSimpArgs false
open Go Go.RowKit Go.MapKept
section
variable {w0 w : World} {p : Nat} {A : AHeap} {F : HP} {B : Int} {X : List XObj} {oa : Option Addr} {oc : Nat} {qa : Option Addr} {qc : Nat} {ba : Option Addr} {bc : Nat} {fa : Option Addr} {fc : Nat} {sa : Option Addr} {sc : Nat}
theorem xscells_same {l : List XObj} {k : Nat} {x y : XObj} (hk : l[k]? = some x) (hv : xcells y = xcells x) : xscells (l.set k y) = xscells l := by
  induction l generalizing k with
  | nil => simp at hk
  | cons z l ih =>
    have e : ∀ (z : XObj) (l : List XObj), xscells (z :: l) = xcells z ++ xscells l := fun _ _ => rfl
    cases k with
    | zero => simp at hk; subst hk; rw [List.set_cons_zero, e, e, hv]
    | succ k => rw [List.set_cons_succ, e, e, ih (by simpa using hk)]
set_option maxRecDepth 100000 in
set_option maxHeartbeats 2000000 in
theorem r_Swap (H : HW A B) (hB : B ≤ 1000000) (hW : A.watch.length ≤ 1000000) (h : Sat w0 w (refR13 p A * F)) (n i k m : Int) {v : AVal} {e0 : Int} (hv : A.swapV n i ⟨k, m⟩ = v) (he : A.swapE n i ⟨k, m⟩ = e0) :
    Calls Try.prog 143 #[.pointer (some ⟨p, 0, none⟩), .int .i64 n, .int .i64 i, .agg #[.int .i64 k, .int .i64 m]] w fun e w' => e = .returned (.tuple #[.agg #[.int .i64 v.kind, .int .i64 v.n], .int .i64 e0]) ∧ Sat w0 w' (refR13 p (A.swapF n i ⟨k, m⟩) * F) := by
  subst hv he
  have h1 := (h.alloc (.cells #[.int .i64 k, .int .i64 m] 28)).alloc (.cells #[.int .i64 0, .int .i64 0] 28)
  rw [size_alloc] at h1
  have HA := Lib.hid (r_At H hB h1.p3 n i rfl rfl)
  generalize hb : w.heap.size = b at *
  cases hat : atV A n i with
  | none =>
    have e1 : A.swapF n i ⟨k, m⟩ = A := by unfold AHeap.swapF; rw [hat]
    have e2 : A.swapV n i ⟨k, m⟩ = ⟨0, 0⟩ := by unfold AHeap.swapV; rw [hat]
    have e3 : A.swapE n i ⟨k, m⟩ = 5 := by unfold AHeap.swapE; rw [hat]
    have e4 : A.atVV n i = ⟨0, 0⟩ := by unfold AHeap.atVV; rw [hat]; rfl
    have e5 : A.atE n i = 5 := by unfold AHeap.atE; rw [hat]
    rw [e1, e2, e3]
    rw [e4, e5] at HA
    clear e1 e2 e3 e4 e5 hat H h h1
    go_enter Try.func143, Try.ntmps143
    go_wp2_with fail
    refine HA.out.mono ?_
    rintro e w1 ⟨rfl, h2⟩
    have ⟨v0, v1, vf0, vf1⟩ := val2' h2.p2
    have hz := h2.p2.setVal 0 0
    have h3 := (h2.alloc (.cells #[.int .i64 0, .int .i64 0] 28)).p3
    have ⟨t0, t1, tf0, tf1⟩ := val2' h3
    have h4 := h3.setVal 0 0
    go_wp2_with fail
    exact bodyPost_cell_tmp rfl rfl rfl (load_val h4) rfl ⟨rfl, h4.drop.drop.p2.drop⟩
  | some u =>
    have e4 : A.atVV n i = u := by unfold AHeap.atVV; rw [hat]; rfl
    have e5 : A.atE n i = 0 := by unfold AHeap.atE; rw [hat]
    obtain ⟨uk, un⟩ := u
    rw [e4, e5] at HA
    dsimp only at HA
    cases ht : thereV A ⟨k, m⟩ with
    | false =>
      have e1 : A.swapF n i ⟨k, m⟩ = A := by
        unfold AHeap.swapF; rw [hat]
        cases ho : A.objs n with
        | none => rfl
        | some o => simp [ht]
      have e2 : A.swapV n i ⟨k, m⟩ = ⟨0, 0⟩ := by unfold AHeap.swapV; rw [hat]; simp [ht]
      have e3 : A.swapE n i ⟨k, m⟩ = 2 := by unfold AHeap.swapE; rw [hat]; simp [ht]
      rw [e1, e2, e3]
      have HV := Lib.hid (fun (w' : World) (G : HP) (hh : Sat w0 w' (refR13 p A * G)) => r_Value H hB hh k m ht)
      clear e1 e2 e3 e4 e5 hat h h1 H
      go_enter Try.func143, Try.ntmps143
      go_wp2_with fail
      refine HA.out.mono ?_
      rintro e w1 ⟨rfl, h2⟩
      have ⟨r0, r1⟩ := valR h2.p3
      have h3 := (h2.alloc (.cells #[.int .i64 uk, .int .i64 un] 28)).p2
      have ⟨q0, q1⟩ := valR h3.p4
      go_wp2_with fail
      refine (HV.out _ _ h3).mono ?_
      rintro e w2 ⟨rfl, h4⟩
      have ⟨t0, t1, tf0, tf1⟩ := val2' h4.p3
      have h5 := h4.p3.setVal 0 0
      go_wp2_with fail
      exact bodyPost_cell_tmp rfl rfl rfl (load_val h5) rfl ⟨rfl, h5.drop.p2.drop.p2.drop⟩
    | true =>
      cases ho : A.objs n with
      | none => unfold atV at hat; rw [ho] at hat; cases hat
      | some o =>
        have hi : 0 ≤ i ∧ o.slots[i.toNat]? = some ⟨uk, un⟩ := by
          unfold atV at hat; rw [ho] at hat
          dsimp only at hat
          split at hat
          · exact ⟨by assumption, hat⟩
          · cases hat
        have e1 : A.swapF n i ⟨k, m⟩ = (A.upd n { o with slots := o.slots.set i.toNat ⟨k, m⟩ }).touch n := by unfold AHeap.swapF; rw [hat, ho]; simp only [ht, if_true]; rfl
        have e2 : A.swapV n i ⟨k, m⟩ = ⟨uk, un⟩ := by unfold AHeap.swapV; rw [hat]; simp [ht]
        have e3 : A.swapE n i ⟨k, m⟩ = 0 := by unfold AHeap.swapE; rw [hat]; simp [ht]
        rw [e1, e2, e3]
        have hrng := obj_in H (n := n) (by rw [ho]; rfl)
        have hT := H.t
        have hcn := H.c n o ho
        obtain ⟨j, rfl⟩ : ∃ j : Nat, n = (j : Int) + 1 := ⟨(n - 1).toNat, by omega⟩
        obtain ⟨z, rfl⟩ : ∃ z : Nat, i = (z : Int) := ⟨i.toNat, by omega⟩
        rw [Int.toNat_natCast] at hi ⊢
        have hobj : A.obj ((j : Int) + 1) = o := by unfold AHeap.obj; rw [ho]; rfl
        have HV := Lib.hid (fun (w' : World) (G : HP) (hh : Sat w0 w' (refR13 p A * G)) => r_Value H hB hh k m ht)
        have HOB := Lib.hid (And.intro hobj (And.intro (show j < A.T.length by omega) hi.2))
        have hj1 : (j : Int) + 1 - 1 = j := by omega
        have hj2 : (0 : Int) ≤ (j : Int) := by omega
        have hj3 : (j : Int) < (A.T.length : Int) := by omega
        have hj4 : IntKind.i64.wrap (j : Int) = j := IntWalk.i64_in _ (by omega)
        have hz : z < o.slots.length := (List.getElem?_eq_some_iff.1 hi.2).1
        clear e1 e2 e3 e4 e5 hat h h1 H hi hobj ho ht
        go_enter Try.func143, Try.ntmps143
        go_wp2_with fail
        refine HA.out.mono ?_
        rintro e w1 ⟨rfl, h2⟩
        have ⟨r0, r1⟩ := valR h2.p3
        have h3 := (h2.alloc (.cells #[.int .i64 uk, .int .i64 un] 28)).p2
        have ⟨q0, q1⟩ := valR h3.p4
        go_wp2_with fail
        refine (HV.out _ _ h3).mono ?_
        rintro e w2 ⟨rfl, h4⟩
        obtain ⟨X, oa, oc, qa, qc, ba, bc, fa, fc, sa, sc, op⟩ := h4.openR
        obtain ⟨g, off, xa, xc, eoa, hx, d0, d1, d2, d3, d4⟩ := op.obj (k := j) HOB.out.2.1
        subst eoa
        have c0 := op.c0
        rw [HOB.out.1] at d2 hx
        obtain ⟨R, hR, hsl⟩ := op.slots hx
        obtain ⟨g2, off2, exa, x0, x1⟩ := valC hsl HOB.out.2.2
        dsimp only at x0 x1
        subst exa
        have ⟨s0, s1⟩ := valR h4.p4
        have hls := avcells_length o.slots
        obtain ⟨_, _, ex0, -, xf0⟩ := hsl.slcAt (j := z * 2) (List.getElem?_eq_getElem (by omega))
        cases ex0
        obtain ⟨_, _, ex1, -, xf1⟩ := hsl.slcAt (j := z * 2 + 1) (List.getElem?_eq_getElem (by omega))
        cases ex1
        rw [← Nat.add_assoc] at xf1
        have hs1 := (hsl.slcStore (j := z * 2) (by omega) (.int .i64 k)).slcStore (j := z * 2 + 1) (by omega) (.int .i64 m)
        rw [avcells_set o.slots z ⟨k, m⟩] at hs1
        rw [← Nat.add_assoc] at hs1
        have op3 : ROpen w0 _ p (A.upd ((j : Int) + 1) { o with slots := o.slots.set z ⟨k, m⟩ }) _ (X.set j ({ o with slots := o.slots.set z ⟨k, m⟩ }, some ⟨g2, off2, none⟩, xc)) _ oc qa qc ba bc fa fc sa sc := ROpen.putSlots (y := ({ o with slots := o.slots.set z ⟨k, m⟩ }, some ⟨g2, off2, none⟩, xc)) (R := R) op.hx HOB.out.2.1 (hR _) (hs1.cast (by rw [xscells_same hx (by simp [xcells])]; dsimp only; rw [List.length_set]))
        have HT := Lib.hid (r_touch (A := A.upd ((j : Int) + 1) { o with slots := o.slots.set z ⟨k, m⟩ }) hW op3.shut.drew ((j : Int) + 1))
        have hzs : (z : Int) < (o.slots.length : Int) := by omega
        clear op op3 hsl hs1 hx hR h2 h3 h4 d0 d1 d3 d4 hcn
        generalize o.slots.length = sn at *
        generalize A.T.length = N at *
        go_wp2_with fail
        refine wp_region_tail 12 (by kernel_rfl) (by kernel_rfl) ?_
        simp only [List.take_succ_cons, List.take_zero, List.drop_succ_cons, List.drop_zero]
        iterate 12 still_step
        refine wpStill_nil ?_
        go_wp2_with fail
        refine HT.out.mono ?_
        rintro e w3 ⟨rfl, h5⟩
        have ⟨u0, u1⟩ := valR h5.p2
        have ⟨t0, t1, tf0, tf1⟩ := val2' h5.p3
        have h6 := h5.p3.setVal uk un
        go_wp2_with fail
        exact bodyPost_cell_tmp rfl rfl rfl (load_val h6) rfl ⟨rfl, h6.drop.p2.drop.p2.drop⟩
end
end Go.Proofs.Ytkpcngcegipalaa.Tw
namespace Go.Proofs.Ytkpcngcegipalaa.Tw
set_option linter.unusedVariables false
set_option linter.unusedSimpArgs false
open Go Go.RowKit Go.MapKept
attribute [local go_sem] lookE lkE valUpon
section
variable {w0 w : World} {p : Nat} {A : AHeap} {F SR : HP} {B : Int} {X : List XObj} {oa : Option Addr} {oc : Nat} {qa : Option Addr} {qc : Nat} {ba : Option Addr} {bc : Nat} {fa : Option Addr} {fc : Nat} {sa : Option Addr} {sc : Nat}
theorem srcV_flat {a : Option Addr} {n c : Nat} {l : List AVal} (hS : SrcV w0 SR a n c l) (h : Sat w0 w (SR * F)) : (∀ ad, a = some ad → ∀ j u, (avcells l)[j]? = some u → w.cell? (ad.add j) = some u) ∧ (a = none → n = 0 ∧ c = 0) := by
  refine ⟨fun ad e j u hj => ?_, hS.2.2.1⟩
  have hlt : j < l.length * 2 := by have := (List.getElem?_eq_some_iff.1 hj).1; rwa [avcells_length] at this
  obtain ⟨i, hi⟩ : ∃ i, i = j / 2 := ⟨_, rfl⟩
  obtain ⟨x, hk⟩ : ∃ x, l[i]? = some x := ⟨l[i]'(by omega), List.getElem?_eq_getElem _⟩
  obtain ⟨g, off, ea, c0, c1⟩ := hS.1 _ _ h _ _ hk
  obtain ⟨e0, e1⟩ := avcells_get l _ _ hk
  rw [e] at ea; cases ea
  rw [addr_add]
  rcases Nat.mod_two_eq_zero_or_one j with hm | hm
  · obtain rfl : j = i * 2 := by omega
    rw [e0] at hj; cases hj
    exact c0
  · obtain rfl : j = i * 2 + 1 := by omega
    rw [e1] at hj; cases hj
    rw [← Nat.add_assoc]; exact c1
set_option maxRecDepth 100000 in
set_option maxHeartbeats 2000000 in
theorem r_Lay (H : HW A B) (hB : B ≤ 1000000) (hW : A.watch.length ≤ 1000000) (n : Int) {a : Option Addr} {sn c : Nat} {s : List AVal} (h : Sat w0 w (refR13 p A * (SR * F))) (hS : SrcV w0 SR a sn c s) (hn : sn ≤ 1000000) {r : Int} (hr : A.layE n s = r) :
    Calls Try.prog 144 #[.pointer (some ⟨p, 0, none⟩), .int .i64 n, .slice a sn c] w fun e w' => e = .returned (.int .i64 r) ∧ Sat w0 w' (refR13 p (A.layF n s) * (SR * F)) := by
  subst hr
  cases ho : A.objs n with
  | none =>
    have HC := Lib.hid (r_There H hB h n (b := false) (by rw [ho]; rfl))
    have e1 : A.layF n s = A := by unfold AHeap.layF; rw [ho]
    have e2 : A.layE n s = 5 := by unfold AHeap.layE; rw [ho]
    rw [e1, e2]
    clear e1 e2 ho H
    go_enter Try.func144, Try.ntmps144
    go_wp2_with fail
    refine HC.out.mono ?_
    rintro e w1 ⟨rfl, rfl⟩
    go_wp2_with fail
    go_ret
    exact ⟨rfl, h⟩
  | some o =>
    have HC := Lib.hid (r_There H hB h n (b := true) (by rw [ho]; rfl))
    have hrng := obj_in H (n := n) (by rw [ho]; rfl)
    have hT := H.t
    obtain ⟨j, rfl⟩ : ∃ j : Nat, n = (j : Int) + 1 := ⟨(n - 1).toNat, by omega⟩
    have hobj : A.obj ((j : Int) + 1) = o := by unfold AHeap.obj; rw [ho]; rfl
    have el : layB A o s = (!decide (o.kind = 5) && s.all (thereV A)) := rfl
    obtain ⟨X, oa, oc, qa, qc, ba, bc, fa, fc, sa, sc, op⟩ := h.openR
    obtain ⟨g, off, xa, xc, eoa, hx, d0, _⟩ := op.obj (k := j) (by omega)
    subst eoa
    have c0 := op.c0
    rw [hobj] at d0
    have hj1 : (j : Int) + 1 - 1 = j := by omega
    have hj2 : (0 : Int) ≤ (j : Int) := by omega
    have hj3 : (j : Int) < (A.T.length : Int) := by omega
    have hj4 : IntKind.i64.wrap (j : Int) = j := IntWalk.i64_in _ (by omega)
    by_cases hk5 : o.kind = 5
    · have e0 : layB A o s = false := by rw [el, decide_eq_true hk5]; rfl
      have e1 : A.layF ((j : Int) + 1) s = A := by unfold AHeap.layF; rw [ho]; simp [e0]
      have e2 : A.layE ((j : Int) + 1) s = 2 := by unfold AHeap.layE; rw [ho]; simp [e0]
      rw [e1, e2]
      have fk : (o.kind == 5) = true := by simpa using hk5
      clear op hx H ho e1 e2 e0 el hobj hk5
      generalize A.T.length = N at *
      go_enter Try.func144, Try.ntmps144
      go_wp2_with fail
      refine HC.out.mono ?_
      rintro e w1 ⟨rfl, rfl⟩
      go_wp2_with fail
      go_ret
      exact ⟨rfl, h⟩
    · have fk : (o.kind == 5) = false := by simpa using hk5
      have HOB := Lib.hid (And.intro hobj (And.intro (show j < A.T.length by omega) hT))
      have e1y : s.all (thereV A) = true → A.layF ((j : Int) + 1) s = (A.upd ((j : Int) + 1) { o with slots := s }).touch ((j : Int) + 1) ∧ A.layE ((j : Int) + 1) s = 0 := fun ha => by
        have e0 : layB A o s = true := by rw [el, decide_eq_false hk5, ha]; rfl
        exact ⟨by unfold AHeap.layF; rw [ho]; simp only [e0, if_true]; rfl, by unfold AHeap.layE; rw [ho]; simp [e0]⟩
      have e1n : s.all (thereV A) = false → A.layF ((j : Int) + 1) s = A ∧ A.layE ((j : Int) + 1) s = 2 := fun ha => by
        have e0 : layB A o s = false := by rw [el, ha, Bool.and_false]
        exact ⟨by unfold AHeap.layF; rw [ho]; simp [e0], by unfold AHeap.layE; rw [ho]; simp [e0]⟩
      have HE := Lib.hid (And.intro e1y e1n)
      have HS := Lib.hid (And.intro hS.2.1 (fun {w : World} {F : HP} (h : Sat w0 w (SR * F)) => srcV_flat hS h))
      have HSA := Lib.hid hS.1
      have HVT := Lib.hid (fun (w' : World) (G : HP) (k m : Int) (hh : Sat w0 w' (refR13 p A * G)) => r_Value H hB hh k m rfl)
      clear op hx H ho el hobj hk5 e1y e1n hS hrng
      go_enter Try.func144, Try.ntmps144
      go_wp2_with fail
      refine HC.out.mono ?_
      rintro e w1 ⟨rfl, rfl⟩
      go_wp2_with fail
      clear c0 d0 hj3
      go_loopw [7] (fun iv wr => ∃ k : Nat, iv = .int .i64 k ∧ k ≤ sn ∧ Hid ((s.take k).all (thereV A) = true) ∧ Sat w0 wr (refR13 p A * (SR * F))) (fun iv _ => sn - (intOf iv).toNat)
      case atStart => exact ⟨0, rfl, by omega, Lib.hid rfl, h⟩
      case round =>
        obtain ⟨k, rfl, hk, hb, hs⟩ := hrel
        by_cases hlt : k < sn
        · have hl := HS.out.1
          have ex : s[k]? = some (s[k]'(by omega)) := List.getElem?_eq_getElem _
          generalize s[k]'(by omega) = x at *
          obtain ⟨g3, off3, rfl, x0, x1⟩ := HSA.out _ _ hs.p2 k x ex
          obtain ⟨xk, xn⟩ := x
          dsimp only at x0 x1
          have HV := Lib.hid (HVT.out _ _ xk xn hs)
          have htk : s.take (k + 1) = s.take k ++ [⟨xk, xn⟩] := by rw [List.take_add_one, ex]; rfl
          have HX := Lib.hid (And.intro ex htk)
          clear ex htk hl
          cases ht : thereV A ⟨xk, xn⟩ with
          | true =>
            rw [ht] at HV
            have HT2 := Lib.hid ht
            clear ht
            go_wp2_with fail
            refine HV.out.mono ?_
            rintro e w2 ⟨rfl, h2⟩
            go_wp2_with fail
            go_roundw
            case rel => exact ⟨k + 1, by go_num, by omega, Lib.hid (by rw [HX.out.2, List.all_append, hb.out]; simp [HT2.out]), h2⟩
            case measure => simp [intOf]; omega
          | false =>
            rw [ht] at HV
            have hne : s.all (thereV A) = false := by
              cases hq : s.all (thereV A) with
              | false => rfl
              | true =>
                have := List.all_eq_true.1 hq _ (List.mem_of_getElem? HX.out.1)
                rw [ht] at this; cases this
            have HN := Lib.hid (HE.out.2 hne)
            clear ht hne
            go_wp2_with fail
            refine HV.out.mono ?_
            rintro e w2 ⟨rfl, h2⟩
            go_wp2_with fail
            go_ret
            exact ⟨by rw [HN.out.2]; rfl, by rw [HN.out.1]; exact h2⟩
        · obtain rfl : k = sn := by omega
          rename_i hk'
          have hall : s.all (thereV A) = true := by
            have h1 := hb.out
            rwa [List.take_of_length_le (by have := HS.out.1; omega)] at h1
          have HY := Lib.hid (HE.out.1 hall)
          obtain ⟨X, oa, oc, qa, qc, ba, bc, fa, fc, sa, sc, op⟩ := hs.openR
          obtain ⟨g, off, xa, xc, eoa, hx, _⟩ := op.obj (k := j) HOB.out.2.1
          subst eoa
          rw [HOB.out.1] at hx
          obtain ⟨R, hR, hsl⟩ := op.slots hx
          obtain ⟨RR, hRR⟩ : ∃ RR : HP, RR = slc 28 2 xa o.slots.length xc (avcells o.slots) * (R * rrest A qa qc ba bc fa fc sa sc F) := ⟨_, rfl⟩
          have h0 : Sat w0 wr (row p 51 (rcellsH A (some ⟨g, off, none⟩) oc qa qc ba bc fa fc sa sc) * (slc 39 5 (some ⟨g, off, none⟩) A.T.length oc (xscells X) * (SR * (RR)))) := hsl.cast (by rw [hRR]; unfold rrest; ac_rfl)
          have HX := Lib.hid hx
          have HJ := Lib.hid HOB.out.2.1
          have hOX := Lib.hid op.hx
          have HRR := Lib.hid hRR
          have HR2 := Lib.hid hR
          have hj3 : (j : Int) < (A.T.length : Int) := by have := HOB.out.2.1; omega
          clear op hx hsl hRR hR hs hall hb hlt
          go_wp2_with fail
          refine wp_gen fun a0 ha => ?_
          have hb0 : base a0 0 = .pointer (some ⟨p, 0, none⟩) := by rw [ha]; rfl
          have hb1 : base a0 1 = .int .i64 ((j : Int) + 1) := by rw [ha]; rfl
          have hb2 : base a0 2 = .slice a k c := by rw [ha]; rfl
          have hb8 : base a0 8 = .slice none 0 0 := by rw [ha]; rfl
          have hsz0 : a0.tmps.size = 50 := by rw [ha]; rfl
          have HA0 := Lib.hid (And.intro hsz0 ha)
          clear ha hsz0
          refine GW.start (X := Option Addr × Nat) (w0 := w0) (B := [row p 51 (rcellsH A (some ⟨g, off, none⟩) oc qa qc ba bc fa fc sa sc), slc 39 5 (some ⟨g, off, none⟩) A.T.length oc (xscells X), SR, RR]) (a0 := a0) ?_
          refine GW.det (d := (some 36)) [] [] rfl (fun e => by rfl) ?_; apply Exists.intro; refine ⟨fun e w' F hs => ?_, ?_, ?_⟩
          · first | (go_simp; done) | (go_simp; rfl)
          · exact (fun _ _ _ => rfl)
          refine GW.det (d := (some 37)) [] [] rfl (fun e => by rfl) ?_; apply Exists.intro; refine ⟨fun e w' F hs => ?_, ?_, ?_⟩
          · first | (go_simp; done) | (go_simp; rfl)
          · exact (fun _ _ _ => rfl)
          refine GW.det (d := (some 38)) [] [] rfl (fun e => by rfl) ?_; apply Exists.intro; refine ⟨fun e w' F hs => ?_, ?_, ?_⟩
          · first | (go_simp; done) | (go_simp; rfl)
          · exact (fun _ _ _ => rfl)
          refine GW.det (d := (some 39)) [0] [] rfl (fun e => by rfl) ?_; apply Exists.intro; refine ⟨fun e w' F hs => ?_, ?_, ?_⟩
          · have y0 : w'.cell? ⟨p, 0, none⟩ = some (.slice (some ⟨g, off, none⟩) A.T.length oc) := (show Sat w0 w' (row p 51 (rcellsH A (some ⟨g, off, none⟩) oc qa qc ba bc fa fc sa sc) * F) from hs).cell 0 rfl; first | (go_simp; done) | (go_simp; rfl)
          · exact (fun _ _ _ => rfl)
          refine GW.det (d := (some 40)) [] [] rfl (fun e => by rfl) ?_; apply Exists.intro; refine ⟨fun e w' F hs => ?_, ?_, ?_⟩
          · first | (go_simp; done) | (go_simp; rfl)
          · exact (fun _ _ _ => rfl)
          refine GW.det (d := (some 41)) [] [] rfl (fun e => by rfl) ?_; apply Exists.intro; refine ⟨fun e w' F hs => ?_, ?_, ?_⟩
          · first | (go_simp; done) | (go_simp; rfl)
          · exact (fun _ _ _ => rfl)
          refine GW.det (d := (some 42)) [] [] rfl (fun e => by rfl) ?_; apply Exists.intro; refine ⟨fun e w' F hs => ?_, ?_, ?_⟩
          · first | (go_simp; done) | (go_simp; rfl)
          · exact (fun _ _ _ => rfl)
          refine GW.det (d := (some 43)) [] [] rfl (fun e => by rfl) ?_; apply Exists.intro; refine ⟨fun e w' F hs => ?_, ?_, ?_⟩
          · first | (go_simp; done) | (go_simp; rfl)
          · exact (fun _ _ _ => rfl)
          refine GW.new (d := (some 44)) 8 (fun x => .slice x.1 k x.2) (fun x => slc 28 2 x.1 k x.2 (avcells s)) [2] rfl rfl (fun e => by rfl) (fun e w' F K hs hK => ?_) ?_
          · have hs := show Sat w0 w' (SR * F) from hs; refine wp_look (d := 44) (sz := 50) rfl HA0.out.1 (by decide) (by rfl) fun a1 ha1 => ?_; refine wp_catV (F := SR * F) _ _ rfl none 0 0 [] ((ha1 _).trans rfl) hs.nilSlc a k c s ((ha1 _).trans rfl) HS.out.1 (HS.out.2 hs) (by omega) fun a' c'' w2 h2 => ⟨rfl, _, rfl, ?_⟩; rw [Nat.zero_add] at h2 ⊢; exact hK (a', c'') _ (h2.cast (by rw [List.nil_append]; exact mul_left_comm _ _ _))
          refine GW.det (d := (some 45)) [] [] rfl (fun e => by rfl) ?_; apply Exists.intro; refine ⟨fun e w' F hs => ?_, ?_, ?_⟩
          · first | (go_simp; done) | (go_simp; rfl)
          · exact (fun _ _ _ => rfl)
          refine GW.det (d := (some 46)) [] [] rfl (fun e => by rfl) ?_; apply Exists.intro; refine ⟨fun e w' F hs => ?_, ?_, ?_⟩
          · first | (go_simp; done) | (go_simp; rfl)
          · exact (fun _ _ _ => rfl)
          refine GW.take (d := none) 11 (fun e => undef) (fun e => slc 39 5 (some ⟨g, off, none⟩) A.T.length oc (xscells (X.set j ({ o with slots := s }, (e 8).1, (e 8).2)))) [] [1] [8] rfl rfl (fun e => by rfl) (fun e e' hl => by simp only [hl 8 (by decide)]; exact ⟨trivial, trivial⟩) (fun e w' F K hs hK => ?_) ?_
          · have hs := show Sat w0 w' (slc 39 5 (some ⟨g, off, none⟩) A.T.length oc (xscells X) * F) from one_out hs; obtain ⟨g', off', e', _, _, y2, _, _⟩ := objAtX hs HX.out; cases e'; dsimp only at y2; have yf := slcO_free hs HX.out (j := 2) (by omega); go_simp; exact hK default _ (one_in (setSlots hs HX.out HJ.out s ((e 8).1, (e 8).2) HS.out.1))
          refine GW.done (sz := 50) [4 + 8, 0, 4 + 11, 3, 2] (by kernel_rfl) (by kernel_rfl) HA0.out.1 (by rfl) h0 (by rfl) fun e w3 gg => ?_
          have ha := HA0.out.2
          subst ha
          clear HA0 hb0 hb1 hb2 hb8 h0
          simp only [putL, Act.put, List.setIfInBounds_toArray, List.set_cons_zero, List.set_cons_succ]
          have h3 : Sat w0 w3 (slc 28 2 (e 8).1 k (e 8).2 (avcells s) * (row p 51 (rcellsH A (some ⟨g, off, none⟩) oc qa qc ba bc fa fc sa sc) * (slc 39 5 (some ⟨g, off, none⟩) A.T.length oc (xscells (X.set j ({ o with slots := s }, (e 8).1, (e 8).2))) * (RR * SR)))) := gg
          clear gg
          generalize e 8 = y8 at *
          obtain ⟨xa', xc'⟩ := y8
          dsimp only at h3 ⊢
          have op3 : ROpen w0 w3 p (A.upd ((j : Int) + 1) { o with slots := s }) (SR * F) _ (some ⟨g, off, none⟩) oc qa qc ba bc fa fc sa sc := ROpen.putSlots (y := ({ o with slots := s }, xa', xc')) (R := R) hOX.out HJ.out (HR2.out _) (Sat.drop (P := slc 28 2 xa o.slots.length xc (avcells o.slots)) (h3.cast (by rw [HRR.out]; dsimp only; rw [HS.out.1]; unfold rrest; ac_rfl)))
          have HT := Lib.hid (r_touch (A := A.upd ((j : Int) + 1) { o with slots := s }) hW op3.shut ((j : Int) + 1))
          clear op3 h3
          go_wp2_with fail
          refine HT.out.mono ?_
          rintro e w4 ⟨rfl, h4⟩
          go_wp2_with fail
          go_ret
          exact ⟨by rw [HY.out.2]; rfl, by rw [HY.out.1]; exact h4⟩
end
end Go.Proofs.Ytkpcngcegipalaa.Tw
