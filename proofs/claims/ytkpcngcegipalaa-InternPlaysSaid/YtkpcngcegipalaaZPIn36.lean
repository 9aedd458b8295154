/- tallowlaw17: both.do, texts. No condition. -/
import Derived.Test.YtkpcngcegipalaaZPIn33
import Derived.Test.YtkpcngcegipalaaZPIn35
namespace Go.Proofs.Ytkpcngcegipalaa.Tw
set_option linter.unusedVariables false
set_option linter.unusedSimpArgs false
open Go Go.RowKit Go.MapKept

/-- what holds between a heap, the program's map and the document's rows -/
structure IC (A : AHeap) (M : ByteArray → Option Int) (R : List ARow) (B : Int) (N : Nat) : Prop where
  H : HW A B
  hB : B ≤ 1000000
  hW : A.watch.length ≤ 2
  hM : rowM R = M
  hR : R.length ≤ N ∧ N ≤ 1000
  hx : ∀ x ∈ R, 0 ≤ x.2 ∧ x.2 ≤ 1000000
  tx : ∀ n o, A.objs n = some o → o.kind ≠ 5 → o.text = ByteArray.mk #[]
theorem rowM_mem {R : List ARow} {t : ByteArray} {n : Int} (h : rowM R t = some n) : (t, n) ∈ R := by
  unfold rowM at h
  cases hf : R.find? (fun x : ARow => decide (x.1 = t)) with
  | none => rw [hf] at h; cases h
  | some x =>
    rw [hf] at h
    simp at h
    have h1 := List.mem_of_find?_eq_some hf
    have h2 := List.find?_some hf
    simp at h2
    rw [← h, ← h2]; exact h1
theorem wrap32_small {n : Int} (h1 : 0 ≤ n) (h2 : n ≤ 1000000) : IntKind.i32.wrap n = n := wrap32_of (by omega) (by omega)
section
variable {A : AHeap} {M : ByteArray → Option Int} {R : List ARow} {B : Int} {N : Nat}
theorem IC.rf (c : IC A M R B N) (t : ByteArray) : rfB A R t = findOk A M t := by
  unfold rfB findOk findB findN strIs strO
  rw [c.hM]
  cases h : M t with
  | none => rfl
  | some n =>
    have hm := c.hx _ (rowM_mem (by rw [c.hM]; exact h))
    dsimp only at hm
    simp only [Option.getD_some, Option.isSome_some, Bool.true_and]
    rw [if_pos ⟨trivial, wrap32_small hm.1 hm.2⟩]
theorem IC.of (c : IC A M R B N) (t : ByteArray) : rofA A R t = A.of M t ∧ rowM (rofR A R t) = ofM A M t ∧ rofV A R t = ofV A M t := by
  have h1 := c.rf t
  unfold rofA rofR rofV AHeap.of ofM ofV
  rw [h1, c.hM]
  cases hf : findOk A M t with
  | true => exact ⟨rfl, c.hM, rfl⟩
  | false =>
    simp only [Bool.false_eq_true, if_false]
    cases hk : makeOk 5 t with
    | true =>
      refine ⟨by unfold AHeap.makeF; rw [hk], ?_, by unfold AHeap.makeV; rw [hk]⟩
      simp only [if_true]
      rw [rowM_set]
      funext u
      rw [c.hM]
    | false => exact ⟨by unfold AHeap.makeF; rw [hk], by simpa using c.hM, by unfold AHeap.makeV; rw [hk]⟩
theorem IC.str (c : IC A M R B N) (k n : Int) : (strX A k n).text = (if strIs A ⟨k, n⟩ then (strO A ⟨k, n⟩).text else ByteArray.mk #[]) ∧ decide ((strX A k n).kind = 5) = strIs A ⟨k, n⟩ := by
  have key : strO A ⟨k, n⟩ = strX A k n := by
    unfold strO strX
    dsimp only
    by_cases hk : k = 5
    · rw [if_pos hk]
      by_cases hw : IntKind.i32.wrap n = n
      · rw [if_pos ⟨hk, hw⟩]
      · rw [if_neg (fun q => hw q.2)]
        unfold AHeap.obj
        cases ho : A.objs n with
        | none => rfl
        | some o =>
          have := c.H.rng ho
          have := c.H.t
          have := c.hB
          exact absurd (wrap32_small (by omega) (by omega)) hw
    · rw [if_neg hk, if_neg (fun q => hk q.1)]
  unfold strIs
  rw [key]
  refine ⟨?_, rfl⟩
  by_cases h5 : (strX A k n).kind = 5
  · rw [if_pos (by simpa using h5)]
  · rw [if_neg (by simpa using h5)]
    unfold strX at h5 ⊢
    by_cases hk : k = 5
    · rw [if_pos hk] at h5 ⊢
      unfold AHeap.obj at h5 ⊢
      cases ho : A.objs n with
      | none => rfl
      | some o => rw [ho] at h5; exact c.tx n o ho h5
    · rw [if_neg hk]; rfl
theorem IC.slots (c : IC A M R B N) (v : AVal) : (strO A v).slots.length ≤ 2000000000 := by
  unfold strO
  split
  · unfold AHeap.obj
    cases ho : A.objs v.n with
    | none => simp [AObj.none]
    | some o => have := c.H.c _ o ho; have := c.hB; simp; omega
  · simp [AObj.none]
theorem tx_upd {A A' : AHeap} {n : Int} {o o' : AObj} (h : ∀ n o, A.objs n = some o → o.kind ≠ 5 → o.text = ByteArray.mk #[]) (ho : A.objs n = some o) (hk : o'.kind = o.kind) (ht : o'.text = o.text) (hobj : A'.objs = fun k => if k = n then some o' else A.objs k) :
    ∀ n o, A'.objs n = some o → o.kind ≠ 5 → o.text = ByteArray.mk #[] := by
  intro j x hx hkx
  rw [hobj] at hx
  by_cases e : j = n
  · simp [e] at hx; subst hx; rw [ht]; exact h n o ho (by rw [← hk]; exact hkx)
  · simp [e] at hx; exact h j x hx hkx
end
attribute [local go_sem] lookE lkE valUpon
section
variable {w0 w : World} {F : HP} {bb hp sp pp qp : Nat} {A : AHeap} {M : ByteArray → Option Int} {R : List ARow} {B : Int} {N : Nat}
theorem act17c {w0 w : World} {G : HP} {xb : Nat} {what vk vn : Int} {tx : ByteArray} (h : Sat w0 w (pt xb (.cells #[.int .i64 what, .string tx, .int .i64 vk, .int .i64 vn] 61 (0, 0)) * G)) :
    w.cell? ⟨xb, 0, none⟩ = some (.int .i64 what) ∧ w.cell? ⟨xb, 1, none⟩ = some (.string tx) ∧ w.cell? ⟨xb, 2, none⟩ = some (.int .i64 vk) ∧ w.cell? ⟨xb, 3, none⟩ = some (.int .i64 vn) :=
  have cc := fun i v hv => Sat.cell (T := 61) (cs := #[.int .i64 what, .string tx, .int .i64 vk, .int .i64 vn]) h i (v := v) hv
  ⟨cc 0 _ rfl, cc 1 _ rfl, cc 2 _ rfl, cc 3 _ rfl⟩
def clamp17 (vn : Int) : Int := if 0 < (if 1000 < vn then (1000 : Int) else vn) then (if 1000 < vn then (1000 : Int) else vn) else 0
theorem p_Of (c : IC A M R B N) (t : ByteArray) {v : AVal} (hv : ofV A M t = v) (h : Sat w0 w (heapR mN hp A * (strR sp hp M * F))) :
    Calls Try.prog 18 #[.pointer (some ⟨sp, 0, none⟩), .string t] w fun e w' => e = .returned (.agg #[.int .i64 v.kind, .int .i64 v.n]) ∧ Sat w0 w' (heapR mN hp (A.of M t) * (strR sp hp (ofM A M t) * F)) := by
  have hT := c.H.t
  have hB := c.hB
  have := str_Of t (knowsN F) h (c.slots _) (by omega) (fun o ho => by have := cnt_rng c.H ho; exact wrap_small (by omega) (by omega))
  rw [hv] at this
  exact this
theorem q_Of (c : IC A M R B N) (t : ByteArray) {v : AVal} (hv : ofV A M t = v) (h : Sat w0 w (refR13 pp A * (refS qp pp R * F))) :
    Calls Try.prog 87 #[.pointer (some ⟨qp, 0, none⟩), .string t] w fun e w' => e = .returned (.agg #[.int .i64 v.kind, .int .i64 v.n]) ∧ Sat w0 w' (refR13 pp (A.of M t) * (refS qp pp (rofR A R t) * F)) := by
  obtain ⟨e1, _, e3⟩ := c.of t
  have := ref_Of c.H c.hB (by have := c.hW; omega) h (by have := c.hR; omega) t (e3.trans hv)
  rw [e1] at this
  exact this
set_option maxRecDepth 100000 in
set_option maxHeartbeats 4000000 in
theorem i_do_0 (c : IC A M R B N) (h : Sat w0 w (row bb 58 #[.pointer (some ⟨hp, 0, none⟩), .pointer (some ⟨sp, 0, none⟩), .pointer (some ⟨pp, 0, none⟩), .pointer (some ⟨qp, 0, none⟩)] * (heapR mN hp (A) * (strR sp hp (M) * (refR13 pp (A) * (refS qp pp (R))))) * F)) (tx : ByteArray) (vk vn : Int) :
    Calls Try.prog 28 #[.pointer (some ⟨bb, 0, none⟩), .agg #[.int .i64 0, .string tx, .int .i64 vk, .int .i64 vn]] w fun e w' => e = .returned (.bool true) ∧ Sat w0 w' (row bb 58 #[.pointer (some ⟨hp, 0, none⟩), .pointer (some ⟨sp, 0, none⟩), .pointer (some ⟨pp, 0, none⟩), .pointer (some ⟨qp, 0, none⟩)] * (heapR mN hp (A.of M (txc tx 5000)) * (strR sp hp (ofM A M (txc tx 5000)) * (refR13 pp (A.of M (txc tx 5000)) * (refS qp pp (rofR A R (txc tx 5000)))))) * F) := by
  have hB := c.hB
  have hRl : R.length ≤ 1000000 := by have := c.hR; omega
  have hW : A.watch.length ≤ 1000000 := by have := c.hW; omega
  have h1 : Sat w0 (w.alloc (.cells #[.int .i64 0, .string tx, .int .i64 vk, .int .i64 vn] 61)) (row bb 58 #[.pointer (some ⟨hp, 0, none⟩), .pointer (some ⟨sp, 0, none⟩), .pointer (some ⟨pp, 0, none⟩), .pointer (some ⟨qp, 0, none⟩)] * (heapR mN hp A * (strR sp hp M * (refR13 pp A * (refS qp pp R * (pt w.heap.size (.cells #[.int .i64 0, .string tx, .int .i64 vk, .int .i64 vn] 61 (0, 0)) * (F))))))) := (h.alloc (.cells #[.int .i64 0, .string tx, .int .i64 vk, .int .i64 vn] 61)).cast (by ac_rfl)
  generalize hxb : w.heap.size = xb at *
  have C := Lib.hid c
  have ⟨c0, c1, c2, c3⟩ := act17c (h1.p6)
  obtain ⟨tn, htn⟩ : ∃ q : Nat, q = min tx.size 5000 := ⟨_, rfl⟩
  have htx : txc tx 5000 = tx.extract 0 tn := by unfold txc; rw [htn]
  have ht1 : (if (5000 : Int) < (tx.size : Int) then (5000 : Int) else (tx.size : Int)) = (tn : Int) := by split <;> omega
  have ht2 : min (tx.size : Int) 5000 = (tn : Int) := by omega
  have ht3 : tn ≤ tx.size := by omega
  have ht4 : ((tn : Int)).toNat = tn := rfl
  have ht5 : (tn : Int) ≤ (tx.size : Int) := by omega
  have ht6 : (0 : Int) ≤ (tn : Int) := by omega
  obtain ⟨qv, hqv⟩ : ∃ q, (if 1000 < vn then (1000 : Int) else vn) = q := ⟨_, rfl⟩
  obtain ⟨cv, hcv⟩ : ∃ q, (if 0 < qv then qv else (0 : Int)) = q := ⟨_, rfl⟩
  have HCV := Lib.hid (show clamp17 vn = cv from by unfold clamp17; rw [hqv, hcv])
  obtain ⟨tt, htt⟩ : ∃ q, tx.extract 0 tn = q := ⟨_, rfl⟩
  have HTT := Lib.hid (show txc tx 5000 = tt from by rw [htx, htt])
  clear h c htx htn
  obtain ⟨v, hv⟩ : ∃ v, ofV A M tt = v := ⟨_, rfl⟩
  have HV := Lib.hid hv
  rw [HTT.out]
  clear hv
  have HS0 := Lib.hid h1
  clear h1
  go_enter Try.func28, Try.ntmps28
  go_wp2_with fail
  clear c0 c1 c2 c3
  refine wp_gen fun a0 ha => ?_
  have hb0 : base a0 0 = .pointer (some ⟨bb, 0, none⟩) := by rw [ha]; rfl
  have hb5 : base a0 5 = .string tt := by rw [ha]; rfl
  have hsz0 : a0.tmps.size = 229 := by rw [ha]; rfl
  have HA0 := Lib.hid (And.intro hsz0 ha)
  clear ha hsz0
  refine GW.start (X := Option Addr × Nat) (w0 := w0) (B := [row bb 58 #[.pointer (some ⟨hp, 0, none⟩), .pointer (some ⟨sp, 0, none⟩), .pointer (some ⟨pp, 0, none⟩), .pointer (some ⟨qp, 0, none⟩)], heapR mN hp A, strR sp hp M, refR13 pp A, refS qp pp R, pt xb (.cells #[.int .i64 0, .string tx, .int .i64 vk, .int .i64 vn] 61 (0, 0)), F]) (a0 := a0) ?_
  refine GW.det (d := (some 38)) [] [] rfl (fun e => by rfl) ?_; apply Exists.intro; refine ⟨fun e w' F hs => ?_, ?_, ?_⟩
  · first | (go_simp; done) | (go_simp; rfl)
  · exact (fun _ _ _ => rfl)
  refine GW.det (d := (some 39)) [] [] rfl (fun e => by rfl) ?_; apply Exists.intro; refine ⟨fun e w' F hs => ?_, ?_, ?_⟩
  · first | (go_simp; done) | (go_simp; rfl)
  · exact (fun _ _ _ => rfl)
  refine GW.det (d := (some 40)) [] [] rfl (fun e => by rfl) ?_; apply Exists.intro; refine ⟨fun e w' F hs => ?_, ?_, ?_⟩
  · first | (go_simp; done) | (go_simp; rfl)
  · exact (fun _ _ _ => rfl)
  refine GW.det (d := (some 41)) [0] [] rfl (fun e => by rfl) ?_; apply Exists.intro; refine ⟨fun e w' F hs => ?_, ?_, ?_⟩
  · have y0 : w'.cell? ⟨bb, 1, none⟩ = some (.pointer (some ⟨sp, 0, none⟩)) := (show Sat w0 w' (row bb 58 #[.pointer (some ⟨hp, 0, none⟩), .pointer (some ⟨sp, 0, none⟩), .pointer (some ⟨pp, 0, none⟩), .pointer (some ⟨qp, 0, none⟩)] * F) from hs).cell 1 rfl; first | (go_simp; done) | (go_simp; rfl)
  · exact (fun _ _ _ => rfl)
  refine GW.det (d := (some 42)) [] [] rfl (fun e => by rfl) ?_; apply Exists.intro; refine ⟨fun e w' F hs => ?_, ?_, ?_⟩
  · first | (go_simp; done) | (go_simp; rfl)
  · exact (fun _ _ _ => rfl)
  refine GW.take (d := (some 43)) 5 (fun e => .agg #[.int .i64 v.kind, .int .i64 v.n]) (fun e => heapR mN hp (A.of M tt) * strR sp hp (ofM A M tt)) [] [1, 2] [] rfl rfl (fun e => by rfl) (fun e e' hl => by exact ⟨rfl, rfl⟩) (fun e w' F K hs hK => ?_) ?_
  · go_simp; (refine (p_Of C.out tt HV.out ((show Sat w0 w' (1 * ((heapR mN hp A * strR sp hp M) * F)) from hs).cast (by rw [one_mul, mul_assoc]))).mono ?_; rintro e2 w2 ⟨rfl, h2⟩; exact ⟨_, rfl, hK default _ (h2.cast (show _ = 1 * ((heapR mN hp (A.of M tt) * strR sp hp (ofM A M tt)) * F) by rw [one_mul, mul_assoc]))⟩)
  refine GW.det (d := (some 44)) [] [] rfl (fun e => by rfl) ?_; apply Exists.intro; refine ⟨fun e w' F hs => ?_, ?_, ?_⟩
  · first | (go_simp; done) | (go_simp; rfl)
  · exact (fun _ _ _ => rfl)
  refine GW.det (d := (some 45)) [] [] rfl (fun e => by rfl) ?_; apply Exists.intro; refine ⟨fun e w' F hs => ?_, ?_, ?_⟩
  · first | (go_simp; done) | (go_simp; rfl)
  · exact (fun _ _ _ => rfl)
  refine GW.det (d := (some 46)) [] [] rfl (fun e => by rfl) ?_; apply Exists.intro; refine ⟨fun e w' F hs => ?_, ?_, ?_⟩
  · first | (go_simp; done) | (go_simp; rfl)
  · exact (fun _ _ _ => rfl)
  refine GW.det (d := (some 47)) [0] [] rfl (fun e => by rfl) ?_; apply Exists.intro; refine ⟨fun e w' F hs => ?_, ?_, ?_⟩
  · have y0 : w'.cell? ⟨bb, 3, none⟩ = some (.pointer (some ⟨qp, 0, none⟩)) := (show Sat w0 w' (row bb 58 #[.pointer (some ⟨hp, 0, none⟩), .pointer (some ⟨sp, 0, none⟩), .pointer (some ⟨pp, 0, none⟩), .pointer (some ⟨qp, 0, none⟩)] * F) from hs).cell 3 rfl; first | (go_simp; done) | (go_simp; rfl)
  · exact (fun _ _ _ => rfl)
  refine GW.det (d := (some 48)) [] [] rfl (fun e => by rfl) ?_; apply Exists.intro; refine ⟨fun e w' F hs => ?_, ?_, ?_⟩
  · first | (go_simp; done) | (go_simp; rfl)
  · exact (fun _ _ _ => rfl)
  refine GW.take (d := (some 49)) 11 (fun e => .agg #[.int .i64 v.kind, .int .i64 v.n]) (fun e => refR13 pp (A.of M tt) * refS qp pp (rofR A R tt)) [] [3, 4] [] rfl rfl (fun e => by rfl) (fun e e' hl => by exact ⟨rfl, rfl⟩) (fun e w' F K hs hK => ?_) ?_
  · go_simp; (refine (q_Of C.out tt HV.out ((show Sat w0 w' (1 * ((refR13 pp A * refS qp pp R) * F)) from hs).cast (by rw [one_mul, mul_assoc]))).mono ?_; rintro e2 w2 ⟨rfl, h2⟩; exact ⟨_, rfl, hK default _ (h2.cast (show _ = 1 * ((refR13 pp (A.of M tt) * refS qp pp (rofR A R tt)) * F) by rw [one_mul, mul_assoc]))⟩)
  refine GW.det (d := (some 50)) [] [] rfl (fun e => by rfl) ?_; apply Exists.intro; refine ⟨fun e w' F hs => ?_, ?_, ?_⟩
  · first | (go_simp; done) | (go_simp; rfl)
  · exact (fun _ _ _ => rfl)
  refine GW.det (d := (some 4)) [] [] rfl (fun e => by rfl) ?_; apply Exists.intro; refine ⟨fun e w' F hs => ?_, ?_, ?_⟩
  · first | (go_simp; done) | (go_simp; rfl)
  · exact (fun _ _ _ => rfl)
  refine GW.done (sz := 229) [7 + 5, 7 + 11, 0, 6] (by kernel_rfl) (by kernel_rfl) HA0.out.1 (by rfl) HS0.out (by rfl) fun e w3 gg => ?_
  have ha := HA0.out.2
  subst ha
  clear HA0 hb0 hb5
  simp only [putL, Act.put, List.setIfInBounds_toArray, List.set_cons_zero, List.set_cons_succ]
  have h3 : Sat w0 w3 ((heapR mN hp (A.of M tt) * strR sp hp (ofM A M tt)) * ((refR13 pp (A.of M tt) * refS qp pp (rofR A R tt)) * (row bb 58 #[.pointer (some ⟨hp, 0, none⟩), .pointer (some ⟨sp, 0, none⟩), .pointer (some ⟨pp, 0, none⟩), .pointer (some ⟨qp, 0, none⟩)] * (F)))) := gg
  have HF := Lib.hid (show Sat w0 w3 (row bb 58 #[.pointer (some ⟨hp, 0, none⟩), .pointer (some ⟨sp, 0, none⟩), .pointer (some ⟨pp, 0, none⟩), .pointer (some ⟨qp, 0, none⟩)] * (heapR mN hp (A.of M tt) * (strR sp hp (ofM A M tt) * (refR13 pp (A.of M tt) * (refS qp pp (rofR A R tt))))) * F) from h3.cast (by ac_rfl))
  clear gg h3
  go_wp2_with fail
  go_ret
  exact ⟨rfl, HF.out⟩
set_option maxRecDepth 100000 in
set_option maxHeartbeats 4000000 in
theorem i_do_1 (c : IC A M R B N) (h : Sat w0 w (row bb 58 #[.pointer (some ⟨hp, 0, none⟩), .pointer (some ⟨sp, 0, none⟩), .pointer (some ⟨pp, 0, none⟩), .pointer (some ⟨qp, 0, none⟩)] * (heapR mN hp (A) * (strR sp hp (M) * (refR13 pp (A) * (refS qp pp (R))))) * F)) (tx : ByteArray) (vk vn : Int) :
    Calls Try.prog 28 #[.pointer (some ⟨bb, 0, none⟩), .agg #[.int .i64 1, .string tx, .int .i64 vk, .int .i64 vn]] w fun e w' => e = .returned (.bool true) ∧ Sat w0 w' (row bb 58 #[.pointer (some ⟨hp, 0, none⟩), .pointer (some ⟨sp, 0, none⟩), .pointer (some ⟨pp, 0, none⟩), .pointer (some ⟨qp, 0, none⟩)] * (heapR mN hp (A.of M (txc tx 5000)) * (strR sp hp (ofM A M (txc tx 5000)) * (refR13 pp (A.of M (txc tx 5000)) * (refS qp pp (rofR A R (txc tx 5000)))))) * F) := by
  have hB := c.hB
  have hRl : R.length ≤ 1000000 := by have := c.hR; omega
  have hW : A.watch.length ≤ 1000000 := by have := c.hW; omega
  have h1 : Sat w0 (w.alloc (.cells #[.int .i64 1, .string tx, .int .i64 vk, .int .i64 vn] 61)) (row bb 58 #[.pointer (some ⟨hp, 0, none⟩), .pointer (some ⟨sp, 0, none⟩), .pointer (some ⟨pp, 0, none⟩), .pointer (some ⟨qp, 0, none⟩)] * (heapR mN hp A * (strR sp hp M * (refR13 pp A * (refS qp pp R * (pt w.heap.size (.cells #[.int .i64 1, .string tx, .int .i64 vk, .int .i64 vn] 61 (0, 0)) * (F))))))) := (h.alloc (.cells #[.int .i64 1, .string tx, .int .i64 vk, .int .i64 vn] 61)).cast (by ac_rfl)
  generalize hxb : w.heap.size = xb at *
  have C := Lib.hid c
  have ⟨c0, c1, c2, c3⟩ := act17c (h1.p6)
  obtain ⟨tn, htn⟩ : ∃ q : Nat, q = min tx.size 5000 := ⟨_, rfl⟩
  have htx : txc tx 5000 = tx.extract 0 tn := by unfold txc; rw [htn]
  have ht1 : (if (5000 : Int) < (tx.size : Int) then (5000 : Int) else (tx.size : Int)) = (tn : Int) := by split <;> omega
  have ht2 : min (tx.size : Int) 5000 = (tn : Int) := by omega
  have ht3 : tn ≤ tx.size := by omega
  have ht4 : ((tn : Int)).toNat = tn := rfl
  have ht5 : (tn : Int) ≤ (tx.size : Int) := by omega
  have ht6 : (0 : Int) ≤ (tn : Int) := by omega
  obtain ⟨qv, hqv⟩ : ∃ q, (if 1000 < vn then (1000 : Int) else vn) = q := ⟨_, rfl⟩
  obtain ⟨cv, hcv⟩ : ∃ q, (if 0 < qv then qv else (0 : Int)) = q := ⟨_, rfl⟩
  have HCV := Lib.hid (show clamp17 vn = cv from by unfold clamp17; rw [hqv, hcv])
  obtain ⟨tt, htt⟩ : ∃ q, tx.extract 0 tn = q := ⟨_, rfl⟩
  have HTT := Lib.hid (show txc tx 5000 = tt from by rw [htx, htt])
  clear h c htx htn
  obtain ⟨v, hv⟩ : ∃ v, ofV A M tt = v := ⟨_, rfl⟩
  have HV := Lib.hid hv
  rw [HTT.out]
  clear hv
  have HS0 := Lib.hid h1
  clear h1
  go_enter Try.func28, Try.ntmps28
  go_wp2_with fail
  clear c0 c1 c2 c3
  refine wp_gen fun a0 ha => ?_
  have hb0 : base a0 0 = .pointer (some ⟨bb, 0, none⟩) := by rw [ha]; rfl
  have hb5 : base a0 5 = .string tt := by rw [ha]; rfl
  have hsz0 : a0.tmps.size = 229 := by rw [ha]; rfl
  have HA0 := Lib.hid (And.intro hsz0 ha)
  clear ha hsz0
  refine GW.start (X := Option Addr × Nat) (w0 := w0) (B := [row bb 58 #[.pointer (some ⟨hp, 0, none⟩), .pointer (some ⟨sp, 0, none⟩), .pointer (some ⟨pp, 0, none⟩), .pointer (some ⟨qp, 0, none⟩)], heapR mN hp A, strR sp hp M, refR13 pp A, refS qp pp R, pt xb (.cells #[.int .i64 1, .string tx, .int .i64 vk, .int .i64 vn] 61 (0, 0)), F]) (a0 := a0) ?_
  refine GW.det (d := (some 38)) [] [] rfl (fun e => by rfl) ?_; apply Exists.intro; refine ⟨fun e w' F hs => ?_, ?_, ?_⟩
  · first | (go_simp; done) | (go_simp; rfl)
  · exact (fun _ _ _ => rfl)
  refine GW.det (d := (some 39)) [] [] rfl (fun e => by rfl) ?_; apply Exists.intro; refine ⟨fun e w' F hs => ?_, ?_, ?_⟩
  · first | (go_simp; done) | (go_simp; rfl)
  · exact (fun _ _ _ => rfl)
  refine GW.det (d := (some 40)) [] [] rfl (fun e => by rfl) ?_; apply Exists.intro; refine ⟨fun e w' F hs => ?_, ?_, ?_⟩
  · first | (go_simp; done) | (go_simp; rfl)
  · exact (fun _ _ _ => rfl)
  refine GW.det (d := (some 41)) [0] [] rfl (fun e => by rfl) ?_; apply Exists.intro; refine ⟨fun e w' F hs => ?_, ?_, ?_⟩
  · have y0 : w'.cell? ⟨bb, 1, none⟩ = some (.pointer (some ⟨sp, 0, none⟩)) := (show Sat w0 w' (row bb 58 #[.pointer (some ⟨hp, 0, none⟩), .pointer (some ⟨sp, 0, none⟩), .pointer (some ⟨pp, 0, none⟩), .pointer (some ⟨qp, 0, none⟩)] * F) from hs).cell 1 rfl; first | (go_simp; done) | (go_simp; rfl)
  · exact (fun _ _ _ => rfl)
  refine GW.det (d := (some 42)) [] [] rfl (fun e => by rfl) ?_; apply Exists.intro; refine ⟨fun e w' F hs => ?_, ?_, ?_⟩
  · first | (go_simp; done) | (go_simp; rfl)
  · exact (fun _ _ _ => rfl)
  refine GW.take (d := (some 43)) 5 (fun e => .agg #[.int .i64 v.kind, .int .i64 v.n]) (fun e => heapR mN hp (A.of M tt) * strR sp hp (ofM A M tt)) [] [1, 2] [] rfl rfl (fun e => by rfl) (fun e e' hl => by exact ⟨rfl, rfl⟩) (fun e w' F K hs hK => ?_) ?_
  · go_simp; (refine (p_Of C.out tt HV.out ((show Sat w0 w' (1 * ((heapR mN hp A * strR sp hp M) * F)) from hs).cast (by rw [one_mul, mul_assoc]))).mono ?_; rintro e2 w2 ⟨rfl, h2⟩; exact ⟨_, rfl, hK default _ (h2.cast (show _ = 1 * ((heapR mN hp (A.of M tt) * strR sp hp (ofM A M tt)) * F) by rw [one_mul, mul_assoc]))⟩)
  refine GW.det (d := (some 44)) [] [] rfl (fun e => by rfl) ?_; apply Exists.intro; refine ⟨fun e w' F hs => ?_, ?_, ?_⟩
  · first | (go_simp; done) | (go_simp; rfl)
  · exact (fun _ _ _ => rfl)
  refine GW.det (d := (some 45)) [] [] rfl (fun e => by rfl) ?_; apply Exists.intro; refine ⟨fun e w' F hs => ?_, ?_, ?_⟩
  · first | (go_simp; done) | (go_simp; rfl)
  · exact (fun _ _ _ => rfl)
  refine GW.det (d := (some 46)) [] [] rfl (fun e => by rfl) ?_; apply Exists.intro; refine ⟨fun e w' F hs => ?_, ?_, ?_⟩
  · first | (go_simp; done) | (go_simp; rfl)
  · exact (fun _ _ _ => rfl)
  refine GW.det (d := (some 47)) [0] [] rfl (fun e => by rfl) ?_; apply Exists.intro; refine ⟨fun e w' F hs => ?_, ?_, ?_⟩
  · have y0 : w'.cell? ⟨bb, 3, none⟩ = some (.pointer (some ⟨qp, 0, none⟩)) := (show Sat w0 w' (row bb 58 #[.pointer (some ⟨hp, 0, none⟩), .pointer (some ⟨sp, 0, none⟩), .pointer (some ⟨pp, 0, none⟩), .pointer (some ⟨qp, 0, none⟩)] * F) from hs).cell 3 rfl; first | (go_simp; done) | (go_simp; rfl)
  · exact (fun _ _ _ => rfl)
  refine GW.det (d := (some 48)) [] [] rfl (fun e => by rfl) ?_; apply Exists.intro; refine ⟨fun e w' F hs => ?_, ?_, ?_⟩
  · first | (go_simp; done) | (go_simp; rfl)
  · exact (fun _ _ _ => rfl)
  refine GW.take (d := (some 49)) 11 (fun e => .agg #[.int .i64 v.kind, .int .i64 v.n]) (fun e => refR13 pp (A.of M tt) * refS qp pp (rofR A R tt)) [] [3, 4] [] rfl rfl (fun e => by rfl) (fun e e' hl => by exact ⟨rfl, rfl⟩) (fun e w' F K hs hK => ?_) ?_
  · go_simp; (refine (q_Of C.out tt HV.out ((show Sat w0 w' (1 * ((refR13 pp A * refS qp pp R) * F)) from hs).cast (by rw [one_mul, mul_assoc]))).mono ?_; rintro e2 w2 ⟨rfl, h2⟩; exact ⟨_, rfl, hK default _ (h2.cast (show _ = 1 * ((refR13 pp (A.of M tt) * refS qp pp (rofR A R tt)) * F) by rw [one_mul, mul_assoc]))⟩)
  refine GW.det (d := (some 50)) [] [] rfl (fun e => by rfl) ?_; apply Exists.intro; refine ⟨fun e w' F hs => ?_, ?_, ?_⟩
  · first | (go_simp; done) | (go_simp; rfl)
  · exact (fun _ _ _ => rfl)
  refine GW.det (d := (some 4)) [] [] rfl (fun e => by rfl) ?_; apply Exists.intro; refine ⟨fun e w' F hs => ?_, ?_, ?_⟩
  · first | (go_simp; done) | (go_simp; rfl)
  · exact (fun _ _ _ => rfl)
  refine GW.done (sz := 229) [7 + 5, 7 + 11, 0, 6] (by kernel_rfl) (by kernel_rfl) HA0.out.1 (by rfl) HS0.out (by rfl) fun e w3 gg => ?_
  have ha := HA0.out.2
  subst ha
  clear HA0 hb0 hb5
  simp only [putL, Act.put, List.setIfInBounds_toArray, List.set_cons_zero, List.set_cons_succ]
  have h3 : Sat w0 w3 ((heapR mN hp (A.of M tt) * strR sp hp (ofM A M tt)) * ((refR13 pp (A.of M tt) * refS qp pp (rofR A R tt)) * (row bb 58 #[.pointer (some ⟨hp, 0, none⟩), .pointer (some ⟨sp, 0, none⟩), .pointer (some ⟨pp, 0, none⟩), .pointer (some ⟨qp, 0, none⟩)] * (F)))) := gg
  have HF := Lib.hid (show Sat w0 w3 (row bb 58 #[.pointer (some ⟨hp, 0, none⟩), .pointer (some ⟨sp, 0, none⟩), .pointer (some ⟨pp, 0, none⟩), .pointer (some ⟨qp, 0, none⟩)] * (heapR mN hp (A.of M tt) * (strR sp hp (ofM A M tt) * (refR13 pp (A.of M tt) * (refS qp pp (rofR A R tt))))) * F) from h3.cast (by ac_rfl))
  clear gg h3
  go_wp2_with fail
  go_ret
  exact ⟨rfl, HF.out⟩
set_option maxRecDepth 100000 in
set_option maxHeartbeats 4000000 in
theorem i_do_2 (c : IC A M R B N) (h : Sat w0 w (row bb 58 #[.pointer (some ⟨hp, 0, none⟩), .pointer (some ⟨sp, 0, none⟩), .pointer (some ⟨pp, 0, none⟩), .pointer (some ⟨qp, 0, none⟩)] * (heapR mN hp (A) * (strR sp hp (M) * (refR13 pp (A) * (refS qp pp (R))))) * F)) (tx : ByteArray) (vk vn : Int) :
    Calls Try.prog 28 #[.pointer (some ⟨bb, 0, none⟩), .agg #[.int .i64 2, .string tx, .int .i64 vk, .int .i64 vn]] w fun e w' => e = .returned (.bool true) ∧ Sat w0 w' (row bb 58 #[.pointer (some ⟨hp, 0, none⟩), .pointer (some ⟨sp, 0, none⟩), .pointer (some ⟨pp, 0, none⟩), .pointer (some ⟨qp, 0, none⟩)] * (heapR mN hp (A.of M (txc tx 5000)) * (strR sp hp (ofM A M (txc tx 5000)) * (refR13 pp (A.of M (txc tx 5000)) * (refS qp pp (rofR A R (txc tx 5000)))))) * F) := by
  have hB := c.hB
  have hRl : R.length ≤ 1000000 := by have := c.hR; omega
  have hW : A.watch.length ≤ 1000000 := by have := c.hW; omega
  have h1 : Sat w0 (w.alloc (.cells #[.int .i64 2, .string tx, .int .i64 vk, .int .i64 vn] 61)) (row bb 58 #[.pointer (some ⟨hp, 0, none⟩), .pointer (some ⟨sp, 0, none⟩), .pointer (some ⟨pp, 0, none⟩), .pointer (some ⟨qp, 0, none⟩)] * (heapR mN hp A * (strR sp hp M * (refR13 pp A * (refS qp pp R * (pt w.heap.size (.cells #[.int .i64 2, .string tx, .int .i64 vk, .int .i64 vn] 61 (0, 0)) * (F))))))) := (h.alloc (.cells #[.int .i64 2, .string tx, .int .i64 vk, .int .i64 vn] 61)).cast (by ac_rfl)
  generalize hxb : w.heap.size = xb at *
  have C := Lib.hid c
  have ⟨c0, c1, c2, c3⟩ := act17c (h1.p6)
  obtain ⟨tn, htn⟩ : ∃ q : Nat, q = min tx.size 5000 := ⟨_, rfl⟩
  have htx : txc tx 5000 = tx.extract 0 tn := by unfold txc; rw [htn]
  have ht1 : (if (5000 : Int) < (tx.size : Int) then (5000 : Int) else (tx.size : Int)) = (tn : Int) := by split <;> omega
  have ht2 : min (tx.size : Int) 5000 = (tn : Int) := by omega
  have ht3 : tn ≤ tx.size := by omega
  have ht4 : ((tn : Int)).toNat = tn := rfl
  have ht5 : (tn : Int) ≤ (tx.size : Int) := by omega
  have ht6 : (0 : Int) ≤ (tn : Int) := by omega
  obtain ⟨qv, hqv⟩ : ∃ q, (if 1000 < vn then (1000 : Int) else vn) = q := ⟨_, rfl⟩
  obtain ⟨cv, hcv⟩ : ∃ q, (if 0 < qv then qv else (0 : Int)) = q := ⟨_, rfl⟩
  have HCV := Lib.hid (show clamp17 vn = cv from by unfold clamp17; rw [hqv, hcv])
  obtain ⟨tt, htt⟩ : ∃ q, tx.extract 0 tn = q := ⟨_, rfl⟩
  have HTT := Lib.hid (show txc tx 5000 = tt from by rw [htx, htt])
  clear h c htx htn
  obtain ⟨v, hv⟩ : ∃ v, ofV A M tt = v := ⟨_, rfl⟩
  have HV := Lib.hid hv
  rw [HTT.out]
  clear hv
  have HS0 := Lib.hid h1
  clear h1
  go_enter Try.func28, Try.ntmps28
  go_wp2_with fail
  clear c0 c1 c2 c3
  refine wp_gen fun a0 ha => ?_
  have hb0 : base a0 0 = .pointer (some ⟨bb, 0, none⟩) := by rw [ha]; rfl
  have hb5 : base a0 5 = .string tt := by rw [ha]; rfl
  have hsz0 : a0.tmps.size = 229 := by rw [ha]; rfl
  have HA0 := Lib.hid (And.intro hsz0 ha)
  clear ha hsz0
  refine GW.start (X := Option Addr × Nat) (w0 := w0) (B := [row bb 58 #[.pointer (some ⟨hp, 0, none⟩), .pointer (some ⟨sp, 0, none⟩), .pointer (some ⟨pp, 0, none⟩), .pointer (some ⟨qp, 0, none⟩)], heapR mN hp A, strR sp hp M, refR13 pp A, refS qp pp R, pt xb (.cells #[.int .i64 2, .string tx, .int .i64 vk, .int .i64 vn] 61 (0, 0)), F]) (a0 := a0) ?_
  refine GW.det (d := (some 38)) [] [] rfl (fun e => by rfl) ?_; apply Exists.intro; refine ⟨fun e w' F hs => ?_, ?_, ?_⟩
  · first | (go_simp; done) | (go_simp; rfl)
  · exact (fun _ _ _ => rfl)
  refine GW.det (d := (some 39)) [] [] rfl (fun e => by rfl) ?_; apply Exists.intro; refine ⟨fun e w' F hs => ?_, ?_, ?_⟩
  · first | (go_simp; done) | (go_simp; rfl)
  · exact (fun _ _ _ => rfl)
  refine GW.det (d := (some 40)) [] [] rfl (fun e => by rfl) ?_; apply Exists.intro; refine ⟨fun e w' F hs => ?_, ?_, ?_⟩
  · first | (go_simp; done) | (go_simp; rfl)
  · exact (fun _ _ _ => rfl)
  refine GW.det (d := (some 41)) [0] [] rfl (fun e => by rfl) ?_; apply Exists.intro; refine ⟨fun e w' F hs => ?_, ?_, ?_⟩
  · have y0 : w'.cell? ⟨bb, 1, none⟩ = some (.pointer (some ⟨sp, 0, none⟩)) := (show Sat w0 w' (row bb 58 #[.pointer (some ⟨hp, 0, none⟩), .pointer (some ⟨sp, 0, none⟩), .pointer (some ⟨pp, 0, none⟩), .pointer (some ⟨qp, 0, none⟩)] * F) from hs).cell 1 rfl; first | (go_simp; done) | (go_simp; rfl)
  · exact (fun _ _ _ => rfl)
  refine GW.det (d := (some 42)) [] [] rfl (fun e => by rfl) ?_; apply Exists.intro; refine ⟨fun e w' F hs => ?_, ?_, ?_⟩
  · first | (go_simp; done) | (go_simp; rfl)
  · exact (fun _ _ _ => rfl)
  refine GW.take (d := (some 43)) 5 (fun e => .agg #[.int .i64 v.kind, .int .i64 v.n]) (fun e => heapR mN hp (A.of M tt) * strR sp hp (ofM A M tt)) [] [1, 2] [] rfl rfl (fun e => by rfl) (fun e e' hl => by exact ⟨rfl, rfl⟩) (fun e w' F K hs hK => ?_) ?_
  · go_simp; (refine (p_Of C.out tt HV.out ((show Sat w0 w' (1 * ((heapR mN hp A * strR sp hp M) * F)) from hs).cast (by rw [one_mul, mul_assoc]))).mono ?_; rintro e2 w2 ⟨rfl, h2⟩; exact ⟨_, rfl, hK default _ (h2.cast (show _ = 1 * ((heapR mN hp (A.of M tt) * strR sp hp (ofM A M tt)) * F) by rw [one_mul, mul_assoc]))⟩)
  refine GW.det (d := (some 44)) [] [] rfl (fun e => by rfl) ?_; apply Exists.intro; refine ⟨fun e w' F hs => ?_, ?_, ?_⟩
  · first | (go_simp; done) | (go_simp; rfl)
  · exact (fun _ _ _ => rfl)
  refine GW.det (d := (some 45)) [] [] rfl (fun e => by rfl) ?_; apply Exists.intro; refine ⟨fun e w' F hs => ?_, ?_, ?_⟩
  · first | (go_simp; done) | (go_simp; rfl)
  · exact (fun _ _ _ => rfl)
  refine GW.det (d := (some 46)) [] [] rfl (fun e => by rfl) ?_; apply Exists.intro; refine ⟨fun e w' F hs => ?_, ?_, ?_⟩
  · first | (go_simp; done) | (go_simp; rfl)
  · exact (fun _ _ _ => rfl)
  refine GW.det (d := (some 47)) [0] [] rfl (fun e => by rfl) ?_; apply Exists.intro; refine ⟨fun e w' F hs => ?_, ?_, ?_⟩
  · have y0 : w'.cell? ⟨bb, 3, none⟩ = some (.pointer (some ⟨qp, 0, none⟩)) := (show Sat w0 w' (row bb 58 #[.pointer (some ⟨hp, 0, none⟩), .pointer (some ⟨sp, 0, none⟩), .pointer (some ⟨pp, 0, none⟩), .pointer (some ⟨qp, 0, none⟩)] * F) from hs).cell 3 rfl; first | (go_simp; done) | (go_simp; rfl)
  · exact (fun _ _ _ => rfl)
  refine GW.det (d := (some 48)) [] [] rfl (fun e => by rfl) ?_; apply Exists.intro; refine ⟨fun e w' F hs => ?_, ?_, ?_⟩
  · first | (go_simp; done) | (go_simp; rfl)
  · exact (fun _ _ _ => rfl)
  refine GW.take (d := (some 49)) 11 (fun e => .agg #[.int .i64 v.kind, .int .i64 v.n]) (fun e => refR13 pp (A.of M tt) * refS qp pp (rofR A R tt)) [] [3, 4] [] rfl rfl (fun e => by rfl) (fun e e' hl => by exact ⟨rfl, rfl⟩) (fun e w' F K hs hK => ?_) ?_
  · go_simp; (refine (q_Of C.out tt HV.out ((show Sat w0 w' (1 * ((refR13 pp A * refS qp pp R) * F)) from hs).cast (by rw [one_mul, mul_assoc]))).mono ?_; rintro e2 w2 ⟨rfl, h2⟩; exact ⟨_, rfl, hK default _ (h2.cast (show _ = 1 * ((refR13 pp (A.of M tt) * refS qp pp (rofR A R tt)) * F) by rw [one_mul, mul_assoc]))⟩)
  refine GW.det (d := (some 50)) [] [] rfl (fun e => by rfl) ?_; apply Exists.intro; refine ⟨fun e w' F hs => ?_, ?_, ?_⟩
  · first | (go_simp; done) | (go_simp; rfl)
  · exact (fun _ _ _ => rfl)
  refine GW.det (d := (some 4)) [] [] rfl (fun e => by rfl) ?_; apply Exists.intro; refine ⟨fun e w' F hs => ?_, ?_, ?_⟩
  · first | (go_simp; done) | (go_simp; rfl)
  · exact (fun _ _ _ => rfl)
  refine GW.done (sz := 229) [7 + 5, 7 + 11, 0, 6] (by kernel_rfl) (by kernel_rfl) HA0.out.1 (by rfl) HS0.out (by rfl) fun e w3 gg => ?_
  have ha := HA0.out.2
  subst ha
  clear HA0 hb0 hb5
  simp only [putL, Act.put, List.setIfInBounds_toArray, List.set_cons_zero, List.set_cons_succ]
  have h3 : Sat w0 w3 ((heapR mN hp (A.of M tt) * strR sp hp (ofM A M tt)) * ((refR13 pp (A.of M tt) * refS qp pp (rofR A R tt)) * (row bb 58 #[.pointer (some ⟨hp, 0, none⟩), .pointer (some ⟨sp, 0, none⟩), .pointer (some ⟨pp, 0, none⟩), .pointer (some ⟨qp, 0, none⟩)] * (F)))) := gg
  have HF := Lib.hid (show Sat w0 w3 (row bb 58 #[.pointer (some ⟨hp, 0, none⟩), .pointer (some ⟨sp, 0, none⟩), .pointer (some ⟨pp, 0, none⟩), .pointer (some ⟨qp, 0, none⟩)] * (heapR mN hp (A.of M tt) * (strR sp hp (ofM A M tt) * (refR13 pp (A.of M tt) * (refS qp pp (rofR A R tt))))) * F) from h3.cast (by ac_rfl))
  clear gg h3
  go_wp2_with fail
  go_ret
  exact ⟨rfl, HF.out⟩
set_option maxRecDepth 100000 in
set_option maxHeartbeats 4000000 in
theorem i_do_3 (c : IC A M R B N) (h : Sat w0 w (row bb 58 #[.pointer (some ⟨hp, 0, none⟩), .pointer (some ⟨sp, 0, none⟩), .pointer (some ⟨pp, 0, none⟩), .pointer (some ⟨qp, 0, none⟩)] * (heapR mN hp (A) * (strR sp hp (M) * (refR13 pp (A) * (refS qp pp (R))))) * F)) (tx : ByteArray) (vk vn : Int) :
    Calls Try.prog 28 #[.pointer (some ⟨bb, 0, none⟩), .agg #[.int .i64 3, .string tx, .int .i64 vk, .int .i64 vn]] w fun e w' => e = .returned (.bool true) ∧ Sat w0 w' (row bb 58 #[.pointer (some ⟨hp, 0, none⟩), .pointer (some ⟨sp, 0, none⟩), .pointer (some ⟨pp, 0, none⟩), .pointer (some ⟨qp, 0, none⟩)] * (heapR mN hp (A.of M (txc tx 5000)) * (strR sp hp (ofM A M (txc tx 5000)) * (refR13 pp (A.of M (txc tx 5000)) * (refS qp pp (rofR A R (txc tx 5000)))))) * F) := by
  have hB := c.hB
  have hRl : R.length ≤ 1000000 := by have := c.hR; omega
  have hW : A.watch.length ≤ 1000000 := by have := c.hW; omega
  have h1 : Sat w0 (w.alloc (.cells #[.int .i64 3, .string tx, .int .i64 vk, .int .i64 vn] 61)) (row bb 58 #[.pointer (some ⟨hp, 0, none⟩), .pointer (some ⟨sp, 0, none⟩), .pointer (some ⟨pp, 0, none⟩), .pointer (some ⟨qp, 0, none⟩)] * (heapR mN hp A * (strR sp hp M * (refR13 pp A * (refS qp pp R * (pt w.heap.size (.cells #[.int .i64 3, .string tx, .int .i64 vk, .int .i64 vn] 61 (0, 0)) * (F))))))) := (h.alloc (.cells #[.int .i64 3, .string tx, .int .i64 vk, .int .i64 vn] 61)).cast (by ac_rfl)
  generalize hxb : w.heap.size = xb at *
  have C := Lib.hid c
  have ⟨c0, c1, c2, c3⟩ := act17c (h1.p6)
  obtain ⟨tn, htn⟩ : ∃ q : Nat, q = min tx.size 5000 := ⟨_, rfl⟩
  have htx : txc tx 5000 = tx.extract 0 tn := by unfold txc; rw [htn]
  have ht1 : (if (5000 : Int) < (tx.size : Int) then (5000 : Int) else (tx.size : Int)) = (tn : Int) := by split <;> omega
  have ht2 : min (tx.size : Int) 5000 = (tn : Int) := by omega
  have ht3 : tn ≤ tx.size := by omega
  have ht4 : ((tn : Int)).toNat = tn := rfl
  have ht5 : (tn : Int) ≤ (tx.size : Int) := by omega
  have ht6 : (0 : Int) ≤ (tn : Int) := by omega
  obtain ⟨qv, hqv⟩ : ∃ q, (if 1000 < vn then (1000 : Int) else vn) = q := ⟨_, rfl⟩
  obtain ⟨cv, hcv⟩ : ∃ q, (if 0 < qv then qv else (0 : Int)) = q := ⟨_, rfl⟩
  have HCV := Lib.hid (show clamp17 vn = cv from by unfold clamp17; rw [hqv, hcv])
  obtain ⟨tt, htt⟩ : ∃ q, tx.extract 0 tn = q := ⟨_, rfl⟩
  have HTT := Lib.hid (show txc tx 5000 = tt from by rw [htx, htt])
  clear h c htx htn
  obtain ⟨v, hv⟩ : ∃ v, ofV A M tt = v := ⟨_, rfl⟩
  have HV := Lib.hid hv
  rw [HTT.out]
  clear hv
  have HS0 := Lib.hid h1
  clear h1
  go_enter Try.func28, Try.ntmps28
  go_wp2_with fail
  clear c0 c1 c2 c3
  refine wp_gen fun a0 ha => ?_
  have hb0 : base a0 0 = .pointer (some ⟨bb, 0, none⟩) := by rw [ha]; rfl
  have hb5 : base a0 5 = .string tt := by rw [ha]; rfl
  have hsz0 : a0.tmps.size = 229 := by rw [ha]; rfl
  have HA0 := Lib.hid (And.intro hsz0 ha)
  clear ha hsz0
  refine GW.start (X := Option Addr × Nat) (w0 := w0) (B := [row bb 58 #[.pointer (some ⟨hp, 0, none⟩), .pointer (some ⟨sp, 0, none⟩), .pointer (some ⟨pp, 0, none⟩), .pointer (some ⟨qp, 0, none⟩)], heapR mN hp A, strR sp hp M, refR13 pp A, refS qp pp R, pt xb (.cells #[.int .i64 3, .string tx, .int .i64 vk, .int .i64 vn] 61 (0, 0)), F]) (a0 := a0) ?_
  refine GW.det (d := (some 38)) [] [] rfl (fun e => by rfl) ?_; apply Exists.intro; refine ⟨fun e w' F hs => ?_, ?_, ?_⟩
  · first | (go_simp; done) | (go_simp; rfl)
  · exact (fun _ _ _ => rfl)
  refine GW.det (d := (some 39)) [] [] rfl (fun e => by rfl) ?_; apply Exists.intro; refine ⟨fun e w' F hs => ?_, ?_, ?_⟩
  · first | (go_simp; done) | (go_simp; rfl)
  · exact (fun _ _ _ => rfl)
  refine GW.det (d := (some 40)) [] [] rfl (fun e => by rfl) ?_; apply Exists.intro; refine ⟨fun e w' F hs => ?_, ?_, ?_⟩
  · first | (go_simp; done) | (go_simp; rfl)
  · exact (fun _ _ _ => rfl)
  refine GW.det (d := (some 41)) [0] [] rfl (fun e => by rfl) ?_; apply Exists.intro; refine ⟨fun e w' F hs => ?_, ?_, ?_⟩
  · have y0 : w'.cell? ⟨bb, 1, none⟩ = some (.pointer (some ⟨sp, 0, none⟩)) := (show Sat w0 w' (row bb 58 #[.pointer (some ⟨hp, 0, none⟩), .pointer (some ⟨sp, 0, none⟩), .pointer (some ⟨pp, 0, none⟩), .pointer (some ⟨qp, 0, none⟩)] * F) from hs).cell 1 rfl; first | (go_simp; done) | (go_simp; rfl)
  · exact (fun _ _ _ => rfl)
  refine GW.det (d := (some 42)) [] [] rfl (fun e => by rfl) ?_; apply Exists.intro; refine ⟨fun e w' F hs => ?_, ?_, ?_⟩
  · first | (go_simp; done) | (go_simp; rfl)
  · exact (fun _ _ _ => rfl)
  refine GW.take (d := (some 43)) 5 (fun e => .agg #[.int .i64 v.kind, .int .i64 v.n]) (fun e => heapR mN hp (A.of M tt) * strR sp hp (ofM A M tt)) [] [1, 2] [] rfl rfl (fun e => by rfl) (fun e e' hl => by exact ⟨rfl, rfl⟩) (fun e w' F K hs hK => ?_) ?_
  · go_simp; (refine (p_Of C.out tt HV.out ((show Sat w0 w' (1 * ((heapR mN hp A * strR sp hp M) * F)) from hs).cast (by rw [one_mul, mul_assoc]))).mono ?_; rintro e2 w2 ⟨rfl, h2⟩; exact ⟨_, rfl, hK default _ (h2.cast (show _ = 1 * ((heapR mN hp (A.of M tt) * strR sp hp (ofM A M tt)) * F) by rw [one_mul, mul_assoc]))⟩)
  refine GW.det (d := (some 44)) [] [] rfl (fun e => by rfl) ?_; apply Exists.intro; refine ⟨fun e w' F hs => ?_, ?_, ?_⟩
  · first | (go_simp; done) | (go_simp; rfl)
  · exact (fun _ _ _ => rfl)
  refine GW.det (d := (some 45)) [] [] rfl (fun e => by rfl) ?_; apply Exists.intro; refine ⟨fun e w' F hs => ?_, ?_, ?_⟩
  · first | (go_simp; done) | (go_simp; rfl)
  · exact (fun _ _ _ => rfl)
  refine GW.det (d := (some 46)) [] [] rfl (fun e => by rfl) ?_; apply Exists.intro; refine ⟨fun e w' F hs => ?_, ?_, ?_⟩
  · first | (go_simp; done) | (go_simp; rfl)
  · exact (fun _ _ _ => rfl)
  refine GW.det (d := (some 47)) [0] [] rfl (fun e => by rfl) ?_; apply Exists.intro; refine ⟨fun e w' F hs => ?_, ?_, ?_⟩
  · have y0 : w'.cell? ⟨bb, 3, none⟩ = some (.pointer (some ⟨qp, 0, none⟩)) := (show Sat w0 w' (row bb 58 #[.pointer (some ⟨hp, 0, none⟩), .pointer (some ⟨sp, 0, none⟩), .pointer (some ⟨pp, 0, none⟩), .pointer (some ⟨qp, 0, none⟩)] * F) from hs).cell 3 rfl; first | (go_simp; done) | (go_simp; rfl)
  · exact (fun _ _ _ => rfl)
  refine GW.det (d := (some 48)) [] [] rfl (fun e => by rfl) ?_; apply Exists.intro; refine ⟨fun e w' F hs => ?_, ?_, ?_⟩
  · first | (go_simp; done) | (go_simp; rfl)
  · exact (fun _ _ _ => rfl)
  refine GW.take (d := (some 49)) 11 (fun e => .agg #[.int .i64 v.kind, .int .i64 v.n]) (fun e => refR13 pp (A.of M tt) * refS qp pp (rofR A R tt)) [] [3, 4] [] rfl rfl (fun e => by rfl) (fun e e' hl => by exact ⟨rfl, rfl⟩) (fun e w' F K hs hK => ?_) ?_
  · go_simp; (refine (q_Of C.out tt HV.out ((show Sat w0 w' (1 * ((refR13 pp A * refS qp pp R) * F)) from hs).cast (by rw [one_mul, mul_assoc]))).mono ?_; rintro e2 w2 ⟨rfl, h2⟩; exact ⟨_, rfl, hK default _ (h2.cast (show _ = 1 * ((refR13 pp (A.of M tt) * refS qp pp (rofR A R tt)) * F) by rw [one_mul, mul_assoc]))⟩)
  refine GW.det (d := (some 50)) [] [] rfl (fun e => by rfl) ?_; apply Exists.intro; refine ⟨fun e w' F hs => ?_, ?_, ?_⟩
  · first | (go_simp; done) | (go_simp; rfl)
  · exact (fun _ _ _ => rfl)
  refine GW.det (d := (some 4)) [] [] rfl (fun e => by rfl) ?_; apply Exists.intro; refine ⟨fun e w' F hs => ?_, ?_, ?_⟩
  · first | (go_simp; done) | (go_simp; rfl)
  · exact (fun _ _ _ => rfl)
  refine GW.done (sz := 229) [7 + 5, 7 + 11, 0, 6] (by kernel_rfl) (by kernel_rfl) HA0.out.1 (by rfl) HS0.out (by rfl) fun e w3 gg => ?_
  have ha := HA0.out.2
  subst ha
  clear HA0 hb0 hb5
  simp only [putL, Act.put, List.setIfInBounds_toArray, List.set_cons_zero, List.set_cons_succ]
  have h3 : Sat w0 w3 ((heapR mN hp (A.of M tt) * strR sp hp (ofM A M tt)) * ((refR13 pp (A.of M tt) * refS qp pp (rofR A R tt)) * (row bb 58 #[.pointer (some ⟨hp, 0, none⟩), .pointer (some ⟨sp, 0, none⟩), .pointer (some ⟨pp, 0, none⟩), .pointer (some ⟨qp, 0, none⟩)] * (F)))) := gg
  have HF := Lib.hid (show Sat w0 w3 (row bb 58 #[.pointer (some ⟨hp, 0, none⟩), .pointer (some ⟨sp, 0, none⟩), .pointer (some ⟨pp, 0, none⟩), .pointer (some ⟨qp, 0, none⟩)] * (heapR mN hp (A.of M tt) * (strR sp hp (ofM A M tt) * (refR13 pp (A.of M tt) * (refS qp pp (rofR A R tt))))) * F) from h3.cast (by ac_rfl))
  clear gg h3
  go_wp2_with fail
  go_ret
  exact ⟨rfl, HF.out⟩
end
end Go.Proofs.Ytkpcngcegipalaa.Tw
