/- drain: Drain, Step and Bound, whatever the number. No condition. -/
import Derived.Test.YtkpcngcegipalaaZPDw39
import Derived.Test.YtkpcngcegipalaaZPDw19
import Derived.Test.YtkpcngcegipalaaZPDw36
import Derived.Test.YtkpcngcegipalaaZPDw37
import Derived.Test.YtkpcngcegipalaaZPDw4
import Derived.Deep.Strs
namespace Go.Proofs.Ytkpcngcegipalaa.Tw
set_option linter.unusedVariables false
set_option linter.unusedSimpArgs false
open Go Go.RowKit Go.MapKept

def mN : Hp := fun _ => none
theorem knowsN (F : HP) : Knows mN F := Knows.none F
section
variable {w0 w : World} {p : Nat} {A : AHeap} {F : HP} {B : Int}
theorem w_Drain (H : HW A B) (hB : B ≤ 1000000) (n : Int) (hn : n ≤ 9223372036854775807) (h : Sat w0 w (heapR mN p A * F)) :
    Calls Try.prog 34 #[.pointer (some ⟨p, 0, none⟩), .int .i64 n] w fun e w' => e = .returned (.int .i64 ((drainN n.toNat A).1 : Nat)) ∧ Sat w0 w' (heapR mN p (drainN n.toNat A).2 * F) := by
  by_cases h1 : 1 ≤ n
  · refine (dr_Drain (X := 1) H hB (knowsN 1) n h1 hn (h.cast (by rw [one_mul]))).mono ?_
    rintro e w' ⟨rfl, h2⟩
    exact ⟨rfl, h2.cast (by rw [one_mul])⟩
  · have e : n.toNat = 0 := by omega
    rw [e]
    clear e
    have ha := ((h.alloc (.cells #[.pointer (some ⟨p, 0, none⟩)] 22)).alloc (.cells #[.int .i64 n] 3)).alloc (.cells #[.int .i64 0] 3)
    have hlt : n < 1 := by omega
    clear h1
    go_enter Try.func34, Try.ntmps34
    go_wp2
    go_ret
    exact ⟨rfl, ha.drop.drop.drop⟩
theorem w_Step (H : HW A B) (hB : B ≤ 1000000) (h : Sat w0 w (heapR mN p A * F)) :
    Calls Try.prog 38 #[.pointer (some ⟨p, 0, none⟩)] w fun e w' => e = .returned (.bool (!A.queue.isEmpty)) ∧ Sat w0 w' (heapR mN p A.stepF * F) := by
  have HC := Lib.hid (w_Drain H hB 1 (by omega) h)
  cases hq : A.queue with
  | nil =>
    have e1 : drainN (1 : Int).toNat A = (0, A) := by show (if A.queue = [] then (0, A) else _) = _; rw [if_pos hq]
    have e2 : A.stepF = A := by unfold AHeap.stepF; rw [hq]
    rw [e1] at HC
    rw [e2]
    go_enter Try.func38, Try.ntmps38
    go_wp2_with fail
    refine HC.out.mono ?_
    rintro e w' ⟨rfl, h2⟩
    go_wp2
    go_ret
    exact ⟨rfl, h2⟩
  | cons n q =>
    have e1 : drainN (1 : Int).toNat A = (1, A.stepF) := by show (if A.queue = [] then (0, A) else _) = _; rw [if_neg (by rw [hq]; simp)]; rfl
    rw [e1] at HC
    clear hq e1
    go_enter Try.func38, Try.ntmps38
    go_wp2_with fail
    refine HC.out.mono ?_
    rintro e w' ⟨rfl, h2⟩
    go_wp2
    go_ret
    exact ⟨rfl, h2⟩
theorem run_field_graph (a : Option Addr) (n c : Nat) (w : World) : (Instr.field 64 (Value.agg #[.slice a n c]) 0).run Try.prog w = .ok (.slice a n c) w := by
  unfold Instr.field
  simp [Sem.run_bind, run_underlying Try.underlying64, Result.andThen, asAgg, go_sem]
def boundO (o : AObj) : Nat := if o.kind = 0 then 0 else 2 + o.slots.length
def boundL (L : List AObj) : Nat := (L.map boundO).sum
def AHeap.boundF (A : AHeap) : Nat := boundL (graphL A (lastT A.T))
theorem boundL_snoc (L : List AObj) (o : AObj) : boundL (L ++ [o]) = boundL L + boundO o := by unfold boundL; simp
set_option maxRecDepth 100000 in
set_option maxHeartbeats 2000000 in
theorem w_Bound (H : HW A B) (hB : B ≤ 100000) (h : Sat w0 w (heapR mN p A * F)) :
    Calls Try.prog 37 #[.pointer (some ⟨p, 0, none⟩)] w fun e w' => e = .returned (.int .i64 (A.boundF : Nat)) ∧ Sat w0 w' (heapR mN p A * F) := by
  have hT := H.t
  have HC := Lib.hid (heap_Graph h (by omega) fun n o ho => by have := H.c n o ho; omega)
  have hN := lastT_le A.T
  have hsl : ∀ o ∈ graphL A (lastT A.T), (o.slots.length : Int) ≤ 100000 := fun o ho => by
    unfold graphL at ho
    obtain ⟨i, _, rfl⟩ := List.mem_map.1 ho
    unfold AHeap.obj
    cases e : A.objs ((i : Int) + 1) with
    | none => simp [AObj.none]
    | some o => have := H.c _ o e; show (o.slots.length : Int) ≤ _; omega
  have hle : ∀ k, (boundL ((graphL A (lastT A.T)).take k) : Int) ≤ 100002 * k := by
    intro k
    induction k with
    | zero => simp [boundL]
    | succ k ih =>
      rw [List.take_add_one]
      cases e : (graphL A (lastT A.T))[k]? with
      | none => simp; omega
      | some o =>
        have h1 := hsl o (List.mem_of_getElem? e)
        show (boundL (_ ++ [o]) : Int) ≤ _
        rw [boundL_snoc]
        unfold boundO
        split <;> omega
  have hgl : (graphL A (lastT A.T)).length = lastT A.T := by simp [graphL]
  unfold AHeap.boundF
  generalize graphL A (lastT A.T) = L at *
  have HS := Lib.hid (And.intro hsl (And.intro hle hgl))
  generalize lastT A.T = N at *
  have hN2 : N ≤ 100000 := by omega
  clear hsl hle hgl hT hN h
  go_enter Try.func37, Try.ntmps37
  go_wp2_with fail
  refine HC.out.mono ?_
  rintro e w1 ⟨ga, gc, rfl, h1⟩
  obtain ⟨X, ⟨hX1, hX2⟩, h2⟩ := h1.openObjs
  have H2 := Lib.hid h2
  have HX := Lib.hid hX1
  clear h1 h2 hX1 hX2
  have hfg := run_field_graph ga N gc w1
  go_wp2
  go_loopw [3, 10] (fun sv iv wr => ∃ k : Nat, sv = .int .i64 (boundL (L.take k) : Nat) ∧ iv = .int .i64 k ∧ k ≤ N ∧ Sat w0 wr (slc 39 5 ga N gc (xscells X) * (xslotsR X * (heapR mN p A * F)))) (fun _ iv _ => N - (intOf iv).toNat)
  case atStart => exact ⟨0, rfl, rfl, by omega, H2.out⟩
  case round =>
    obtain ⟨k, rfl, rfl, hk, hs⟩ := hrel
    by_cases hlt : k < N
    · have hb := HS.out.2.1 k
      have hXl : X.length = N := by have e := HS.out.2.2; rw [← HX.out, List.length_map] at e; exact e
      have hx : X[k]? = some (X[k]'(by omega)) := List.getElem?_eq_getElem _
      generalize X[k]'(by omega) = x at hx
      have hLx : L[k]? = some x.1 := by rw [← HX.out, List.getElem?_map, hx]; rfl
      obtain ⟨g, off, e1, d0, d1, d2, d3, d4⟩ := objAtX hs hx
      have htk : L.take (k + 1) = L.take k ++ [x.1] := by rw [List.take_add_one, hLx]; rfl
      have hbs := boundL_snoc (L.take k) x.1
      rw [← htk] at hbs
      have hsx := HS.out.1 x.1 (List.mem_of_getElem? hLx)
      obtain ⟨⟨ok, oc, osl, otx, om⟩, sa, sc⟩ := x
      dsimp only at d0 d1 d2 d3 d4 hsx hbs
      unfold boundO at hbs
      dsimp only at hbs
      generalize hosl : osl.length = sl at *
      cases e1
      generalize hbk : boundL (L.take k) = bk at *
      have HTK := Lib.hid hbs
      have hal := hs.alloc (.cells #[.int .i64 ok, .int .i64 oc, .slice sa sl sc, .string otx, .int .i64 om] 39)
      have HAL := Lib.hid hal.drop
      clear hal hs hXl hx hLx htk hosl hbk hbs
      by_cases hk0 : ok = 0
      · have f1 : (ok != 0) = false := by simp [hk0]
        have HK0 := Lib.hid hk0
        clear hk0
        go_wp2
        go_round
        case rel => exact ⟨k + 1, by rw [HTK.out, if_pos HK0.out]; rfl, by go_num, by omega, HAL.out⟩
        case measure => simp [intOf]; omega
      · have f1 : (ok != 0) = true := by simp [hk0]
        have HK0 := Lib.hid hk0
        clear hk0
        go_wp2
        go_round
        case rel => exact ⟨k + 1, by rw [HTK.out, if_neg HK0.out]; go_num, by go_num, by omega, HAL.out⟩
        case measure => simp [intOf]; omega
    · have hkn : k = N := by omega
      subst hkn
      have e : L.take k = L := List.take_of_length_le (by have := HS.out.2.2; omega)
      rw [e]
      clear e
      go_wp2
      go_ret
      exact ⟨rfl, hs.drop.drop⟩
end
end Go.Proofs.Ytkpcngcegipalaa.Tw
namespace Go.Proofs.Ytkpcngcegipalaa.Tw
set_option linter.unusedVariables false
set_option linter.unusedSimpArgs false
open Go Go.RowKit Go.MapKept

section
variable {w0 w : World} {F : HP} {p : Nat} {A : AHeap} {B : Int}
theorem popF_watch (A : AHeap) (n : Int) : (A.popF n).watch = A.watch := by
  unfold AHeap.popF
  repeat' split
  all_goals rfl
theorem stepF_watch (A : AHeap) (h : A.watch.length ≤ 2) : A.stepF.watch = A.watch := by
  have e1 : ∀ n, (A.finF n).watch = A.watch := fun n => by unfold AHeap.finF; repeat' split
                                                           all_goals rfl
  have e2 : ∀ n, (A.freeF n).watch = A.watch := fun n => by unfold AHeap.freeF; split <;> rfl
  have e3 : ∀ n, (A.popF n).watch = A.watch := fun n => by unfold AHeap.popF; repeat' split
                                                           all_goals rfl
  have e4 : ∀ (A : AHeap) v, (A.drop v).watch = A.watch := fun A v => by
    unfold AHeap.drop
    split
    · rfl
    · dsimp only
      repeat' split
      all_goals rfl
  unfold AHeap.stepF
  split
  · rfl
  · unfold AHeap.doF
    split
    · exact e1 _
    · rw [e4]; exact e3 _
    · exact e2 _
theorem stepN_watch (A : AHeap) (h : A.watch.length ≤ 2) : ∀ k, (stepN k A).watch.length ≤ 2
  | 0 => h
  | k + 1 => by
    have := stepN_watch A h k
    show (stepN k A).stepF.watch.length ≤ 2
    rw [stepF_watch _ this]; exact this
set_option maxRecDepth 100000 in
set_option maxHeartbeats 4000000 in
theorem r_Step (H : HW A B) (hB : B ≤ 1000000) (hW : A.watch.length ≤ 1000000) (h : Sat w0 w (refR13 p A * F)) {b : Bool} (hb : (!A.queue.isEmpty) = b) :
    Calls Try.prog 102 #[.pointer (some ⟨p, 0, none⟩)] w fun e w' => e = .returned (.bool b) ∧ Sat w0 w' (refR13 p A.stepF * F) := by
  obtain ⟨X, oa, oc, qa, qc, ba, bc, fa, fc, sa, sc, op⟩ := h.openR
  have c1 := op.c1
  cases hq : A.queue with
  | nil =>
    rw [hq] at c1 hb
    have e1 : A.stepF = A := by unfold AHeap.stepF; rw [hq]
    rw [e1]
    have hb' : b = false := by rw [← hb]; rfl
    subst hb'
    rw [List.length_nil] at c1
    clear op H e1 hq hb
    go_enter Try.func102, Try.ntmps102
    go_wp2_with fail
    go_ret
    exact ⟨rfl, h⟩
  | cons n q =>
    have hb' : b = true := by rw [← hb, hq]; rfl
    subst hb'
    obtain ⟨o, ho, -⟩ := H.q1 n (by rw [hq]; simp)
    have hob : A.obj n = o := by unfold AHeap.obj; rw [ho]; rfl
    have hrng := obj_in H (n := n) (by rw [ho]; rfl)
    have hT := H.t
    have hcn := H.c n o ho
    have hql := H.ql
    obtain ⟨j, rfl⟩ : ∃ j : Nat, n = (j : Int) + 1 := ⟨(n - 1).toNat, by omega⟩
    have hlen : A.queue.length = q.length + 1 := by rw [hq]; rfl
    obtain ⟨R, eR⟩ := refO_q p A X oa oc qa qc ba bc fa fc sa sc
    have h2 := op.hs.cast (refO_F p A X oa oc qa qc ba bc fa fc sa sc F)
    rw [eR] at h2
    obtain ⟨gq, offq, eq, q0, _⟩ := intCells h2.assoc (k := 0) (x := (j : Int) + 1) (by rw [hq]; rfl)
    subst eq
    rw [Nat.add_zero] at q0
    obtain ⟨g, off, xa, xc, eoa, hx, d0, d1, d2, d3, d4⟩ := op.obj (k := j) (by omega)
    subst eoa
    have c0 := op.c0
    rw [hob] at d0 d1 d2 d3 d4
    rw [hlen] at c1
    rw [hlen] at hql
    have hj1 : (j : Int) + 1 - 1 = j := by omega
    have hj2 : (0 : Int) ≤ (j : Int) := by omega
    have hj3 : (j : Int) < (A.T.length : Int) := by omega
    have hj4 : IntKind.i64.wrap (j : Int) = j := IntWalk.i64_in _ (by omega)
    have opb := op.alloc (.cells #[.int .i64 o.kind, .int .i64 o.count, .slice xa o.slots.length xc, .string o.text, .int .i64 o.mark] 39)
    have hbx := opb.front
    have ⟨y0, y1, y2, y3, y4, _⟩ := ocells hbx
    generalize hbb : w.heap.size = bb at *
    by_cases hm : 0 < o.mark
    · have e1 : A.stepF = A.finF ((j : Int) + 1) := by unfold AHeap.stepF AHeap.doF AHeap.kind1; rw [hq]; dsimp only; rw [hob, if_pos hm]; rfl
      rw [e1]
      have HC := Lib.hid (r_Fin H hB hW opb.shut ((j : Int) + 1) rfl)
      clear op opb h H e1 hq hb ho hob hx hbx h2 eR hrng hlen
      generalize A.T.length = M at *
      go_enter Try.func102, Try.ntmps102
      go_wp2_with fail
      refine HC.out.mono ?_
      rintro e w1 ⟨rfl, h3⟩
      go_wp2_with fail
      go_ret
      exact ⟨rfl, h3.drop2⟩
    · by_cases hs : o.slots = []
      · have e1 : A.stepF = A.freeF ((j : Int) + 1) := by unfold AHeap.stepF AHeap.doF AHeap.kind1; rw [hq]; dsimp only; rw [hob, if_neg hm, if_pos hs]; rfl
        rw [e1]
        have hsl : o.slots.length = 0 := by rw [hs]; rfl
        have HC := Lib.hid (r_Free H hB hW opb.shut ((j : Int) + 1) rfl)
        rw [hsl] at d2 y2
        have hm1 : decide (0 < o.mark) = false := by simp; omega
        clear op h H e1 hq hb ho hob hx hbx h2 eR hrng hlen hs
        rw [hsl] at HC
        clear opb hsl
        generalize A.T.length = M at *
        go_enter Try.func102, Try.ntmps102
        go_wp2_with fail
        refine HC.out.mono ?_
        rintro e w1 ⟨rfl, h3⟩
        go_wp2_with fail
        go_ret
        exact ⟨rfl, h3.drop2⟩
      · have e1 : A.stepF = (A.popF ((j : Int) + 1)).drop (A.popV ((j : Int) + 1)) := by unfold AHeap.stepF AHeap.doF AHeap.kind1; rw [hq]; dsimp only; rw [hob, if_neg hm, if_neg hs]; rfl
        rw [e1]
        have hsl : ¬ o.slots.length = 0 := fun e => hs (List.eq_nil_of_length_eq_zero e)
        obtain ⟨v, hv⟩ : ∃ v, A.popV ((j : Int) + 1) = v := ⟨_, rfl⟩
        obtain ⟨e0, he0⟩ : ∃ e, A.popE ((j : Int) + 1) = e := ⟨_, rfl⟩
        rw [hv]
        have HC := Lib.hid (r_Pop H hB hW opb.shut ((j : Int) + 1) hv he0)
        have HD := Lib.hid (fun (w' : World) (G : HP) (hh : Sat w0 w' (refR13 p (A.popF ((j : Int) + 1)) * G)) => r_Drop (H.pop ((j : Int) + 1)) hB (by rw [popF_watch]; exact hW) hh v.kind v.n rfl)
        have hm1 : decide (0 < o.mark) = false := by simp; omega
        have hpos : (0 : Int) < (o.slots.length : Int) := by omega
        clear op opb h H e1 hq hb ho hob hx hbx h2 eR hrng hlen hs hv
        generalize A.T.length = M at *
        generalize o.slots.length = sl at *
        go_enter Try.func102, Try.ntmps102
        go_wp2_with fail
        refine HC.out.mono ?_
        rintro e w1 ⟨rfl, h3⟩
        have h4 := h3.alloc (.cells #[.int .i64 v.kind, .int .i64 v.n] 28)
        have ⟨v0, v1, _, _⟩ := val2' h4
        have HD2 := Lib.hid (HD.out _ _ h4.p2)
        generalize hb1 : w1.heap.size = b1 at *
        clear h3 h4 HD
        go_wp2_with fail
        refine HD2.out.mono ?_
        rintro e w2 ⟨rfl, h5⟩
        go_wp2_with fail
        go_ret
        exact ⟨rfl, (h5.drop2).drop2⟩
set_option maxRecDepth 100000 in
set_option maxHeartbeats 2000000 in
theorem r_Drain (H : HW A B) (hB : B ≤ 1000000) (hW : A.watch.length ≤ 2) (n : Int) (hn : n ≤ 9223372036854775807) (h : Sat w0 w (refR13 p A * F)) {k : Int} (hk : ((drainN n.toNat A).1 : Int) = k) :
    Calls Try.prog 103 #[.pointer (some ⟨p, 0, none⟩), .int .i64 n] w fun e w' => e = .returned (.int .i64 k) ∧ Sat w0 w' (refR13 p (drainN n.toNat A).2 * F) := by
  subst hk
  have HH := Lib.hid (fun k => H.steps k)
  have HWW := Lib.hid (fun k => show (stepN k A).watch.length ≤ 1000000 from by have := stepN_watch A hW k; omega)
  have HD := Lib.hid (fun k hk hq hx => drainN_of n.toNat k A hk hq hx)
  clear H hW
  go_enter Try.func103, Try.ntmps103
  go_wp2_with fail
  go_loopw [5] (fun iv wr => ∃ k : Nat, iv = .int .i64 k ∧ k ≤ n.toNat ∧ Hid (∀ i, i < k → (stepN i A).queue ≠ []) ∧ Sat w0 wr (refR13 p (stepN k A) * F)) (fun iv _ => n.toNat - (intOf iv).toNat)
  case atStart => exact ⟨0, rfl, by omega, Lib.hid (fun i hi => by omega), h⟩
  case round =>
    obtain ⟨k, rfl, hk, hqs, hs⟩ := hrel
    obtain ⟨X, oa, oc, qa, qc, ba, bc, fa, fc, sa, sc, op⟩ := hs.openR
    have c1 := op.c1
    clear op
    by_cases hlt : (k : Int) < n
    · cases hq : (stepN k A).queue with
      | nil =>
        rw [hq, List.length_nil] at c1
        have e1 := HD.out k hk hqs.out (.inr hq)
        have E1 := Lib.hid e1
        clear hq e1
        go_wp2_with fail
        go_ret
        exact ⟨by rw [E1.out]; rfl, by rw [E1.out]; exact hs⟩
      | cons y q =>
        have hne : (stepN k A).queue ≠ [] := by rw [hq]; simp
        have HST := Lib.hid (r_Step (HH.out k) hB (HWW.out k) hs rfl)
        rw [hq, List.length_cons] at c1
        have HQ : Hid (∀ i, i < k + 1 → (stepN i A).queue ≠ []) := Lib.hid (fun i hi => by
          rcases Nat.lt_or_ge i k with h1 | h1
          · exact hqs.out i h1
          · obtain rfl : i = k := by omega
            exact hne)
        clear hq hne hs hqs
        generalize q.length = ql at *
        go_wp2_with fail
        refine HST.out.mono ?_
        rintro e w2 ⟨rfl, h2⟩
        go_wp2_with fail
        go_roundw
        case rel => exact ⟨k + 1, by go_num, by omega, HQ, h2⟩
        case measure => simp [intOf]; omega
    · have e1 := HD.out k hk hqs.out (.inl (by omega))
      have E1 := Lib.hid e1
      clear e1
      go_wp2_with fail
      go_ret
      exact ⟨by rw [E1.out]; rfl, by rw [E1.out]; exact hs⟩
theorem boundL_le (H : HW A B) (hB : B ≤ 100000) : ∀ k, (boundL (graphL A k) : Int) ≤ 100002 * k := by
  intro k
  induction k with
  | zero => simp [boundL, graphL]
  | succ k ih =>
    have hgr : graphL A (k + 1) = graphL A k ++ [A.obj (k + 1)] := by unfold graphL; rw [List.range_succ, List.map_append]; rfl
    rw [hgr, boundL_snoc]
    have : (boundO (A.obj (k + 1)) : Int) ≤ 100002 := by
      unfold AHeap.obj
      cases ho : A.objs ((k : Int) + 1) with
      | none => show ((boundO AObj.none : Nat) : Int) ≤ _; decide
      | some o =>
        have hc := H.c _ o ho
        show (boundO o : Int) ≤ _
        unfold boundO
        split <;> omega
    omega
theorem boundL_last (H : HW A B) : ∀ k, lastT A.T ≤ k → boundL (graphL A k) = A.boundF
  | 0, hk => by
    have : lastT A.T = 0 := by omega
    unfold AHeap.boundF; rw [this]
  | k + 1, hk => by
    by_cases e : lastT A.T = k + 1
    · unfold AHeap.boundF; rw [e]
    · have ih := boundL_last H k (by omega)
      have hgr : graphL A (k + 1) = graphL A k ++ [A.obj (k + 1)] := by unfold graphL; rw [List.range_succ, List.map_append]; rfl
      rw [hgr, boundL_snoc, ih]
      have htk := H.ht ((k : Int) + 1)
      have ho : A.obj ((k : Int) + 1) = AObj.none := by
        cases hh : A.objs ((k : Int) + 1) with
        | none => unfold AHeap.obj; rw [hh]; rfl
        | some o2 =>
          rw [hh] at htk
          have h1 := lastT_ge A.T k ((tk_get A.T k).1 htk.symm)
          omega
      rw [ho]
      rfl
set_option maxRecDepth 100000 in
set_option maxHeartbeats 2000000 in
theorem r_Bound (H : HW A B) (hB : B ≤ 100000) (h : Sat w0 w (refR13 p A * F)) {k : Int} (hk : (A.boundF : Int) = k) :
    Calls Try.prog 45 #[.pointer (some ⟨p, 0, none⟩)] w fun e w' => e = .returned (.int .i64 k) ∧ Sat w0 w' (refR13 p A * F) := by
  subst hk
  have hT := H.t
  have hbe := boundL_last H A.T.length (lastT_le A.T)
  rw [← hbe]
  obtain ⟨X, oa, oc, qa, qc, ba, bc, fa, fc, sa, sc, op⟩ := h.openR
  have c0 := op.c0
  have HBL := Lib.hid (boundL_le H hB)
  have HOB := Lib.hid (fun (k : Nat) (hk : k < A.T.length) => op.obj hk)
  have HSL := Lib.hid (graphL_sl (N := A.T.length) H (show B ≤ 1000000 by omega))
  clear op H hbe
  go_enter Try.func45, Try.ntmps45
  go_wp2_with fail
  go_loop [3, 4] (fun sv iv => ∃ k : Nat, iv = .int .i64 k ∧ sv = .int .i64 ((boundL (graphL A k) : Nat) : Int) ∧ k ≤ A.T.length) (fun _ iv => A.T.length - (intOf iv).toNat)
  case atStart => exact ⟨0, rfl, rfl, by omega⟩
  case round =>
    obtain ⟨k, rfl, rfl, hk⟩ := hrel
    by_cases hlt : k < A.T.length
    · obtain ⟨g, off, xa, xc, rfl, _, d0, _, d2, _, _⟩ := HOB.out k hlt
      have hgr : graphL A (k + 1) = graphL A k ++ [A.obj (k + 1)] := by unfold graphL; rw [List.range_succ, List.map_append]; rfl
      have hsn : boundL (graphL A (k + 1)) = boundL (graphL A k) + boundO (A.obj (k + 1)) := by rw [hgr, boundL_snoc]
      have hb1 := HBL.out k
      have hb2 := HBL.out (k + 1)
      have hsl : (A.obj ((k : Int) + 1)).slots.length ≤ 1000000 := HSL.out _ (by unfold graphL; exact List.mem_map.2 ⟨k, List.mem_range.2 hlt, rfl⟩)
      have hlt3 : (k : Int) < (A.T.length : Int) := by omega
      generalize hss : boundL (graphL A (k + 1)) = s1 at *
      generalize boundL (graphL A k) = s0 at *
      have HSS := Lib.hid hss
      clear hss hgr
      generalize A.obj ((k : Int) + 1) = ob at *
      unfold boundO at hsn
      by_cases hk0 : ob.kind = 0
      · have fk : (ob.kind != 0) = false := by simpa using hk0
        rw [if_pos hk0] at hsn
        clear hk0
        go_wp2_with fail
        go_round
        case rel => exact ⟨k + 1, by go_num, by rw [HSS.out, hsn]; rfl, by omega⟩
        case measure => simp [intOf]; omega
      · have fk : (ob.kind != 0) = true := by simpa using hk0
        rw [if_neg hk0] at hsn
        clear hk0
        generalize ob.slots.length = sl at *
        go_wp2_with fail
        go_round
        case rel => exact ⟨k + 1, by go_num, by rw [HSS.out, hsn]; go_num, by omega⟩
        case measure => simp [intOf]; omega
    · obtain rfl : k = A.T.length := by omega
      go_wp2_with fail
      go_ret
      exact ⟨rfl, h⟩
end
end Go.Proofs.Ytkpcngcegipalaa.Tw
namespace Go.Proofs.Ytkpcngcegipalaa.Tw
set_option linter.unusedVariables false
set_option linter.unusedSimpArgs false
open Go Go.RowKit Go.MapKept Go.ChangeShapes Go.WideShapes Go.Deep

/-- the cells of an argument, wherever CR is held -/
def ArgAt (w0 : World) (CR : HP) (a : Option Addr) (cs : List Value) : Prop :=
  ∀ w' F j v, Sat w0 w' (CR * F) → cs[j]? = some v → ∃ g off, a = some ⟨g, off, none⟩ ∧ w'.cell? ⟨g, off + j, none⟩ = some v
theorem addr_of_cellR {w : World} {x : Addr} {v : Value} (h : w.cell? (x.add 0) = some v) : ∃ b off, x = ⟨b, off, none⟩ := by
  obtain ⟨b, off, sp⟩ := x
  cases sp with
  | none => exact ⟨b, off, rfl⟩
  | some s =>
    simp [Addr.add, World.cell?] at h
    split at h <;> simp at h
theorem flatten_get {sz : Nat} (hsz : 0 < sz) : ∀ (css : List (List Value)) (j : Nat) (v : Value), (∀ cs ∈ css, cs.length = sz) → css.flatten[j]? = some v → ∃ cs, css[j / sz]? = some cs ∧ cs[j % sz]? = some v
  | [], j, v, _, h => by simp at h
  | cs :: css, j, v, hl, h => by
    have h0 := hl cs (by simp)
    rw [List.flatten_cons] at h
    by_cases hj : j < sz
    · rw [List.getElem?_append_left (by omega)] at h
      refine ⟨cs, ?_, ?_⟩
      · rw [Nat.div_eq_of_lt hj]; rfl
      · rw [Nat.mod_eq_of_lt hj]; exact h
    · rw [List.getElem?_append_right (by omega), h0] at h
      obtain ⟨cs', h1, h2⟩ := flatten_get hsz css (j - sz) v (fun c hc => hl c (List.mem_cons_of_mem _ hc)) h
      refine ⟨cs', ?_, ?_⟩
      · have : j / sz = (j - sz) / sz + 1 := by
          rw [Nat.div_eq_sub_div hsz (by omega)]
        rw [this, List.getElem?_cons_succ]; exact h1
      · rw [Nat.mod_eq_sub_mod (by omega)]; exact h2
theorem of_forall_ex {α β : Type} {f : β → α} {R : β → Prop} : ∀ (l : List α), (∀ x ∈ l, ∃ y, R y ∧ x = f y) → ∃ r : List β, l = r.map f ∧ ∀ y ∈ r, R y
  | [], _ => ⟨[], rfl, by simp⟩
  | x :: l, h => by
    obtain ⟨y, hy, rfl⟩ := h x (by simp)
    obtain ⟨r, rfl, hr⟩ := of_forall_ex l fun z hz => h z (List.mem_cons_of_mem _ hz)
    exact ⟨y :: r, rfl, fun z hz => by
      rcases List.mem_cons.1 hz with rfl | hz
      · exact hy
      · exact hr z hz⟩
section
variable {H : Type} {enc : TypeId × Value → H} {P : Program} {w : World} {base : Nat} {held : Bool} {fuel : Nat} {x : DataW H × List MemPlace}
theorem open_recs {T e : TypeId} (hT : P.underlying T = some (.slice e)) {sz : Nat} (hs : P.cellsOf e = sz) (hsz : 0 < sz) {E : List Value → Prop}
    (hE : ∀ fuel cs x, DataW.trod enc P w base (fun _ => true) held fuel e cs = some x → E cs) {a : Option Addr} {len cap : Nat}
    (h : DataW.trod enc P w base (fun _ => true) held fuel T [.slice a len cap] = some x) :
    len ≤ cap ∧ cap ≤ maxLen ∧ ∃ css : List (List Value), css.length = len ∧ (∀ cs ∈ css, E cs) ∧ ArgAt w (Old w) a css.flatten := by
  rcases open_slice hT h with ⟨hcs, _⟩ | ⟨ad, l, c, m, n, D, Pl, hcs, _, hl, hm, hmm, _, hx⟩
  · simp at hcs
    obtain ⟨rfl, rfl, rfl⟩ := hcs
    exact ⟨Nat.le_refl _, Nat.zero_le _, [], rfl, by simp, fun w' F j v _ hj => by simp at hj⟩
  · simp at hcs
    obtain ⟨rfl, rfl, rfl⟩ := hcs
    rw [hs] at hx
    have hmc : m = cap := by rw [hmm]; rfl
    subst hmc
    have each : ∀ i, i < m → ∃ cs : List Value, cs.length = sz ∧ E cs ∧ ∀ j, j < sz → ∃ v, cs[j]? = some v ∧ w.cell? (ad.add (i * sz + j)) = some v := fun i hi => by
      obtain ⟨cs', hc, ht⟩ := hx i hi
      obtain ⟨_, hcl, hat⟩ := World.cells?_some hc
      refine ⟨cs', by omega, hE _ _ _ ht, fun j hj => ?_⟩
      have h1 := hat j (by omega)
      rw [Go.Deep.add_add] at h1
      refine ⟨_, List.getElem?_eq_getElem (by omega), ?_⟩
      simpa [hcl, hj] using h1
    let css : List (List Value) := (List.range len).map fun i => if hi : i < m then (each i hi).choose else []
    have hcss : ∀ k cs, css[k]? = some cs → ∃ hk : k < m, cs = (each k hk).choose := fun k cs hk => by
      have hkl : k < len := by
        have := (List.getElem?_eq_some_iff.1 hk).1
        simpa [css] using this
      have hkm : k < m := by omega
      refine ⟨hkm, ?_⟩
      simp [css, hkl, hkm] at hk
      exact hk.symm
    have hlen : ∀ cs ∈ css, cs.length = sz := fun cs hc => by
      obtain ⟨k, hk⟩ := List.mem_iff_getElem?.1 hc
      obtain ⟨h1, rfl⟩ := hcss k cs hk
      exact (each k h1).choose_spec.1
    refine ⟨hl, hm, css, by simp [css], fun cs hc => ?_, fun w' F j v hsat hj => ?_⟩
    · obtain ⟨k, hk⟩ := List.mem_iff_getElem?.1 hc
      obtain ⟨h1, rfl⟩ := hcss k cs hk
      exact (each k h1).choose_spec.2.1
    · obtain ⟨cs, h1, h2⟩ := flatten_get hsz css j v hlen hj
      obtain ⟨h3, rfl⟩ := hcss _ _ h1
      have h4 := (each _ h3).choose_spec.2.2 (j % sz) (Nat.mod_lt _ hsz)
      obtain ⟨v', h5, h6⟩ := h4
      rw [h2] at h5; cases h5
      have hm0 : 0 < m := Nat.lt_of_le_of_lt (Nat.zero_le _) h3
      obtain ⟨v0, _, h7⟩ := (each 0 hm0).choose_spec.2.2 0 hsz
      rw [Nat.zero_mul, Nat.zero_add] at h7
      obtain ⟨b, off, rfl⟩ := addr_of_cellR h7
      rw [addr_add, Nat.mul_comm, Nat.div_add_mod] at h6
      exact ⟨b, off, rfl, hsat.oldCell h6⟩
end
end Go.Proofs.Ytkpcngcegipalaa.Tw
