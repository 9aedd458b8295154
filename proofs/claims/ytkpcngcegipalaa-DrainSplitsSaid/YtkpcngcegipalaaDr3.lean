/- drain: the iterator over steps. No condition. -/
import Derived.Test.YtkpcngcegipalaaDr2
namespace Go.Proofs.Ytkpcngcegipalaa.Tw
set_option linter.unusedVariables false
set_option linter.unusedSimpArgs false
open Go Go.RowKit Go.MapKept
attribute [local go_sem] Oper.semAt_some

def doId : Nat → Nat
  | 0 => 136
  | 1 => 137
  | _ => 135
def stEnc (x : Int × Nat) : Array Value := #[.int .i64 x.1, .func (.func (doId x.2)) #[] #[]]
def stR (m : Hp) (p hb : Nat) (X : HP) (A : AHeap) (k : Nat) : HP := pt hb (.cells #[.pointer (some ⟨p, 0, none⟩)] 22 (0, 0)) * (heapR m p (stepN k A) * X)
def stOk (A : AHeap) (pre : List (Int × Nat)) (x : Int × Nat) : Prop := (∃ q, (stepN pre.length A).queue = x.1 :: q) ∧ x.2 = (stepN pre.length A).kind1 x.1
def DPost (w0 : World) (J Jx Sh : List (Int × Nat) → HP) (F : HP) (S Sp : List (Int × Nat) → Prop) (e : Ending) (W' : World) : Prop :=
  (∃ v, e = .returned v) ∧ ((∃ xs, S xs ∧ Sat w0 W' (J xs * (Sh xs * F))) ∨ (∃ pre, Sp pre ∧ Sat w0 W' (Jx pre * (Sh pre * F))))
def DIt (yf hb l : Value) (u4 u5 u6 u7 u8 u9 u10 u11 u12 u13 u14 u15 u16 u17 u18 u19 u20 u21 u22 u23 u24 u25 u26 u27 u28 u29 u30 u31 u32 u33 : Value) : Act :=
  { tmps := #[yf, hb, undef, l, u4, u5, u6, u7, u8, u9, u10, u11, u12, u13, u14, u15, u16, u17, u18, u19, u20, u21, u22, u23, u24, u25, u26, u27, u28, u29, u30, u31, u32, u33], defers := [] }
def DItInv (w0 : World) (m : Hp) (p hb : Nat) (X : HP) (A : AHeap) (J : List (Int × Nat) → HP) (F : HP) (lid : Nat) (f : Nat) (a : Act) (W : World) : Prop :=
  ∃ (pre : List (Int × Nat)) (k : Nat) (qa : Option Addr) (qc : Nat) (u4 u5 u6 u7 u8 u9 u10 u11 u12 u13 u14 u15 u16 u17 u18 u19 u20 u21 u22 u23 u24 u25 u26 u27 u28 u29 u30 u31 u32 u33 : Value),
    a = DIt (.func (.yield lid) #[] #[]) (.pointer (some ⟨hb, 0, none⟩)) (.slice qa (stepN k A).queue.length qc) u4 u5 u6 u7 u8 u9 u10 u11 u12 u13 u14 u15 u16 u17 u18 u19 u20 u21 u22 u23 u24 u25 u26 u27 u28 u29 u30 u31 u32 u33 ∧
    (pre.length = k ∧ f = (stepN k A).mu) ∧ Sat w0 W (J pre * (stR m p hb X A k * (slc 3 1 qa (stepN k A).queue.length qc ((stepN k A).queue.map ival) * F)))
theorem yield_any {P : Program} {W : World} {m m' lid : Nat} {args : Array Value} {R : Ending → World → Prop} (h : YieldAt Fence.wide m P lid args W R) : YieldAt Fence.wide m' P lid args W R := by
  obtain ⟨fn, tmps, assign, body, hy, hR⟩ := h
  exact ⟨fn, tmps, assign, body, hy, hR.1, fun c cs _ => hR.2 c cs (room_wide _)⟩
section
variable {w0 w : World} {m : Hp} {p : Nat} {A : AHeap} {F X : HP} {B : Int}
set_option maxRecDepth 100000 in
set_option maxHeartbeats 4000000 in
theorem steps_seq {M : Nat} (H : HW A B) (hB : B ≤ 1000000) (hb : Nat) :
    SeqS w0 (M + 2) Try.prog 134 #[.pointer (some ⟨hb, 0, none⟩)] stEnc (fun pre => stR m p hb X A pre.length) (stOk A) (fun xs => (stepN xs.length A).queue = []) (fun _ => True) := by
  intro lid J Jx W F hY hs
  show CallsIn Fence.wide (M + 2) Try.prog 134 #[.func (.yield lid) #[] #[], .pointer (some ⟨hb, 0, none⟩)] W (DPost w0 J Jx (fun pre => stR m p hb X A pre.length) F (fun xs => (stepN xs.length A).queue = []) (fun _ => True))
  have HYY := Lib.hid hY
  clear hY
  have cells : ∀ W1 Y Z k, Sat w0 W1 (Y * (stR m p hb X A k * Z)) → W1.cell? ⟨hb, 0, none⟩ = some (.pointer (some ⟨p, 0, none⟩)) := fun W1 Y Z k h => by
    have h' : Sat w0 W1 (pt hb (.cells #[.pointer (some ⟨p, 0, none⟩)] 22 (0, 0)) * (heapR m p (stepN k A) * (X * (Y * Z)))) := h.cast (by unfold stR; ac_rfl)
    exact Sat.cell (T := 22) (cs := #[.pointer (some ⟨p, 0, none⟩)]) h' 0 rfl
  have HCE := Lib.hid cells
  have c0 := cells _ _ _ _ hs
  clear cells
  have que : ∀ W1 Y Z k, Sat w0 W1 (Y * (stR m p hb X A k * Z)) → CallsIn Fence.wide (M + 1) Try.prog 35 #[.pointer (some ⟨p, 0, none⟩)] W1 fun e w' => ∃ a c, e = .returned (.slice a (stepN k A).queue.length c) ∧ Sat w0 w' (Y * (stR m p hb X A k * (slc 3 1 a (stepN k A).queue.length c ((stepN k A).queue.map ival) * Z))) := fun W1 Y Z k h => by
    have h' : Sat w0 W1 (heapR m p (stepN k A) * (pt hb (.cells #[.pointer (some ⟨p, 0, none⟩)] 22 (0, 0)) * (X * (Y * Z)))) := h.cast (by unfold stR; ac_rfl)
    have hql := (H.steps k).ql
    refine callsIn_wide (n := M + 1) |>.2 ((heap_Queue h' (by omega)).mono ?_)
    rintro e w' ⟨a, c, rfl, h2⟩
    exact ⟨a, c, rfl, h2.cast (by unfold stR; ac_rfl)⟩
  have HQ := Lib.hid que
  clear que
  refine callsIn_of_wp Try.func134 rfl trivial ?_
  simp only [Try.ntmps134, List.size_toArray, List.length_cons, List.length_nil, Nat.reduceAdd, Nat.reduceSub, Array.replicate_succ, Array.replicate_zero, List.push_toArray, List.append_toArray, List.nil_append, List.cons_append]
  have HQ0 := Lib.hid (HQ.out _ _ _ _ hs)
  gi_wp2
  refine ⟨trivial, HQ0.out.mono ?_⟩
  rintro e w1 ⟨qa, qc, rfl, h2⟩
  clear HQ0 c0 hs
  gi_wp2
  refine wpIn_loop_ghost (DItInv w0 m p hb X A J F lid) (f := A.mu) ⟨[], 0, qa, qc, _, _, _, _, _, _, _, _, _, _, _, _, _, _, _, _, _, _, _, _, _, _, _, _, _, _, _, _, _, _, rfl, ⟨rfl, rfl⟩, h2⟩ ?_
  rintro f a W2 ⟨pre, kk, qa, qc, u4, u5, u6, u7, u8, u9, u10, u11, u12, u13, u14, u15, u16, u17, u18, u19, u20, u21, u22, u23, u24, u25, u26, u27, u28, u29, u30, u31, u32, u33, rfl, ⟨hkk, rfl⟩, hs⟩
  subst hkk
  unfold DIt
  have hH := H.steps pre.length
  generalize hAk : stepN pre.length A = Ak at *
  have HAK := Lib.hid hAk
  have c1 := HCE.out _ _ _ _ hs
  cases hQ : Ak.queue with
  | nil =>
    rw [hQ] at hs
    gi_wp2
    go_end0
    exact ⟨⟨_, rfl⟩, .inl ⟨pre, by show (stepN pre.length A).queue = []; rw [HAK.out]; exact hQ, hs.p3.drop⟩⟩
  | cons n q =>
    rw [hQ] at hs
    obtain ⟨g, off, rfl, cq, _⟩ := intCells hs.p3 (k := 0) (x := n) rfl
    rw [Nat.add_zero] at cq
    have hql := hH.ql
    rw [hQ] at hql
    have hqp : 0 < (n :: q).length := by simp
    have HQQ := Lib.hid hQ
    clear hQ
    generalize (n :: q).length = ql at *
    obtain ⟨o, ho, hcz⟩ := hH.q1 n (by rw [HQQ.out]; simp)
    have hob : Ak.obj n = o := by unfold AHeap.obj; rw [ho]; rfl
    have hc := hH.c n o ho
    have hsl : o.slots.length ≤ 1000000 := by omega
    have ho9 : CallsIn Fence.wide (M + 1) Try.prog 23 #[.pointer (some ⟨p, 0, none⟩), .int .i64 n] W2 fun e w' => ∃ a c, e = .returned (.agg #[.int .i64 o.kind, .int .i64 o.count, .slice a o.slots.length c, .string o.text, .int .i64 o.mark]) ∧ Sat w0 w' (slc 28 2 a o.slots.length c (avcells o.slots) * (J pre * (stR m p hb X A pre.length * (slc 3 1 (some ⟨g, off, none⟩) ql qc ((n :: q).map ival) * F)))) := by
      have h' : Sat w0 W2 (heapR m p Ak * (pt hb (.cells #[.pointer (some ⟨p, 0, none⟩)] 22 (0, 0)) * (X * (J pre * (slc 3 1 (some ⟨g, off, none⟩) ql qc ((n :: q).map ival) * F))))) := hs.cast (by unfold stR; rw [HAK.out]; ac_rfl)
      refine callsIn_wide (n := M + 1) |>.2 ((heap_Obj h' n (by rw [hob]; omega)).mono ?_)
      rw [hob]
      rintro e w' ⟨a, c, rfl, h2⟩
      exact ⟨a, c, rfl, h2.cast (by unfold stR; rw [HAK.out]; ac_rfl)⟩
    have HO := Lib.hid ho9
    have HK := Lib.hid hob
    have HOS := Lib.hid ho
    obtain ⟨ok, ocnt, osl, otx, omk⟩ := o
    dsimp only at HO hsl hcz
    subst hcz
    clear ho9 hob ho hc hs
    generalize hosl : osl.length = sl at HO hsl
    have HSL := Lib.hid hosl
    clear hosl
    gi_wp2
    refine ⟨trivial, HO.out.mono ?_⟩
    rintro e w3 ⟨sa, sc, rfl, h3⟩
    have h4 := h3.alloc (.cells #[.int .i64 ok, .int .i64 0, .slice sa sl sc, .string otx, .int .i64 omk] 39)
    have H4 := Lib.hid h4
    clear h3 h4
    by_cases hmk : 0 < omk
    · have f1 : decide (0 < omk) = true := by simpa using hmk
      have hok : stOk A pre (n, 0) := ⟨⟨q, by rw [HAK.out]; exact HQQ.out⟩, by rw [HAK.out]; show 0 = Ak.kind1 n; unfold AHeap.kind1; rw [HK.out]; dsimp only; rw [if_pos hmk]⟩
      have hYm := yield_any (m' := M + 1) (HYY.out pre (n, 0) _ _ (H4.out.cast (show _ = J pre * (stR m p hb X A pre.length * (pt w3.heap.size (.cells #[.int .i64 ok, .int .i64 0, .slice sa sl sc, .string otx, .int .i64 omk] 39 (0, 0)) * (slc 28 2 sa sl sc (avcells osl) * (slc 3 1 (some ⟨g, off, none⟩) ql qc ((n :: q).map ival) * F)))) by ac_rfl)) hok)
      obtain ⟨fn, tmps, assign, body, hy, hR⟩ := hYm
      have hy2 : (Instr.yield lid #[.int .i64 n, .func (.func 136) #[] #[]]).run Try.prog (w3.alloc (.cells #[.int .i64 ok, .int .i64 0, .slice sa sl sc, .string otx, .int .i64 omk] 39)) = _ := hy
      have HR := Lib.hid hR
      clear hy hok hR
      gi_wp2
      refine HR.out.mono ?_
      rintro e W4 (⟨rfl, h5⟩ | ⟨rfl, h5⟩)
      · have h6 : Sat w0 W4 (J (pre ++ [(n, 0)]) * (stR m p hb X A (pre.length + 1) * F)) := by
          have hl9 : (pre ++ [(n, 0)]).length = pre.length + 1 := by simp
          rw [← hl9]
          have : Sat w0 W4 (pt w3.heap.size (.cells #[.int .i64 ok, .int .i64 0, .slice sa sl sc, .string otx, .int .i64 omk] 39 (0, 0)) * (slc 28 2 sa sl sc (avcells osl) * (slc 3 1 (some ⟨g, off, none⟩) ql qc ((n :: q).map ival) * (J (pre ++ [(n, 0)]) * (stR m p hb X A (pre ++ [(n, 0)]).length * F))))) := h5.cast (by ac_rfl)
          exact this.drop.drop.drop
        have c2 := HCE.out _ _ _ _ h6
        have HQ5 := Lib.hid (HQ.out _ _ _ _ h6)
        clear h5 h6
        gi_wp2
        refine ⟨trivial, HQ5.out.mono ?_⟩
        rintro e W5 ⟨qa2, qc2, rfl, h7⟩
        gi_wp2
        have hmu := step_mu (H.steps pre.length) (by rw [HAK.out, HQQ.out]; simp)
        refine ⟨(stepN (pre.length + 1) A).mu, ?_, pre ++ [(n, 0)], pre.length + 1, qa2, qc2, _, _, _, _, _, _, _, _, _, _, _, _, _, _, _, _, _, _, _, _, _, _, _, _, _, _, _, _, _, _, rfl, ⟨by simp, rfl⟩, h7⟩
        rw [← HAK.out]
        show ((stepN pre.length A).stepF).mu < _
        omega
      · gi_wp2
        go_end0
        refine ⟨⟨_, rfl⟩, .inr ⟨pre ++ [(n, 0)], trivial, ?_⟩⟩
        have : Sat w0 W4 (pt w3.heap.size (.cells #[.int .i64 ok, .int .i64 0, .slice sa sl sc, .string otx, .int .i64 omk] 39 (0, 0)) * (slc 28 2 sa sl sc (avcells osl) * (slc 3 1 (some ⟨g, off, none⟩) ql qc ((n :: q).map ival) * (Jx (pre ++ [(n, 0)]) * (stR m p hb X A (pre ++ [(n, 0)]).length * F))))) := h5.cast (by ac_rfl)
        exact this.drop.drop.drop
    · have f1 : decide (0 < omk) = false := by simpa using hmk
      by_cases hs0 : 0 < sl
      · have f2 : decide (0 < (sl : Int)) = true := by simp; omega
        have f3 : decide (0 < sl) = true := by simp; omega
        have hok : stOk A pre (n, 1) := ⟨⟨q, by rw [HAK.out]; exact HQQ.out⟩, by rw [HAK.out]; show 1 = Ak.kind1 n; unfold AHeap.kind1; rw [HK.out]; dsimp only; rw [if_neg hmk, if_neg (by rintro e; have := HSL.out; rw [e] at this; simp at this; omega)]⟩
        have hYm := yield_any (m' := M + 1) (HYY.out pre (n, 1) _ _ (H4.out.cast (show _ = J pre * (stR m p hb X A pre.length * (pt w3.heap.size (.cells #[.int .i64 ok, .int .i64 0, .slice sa sl sc, .string otx, .int .i64 omk] 39 (0, 0)) * (slc 28 2 sa sl sc (avcells osl) * (slc 3 1 (some ⟨g, off, none⟩) ql qc ((n :: q).map ival) * F)))) by ac_rfl)) hok)
        obtain ⟨fn, tmps, assign, body, hy, hR⟩ := hYm
        have hy2 : (Instr.yield lid #[.int .i64 n, .func (.func 137) #[] #[]]).run Try.prog (w3.alloc (.cells #[.int .i64 ok, .int .i64 0, .slice sa sl sc, .string otx, .int .i64 omk] 39)) = _ := hy
        have HR := Lib.hid hR
        clear hy hok hR
        gi_wp2
        refine HR.out.mono ?_
        rintro e W4 (⟨rfl, h5⟩ | ⟨rfl, h5⟩)
        · have h6 : Sat w0 W4 (J (pre ++ [(n, 1)]) * (stR m p hb X A (pre.length + 1) * F)) := by
            have hl9 : (pre ++ [(n, 1)]).length = pre.length + 1 := by simp
            rw [← hl9]
            have : Sat w0 W4 (pt w3.heap.size (.cells #[.int .i64 ok, .int .i64 0, .slice sa sl sc, .string otx, .int .i64 omk] 39 (0, 0)) * (slc 28 2 sa sl sc (avcells osl) * (slc 3 1 (some ⟨g, off, none⟩) ql qc ((n :: q).map ival) * (J (pre ++ [(n, 1)]) * (stR m p hb X A (pre ++ [(n, 1)]).length * F))))) := h5.cast (by ac_rfl)
            exact this.drop.drop.drop
          have c2 := HCE.out _ _ _ _ h6
          have HQ5 := Lib.hid (HQ.out _ _ _ _ h6)
          clear h5 h6
          gi_wp2
          refine ⟨trivial, HQ5.out.mono ?_⟩
          rintro e W5 ⟨qa2, qc2, rfl, h7⟩
          gi_wp2
          have hmu := step_mu (H.steps pre.length) (by rw [HAK.out, HQQ.out]; simp)
          refine ⟨(stepN (pre.length + 1) A).mu, ?_, pre ++ [(n, 1)], pre.length + 1, qa2, qc2, _, _, _, _, _, _, _, _, _, _, _, _, _, _, _, _, _, _, _, _, _, _, _, _, _, _, _, _, _, _, rfl, ⟨by simp, rfl⟩, h7⟩
          rw [← HAK.out]
          show ((stepN pre.length A).stepF).mu < _
          omega
        · gi_wp2
          go_end0
          refine ⟨⟨_, rfl⟩, .inr ⟨pre ++ [(n, 1)], trivial, ?_⟩⟩
          have : Sat w0 W4 (pt w3.heap.size (.cells #[.int .i64 ok, .int .i64 0, .slice sa sl sc, .string otx, .int .i64 omk] 39 (0, 0)) * (slc 28 2 sa sl sc (avcells osl) * (slc 3 1 (some ⟨g, off, none⟩) ql qc ((n :: q).map ival) * (Jx (pre ++ [(n, 1)]) * (stR m p hb X A (pre ++ [(n, 1)]).length * F))))) := h5.cast (by ac_rfl)
          exact this.drop.drop.drop
      · have f2 : decide (0 < (sl : Int)) = false := by simp; omega
        have f3 : decide (0 < sl) = false := by simp; omega
        have hok : stOk A pre (n, 2) := ⟨⟨q, by rw [HAK.out]; exact HQQ.out⟩, by rw [HAK.out]; show 2 = Ak.kind1 n; unfold AHeap.kind1; rw [HK.out]; dsimp only; rw [if_neg hmk, if_pos (List.eq_nil_of_length_eq_zero (by have := HSL.out; omega))]⟩
        have hYm := yield_any (m' := M + 1) (HYY.out pre (n, 2) _ _ (H4.out.cast (show _ = J pre * (stR m p hb X A pre.length * (pt w3.heap.size (.cells #[.int .i64 ok, .int .i64 0, .slice sa sl sc, .string otx, .int .i64 omk] 39 (0, 0)) * (slc 28 2 sa sl sc (avcells osl) * (slc 3 1 (some ⟨g, off, none⟩) ql qc ((n :: q).map ival) * F)))) by ac_rfl)) hok)
        obtain ⟨fn, tmps, assign, body, hy, hR⟩ := hYm
        have hy2 : (Instr.yield lid #[.int .i64 n, .func (.func 135) #[] #[]]).run Try.prog (w3.alloc (.cells #[.int .i64 ok, .int .i64 0, .slice sa sl sc, .string otx, .int .i64 omk] 39)) = _ := hy
        have HR := Lib.hid hR
        clear hy hok hR
        gi_wp2
        refine HR.out.mono ?_
        rintro e W4 (⟨rfl, h5⟩ | ⟨rfl, h5⟩)
        · have h6 : Sat w0 W4 (J (pre ++ [(n, 2)]) * (stR m p hb X A (pre.length + 1) * F)) := by
            have hl9 : (pre ++ [(n, 2)]).length = pre.length + 1 := by simp
            rw [← hl9]
            have : Sat w0 W4 (pt w3.heap.size (.cells #[.int .i64 ok, .int .i64 0, .slice sa sl sc, .string otx, .int .i64 omk] 39 (0, 0)) * (slc 28 2 sa sl sc (avcells osl) * (slc 3 1 (some ⟨g, off, none⟩) ql qc ((n :: q).map ival) * (J (pre ++ [(n, 2)]) * (stR m p hb X A (pre ++ [(n, 2)]).length * F))))) := h5.cast (by ac_rfl)
            exact this.drop.drop.drop
          have c2 := HCE.out _ _ _ _ h6
          have HQ5 := Lib.hid (HQ.out _ _ _ _ h6)
          clear h5 h6
          gi_wp2
          refine ⟨trivial, HQ5.out.mono ?_⟩
          rintro e W5 ⟨qa2, qc2, rfl, h7⟩
          gi_wp2
          have hmu := step_mu (H.steps pre.length) (by rw [HAK.out, HQQ.out]; simp)
          refine ⟨(stepN (pre.length + 1) A).mu, ?_, pre ++ [(n, 2)], pre.length + 1, qa2, qc2, _, _, _, _, _, _, _, _, _, _, _, _, _, _, _, _, _, _, _, _, _, _, _, _, _, _, _, _, _, _, rfl, ⟨by simp, rfl⟩, h7⟩
          rw [← HAK.out]
          show ((stepN pre.length A).stepF).mu < _
          omega
        · gi_wp2
          go_end0
          refine ⟨⟨_, rfl⟩, .inr ⟨pre ++ [(n, 2)], trivial, ?_⟩⟩
          have : Sat w0 W4 (pt w3.heap.size (.cells #[.int .i64 ok, .int .i64 0, .slice sa sl sc, .string otx, .int .i64 omk] 39 (0, 0)) * (slc 28 2 sa sl sc (avcells osl) * (slc 3 1 (some ⟨g, off, none⟩) ql qc ((n :: q).map ival) * (Jx (pre ++ [(n, 2)]) * (stR m p hb X A (pre ++ [(n, 2)]).length * F))))) := h5.cast (by ac_rfl)
          exact this.drop.drop.drop
end
end Go.Proofs.Ytkpcngcegipalaa.Tw
