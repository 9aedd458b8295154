/- drain: the iterator over steps. No condition. -/
import Derived.Test.YtkpcngcegipalaaZPDw38
namespace Go.Proofs.Ytkpcngcegipalaa.Tw
set_option linter.unusedVariables false
set_option linter.unusedSimpArgs false
open Go Go.RowKit Go.MapKept
attribute [local go_sem] Oper.semAt_some

def doId : Nat → Nat
  | 0 => 136
  | 1 => 137
  | _ => 135
def stEnc (x : Int × Nat) : Array Value := #[.int .i64 x.1, .func (.func (doId x.2)) #[] #[]]
def stR (m : Hp) (p hb : Nat) (X : HP) (A : AHeap) (k : Nat) : HP := pt hb (.cells #[.pointer (some ⟨p, 0, none⟩)] 22 (0, 0)) * (heapR m p (stepN k A) * X)
def stOk (A : AHeap) (pre : List (Int × Nat)) (x : Int × Nat) : Prop := (∃ q, (stepN pre.length A).queue = x.1 :: q) ∧ x.2 = (stepN pre.length A).kind1 x.1
def DPost (w0 : World) (J Jx Sh : List (Int × Nat) → HP) (F : HP) (S Sp : List (Int × Nat) → Prop) (e : Ending) (W' : World) : Prop :=
  (∃ v, e = .returned v) ∧ ((∃ xs, S xs ∧ Sat w0 W' (J xs * (Sh xs * F))) ∨ (∃ pre, Sp pre ∧ Sat w0 W' (Jx pre * (Sh pre * F))))
def DIt (yf hb l : Value) (u4 u5 u6 u7 u8 u9 u10 u11 u12 u13 u14 u15 u16 u17 u18 u19 u20 u21 u22 u23 u24 u25 u26 u27 u28 u29 u30 u31 u32 u33 : Value) : Act :=
  { tmps := #[yf, hb, undef, l, u4, u5, u6, u7, u8, u9, u10, u11, u12, u13, u14, u15, u16, u17, u18, u19, u20, u21, u22, u23, u24, u25, u26, u27, u28, u29, u30, u31, u32, u33], defers := [] }
def DItInv (w0 : World) (m : Hp) (p hb : Nat) (X : HP) (A : AHeap) (J : List (Int × Nat) → HP) (F : HP) (lid : Nat) (f : Nat) (a : Act) (W : World) : Prop :=
  ∃ (pre : List (Int × Nat)) (k : Nat) (qa : Option Addr) (qc : Nat) (u4 u5 u6 u7 u8 u9 u10 u11 u12 u13 u14 u15 u16 u17 u18 u19 u20 u21 u22 u23 u24 u25 u26 u27 u28 u29 u30 u31 u32 u33 : Value),
    a = DIt (.func (.yield lid) #[] #[]) (.pointer (some ⟨hb, 0, none⟩)) (.slice qa (stepN k A).queue.length qc) u4 u5 u6 u7 u8 u9 u10 u11 u12 u13 u14 u15 u16 u17 u18 u19 u20 u21 u22 u23 u24 u25 u26 u27 u28 u29 u30 u31 u32 u33 ∧
    (pre.length = k ∧ f = (stepN k A).mu) ∧ Sat w0 W (J pre * (stR m p hb X A k * (slc 3 1 qa (stepN k A).queue.length qc ((stepN k A).queue.map ival) * F)))
theorem yield_any {P : Program} {W : World} {m m' lid : Nat} {args : Array Value} {R : Ending → World → Prop} (h : YieldAt Fence.wide m P lid args W R) : YieldAt Fence.wide m' P lid args W R := by
  obtain ⟨fn, tmps, assign, body, hy, hR⟩ := h
  exact ⟨fn, tmps, assign, body, hy, hR.1, fun c cs _ => hR.2 c cs (room_wide _)⟩
section
variable {w0 w : World} {m : Hp} {p : Nat} {A : AHeap} {F X : HP} {B : Int}
set_option maxRecDepth 100000 in
set_option maxHeartbeats 4000000 in
theorem steps_seq {M : Nat} (H : HW A B) (hB : B ≤ 1000000) (hb : Nat) :
    SeqS w0 (M + 2) Try.prog 134 #[.pointer (some ⟨hb, 0, none⟩)] stEnc (fun pre => stR m p hb X A pre.length) (stOk A) (fun xs => (stepN xs.length A).queue = []) (fun _ => True) := by
  intro lid J Jx W F hY hs
  show CallsIn Fence.wide (M + 2) Try.prog 134 #[.func (.yield lid) #[] #[], .pointer (some ⟨hb, 0, none⟩)] W (DPost w0 J Jx (fun pre => stR m p hb X A pre.length) F (fun xs => (stepN xs.length A).queue = []) (fun _ => True))
  have HYY := Lib.hid hY
  clear hY
  have cells : ∀ W1 Y Z k, Sat w0 W1 (Y * (stR m p hb X A k * Z)) → W1.cell? ⟨hb, 0, none⟩ = some (.pointer (some ⟨p, 0, none⟩)) := fun W1 Y Z k h => by
    have h' : Sat w0 W1 (pt hb (.cells #[.pointer (some ⟨p, 0, none⟩)] 22 (0, 0)) * (heapR m p (stepN k A) * (X * (Y * Z)))) := h.cast (by unfold stR; ac_rfl)
    exact Sat.cell (T := 22) (cs := #[.pointer (some ⟨p, 0, none⟩)]) h' 0 rfl
  have HCE := Lib.hid cells
  have c0 := cells _ _ _ _ hs
  clear cells
  have que : ∀ W1 Y Z k, Sat w0 W1 (Y * (stR m p hb X A k * Z)) → CallsIn Fence.wide (M + 1) Try.prog 35 #[.pointer (some ⟨p, 0, none⟩)] W1 fun e w' => ∃ a c, e = .returned (.slice a (stepN k A).queue.length c) ∧ Sat w0 w' (Y * (stR m p hb X A k * (slc 3 1 a (stepN k A).queue.length c ((stepN k A).queue.map ival) * Z))) := fun W1 Y Z k h => by
    have h' : Sat w0 W1 (heapR m p (stepN k A) * (pt hb (.cells #[.pointer (some ⟨p, 0, none⟩)] 22 (0, 0)) * (X * (Y * Z)))) := h.cast (by unfold stR; ac_rfl)
    have hql := (H.steps k).ql
    refine callsIn_wide (n := M + 1) |>.2 ((heap_Queue h' (by omega)).mono ?_)
    rintro e w' ⟨a, c, rfl, h2⟩
    exact ⟨a, c, rfl, h2.cast (by unfold stR; ac_rfl)⟩
  have HQ := Lib.hid que
  clear que
  refine callsIn_of_wp Try.func134 rfl trivial ?_
  simp only [Try.ntmps134, List.size_toArray, List.length_cons, List.length_nil, Nat.reduceAdd, Nat.reduceSub, Array.replicate_succ, Array.replicate_zero, List.push_toArray, List.append_toArray, List.nil_append, List.cons_append]
  have HQ0 := Lib.hid (HQ.out _ _ _ _ hs)
  gi_wp2
  refine ⟨trivial, HQ0.out.mono ?_⟩
  rintro e w1 ⟨qa, qc, rfl, h2⟩
  clear HQ0 c0 hs
  gi_wp2
  refine wpIn_loop_ghost (DItInv w0 m p hb X A J F lid) (f := A.mu) ⟨[], 0, qa, qc, _, _, _, _, _, _, _, _, _, _, _, _, _, _, _, _, _, _, _, _, _, _, _, _, _, _, _, _, _, _, rfl, ⟨rfl, rfl⟩, h2⟩ ?_
  rintro f a W2 ⟨pre, kk, qa, qc, u4, u5, u6, u7, u8, u9, u10, u11, u12, u13, u14, u15, u16, u17, u18, u19, u20, u21, u22, u23, u24, u25, u26, u27, u28, u29, u30, u31, u32, u33, rfl, ⟨hkk, rfl⟩, hs⟩
  subst hkk
  unfold DIt
  have hH := H.steps pre.length
  generalize hAk : stepN pre.length A = Ak at *
  have HAK := Lib.hid hAk
  have c1 := HCE.out _ _ _ _ hs
  cases hQ : Ak.queue with
  | nil =>
    rw [hQ] at hs
    gi_wp2
    go_end0
    exact ⟨⟨_, rfl⟩, .inl ⟨pre, by show (stepN pre.length A).queue = []; rw [HAK.out]; exact hQ, hs.p3.drop⟩⟩
  | cons n q =>
    rw [hQ] at hs
    obtain ⟨g, off, rfl, cq, _⟩ := intCells hs.p3 (k := 0) (x := n) rfl
    rw [Nat.add_zero] at cq
    have hql := hH.ql
    rw [hQ] at hql
    have hqp : 0 < (n :: q).length := by simp
    have HQQ := Lib.hid hQ
    clear hQ
    generalize (n :: q).length = ql at *
    obtain ⟨o, ho, hcz⟩ := hH.q1 n (by rw [HQQ.out]; simp)
    have hob : Ak.obj n = o := by unfold AHeap.obj; rw [ho]; rfl
    have hc := hH.c n o ho
    have hsl : o.slots.length ≤ 1000000 := by omega
    have ho9 : CallsIn Fence.wide (M + 1) Try.prog 23 #[.pointer (some ⟨p, 0, none⟩), .int .i64 n] W2 fun e w' => ∃ a c, e = .returned (.agg #[.int .i64 o.kind, .int .i64 o.count, .slice a o.slots.length c, .string o.text, .int .i64 o.mark]) ∧ Sat w0 w' (slc 28 2 a o.slots.length c (avcells o.slots) * (J pre * (stR m p hb X A pre.length * (slc 3 1 (some ⟨g, off, none⟩) ql qc ((n :: q).map ival) * F)))) := by
      have h' : Sat w0 W2 (heapR m p Ak * (pt hb (.cells #[.pointer (some ⟨p, 0, none⟩)] 22 (0, 0)) * (X * (J pre * (slc 3 1 (some ⟨g, off, none⟩) ql qc ((n :: q).map ival) * F))))) := hs.cast (by unfold stR; rw [HAK.out]; ac_rfl)
      refine callsIn_wide (n := M + 1) |>.2 ((heap_Obj h' n (by rw [hob]; omega)).mono ?_)
      rw [hob]
      rintro e w' ⟨a, c, rfl, h2⟩
      exact ⟨a, c, rfl, h2.cast (by unfold stR; rw [HAK.out]; ac_rfl)⟩
    have HO := Lib.hid ho9
    have HK := Lib.hid hob
    have HOS := Lib.hid ho
    obtain ⟨ok, ocnt, osl, otx, omk⟩ := o
    dsimp only at HO hsl hcz
    subst hcz
    clear ho9 hob ho hc hs
    generalize hosl : osl.length = sl at HO hsl
    have HSL := Lib.hid hosl
    clear hosl
    gi_wp2
    refine ⟨trivial, HO.out.mono ?_⟩
    rintro e w3 ⟨sa, sc, rfl, h3⟩
    have h4 := h3.alloc (.cells #[.int .i64 ok, .int .i64 0, .slice sa sl sc, .string otx, .int .i64 omk] 39)
    have H4 := Lib.hid h4
    clear h3 h4
    by_cases hmk : 0 < omk
    · have f1 : decide (0 < omk) = true := by simpa using hmk
      have hok : stOk A pre (n, 0) := ⟨⟨q, by rw [HAK.out]; exact HQQ.out⟩, by rw [HAK.out]; show 0 = Ak.kind1 n; unfold AHeap.kind1; rw [HK.out]; dsimp only; rw [if_pos hmk]⟩
      have hYm := yield_any (m' := M + 1) (HYY.out pre (n, 0) _ _ (H4.out.cast (show _ = J pre * (stR m p hb X A pre.length * (pt w3.heap.size (.cells #[.int .i64 ok, .int .i64 0, .slice sa sl sc, .string otx, .int .i64 omk] 39 (0, 0)) * (slc 28 2 sa sl sc (avcells osl) * (slc 3 1 (some ⟨g, off, none⟩) ql qc ((n :: q).map ival) * F)))) by ac_rfl)) hok)
      obtain ⟨fn, tmps, assign, body, hy, hR⟩ := hYm
      have hy2 : (Instr.yield lid #[.int .i64 n, .func (.func 136) #[] #[]]).run Try.prog (w3.alloc (.cells #[.int .i64 ok, .int .i64 0, .slice sa sl sc, .string otx, .int .i64 omk] 39)) = _ := hy
      have HR := Lib.hid hR
      clear hy hok hR
      gi_wp2
      refine HR.out.mono ?_
      rintro e W4 (⟨rfl, h5⟩ | ⟨rfl, h5⟩)
      · have h6 : Sat w0 W4 (J (pre ++ [(n, 0)]) * (stR m p hb X A (pre.length + 1) * F)) := by
          have hl9 : (pre ++ [(n, 0)]).length = pre.length + 1 := by simp
          rw [← hl9]
          have : Sat w0 W4 (pt w3.heap.size (.cells #[.int .i64 ok, .int .i64 0, .slice sa sl sc, .string otx, .int .i64 omk] 39 (0, 0)) * (slc 28 2 sa sl sc (avcells osl) * (slc 3 1 (some ⟨g, off, none⟩) ql qc ((n :: q).map ival) * (J (pre ++ [(n, 0)]) * (stR m p hb X A (pre ++ [(n, 0)]).length * F))))) := h5.cast (by ac_rfl)
          exact this.drop.drop.drop
        have c2 := HCE.out _ _ _ _ h6
        have HQ5 := Lib.hid (HQ.out _ _ _ _ h6)
        clear h5 h6
        gi_wp2
        refine ⟨trivial, HQ5.out.mono ?_⟩
        rintro e W5 ⟨qa2, qc2, rfl, h7⟩
        gi_wp2
        have hmu := step_mu (H.steps pre.length) (by rw [HAK.out, HQQ.out]; simp)
        refine ⟨(stepN (pre.length + 1) A).mu, ?_, pre ++ [(n, 0)], pre.length + 1, qa2, qc2, _, _, _, _, _, _, _, _, _, _, _, _, _, _, _, _, _, _, _, _, _, _, _, _, _, _, _, _, _, _, rfl, ⟨by simp, rfl⟩, h7⟩
        rw [← HAK.out]
        show ((stepN pre.length A).stepF).mu < _
        omega
      · gi_wp2
        go_end0
        refine ⟨⟨_, rfl⟩, .inr ⟨pre ++ [(n, 0)], trivial, ?_⟩⟩
        have : Sat w0 W4 (pt w3.heap.size (.cells #[.int .i64 ok, .int .i64 0, .slice sa sl sc, .string otx, .int .i64 omk] 39 (0, 0)) * (slc 28 2 sa sl sc (avcells osl) * (slc 3 1 (some ⟨g, off, none⟩) ql qc ((n :: q).map ival) * (Jx (pre ++ [(n, 0)]) * (stR m p hb X A (pre ++ [(n, 0)]).length * F))))) := h5.cast (by ac_rfl)
        exact this.drop.drop.drop
    · have f1 : decide (0 < omk) = false := by simpa using hmk
      by_cases hs0 : 0 < sl
      · have f2 : decide (0 < (sl : Int)) = true := by simp; omega
        have f3 : decide (0 < sl) = true := by simp; omega
        have hok : stOk A pre (n, 1) := ⟨⟨q, by rw [HAK.out]; exact HQQ.out⟩, by rw [HAK.out]; show 1 = Ak.kind1 n; unfold AHeap.kind1; rw [HK.out]; dsimp only; rw [if_neg hmk, if_neg (by rintro e; have := HSL.out; rw [e] at this; simp at this; omega)]⟩
        have hYm := yield_any (m' := M + 1) (HYY.out pre (n, 1) _ _ (H4.out.cast (show _ = J pre * (stR m p hb X A pre.length * (pt w3.heap.size (.cells #[.int .i64 ok, .int .i64 0, .slice sa sl sc, .string otx, .int .i64 omk] 39 (0, 0)) * (slc 28 2 sa sl sc (avcells osl) * (slc 3 1 (some ⟨g, off, none⟩) ql qc ((n :: q).map ival) * F)))) by ac_rfl)) hok)
        obtain ⟨fn, tmps, assign, body, hy, hR⟩ := hYm
        have hy2 : (Instr.yield lid #[.int .i64 n, .func (.func 137) #[] #[]]).run Try.prog (w3.alloc (.cells #[.int .i64 ok, .int .i64 0, .slice sa sl sc, .string otx, .int .i64 omk] 39)) = _ := hy
        have HR := Lib.hid hR
        clear hy hok hR
        gi_wp2
        refine HR.out.mono ?_
        rintro e W4 (⟨rfl, h5⟩ | ⟨rfl, h5⟩)
        · have h6 : Sat w0 W4 (J (pre ++ [(n, 1)]) * (stR m p hb X A (pre.length + 1) * F)) := by
            have hl9 : (pre ++ [(n, 1)]).length = pre.length + 1 := by simp
            rw [← hl9]
            have : Sat w0 W4 (pt w3.heap.size (.cells #[.int .i64 ok, .int .i64 0, .slice sa sl sc, .string otx, .int .i64 omk] 39 (0, 0)) * (slc 28 2 sa sl sc (avcells osl) * (slc 3 1 (some ⟨g, off, none⟩) ql qc ((n :: q).map ival) * (J (pre ++ [(n, 1)]) * (stR m p hb X A (pre ++ [(n, 1)]).length * F))))) := h5.cast (by ac_rfl)
            exact this.drop.drop.drop
          have c2 := HCE.out _ _ _ _ h6
          have HQ5 := Lib.hid (HQ.out _ _ _ _ h6)
          clear h5 h6
          gi_wp2
          refine ⟨trivial, HQ5.out.mono ?_⟩
          rintro e W5 ⟨qa2, qc2, rfl, h7⟩
          gi_wp2
          have hmu := step_mu (H.steps pre.length) (by rw [HAK.out, HQQ.out]; simp)
          refine ⟨(stepN (pre.length + 1) A).mu, ?_, pre ++ [(n, 1)], pre.length + 1, qa2, qc2, _, _, _, _, _, _, _, _, _, _, _, _, _, _, _, _, _, _, _, _, _, _, _, _, _, _, _, _, _, _, rfl, ⟨by simp, rfl⟩, h7⟩
          rw [← HAK.out]
          show ((stepN pre.length A).stepF).mu < _
          omega
        · gi_wp2
          go_end0
          refine ⟨⟨_, rfl⟩, .inr ⟨pre ++ [(n, 1)], trivial, ?_⟩⟩
          have : Sat w0 W4 (pt w3.heap.size (.cells #[.int .i64 ok, .int .i64 0, .slice sa sl sc, .string otx, .int .i64 omk] 39 (0, 0)) * (slc 28 2 sa sl sc (avcells osl) * (slc 3 1 (some ⟨g, off, none⟩) ql qc ((n :: q).map ival) * (Jx (pre ++ [(n, 1)]) * (stR m p hb X A (pre ++ [(n, 1)]).length * F))))) := h5.cast (by ac_rfl)
          exact this.drop.drop.drop
      · have f2 : decide (0 < (sl : Int)) = false := by simp; omega
        have f3 : decide (0 < sl) = false := by simp; omega
        have hok : stOk A pre (n, 2) := ⟨⟨q, by rw [HAK.out]; exact HQQ.out⟩, by rw [HAK.out]; show 2 = Ak.kind1 n; unfold AHeap.kind1; rw [HK.out]; dsimp only; rw [if_neg hmk, if_pos (List.eq_nil_of_length_eq_zero (by have := HSL.out; omega))]⟩
        have hYm := yield_any (m' := M + 1) (HYY.out pre (n, 2) _ _ (H4.out.cast (show _ = J pre * (stR m p hb X A pre.length * (pt w3.heap.size (.cells #[.int .i64 ok, .int .i64 0, .slice sa sl sc, .string otx, .int .i64 omk] 39 (0, 0)) * (slc 28 2 sa sl sc (avcells osl) * (slc 3 1 (some ⟨g, off, none⟩) ql qc ((n :: q).map ival) * F)))) by ac_rfl)) hok)
        obtain ⟨fn, tmps, assign, body, hy, hR⟩ := hYm
        have hy2 : (Instr.yield lid #[.int .i64 n, .func (.func 135) #[] #[]]).run Try.prog (w3.alloc (.cells #[.int .i64 ok, .int .i64 0, .slice sa sl sc, .string otx, .int .i64 omk] 39)) = _ := hy
        have HR := Lib.hid hR
        clear hy hok hR
        gi_wp2
        refine HR.out.mono ?_
        rintro e W4 (⟨rfl, h5⟩ | ⟨rfl, h5⟩)
        · have h6 : Sat w0 W4 (J (pre ++ [(n, 2)]) * (stR m p hb X A (pre.length + 1) * F)) := by
            have hl9 : (pre ++ [(n, 2)]).length = pre.length + 1 := by simp
            rw [← hl9]
            have : Sat w0 W4 (pt w3.heap.size (.cells #[.int .i64 ok, .int .i64 0, .slice sa sl sc, .string otx, .int .i64 omk] 39 (0, 0)) * (slc 28 2 sa sl sc (avcells osl) * (slc 3 1 (some ⟨g, off, none⟩) ql qc ((n :: q).map ival) * (J (pre ++ [(n, 2)]) * (stR m p hb X A (pre ++ [(n, 2)]).length * F))))) := h5.cast (by ac_rfl)
            exact this.drop.drop.drop
          have c2 := HCE.out _ _ _ _ h6
          have HQ5 := Lib.hid (HQ.out _ _ _ _ h6)
          clear h5 h6
          gi_wp2
          refine ⟨trivial, HQ5.out.mono ?_⟩
          rintro e W5 ⟨qa2, qc2, rfl, h7⟩
          gi_wp2
          have hmu := step_mu (H.steps pre.length) (by rw [HAK.out, HQQ.out]; simp)
          refine ⟨(stepN (pre.length + 1) A).mu, ?_, pre ++ [(n, 2)], pre.length + 1, qa2, qc2, _, _, _, _, _, _, _, _, _, _, _, _, _, _, _, _, _, _, _, _, _, _, _, _, _, _, _, _, _, _, rfl, ⟨by simp, rfl⟩, h7⟩
          rw [← HAK.out]
          show ((stepN pre.length A).stepF).mu < _
          omega
        · gi_wp2
          go_end0
          refine ⟨⟨_, rfl⟩, .inr ⟨pre ++ [(n, 2)], trivial, ?_⟩⟩
          have : Sat w0 W4 (pt w3.heap.size (.cells #[.int .i64 ok, .int .i64 0, .slice sa sl sc, .string otx, .int .i64 omk] 39 (0, 0)) * (slc 28 2 sa sl sc (avcells osl) * (slc 3 1 (some ⟨g, off, none⟩) ql qc ((n :: q).map ival) * (Jx (pre ++ [(n, 2)]) * (stR m p hb X A (pre ++ [(n, 2)]).length * F))))) := h5.cast (by ac_rfl)
          exact this.drop.drop.drop
end
end Go.Proofs.Ytkpcngcegipalaa.Tw
namespace Go.Proofs.Ytkpcngcegipalaa.Tw
set_option linter.unusedVariables false
set_option linter.unusedSimpArgs false
open Go Go.RowKit Go.MapKept
attribute [local go_sem] Oper.semAt_some

section
variable {w0 w : World} {m : Hp} {p : Nat} {A : AHeap} {F X : HP} {B : Int}
theorem dr_steps (h : Sat w0 w F) (ptr : Option Addr) : Calls Try.prog 97 #[.pointer ptr] w fun e w' => ∃ hb, e = .returned (.func (.func 134) #[] #[.pointer (some ⟨hb, 0, none⟩)]) ∧ Sat w0 w' (pt hb (.cells #[.pointer ptr] 22 (0, 0)) * F) := by
  have h1 := h.alloc (.cells #[.pointer ptr] 22)
  go_enter Try.func97, Try.ntmps97
  go_wp2
  go_ret
  exact ⟨_, rfl, h1⟩
/-- a step, by its kind -/
theorem dr_do (H : HW A B) (hB : B ≤ 1000000) (K : Knows m F) (h : Sat w0 w (heapR m p A * F)) {n : Int} {q : List Int} (hq : A.queue = n :: q) :
    Calls Try.prog (doId (A.kind1 n)) #[.pointer (some ⟨p, 0, none⟩), .int .i64 n] w fun e w' => e = .returned (.tuple #[]) ∧ Sat w0 w' (heapR m p A.stepF * F) := by
  unfold AHeap.stepF
  rw [hq]
  dsimp only
  obtain ⟨o, ho, _⟩ := H.q1 n (by rw [hq]; simp)
  have hob : A.obj n = o := by unfold AHeap.obj; rw [ho]; rfl
  unfold AHeap.kind1
  rw [hob]
  by_cases hm : 0 < o.mark
  · rw [if_pos hm]
    exact dr_waits H hB K h n
  · rw [if_neg hm]
    by_cases hs : o.slots = []
    · rw [if_pos hs]
      exact dr_frees H hB K h n
    · rw [if_neg hs]
      exact dr_empties H hB K h n (by unfold AHeap.popE; rw [ho]; dsimp only; rw [if_neg hs])
def drB (hb2 nb db p : Nat) (n : Int) (k : Nat) : HP := pt hb2 (.cells #[.pointer (some ⟨p, 0, none⟩)] 22 (0, 0)) * (pt nb (.cells #[.int .i64 n] 3 (0, 0)) * pt db (.cells #[.int .i64 (k : Int)] 3 (0, 0)))
def drI (hb2 nb db p : Nat) (n : Int) (A : AHeap) (pre : List (Int × Nat)) : HP := wh ((pre.length : Int) < n ∧ ∀ i, i < pre.length → (stepN i A).queue ≠ []) (drB hb2 nb db p n pre.length)
def drX (hb2 nb db p : Nat) (n : Int) (A : AHeap) (c : Code) (pre : List (Int × Nat)) : HP := wh (c = .exit 0 ∧ (pre.length : Int) = n ∧ ∀ i, i < pre.length → (stepN i A).queue ≠ []) (drB hb2 nb db p n pre.length)
theorem dr_close {hb ob k L : Nat} {n : Int} {G : HP} {W : World} (h : Sat w0 W (pt (ob + 1 + 1) (.cells #[.int .i64 ((k : Int) + 1)] 3 (0, 0)) * (heapR m p (stepN k A).stepF * (X * (pt ob (.cells #[.pointer (some ⟨p, 0, none⟩)] 22 (0, 0)) * (pt (ob + 1) (.cells #[.int .i64 n] 3 (0, 0)) * (pt hb (.cells #[.pointer (some ⟨p, 0, none⟩)] 22 (0, 0)) * G))))))) (hL : L = k + 1) :
    Sat w0 W (drB ob (ob + 1) (ob + 1 + 1) p n L * (stR m p hb X A L * G)) := by
  subst hL
  refine h.cast ?_
  unfold drB stR
  rw [show ((k + 1 : Nat) : Int) = (k : Int) + 1 by omega]
  show _ = _ * (_ * (heapR m p (stepN k A).stepF * X) * G)
  ac_rfl
theorem nonempty_succ {k : Nat} {n : Int} {q : List Int} (h : ∀ i, i < k → (stepN i A).queue ≠ []) (hq : (stepN k A).queue = n :: q) {L : Nat} (hL : L = k + 1) : ∀ i, i < L → (stepN i A).queue ≠ [] := by
  intro i hi
  rcases Nat.lt_or_ge i k with h1 | h1
  · exact h i h1
  · obtain rfl : i = k := by omega
    rw [hq]; simp
set_option maxRecDepth 100000 in
set_option maxHeartbeats 4000000 in
theorem dr_Drain (H : HW A B) (hB : B ≤ 1000000) (hX : Knows m X) (n : Int) (hn : 1 ≤ n) (hn2 : n ≤ 9223372036854775807) (h : Sat w0 w (heapR m p A * (X * F))) :
    Calls Try.prog 34 #[.pointer (some ⟨p, 0, none⟩), .int .i64 n] w fun e w' => e = .returned (.int .i64 ((drainN n.toNat A).1 : Nat)) ∧ Sat w0 w' (heapR m p (drainN n.toNat A).2 * (X * F)) := by
  rw [← callsIn_wide (n := 6)]
  have h1 : 1 ≤ 6 := by omega
  have ha := ((h.alloc (.cells #[.pointer (some ⟨p, 0, none⟩)] 22)).alloc (.cells #[.int .i64 n] 3)).alloc (.cells #[.int .i64 0] 3)
  simp only [World.size_alloc] at ha
  generalize hob : w.heap.size = ob at *
  have HA := Lib.hid ha
  have c0 : (((w.alloc (.cells #[.pointer (some ⟨p, 0, none⟩)] 22)).alloc (.cells #[.int .i64 n] 3)).alloc (.cells #[.int .i64 0] 3)).cell? ⟨ob, 0, none⟩ = some (.pointer (some ⟨p, 0, none⟩)) := Sat.cell (T := 22) (cs := #[.pointer (some ⟨p, 0, none⟩)]) ha.p3 0 rfl
  have c1 : (((w.alloc (.cells #[.pointer (some ⟨p, 0, none⟩)] 22)).alloc (.cells #[.int .i64 n] 3)).alloc (.cells #[.int .i64 0] 3)).cell? ⟨ob + 1, 0, none⟩ = some (.int .i64 n) := Sat.cell (T := 3) (cs := #[.int .i64 n]) ha.p2 0 rfl
  have HN := Lib.hid (callsIn_wide (n := 5) |>.2 (dr_steps ha (some ⟨p, 0, none⟩)))
  clear ha h
  have q1 : decide (n < 1) = false := by simp; omega
  refine callsIn_of_wp_marks Try.func34 rfl trivial ?_
  simp only [Try.ntmps34, List.size_toArray, List.length_cons, List.length_nil, Nat.reduceAdd, Nat.reduceSub, Array.replicate_succ, Array.replicate_zero, List.push_toArray, List.append_toArray, List.nil_append, List.cons_append]
  try rw [hob]
  gi_wp2
  refine ⟨trivial, HN.out.mono ?_⟩
  rintro e w1 ⟨hb, rfl, h2⟩
  have h3 : Sat w0 w1 (drI ob (ob + 1) (ob + 1 + 1) p n A [] * (stR m p hb X A ([] : List (Int × Nat)).length * F)) := by
    refine Sat.intro_wh ⟨by show (0 : Int) < n; omega, fun i hi => by simp at hi⟩ ?_
    refine h2.cast ?_
    unfold drB stR
    show _ = _ * (_ * (heapR m p A * X) * F)
    simp only [List.length_nil, Int.ofNat_zero, Int.cast_ofNat_Int]
    ac_rfl
  clear h2
  gi_wp2
  refine wpIn_rangeFunc_sep (w0 := w0) (n := 6) h1 (gf := 134) (lb := #[.pointer (some ⟨hb, 0, none⟩)]) rfl (enters_of Try.func134 (by kernel_rfl) rfl)
    (steps_seq (M := 3) H hB hb) (fun _ => rfl) (fun pre => drI ob (ob + 1) (ob + 1 + 1) p n A pre) (fun c pre => drX ob (ob + 1) (ob + 1 + 1) p n A c pre) h3
    (fun x => { tmps := #[.pointer (some ⟨p, 0, none⟩), .int .i64 n, .pointer (some ⟨ob, 0, none⟩), .pointer (some ⟨ob + 1, 0, none⟩), .int .i64 0, .pointer (some ⟨ob + 1 + 1, 0, none⟩), .int .i64 x.1, .func (.func (doId x.2)) #[] #[], .int .i64 n, .bool false, .pointer (some ⟨p, 0, none⟩), .func (.func 134) #[] #[.pointer (some ⟨hb, 0, none⟩)], .int .i64 x.1, .func (.func (doId x.2)) #[] #[], undef, undef, undef, undef, undef, undef, undef, undef, undef, undef], defers := [] }) ?assign ?body ?done ?stop
  case assign =>
    intro l x W K hK
    unfold stEnc
    gi_wp2
    exact hK
  case body =>
    intro lid pre x W G hs hok
    obtain ⟨⟨hlt, hne⟩, h4⟩ := hs.elim_wh
    obtain ⟨⟨q, hq⟩, hx2⟩ := hok
    have hHk := H.steps pre.length
    have h5 : Sat w0 W (heapR m p (stepN pre.length A) * (X * (pt ob (.cells #[.pointer (some ⟨p, 0, none⟩)] 22 (0, 0)) * (pt (ob + 1) (.cells #[.int .i64 n] 3 (0, 0)) * (pt (ob + 1 + 1) (.cells #[.int .i64 (pre.length : Int)] 3 (0, 0)) * (pt hb (.cells #[.pointer (some ⟨p, 0, none⟩)] 22 (0, 0)) * G)))))) := h4.cast (by unfold drB stR; ac_rfl)
    have d0 : W.cell? ⟨ob, 0, none⟩ = some (.pointer (some ⟨p, 0, none⟩)) := Sat.cell (T := 22) (cs := #[.pointer (some ⟨p, 0, none⟩)]) h5.p3 0 rfl
    have HD := Lib.hid (CallsIn.inRound lid (callsIn_wide (n := 3) |>.2 (dr_do hHk hB hX.right h5 hq)))
    rw [← hx2] at HD
    obtain ⟨xn, xk⟩ := x
    have hk3 : xk = 0 ∨ xk = 1 ∨ xk = 2 := by
      dsimp only at hx2
      rw [hx2]
      unfold AHeap.kind1
      split
      · exact .inl rfl
      · split
        · exact .inr (.inr rfl)
        · exact .inr (.inl rfl)
    have hln : (pre ++ [(xn, xk)]).length = pre.length + 1 := by simp
    have HNE := Lib.hid hne
    have HQ := Lib.hid hq
    clear h4 h5 hs hq hx2 hne
    rcases hk3 with rfl | rfl | rfl
    all_goals
      dsimp only [doId] at HD ⊢
      gi_wp2
      refine ⟨trivial, HD.out.mono ?_⟩
      rintro e W2 ⟨rfl, h6⟩
      have e0 : W2.cell? ⟨ob + 1, 0, none⟩ = some (.int .i64 n) := Sat.cell (T := 3) (cs := #[.int .i64 n]) h6.p4 0 rfl
      have e1 : W2.cell? ⟨ob + 1 + 1, 0, none⟩ = some (.int .i64 (pre.length : Int)) := Sat.cell (T := 3) (cs := #[.int .i64 (pre.length : Int)]) h6.p5 0 rfl
      have e2 : W2.frozen? ⟨ob + 1 + 1, 0, none⟩ = false := Sat.free (T := 3) (cs := #[.int .i64 (pre.length : Int)]) h6.p5 0
      have h7 : Sat w0 (W2.setCell ⟨ob + 1 + 1, 0, none⟩ (.int .i64 ((pre.length : Int) + 1))) (pt (ob + 1 + 1) (.cells #[.int .i64 ((pre.length : Int) + 1)] 3 (0, 0)) * (heapR m p (stepN pre.length A).stepF * (X * (pt ob (.cells #[.pointer (some ⟨p, 0, none⟩)] 22 (0, 0)) * (pt (ob + 1) (.cells #[.int .i64 n] 3 (0, 0)) * (pt hb (.cells #[.pointer (some ⟨p, 0, none⟩)] 22 (0, 0)) * G)))))) := Sat.store (T := 3) (cs := #[.int .i64 (pre.length : Int)]) h6.p5 (i := 0) (.int .i64 ((pre.length : Int) + 1))
      have g0 : (W2.setCell ⟨ob + 1 + 1, 0, none⟩ (.int .i64 ((pre.length : Int) + 1))).cell? ⟨ob + 1, 0, none⟩ = some (.int .i64 n) := Sat.cell (T := 3) (cs := #[.int .i64 n]) h7.p5 0 rfl
      have g1 : (W2.setCell ⟨ob + 1 + 1, 0, none⟩ (.int .i64 ((pre.length : Int) + 1))).cell? ⟨ob + 1 + 1, 0, none⟩ = some (.int .i64 ((pre.length : Int) + 1)) := Sat.cell (T := 3) (cs := #[.int .i64 ((pre.length : Int) + 1)]) h7 0 rfl
      have H7 := Lib.hid h7
      clear h6 h7
      by_cases hlast : (pre.length : Int) + 1 = n
      · have f1 : ((pre.length : Int) + 1 == n) = true := by simp [hlast]
        have HLA := Lib.hid hlast
        clear hlast
        gi_wp2
        show Sat w0 _ (drX ob (ob + 1) (ob + 1 + 1) p n A (.exit 0) _ * (stR m p hb X A _ * G))
        exact Sat.intro_wh ⟨rfl, by rw [hln]; have := HLA.out; omega, nonempty_succ HNE.out HQ.out hln⟩ (dr_close H7.out hln)
      · have f1 : ((pre.length : Int) + 1 == n) = false := by simp [hlast]
        have HLA := Lib.hid hlast
        clear hlast
        gi_wp2
        show Sat w0 _ (drI ob (ob + 1) (ob + 1 + 1) p n A _ * (stR m p hb X A _ * G))
        exact Sat.intro_wh ⟨by rw [hln]; have := HLA.out; omega, nonempty_succ HNE.out HQ.out hln⟩ (dr_close H7.out hln)
  case done =>
    intro D xs W hS hs
    obtain ⟨⟨hlt, hne⟩, h4⟩ := hs.p2.elim_wh
    have hfin := drainN_of n.toNat xs.length A (by omega) hne (.inr hS)
    have h5 : Sat w0 W (pt (ob + 1 + 1) (.cells #[.int .i64 (xs.length : Int)] 3 (0, 0)) * (pt D (.deferred (some [])) * (heapR m p (stepN xs.length A) * (X * (pt ob (.cells #[.pointer (some ⟨p, 0, none⟩)] 22 (0, 0)) * (pt (ob + 1) (.cells #[.int .i64 n] 3 (0, 0)) * (pt hb (.cells #[.pointer (some ⟨p, 0, none⟩)] 22 (0, 0)) * F))))))) := h4.cast (by unfold drB stR; ac_rfl)
    have e1 : W.cell? ⟨ob + 1 + 1, 0, none⟩ = some (.int .i64 (xs.length : Int)) := Sat.cell (T := 3) (cs := #[.int .i64 (xs.length : Int)]) h5 0 rfl
    have hK := h5.p2.blk
    have HF := Lib.hid hfin
    have H5 := Lib.hid h5
    clear h4 h5 hs hS hfin hne
    gi_wp2
    refine ⟨by simp, .inl ⟨_, _, rfl, run_takeDeferred hK, ?_⟩⟩
    refine ⟨_, results_tmp rfl _ _ _, ?_⟩
    rw [HF.out]
    have h6 := (H5.out.p2.putObj (.deferred none)).drop.drop
    have h7 : Sat w0 (W.putObj D (.deferred none)) (pt ob (.cells #[.pointer (some ⟨p, 0, none⟩)] 22 (0, 0)) * (pt (ob + 1) (.cells #[.int .i64 n] 3 (0, 0)) * (pt hb (.cells #[.pointer (some ⟨p, 0, none⟩)] 22 (0, 0)) * (heapR m p (stepN xs.length A) * (X * F))))) := h6.cast (by ac_rfl)
    exact ⟨rfl, h7.drop.drop.drop⟩
  case stop =>
    intro D c2 pre W _ hs
    obtain ⟨⟨rfl, hlt, hne⟩, h4⟩ := hs.p2.elim_wh
    have hfin := drainN_of n.toNat pre.length A (by omega) hne (.inl (by omega))
    have h5 : Sat w0 W (pt (ob + 1 + 1) (.cells #[.int .i64 (pre.length : Int)] 3 (0, 0)) * (pt D (.deferred (some [])) * (heapR m p (stepN pre.length A) * (X * (pt ob (.cells #[.pointer (some ⟨p, 0, none⟩)] 22 (0, 0)) * (pt (ob + 1) (.cells #[.int .i64 n] 3 (0, 0)) * (pt hb (.cells #[.pointer (some ⟨p, 0, none⟩)] 22 (0, 0)) * F))))))) := h4.cast (by unfold drB stR; ac_rfl)
    have e1 : W.cell? ⟨ob + 1 + 1, 0, none⟩ = some (.int .i64 (pre.length : Int)) := Sat.cell (T := 3) (cs := #[.int .i64 (pre.length : Int)]) h5 0 rfl
    have hK := h5.p2.blk
    have HF := Lib.hid hfin
    have H5 := Lib.hid h5
    clear h4 h5 hs hfin hne hlt
    gi_wp2
    refine ⟨by simp, .inl ⟨_, _, rfl, run_takeDeferred hK, ?_⟩⟩
    refine ⟨_, results_tmp rfl _ _ _, ?_⟩
    rw [HF.out]
    have h6 := (H5.out.p2.putObj (.deferred none)).drop.drop
    have h7 : Sat w0 (W.putObj D (.deferred none)) (pt ob (.cells #[.pointer (some ⟨p, 0, none⟩)] 22 (0, 0)) * (pt (ob + 1) (.cells #[.int .i64 n] 3 (0, 0)) * (pt hb (.cells #[.pointer (some ⟨p, 0, none⟩)] 22 (0, 0)) * (heapR m p (stepN pre.length A) * (X * F))))) := h6.cast (by ac_rfl)
    exact ⟨rfl, h7.drop.drop.drop⟩
end
end Go.Proofs.Ytkpcngcegipalaa.Tw
