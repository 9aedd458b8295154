/- tallowref13: Make. No condition. -/
import Derived.Test.YtkpcngcegipalaaZPIn24
namespace Go.Proofs.Ytkpcngcegipalaa.Tw
set_option linter.unusedVariables false
set_option linter.unusedSimpArgs false
open Go Go.RowKit Go.MapKept
attribute [local go_sem] lookE lkE valUpon
section
variable {w0 w : World} {p : Nat} {A : AHeap} {F SR : HP} {B : Int} {X : List XObj} {oa : Option Addr} {oc : Nat} {qa : Option Addr} {qc : Nat} {ba : Option Addr} {bc : Nat} {fa : Option Addr} {fc : Nat} {sa : Option Addr} {sc : Nat}
theorem ff_spec : ∀ {T : List Bool} {d : Nat}, (∀ i, i < d → T[i]? = some true) → T[d]? ≠ some true → firstFree T = d
  | [], d, h, _ => by
    cases d with
    | zero => rfl
    | succ d => have := h 0 (by omega); simp at this
  | b :: T, d, h, hn => by
    cases d with
    | zero =>
      have : b ≠ true := fun e => hn (by rw [e]; rfl)
      unfold firstFree; simp [this]
    | succ d =>
      have h0 : b = true := by simpa using h 0 (by omega)
      unfold firstFree
      rw [if_pos h0, ff_spec (d := d) (fun i hi => by simpa using h (i + 1) (by omega)) (by simpa using hn)]
theorem tk_get (T : List Bool) (i : Nat) : tk T ((i : Int) + 1) = true ↔ T[i]? = some true := by
  unfold tk
  rw [show ((i : Int) + 1 - 1).toNat = i by omega]
  simp only [Bool.and_eq_true, decide_eq_true_eq]
  constructor
  · rintro ⟨_, h⟩
    cases e : T[i]? with
    | none => rw [e] at h; cases h
    | some b => rw [e] at h; simp at h; rw [h]
  · intro h
    exact ⟨by omega, by rw [h]; rfl⟩
/-- all five cells of an object, written -/
theorem setAny {g off N oc k xc : Nat} {xa : Option Addr} {o : AObj} (h : Sat w0 w (slc 39 5 (some ⟨g, off, none⟩) N oc (xscells X) * F)) (hx : X[k]? = some (o, xa, xc)) (hk : k < N) (y : AObj) (ya : Option Addr) (yc : Nat) :
    Sat w0 (((((w.setCell ⟨g, off + k * 5, none⟩ (.int .i64 y.kind)).setCell ⟨g, off + k * 5 + 1, none⟩ (.int .i64 y.count)).setCell ⟨g, off + k * 5 + 2, none⟩ (.slice ya y.slots.length yc)).setCell ⟨g, off + k * 5 + 3, none⟩ (.string y.text)).setCell ⟨g, off + k * 5 + 4, none⟩ (.int .i64 y.mark))
      (slc 39 5 (some ⟨g, off, none⟩) N oc (xscells (X.set k (y, ya, yc))) * F) := by
  have hl := (List.getElem?_eq_some_iff.1 hx).1
  have key : ∀ (Y : List XObj) (y : XObj), k < Y.length → (Y.set k y)[k]? = some y := fun Y y h => by rw [List.getElem?_set_self h]
  have h0 := h.slcStore (j := k * 5 + 0) (by omega) (.int .i64 y.kind)
  rw [← xscells_set (y := ({ o with kind := y.kind }, xa, xc)) hx (by omega) rfl] at h0
  have h1 := h0.slcStore (j := k * 5 + 1) (by omega) (.int .i64 y.count)
  rw [← xscells_set (y := ({ o with kind := y.kind, count := y.count }, xa, xc)) (key _ _ (by simpa using hl)) (by omega) rfl] at h1
  have h2 := h1.slcStore (j := k * 5 + 2) (by omega) (.slice ya y.slots.length yc)
  rw [← xscells_set (y := ({ o with kind := y.kind, count := y.count, slots := y.slots }, ya, yc)) (key _ _ (by simpa using hl)) (by omega) rfl] at h2
  have h3 := h2.slcStore (j := k * 5 + 3) (by omega) (.string y.text)
  rw [← xscells_set (y := ({ o with kind := y.kind, count := y.count, slots := y.slots, text := y.text }, ya, yc)) (key _ _ (by simpa using hl)) (by omega) rfl] at h3
  have h4 := h3.slcStore (j := k * 5 + 4) (by omega) (.int .i64 y.mark)
  rw [← xscells_set (y := (y, ya, yc)) (key _ _ (by simpa using hl)) (by omega) rfl] at h4
  simp only [List.set_set, Nat.add_zero, ← Nat.add_assoc] at h4
  exact h4
theorem graphL_snoc {A' : AHeap} {N : Nat} {o : AObj} {y : Option Addr × Nat} (hx : X.map (·.1) = graphL A N) (h1 : A'.obj ((N : Int) + 1) = o) (h2 : ∀ n, n ≠ (N : Int) + 1 → A'.obj n = A.obj n) : (X ++ [(o, y)]).map (·.1) = graphL A' (N + 1) := by
  rw [List.map_append, hx]
  unfold graphL
  rw [List.range_succ, List.map_append]
  simp only [List.map_cons, List.map_nil, h1]
  congr 1
  apply List.map_congr_left
  intro i hi
  exact (h2 _ (by have := List.mem_range.1 hi; omega)).symm
set_option maxRecDepth 100000 in
set_option maxHeartbeats 2000000 in
theorem r_Make_no (h : Sat w0 w (refR13 p A * F)) (k : Int) (tx : ByteArray) (hno : makeOk k tx = false) :
    Calls Try.prog 91 #[.pointer (some ⟨p, 0, none⟩), .int .i64 k, .string tx] w fun e w' => e = .returned (.agg #[.int .i64 0, .int .i64 0]) ∧ Sat w0 w' (refR13 p A * F) := by
  have h1 := h.alloc (.cells #[.int .i64 0, .int .i64 0] 28)
  have ⟨v0, v1, vf0, vf1⟩ := val2' h1
  have hz := h1.setVal 0 0
  have hcs : k < 5 ∨ (5 ≤ k ∧ 9 < k) ∨ (5 ≤ k ∧ k ≤ 9 ∧ 4096 < tx.size) := by
    unfold makeOk at hno
    simp only [Bool.and_eq_false_iff, decide_eq_false_iff_not] at hno
    omega
  clear hno
  rcases hcs with hc | ⟨hc1, hc2⟩ | ⟨hc1, hc2, hc3⟩
  · have f1 : decide (k < 5) = true := by simpa using hc
    go_enter Try.func91, Try.ntmps91
    go_wp2_with fail
    refine bodyPost_cell rfl rfl (load_val h1) rfl ⟨rfl, h1.drop⟩
  · have f1 : decide (k < 5) = false := by simp; omega
    have f2 : decide (9 < k) = true := by simpa using hc2
    go_enter Try.func91, Try.ntmps91
    go_wp2_with fail
    refine bodyPost_cell rfl rfl (load_val h1) rfl ⟨rfl, h1.drop⟩
  · have f1 : decide (k < 5) = false := by simp; omega
    have f2 : decide (9 < k) = false := by simp; omega
    have f3 : decide (4096 < tx.size) = true := by simpa using hc3
    go_enter Try.func91, Try.ntmps91
    go_wp2_with fail
    refine bodyPost_cell rfl rfl (load_val h1) rfl ⟨rfl, h1.drop⟩
set_option maxRecDepth 100000 in
set_option maxHeartbeats 8000000 in
theorem r_Make_yes (H : HW A B) (hB : B ≤ 1000000) (h : Sat w0 w (refR13 p A * F)) (k : Int) (tx : ByteArray) (hok : makeOk k tx = true) :
    Calls Try.prog 91 #[.pointer (some ⟨p, 0, none⟩), .int .i64 k, .string tx] w fun e w' => e = .returned (.agg #[.int .i64 k, .int .i64 A.fresh]) ∧ Sat w0 w' (refR13 p (A.make k tx) * F) := by
  have hT := H.t
  have hk : 5 ≤ k ∧ k ≤ 9 ∧ tx.size ≤ 4096 := by
    unfold makeOk at hok
    simp only [Bool.and_eq_true, decide_eq_true_eq] at hok
    exact ⟨hok.1.1, hok.1.2, hok.2⟩
  obtain ⟨ty, hty⟩ : ∃ ty, ty = (if k = 5 then tx else ByteArray.mk #[]) := ⟨_, rfl⟩
  have hmk : A.make k tx = { A with T := takeT A.T, objs := fun j => if j = A.fresh then some ⟨k, 1, [], ty, 0⟩ else A.objs j } := by rw [hty]; rfl
  have h1 := (h.alloc (.cells #[.int .i64 0, .int .i64 0] 28)).alloc (.cells #[.int .i64 k, .int .i64 1, .slice none 0 0, .string ty, .int .i64 0] 39)
  rw [size_alloc] at h1
  have f1 : decide (k < 5) = false := by simp; omega
  have f2 : decide (9 < k) = false := by simp; omega
  have f3 : decide (4096 < tx.size) = false := by simp; omega
  have HM := Lib.hid hmk
  have HTH := Lib.hid (fun (w' : World) (G : HP) (n : Int) (hh : Sat w0 w' (refR13 p A * G)) => r_There H hB hh n rfl)
  have HHT := Lib.hid H.ht
  generalize hb : w.heap.size = b at *
  have HF := Lib.hid (fun (w' : World) (G : HP) (hh : Sat w0 w' (refR13 p A * G)) => (show ∃ oa oc, w'.cell? ⟨p, 0, none⟩ = some (.slice oa A.T.length oc) from by obtain ⟨_, oa, oc, _, _, _, _, _, _, _, _, oo⟩ := hh.openR; exact ⟨oa, oc, oo.c0⟩))
  have H1 := Lib.hid h1
  have hcase : (k = 5 ∧ ty = tx) ∨ (k ≠ 5 ∧ ty = ByteArray.mk #[]) := by
    by_cases e : k = 5
    · exact .inl ⟨e, by rw [hty, if_pos e]⟩
    · exact .inr ⟨e, by rw [hty, if_neg e]⟩
  clear hmk hty hok H h h1
  rcases hcase with ⟨hk5, rfl⟩ | ⟨hk5, rfl⟩
  · have fk : (k == 5) = true := by simpa using hk5
    clear hk5
    go_enter Try.func91, Try.ntmps91
    go_wp2_with fail
    go_loopw [8] (fun iv wr => ∃ i : Nat, iv = .int .i64 ((i : Int) + 1) ∧ i ≤ A.T.length ∧ Hid (∀ m, m < i → A.T[m]? = some true) ∧ Sat w0 wr (pt (b + 1) (.cells #[.int .i64 k, .int .i64 1, .slice none 0 0, .string ty, .int .i64 0] 39 (0, 0)) * (pt b (.cells #[.int .i64 0, .int .i64 0] 28) * (refR13 p A * F)))) (fun iv _ => A.T.length + 1 - (intOf iv).toNat)
    case atStart => exact ⟨0, rfl, by omega, Lib.hid (fun _ h => absurd h (by omega)), H1.out⟩
    case round =>
      obtain ⟨i, rfl, hi, hall, hs⟩ := hrel
      have HS := Lib.hid (hs.cast (show _ = refR13 p A * (pt (b + 1) (.cells #[.int .i64 k, .int .i64 1, .slice none 0 0, .string ty, .int .i64 0] 39 (0, 0)) * (pt b (.cells #[.int .i64 0, .int .i64 0] 28) * F)) from by ac_rfl))
      obtain ⟨oa, oc, c0⟩ := HF.out _ _ HS.out
      by_cases hlt : i < A.T.length
      · have hlt2 : (i : Int) + 1 ≤ (A.T.length : Int) := by omega
        have hlt3 : (i : Int) < (A.T.length : Int) := by omega
        have HC := Lib.hid (HTH.out _ _ ((i : Int) + 1) HS.out)
        cases ht : (A.objs ((i : Int) + 1)).isSome with
        | true =>
          rw [ht] at HC
          have HI := Lib.hid ((tk_get A.T i).1 (by rw [← HHT.out, ht]))
          clear ht
          go_wp2_with fail
          refine HC.out.mono ?_
          rintro e w2 ⟨rfl, rfl⟩
          go_wp2_with fail
          go_roundw
          case rel => exact ⟨i + 1, by go_num, by omega, Lib.hid (fun m hm => by
            rcases Nat.lt_succ_iff_lt_or_eq.1 hm with h | h
            · exact hall.out m h
            · rw [h]; exact HI.out), hs⟩
          case measure => simp [intOf]; omega
        | false =>
          rw [ht] at HC
          have hff : firstFree A.T = i := ff_spec hall.out (fun e => by
            have h1 := (tk_get A.T i).2 e
            rw [← HHT.out, ht] at h1
            cases h1)
          have hfr : A.fresh = (i : Int) + 1 := by unfold AHeap.fresh; rw [hff]
          have htk : takeT A.T = A.T.set i true := by unfold takeT; rw [hff, if_pos hlt]
          have htl : (takeT A.T).length = A.T.length := by rw [htk, List.length_set]
          have HR := Lib.hid (And.intro hfr htl)
          clear c0
          obtain ⟨X, oa, oc, qa, qc, ba, bc, fa, fc, sa, sc, op⟩ := HS.out.openR
          obtain ⟨g, off, xa, xc, eoa, hx, _⟩ := op.obj (k := i) hlt
          subst eoa
          have c0 := op.c0
          obtain ⟨R, hR, hsl⟩ := op.slots hx
          have h5 := hsl.cast (show _ = slc 39 5 (some ⟨g, off, none⟩) A.T.length oc (xscells X) * (slc 28 2 xa (A.obj ((i : Int) + 1)).slots.length xc (avcells (A.obj ((i : Int) + 1)).slots) * (row p 51 (rcellsH A (some ⟨g, off, none⟩) oc qa qc ba bc fa fc sa sc) * (R * rrest A qa qc ba bc fa fc sa sc (pt (b + 1) (.cells #[.int .i64 k, .int .i64 1, .slice none 0 0, .string ty, .int .i64 0] 39 (0, 0)) * (pt b (.cells #[.int .i64 0, .int .i64 0] 28) * F))))) by ac_rfl)
          have ⟨y0, y1, y2, y3, y4, _⟩ := ocells hs
          have ⟨u0, u1, uf0, uf1⟩ := val2' hs.p2
          have f0 := slcO_free h5 hx (j := 0) (by omega)
          have g1 := slcO_free h5 hx (j := 1) (by omega)
          have g2 := slcO_free h5 hx (j := 2) (by omega)
          have g3 := slcO_free h5 hx (j := 3) (by omega)
          have g4 := slcO_free h5 hx (j := 4) (by omega)
          rw [Nat.add_zero] at f0
          have h6 := setAny h5 hx hlt (⟨k, 1, [], ty, 0⟩ : AObj) none 0
          dsimp only [List.length_nil] at h6
          have h7 := h6.drew.cast (show _ = pt b (.cells #[.int .i64 0, .int .i64 0] 28) * (slc 28 2 xa (A.obj ((i : Int) + 1)).slots.length xc (avcells (A.obj ((i : Int) + 1)).slots) * (pt (b + 1) (.cells #[.int .i64 k, .int .i64 1, .slice none 0 0, .string ty, .int .i64 0] 39 (0, 0)) * (row p 51 (rcellsH A (some ⟨g, off, none⟩) oc qa qc ba bc fa fc sa sc) * (slc 39 5 (some ⟨g, off, none⟩) A.T.length oc (xscells (X.set i ((⟨k, 1, [], ty, 0⟩ : AObj), none, 0))) * (R * rrest A qa qc ba bc fa fc sa sc F))))) by unfold rrest; ac_rfl)
          have h8 := h7.setVal k ((i : Int) + 1)
          have h9 := h8.drop.drop.drop.nilSlc (T := 28) (sz := 2)
          have op2 : ROpen w0 _ p (A.make k ty) F (X.set i ((⟨k, 1, [], ty, 0⟩ : AObj), none, 0)) (some ⟨g, off, none⟩) oc qa qc ba bc fa fc sa sc := ROpen.mk (by
              rw [HM.out]
              show _ = graphL _ (takeT A.T).length
              rw [htl]
              exact graphL_set hlt op.hx (by unfold AHeap.obj; simp [hfr]) (fun n hn => by unfold AHeap.obj; simp [hfr, hn])) (h9.cast (by
              rw [hR _, HM.out]
              have er : rcellsH { A with T := takeT A.T, objs := fun j => if j = A.fresh then some ⟨k, 1, [], ty, 0⟩ else A.objs j } (some ⟨g, off, none⟩) oc qa qc ba bc fa fc sa sc = rcellsH A (some ⟨g, off, none⟩) oc qa qc ba bc fa fc sa sc := by unfold rcellsH; dsimp only; rw [htl]
              rw [er]
              show slc _ 2 none 0 0 [] * _ = row _ _ _ * (slc _ 5 _ (takeT A.T).length _ _ * (slc _ 2 none 0 0 [] * R * _))
              rw [htl]
              unfold rrest
              dsimp only
              ac_rfl))
          have HO := Lib.hid (And.intro h7 (And.intro h8 op2.shut))
          have hj4 : IntKind.i64.wrap (i : Int) = i := IntWalk.i64_in _ (by omega)
          clear hff hfr htk htl op hx hR hsl h5 h6 h7 h8 h9 op2 ht hs
          generalize A.T.length = N at *
          go_wp2_with fail
          refine HC.out.mono ?_
          rintro e w2 ⟨rfl, rfl⟩
          go_wp2_with fail
          refine wp_region_tail 8 (by kernel_rfl) (by kernel_rfl) ?_
          simp only [List.take_succ_cons, List.take_zero, List.drop_succ_cons, List.drop_zero]
          iterate 8 still_step
          refine wpStill_nil ?_
          refine wpList_plain rfl fun K' hK' => ?_
          go_simp
          refine hK' _ _ ?_
          clear y0 y1 y2 y3 y4 u0 u1 uf0 uf1 f0 g1 g2 g3 g4 c0 HC
          generalize (((((wr.setCell ⟨g, off + i * 5, none⟩ (.int .i64 k)).setCell ⟨g, off + i * 5 + 1, none⟩ (.int .i64 1)).setCell ⟨g, off + i * 5 + 2, none⟩ (.slice none 0 0)).setCell ⟨g, off + i * 5 + 3, none⟩ (.string ty)).setCell ⟨g, off + i * 5 + 4, none⟩ (.int .i64 0)).drew = W at *
          have ⟨u0, u1, uf0, uf1⟩ := val2' HO.out.1
          go_wp2_with fail
          refine bodyPost_cell rfl rfl (load_val HO.out.2.1) rfl ⟨by rw [HR.out.1], HO.out.2.2⟩
      · have hlt2 : ¬ ((i : Int) + 1 ≤ (A.T.length : Int)) := by omega
        have hff : firstFree A.T = A.T.length := ff_spec (fun m hm => hall.out m (by omega)) (by simp)
        have hfr : A.fresh = (A.T.length : Int) + 1 := by unfold AHeap.fresh; rw [hff]
        have htk : takeT A.T = A.T ++ [true] := by unfold takeT; rw [hff, if_neg (by omega)]
        have HR := Lib.hid (And.intro hfr htk)
        clear c0
        obtain ⟨X, oa, oc, qa, qc, ba, bc, fa, fc, sa, sc, op⟩ := HS.out.openR
        have c0 := op.c0
        obtain ⟨RR, hRR⟩ : ∃ RR : HP, RR = pt b (.cells #[.int .i64 0, .int .i64 0] 28) * (xslotsR X * rrest A qa qc ba bc fa fc sa sc F) := ⟨_, rfl⟩
        have h0 : Sat w0 wr (row p 51 (rcellsH A oa oc qa qc ba bc fa fc sa sc) * (slc 39 5 oa A.T.length oc (xscells X) * (pt (b + 1) (.cells #[.int .i64 k, .int .i64 1, .slice none 0 0, .string ty, .int .i64 0] 39 (0, 0)) * (RR)))) := op.hs.cast (by rw [hRR]; unfold rrest; ac_rfl)
        have HRR := Lib.hid hRR
        have HOX := Lib.hid op.hx
        clear hff hfr htk hs hRR op HS hall
        go_wp2_with fail
        refine wp_gen fun a0 ha => ?_
        have hb0 : base a0 0 = .pointer (some ⟨p, 0, none⟩) := by rw [ha]; rfl
        have hb7 : base a0 7 = .pointer (some ⟨b + 1, 0, none⟩) := by rw [ha]; rfl
        have hsz0 : a0.tmps.size = 68 := by rw [ha]; rfl
        have HA0 := Lib.hid (And.intro hsz0 ha)
        clear ha hsz0
        refine GW.start (X := Option Addr × Nat) (w0 := w0) (B := [row p 51 (rcellsH A oa oc qa qc ba bc fa fc sa sc), slc 39 5 oa A.T.length oc (xscells X), pt (b + 1) (.cells #[.int .i64 k, .int .i64 1, .slice none 0 0, .string ty, .int .i64 0] 39 (0, 0)), RR]) (a0 := a0) ?_
        refine GW.det (d := (some 51)) [] [] rfl (fun e => by rfl) ?_; apply Exists.intro; refine ⟨fun e w' F hs => ?_, ?_, ?_⟩
        · first | (go_simp; done) | (go_simp; rfl)
        · exact (fun _ _ _ => rfl)
        refine GW.det (d := (some 52)) [] [] rfl (fun e => by rfl) ?_; apply Exists.intro; refine ⟨fun e w' F hs => ?_, ?_, ?_⟩
        · first | (go_simp; done) | (go_simp; rfl)
        · exact (fun _ _ _ => rfl)
        refine GW.det (d := (some 53)) [] [] rfl (fun e => by rfl) ?_; apply Exists.intro; refine ⟨fun e w' F hs => ?_, ?_, ?_⟩
        · first | (go_simp; done) | (go_simp; rfl)
        · exact (fun _ _ _ => rfl)
        refine GW.det (d := (some 54)) [] [] rfl (fun e => by rfl) ?_; apply Exists.intro; refine ⟨fun e w' F hs => ?_, ?_, ?_⟩
        · first | (go_simp; done) | (go_simp; rfl)
        · exact (fun _ _ _ => rfl)
        refine GW.det (d := (some 55)) [0] [] rfl (fun e => by rfl) ?_; apply Exists.intro; refine ⟨fun e w' F hs => ?_, ?_, ?_⟩
        · have y0 : w'.cell? ⟨p, 0, none⟩ = some (.slice oa A.T.length oc) := (show Sat w0 w' (row p 51 (rcellsH A oa oc qa qc ba bc fa fc sa sc) * F) from hs).cell 0 rfl; first | (go_simp; done) | (go_simp; rfl)
        · exact (fun _ _ _ => rfl)
        refine GW.det (d := (some 56)) [2] [] rfl (fun e => by rfl) ?_; apply Exists.intro; refine ⟨fun e w' F hs => ?_, ?_, ?_⟩
        · have ⟨y0, y1, y2, y3, y4, _⟩ := ocells (show Sat w0 w' (pt (b + 1) (.cells #[.int .i64 k, .int .i64 1, .slice none 0 0, .string ty, .int .i64 0] 39 (0, 0)) * F) from hs); first | (go_simp; done) | (go_simp; rfl)
        · exact (fun _ _ _ => rfl)
        refine GW.new (d := (some 57)) 6 (fun x => .slice x.1 1 1) (fun x => lits x.1 39 [.int .i64 k, .int .i64 1, .slice none 0 0, .string ty, .int .i64 0]) [] rfl rfl (fun e => by rfl) (fun e w' F K hs hK => ?_) ?_
        · go_simp; exact hK (some ⟨_, 0, none⟩, 0) _ (lits_mk ((hs.alloc (.cells #[.int .i64 k, .int .i64 1, .slice none 0 0, .string ty, .int .i64 0] 39)).cast (mul_left_comm _ _ _)))
        refine GW.take (d := (some 58)) 7 (fun e => .slice (e 7).1 (A.T.length + 1) (e 7).2) (fun e => slc 39 5 (e 7).1 (A.T.length + 1) (e 7).2 (xscells (X ++ [((⟨k, 1, [], ty, 0⟩ : AObj), none, 0)]))) [] [1, 10] [7] rfl rfl (fun e => by rfl) (fun e e' hl => by simp only [hl 7 (by decide)]; exact ⟨trivial, trivial⟩) (fun e w' F K hs hK => ?_) ?_
        · obtain ⟨q, hq, hs⟩ := lits_open (show Sat w0 w' ((lits (e 6).1 39 [.int .i64 k, .int .i64 1, .slice none 0 0, .string ty, .int .i64 0]) * (slc 39 5 oa A.T.length oc (xscells X) * F)) from Sat.cast (show Sat w0 w' ((slc 39 5 oa A.T.length oc (xscells X) * lits (e 6).1 39 [.int .i64 k, .int .i64 1, .slice none 0 0, .string ty, .int .i64 0]) * F) from one_out hs) (by ac_rfl)); refine wp_look (d := 58) (sz := 68) rfl HA0.out.1 (by decide) (by rfl) fun a1 ha1 => ?_; refine wp_pushObj _ _ rfl oa A.T.length oc X ((ha1 _).trans rfl) hs.p2 q 1 ((⟨k, 1, [], ty, 0⟩ : AObj), none, 0) ((ha1 _).trans (by rw [← hq]; rfl)) (five_cells hs) (by omega) fun a' c'' w2 h2 => ⟨rfl, _, rfl, ?_⟩; exact hK (a', c'') _ (one_in (h2.drop2))
        refine GW.det (d := (some 59)) [] [] rfl (fun e => by rfl) ?_; apply Exists.intro; refine ⟨fun e w' F hs => ?_, ?_, ?_⟩
        · first | (go_simp; done) | (go_simp; rfl)
        · exact (fun _ _ _ => rfl)
        refine GW.det (d := (some 60)) [] [] rfl (fun e => by rfl) ?_; apply Exists.intro; refine ⟨fun e w' F hs => ?_, ?_, ?_⟩
        · first | (go_simp; done) | (go_simp; rfl)
        · exact (fun _ _ _ => rfl)
        refine GW.take (d := none) 10 (fun e => undef) (fun e => row p 51 ((rcellsH A oa oc qa qc ba bc fa fc sa sc).setIfInBounds 0 (.slice (e 7).1 (A.T.length + 1) (e 7).2))) [] [0] [7] rfl rfl (fun e => by rfl) (fun e e' hl => by simp only [hl 7 (by decide)]; exact ⟨trivial, trivial⟩) (fun e w' F K hs hK => ?_) ?_
        · have hs := show Sat w0 w' (row p 51 (rcellsH A oa oc qa qc ba bc fa fc sa sc) * F) from one_out hs; have z0 : w'.cell? ⟨p, 0, none⟩ = some (.slice oa A.T.length oc) := hs.cell 0 rfl; have z1 := hs.free 0; go_simp; exact hK default _ (one_in (hs.store (i := 0) (.slice (e 7).1 (A.T.length + 1) (e 7).2)))
        refine GW.done (sz := 68) [4 + 10, 4 + 7, 2, 3] (by kernel_rfl) (by kernel_rfl) HA0.out.1 (by rfl) h0 (by rfl) fun e w3 gg => ?_
        have ha := HA0.out.2
        subst ha
        clear HA0 hb0 hb7 h0
        simp only [putL, Act.put, List.setIfInBounds_toArray, List.set_cons_zero, List.set_cons_succ]
        have h3 : Sat w0 w3 (row p 51 ((rcellsH A oa oc qa qc ba bc fa fc sa sc).setIfInBounds 0 (.slice (e 7).1 (A.T.length + 1) (e 7).2)) * (slc 39 5 (e 7).1 (A.T.length + 1) (e 7).2 (xscells (X ++ [((⟨k, 1, [], ty, 0⟩ : AObj), none, 0)])) * (pt (b + 1) (.cells #[.int .i64 k, .int .i64 1, .slice none 0 0, .string ty, .int .i64 0] 39 (0, 0)) * RR))) := gg
        clear gg
        generalize e 7 = y7 at *
        obtain ⟨oa', oc'⟩ := y7
        dsimp only at h3 ⊢
        have z0 : w3.cell? ⟨p, 0, none⟩ = some (.slice oa' (A.T.length + 1) oc') := h3.cell 0 rfl
        have h4 := h3.cast (show _ = pt b (.cells #[.int .i64 0, .int .i64 0] 28) * (pt (b + 1) (.cells #[.int .i64 k, .int .i64 1, .slice none 0 0, .string ty, .int .i64 0] 39 (0, 0)) * (row p 51 ((rcellsH A oa oc qa qc ba bc fa fc sa sc).setIfInBounds 0 (.slice oa' (A.T.length + 1) oc')) * (slc 39 5 oa' (A.T.length + 1) oc' (xscells (X ++ [((⟨k, 1, [], ty, 0⟩ : AObj), none, 0)])) * (xslotsR X * rrest A qa qc ba bc fa fc sa sc F)))) by rw [HRR.out]; ac_rfl)
        have ⟨u0, u1, uf0, uf1⟩ := val2' h4
        have h8 := h4.setVal k (((A.T.length + 1 : Nat) : Int))
        have h9 := h8.drop.drop.nilSlc (T := 28) (sz := 2)
        have htl : (takeT A.T).length = A.T.length + 1 := by rw [HR.out.2, List.length_append]; rfl
        have op2 : ROpen w0 _ p (A.make k ty) F (X ++ [((⟨k, 1, [], ty, 0⟩ : AObj), none, 0)]) oa' oc' qa qc ba bc fa fc sa sc := ROpen.mk (by
            rw [HM.out]
            show _ = graphL _ (takeT A.T).length
            rw [htl]
            exact graphL_snoc HOX.out (by unfold AHeap.obj; simp [HR.out.1]) (fun n hn => by unfold AHeap.obj; simp [HR.out.1, hn])) (h9.cast (by
            rw [HM.out, xslotsR_append]
            have er : rcellsH { A with T := takeT A.T, objs := fun j => if j = A.fresh then some ⟨k, 1, [], ty, 0⟩ else A.objs j } oa' oc' qa qc ba bc fa fc sa sc = (rcellsH A oa oc qa qc ba bc fa fc sa sc).setIfInBounds 0 (.slice oa' (A.T.length + 1) oc') := by unfold rcellsH; dsimp only; rw [htl]; rfl
            rw [er]
            show slc _ 2 none 0 0 [] * _ = row _ _ _ * (slc _ 5 _ (takeT A.T).length _ _ * (xslotsR X * (slc _ 2 none 0 0 [] * 1) * _))
            rw [htl, mul_one]
            unfold rrest
            dsimp only
            ac_rfl))
        have HO := Lib.hid (And.intro h8 op2.shut)
        clear h3 h4 h8 h9 op2 H1
        have HN := Lib.hid (show (A.T.length : Int) + 1 = ((A.T.length + 1 : Nat) : Int) by push_cast; rfl)
        generalize A.T.length + 1 = N1 at *
        go_wp2_with fail
        refine bodyPost_cell rfl rfl (load_val HO.out.1) rfl ⟨by rw [HR.out.1, HN.out], HO.out.2⟩
  · have fk : (k == 5) = false := by simpa using hk5
    clear hk5
    go_enter Try.func91, Try.ntmps91
    go_wp2_with fail
    go_loopw [8] (fun iv wr => ∃ i : Nat, iv = .int .i64 ((i : Int) + 1) ∧ i ≤ A.T.length ∧ Hid (∀ m, m < i → A.T[m]? = some true) ∧ Sat w0 wr (pt (b + 1) (.cells #[.int .i64 k, .int .i64 1, .slice none 0 0, .string (ByteArray.mk #[]), .int .i64 0] 39 (0, 0)) * (pt b (.cells #[.int .i64 0, .int .i64 0] 28) * (refR13 p A * F)))) (fun iv _ => A.T.length + 1 - (intOf iv).toNat)
    case atStart => exact ⟨0, rfl, by omega, Lib.hid (fun _ h => absurd h (by omega)), H1.out⟩
    case round =>
      obtain ⟨i, rfl, hi, hall, hs⟩ := hrel
      have HS := Lib.hid (hs.cast (show _ = refR13 p A * (pt (b + 1) (.cells #[.int .i64 k, .int .i64 1, .slice none 0 0, .string (ByteArray.mk #[]), .int .i64 0] 39 (0, 0)) * (pt b (.cells #[.int .i64 0, .int .i64 0] 28) * F)) from by ac_rfl))
      obtain ⟨oa, oc, c0⟩ := HF.out _ _ HS.out
      by_cases hlt : i < A.T.length
      · have hlt2 : (i : Int) + 1 ≤ (A.T.length : Int) := by omega
        have hlt3 : (i : Int) < (A.T.length : Int) := by omega
        have HC := Lib.hid (HTH.out _ _ ((i : Int) + 1) HS.out)
        cases ht : (A.objs ((i : Int) + 1)).isSome with
        | true =>
          rw [ht] at HC
          have HI := Lib.hid ((tk_get A.T i).1 (by rw [← HHT.out, ht]))
          clear ht
          go_wp2_with fail
          refine HC.out.mono ?_
          rintro e w2 ⟨rfl, rfl⟩
          go_wp2_with fail
          go_roundw
          case rel => exact ⟨i + 1, by go_num, by omega, Lib.hid (fun m hm => by
            rcases Nat.lt_succ_iff_lt_or_eq.1 hm with h | h
            · exact hall.out m h
            · rw [h]; exact HI.out), hs⟩
          case measure => simp [intOf]; omega
        | false =>
          rw [ht] at HC
          have hff : firstFree A.T = i := ff_spec hall.out (fun e => by
            have h1 := (tk_get A.T i).2 e
            rw [← HHT.out, ht] at h1
            cases h1)
          have hfr : A.fresh = (i : Int) + 1 := by unfold AHeap.fresh; rw [hff]
          have htk : takeT A.T = A.T.set i true := by unfold takeT; rw [hff, if_pos hlt]
          have htl : (takeT A.T).length = A.T.length := by rw [htk, List.length_set]
          have HR := Lib.hid (And.intro hfr htl)
          clear c0
          obtain ⟨X, oa, oc, qa, qc, ba, bc, fa, fc, sa, sc, op⟩ := HS.out.openR
          obtain ⟨g, off, xa, xc, eoa, hx, _⟩ := op.obj (k := i) hlt
          subst eoa
          have c0 := op.c0
          obtain ⟨R, hR, hsl⟩ := op.slots hx
          have h5 := hsl.cast (show _ = slc 39 5 (some ⟨g, off, none⟩) A.T.length oc (xscells X) * (slc 28 2 xa (A.obj ((i : Int) + 1)).slots.length xc (avcells (A.obj ((i : Int) + 1)).slots) * (row p 51 (rcellsH A (some ⟨g, off, none⟩) oc qa qc ba bc fa fc sa sc) * (R * rrest A qa qc ba bc fa fc sa sc (pt (b + 1) (.cells #[.int .i64 k, .int .i64 1, .slice none 0 0, .string (ByteArray.mk #[]), .int .i64 0] 39 (0, 0)) * (pt b (.cells #[.int .i64 0, .int .i64 0] 28) * F))))) by ac_rfl)
          have ⟨y0, y1, y2, y3, y4, _⟩ := ocells hs
          have ⟨u0, u1, uf0, uf1⟩ := val2' hs.p2
          have f0 := slcO_free h5 hx (j := 0) (by omega)
          have g1 := slcO_free h5 hx (j := 1) (by omega)
          have g2 := slcO_free h5 hx (j := 2) (by omega)
          have g3 := slcO_free h5 hx (j := 3) (by omega)
          have g4 := slcO_free h5 hx (j := 4) (by omega)
          rw [Nat.add_zero] at f0
          have h6 := setAny h5 hx hlt (⟨k, 1, [], (ByteArray.mk #[]), 0⟩ : AObj) none 0
          dsimp only [List.length_nil] at h6
          have h7 := h6.drew.cast (show _ = pt b (.cells #[.int .i64 0, .int .i64 0] 28) * (slc 28 2 xa (A.obj ((i : Int) + 1)).slots.length xc (avcells (A.obj ((i : Int) + 1)).slots) * (pt (b + 1) (.cells #[.int .i64 k, .int .i64 1, .slice none 0 0, .string (ByteArray.mk #[]), .int .i64 0] 39 (0, 0)) * (row p 51 (rcellsH A (some ⟨g, off, none⟩) oc qa qc ba bc fa fc sa sc) * (slc 39 5 (some ⟨g, off, none⟩) A.T.length oc (xscells (X.set i ((⟨k, 1, [], (ByteArray.mk #[]), 0⟩ : AObj), none, 0))) * (R * rrest A qa qc ba bc fa fc sa sc F))))) by unfold rrest; ac_rfl)
          have h8 := h7.setVal k ((i : Int) + 1)
          have h9 := h8.drop.drop.drop.nilSlc (T := 28) (sz := 2)
          have op2 : ROpen w0 _ p (A.make k tx) F (X.set i ((⟨k, 1, [], (ByteArray.mk #[]), 0⟩ : AObj), none, 0)) (some ⟨g, off, none⟩) oc qa qc ba bc fa fc sa sc := ROpen.mk (by
              rw [HM.out]
              show _ = graphL _ (takeT A.T).length
              rw [htl]
              exact graphL_set hlt op.hx (by unfold AHeap.obj; simp [hfr]) (fun n hn => by unfold AHeap.obj; simp [hfr, hn])) (h9.cast (by
              rw [hR _, HM.out]
              have er : rcellsH { A with T := takeT A.T, objs := fun j => if j = A.fresh then some ⟨k, 1, [], (ByteArray.mk #[]), 0⟩ else A.objs j } (some ⟨g, off, none⟩) oc qa qc ba bc fa fc sa sc = rcellsH A (some ⟨g, off, none⟩) oc qa qc ba bc fa fc sa sc := by unfold rcellsH; dsimp only; rw [htl]
              rw [er]
              show slc _ 2 none 0 0 [] * _ = row _ _ _ * (slc _ 5 _ (takeT A.T).length _ _ * (slc _ 2 none 0 0 [] * R * _))
              rw [htl]
              unfold rrest
              dsimp only
              ac_rfl))
          have HO := Lib.hid (And.intro h7 (And.intro h8 op2.shut))
          have hj4 : IntKind.i64.wrap (i : Int) = i := IntWalk.i64_in _ (by omega)
          clear hff hfr htk htl op hx hR hsl h5 h6 h7 h8 h9 op2 ht hs
          generalize A.T.length = N at *
          go_wp2_with fail
          refine HC.out.mono ?_
          rintro e w2 ⟨rfl, rfl⟩
          go_wp2_with fail
          refine wp_region_tail 8 (by kernel_rfl) (by kernel_rfl) ?_
          simp only [List.take_succ_cons, List.take_zero, List.drop_succ_cons, List.drop_zero]
          iterate 8 still_step
          refine wpStill_nil ?_
          refine wpList_plain rfl fun K' hK' => ?_
          go_simp
          refine hK' _ _ ?_
          clear y0 y1 y2 y3 y4 u0 u1 uf0 uf1 f0 g1 g2 g3 g4 c0 HC
          generalize (((((wr.setCell ⟨g, off + i * 5, none⟩ (.int .i64 k)).setCell ⟨g, off + i * 5 + 1, none⟩ (.int .i64 1)).setCell ⟨g, off + i * 5 + 2, none⟩ (.slice none 0 0)).setCell ⟨g, off + i * 5 + 3, none⟩ (.string (ByteArray.mk #[]))).setCell ⟨g, off + i * 5 + 4, none⟩ (.int .i64 0)).drew = W at *
          have ⟨u0, u1, uf0, uf1⟩ := val2' HO.out.1
          go_wp2_with fail
          refine bodyPost_cell rfl rfl (load_val HO.out.2.1) rfl ⟨by rw [HR.out.1], HO.out.2.2⟩
      · have hlt2 : ¬ ((i : Int) + 1 ≤ (A.T.length : Int)) := by omega
        have hff : firstFree A.T = A.T.length := ff_spec (fun m hm => hall.out m (by omega)) (by simp)
        have hfr : A.fresh = (A.T.length : Int) + 1 := by unfold AHeap.fresh; rw [hff]
        have htk : takeT A.T = A.T ++ [true] := by unfold takeT; rw [hff, if_neg (by omega)]
        have HR := Lib.hid (And.intro hfr htk)
        clear c0
        obtain ⟨X, oa, oc, qa, qc, ba, bc, fa, fc, sa, sc, op⟩ := HS.out.openR
        have c0 := op.c0
        obtain ⟨RR, hRR⟩ : ∃ RR : HP, RR = pt b (.cells #[.int .i64 0, .int .i64 0] 28) * (xslotsR X * rrest A qa qc ba bc fa fc sa sc F) := ⟨_, rfl⟩
        have h0 : Sat w0 wr (row p 51 (rcellsH A oa oc qa qc ba bc fa fc sa sc) * (slc 39 5 oa A.T.length oc (xscells X) * (pt (b + 1) (.cells #[.int .i64 k, .int .i64 1, .slice none 0 0, .string (ByteArray.mk #[]), .int .i64 0] 39 (0, 0)) * (RR)))) := op.hs.cast (by rw [hRR]; unfold rrest; ac_rfl)
        have HRR := Lib.hid hRR
        have HOX := Lib.hid op.hx
        clear hff hfr htk hs hRR op HS hall
        go_wp2_with fail
        refine wp_gen fun a0 ha => ?_
        have hb0 : base a0 0 = .pointer (some ⟨p, 0, none⟩) := by rw [ha]; rfl
        have hb7 : base a0 7 = .pointer (some ⟨b + 1, 0, none⟩) := by rw [ha]; rfl
        have hsz0 : a0.tmps.size = 68 := by rw [ha]; rfl
        have HA0 := Lib.hid (And.intro hsz0 ha)
        clear ha hsz0
        refine GW.start (X := Option Addr × Nat) (w0 := w0) (B := [row p 51 (rcellsH A oa oc qa qc ba bc fa fc sa sc), slc 39 5 oa A.T.length oc (xscells X), pt (b + 1) (.cells #[.int .i64 k, .int .i64 1, .slice none 0 0, .string (ByteArray.mk #[]), .int .i64 0] 39 (0, 0)), RR]) (a0 := a0) ?_
        refine GW.det (d := (some 51)) [] [] rfl (fun e => by rfl) ?_; apply Exists.intro; refine ⟨fun e w' F hs => ?_, ?_, ?_⟩
        · first | (go_simp; done) | (go_simp; rfl)
        · exact (fun _ _ _ => rfl)
        refine GW.det (d := (some 52)) [] [] rfl (fun e => by rfl) ?_; apply Exists.intro; refine ⟨fun e w' F hs => ?_, ?_, ?_⟩
        · first | (go_simp; done) | (go_simp; rfl)
        · exact (fun _ _ _ => rfl)
        refine GW.det (d := (some 53)) [] [] rfl (fun e => by rfl) ?_; apply Exists.intro; refine ⟨fun e w' F hs => ?_, ?_, ?_⟩
        · first | (go_simp; done) | (go_simp; rfl)
        · exact (fun _ _ _ => rfl)
        refine GW.det (d := (some 54)) [] [] rfl (fun e => by rfl) ?_; apply Exists.intro; refine ⟨fun e w' F hs => ?_, ?_, ?_⟩
        · first | (go_simp; done) | (go_simp; rfl)
        · exact (fun _ _ _ => rfl)
        refine GW.det (d := (some 55)) [0] [] rfl (fun e => by rfl) ?_; apply Exists.intro; refine ⟨fun e w' F hs => ?_, ?_, ?_⟩
        · have y0 : w'.cell? ⟨p, 0, none⟩ = some (.slice oa A.T.length oc) := (show Sat w0 w' (row p 51 (rcellsH A oa oc qa qc ba bc fa fc sa sc) * F) from hs).cell 0 rfl; first | (go_simp; done) | (go_simp; rfl)
        · exact (fun _ _ _ => rfl)
        refine GW.det (d := (some 56)) [2] [] rfl (fun e => by rfl) ?_; apply Exists.intro; refine ⟨fun e w' F hs => ?_, ?_, ?_⟩
        · have ⟨y0, y1, y2, y3, y4, _⟩ := ocells (show Sat w0 w' (pt (b + 1) (.cells #[.int .i64 k, .int .i64 1, .slice none 0 0, .string (ByteArray.mk #[]), .int .i64 0] 39 (0, 0)) * F) from hs); first | (go_simp; done) | (go_simp; rfl)
        · exact (fun _ _ _ => rfl)
        refine GW.new (d := (some 57)) 6 (fun x => .slice x.1 1 1) (fun x => lits x.1 39 [.int .i64 k, .int .i64 1, .slice none 0 0, .string (ByteArray.mk #[]), .int .i64 0]) [] rfl rfl (fun e => by rfl) (fun e w' F K hs hK => ?_) ?_
        · go_simp; exact hK (some ⟨_, 0, none⟩, 0) _ (lits_mk ((hs.alloc (.cells #[.int .i64 k, .int .i64 1, .slice none 0 0, .string (ByteArray.mk #[]), .int .i64 0] 39)).cast (mul_left_comm _ _ _)))
        refine GW.take (d := (some 58)) 7 (fun e => .slice (e 7).1 (A.T.length + 1) (e 7).2) (fun e => slc 39 5 (e 7).1 (A.T.length + 1) (e 7).2 (xscells (X ++ [((⟨k, 1, [], (ByteArray.mk #[]), 0⟩ : AObj), none, 0)]))) [] [1, 10] [7] rfl rfl (fun e => by rfl) (fun e e' hl => by simp only [hl 7 (by decide)]; exact ⟨trivial, trivial⟩) (fun e w' F K hs hK => ?_) ?_
        · obtain ⟨q, hq, hs⟩ := lits_open (show Sat w0 w' ((lits (e 6).1 39 [.int .i64 k, .int .i64 1, .slice none 0 0, .string (ByteArray.mk #[]), .int .i64 0]) * (slc 39 5 oa A.T.length oc (xscells X) * F)) from Sat.cast (show Sat w0 w' ((slc 39 5 oa A.T.length oc (xscells X) * lits (e 6).1 39 [.int .i64 k, .int .i64 1, .slice none 0 0, .string (ByteArray.mk #[]), .int .i64 0]) * F) from one_out hs) (by ac_rfl)); refine wp_look (d := 58) (sz := 68) rfl HA0.out.1 (by decide) (by rfl) fun a1 ha1 => ?_; refine wp_pushObj _ _ rfl oa A.T.length oc X ((ha1 _).trans rfl) hs.p2 q 1 ((⟨k, 1, [], (ByteArray.mk #[]), 0⟩ : AObj), none, 0) ((ha1 _).trans (by rw [← hq]; rfl)) (five_cells hs) (by omega) fun a' c'' w2 h2 => ⟨rfl, _, rfl, ?_⟩; exact hK (a', c'') _ (one_in (h2.drop2))
        refine GW.det (d := (some 59)) [] [] rfl (fun e => by rfl) ?_; apply Exists.intro; refine ⟨fun e w' F hs => ?_, ?_, ?_⟩
        · first | (go_simp; done) | (go_simp; rfl)
        · exact (fun _ _ _ => rfl)
        refine GW.det (d := (some 60)) [] [] rfl (fun e => by rfl) ?_; apply Exists.intro; refine ⟨fun e w' F hs => ?_, ?_, ?_⟩
        · first | (go_simp; done) | (go_simp; rfl)
        · exact (fun _ _ _ => rfl)
        refine GW.take (d := none) 10 (fun e => undef) (fun e => row p 51 ((rcellsH A oa oc qa qc ba bc fa fc sa sc).setIfInBounds 0 (.slice (e 7).1 (A.T.length + 1) (e 7).2))) [] [0] [7] rfl rfl (fun e => by rfl) (fun e e' hl => by simp only [hl 7 (by decide)]; exact ⟨trivial, trivial⟩) (fun e w' F K hs hK => ?_) ?_
        · have hs := show Sat w0 w' (row p 51 (rcellsH A oa oc qa qc ba bc fa fc sa sc) * F) from one_out hs; have z0 : w'.cell? ⟨p, 0, none⟩ = some (.slice oa A.T.length oc) := hs.cell 0 rfl; have z1 := hs.free 0; go_simp; exact hK default _ (one_in (hs.store (i := 0) (.slice (e 7).1 (A.T.length + 1) (e 7).2)))
        refine GW.done (sz := 68) [4 + 10, 4 + 7, 2, 3] (by kernel_rfl) (by kernel_rfl) HA0.out.1 (by rfl) h0 (by rfl) fun e w3 gg => ?_
        have ha := HA0.out.2
        subst ha
        clear HA0 hb0 hb7 h0
        simp only [putL, Act.put, List.setIfInBounds_toArray, List.set_cons_zero, List.set_cons_succ]
        have h3 : Sat w0 w3 (row p 51 ((rcellsH A oa oc qa qc ba bc fa fc sa sc).setIfInBounds 0 (.slice (e 7).1 (A.T.length + 1) (e 7).2)) * (slc 39 5 (e 7).1 (A.T.length + 1) (e 7).2 (xscells (X ++ [((⟨k, 1, [], (ByteArray.mk #[]), 0⟩ : AObj), none, 0)])) * (pt (b + 1) (.cells #[.int .i64 k, .int .i64 1, .slice none 0 0, .string (ByteArray.mk #[]), .int .i64 0] 39 (0, 0)) * RR))) := gg
        clear gg
        generalize e 7 = y7 at *
        obtain ⟨oa', oc'⟩ := y7
        dsimp only at h3 ⊢
        have z0 : w3.cell? ⟨p, 0, none⟩ = some (.slice oa' (A.T.length + 1) oc') := h3.cell 0 rfl
        have h4 := h3.cast (show _ = pt b (.cells #[.int .i64 0, .int .i64 0] 28) * (pt (b + 1) (.cells #[.int .i64 k, .int .i64 1, .slice none 0 0, .string (ByteArray.mk #[]), .int .i64 0] 39 (0, 0)) * (row p 51 ((rcellsH A oa oc qa qc ba bc fa fc sa sc).setIfInBounds 0 (.slice oa' (A.T.length + 1) oc')) * (slc 39 5 oa' (A.T.length + 1) oc' (xscells (X ++ [((⟨k, 1, [], (ByteArray.mk #[]), 0⟩ : AObj), none, 0)])) * (xslotsR X * rrest A qa qc ba bc fa fc sa sc F)))) by rw [HRR.out]; ac_rfl)
        have ⟨u0, u1, uf0, uf1⟩ := val2' h4
        have h8 := h4.setVal k (((A.T.length + 1 : Nat) : Int))
        have h9 := h8.drop.drop.nilSlc (T := 28) (sz := 2)
        have htl : (takeT A.T).length = A.T.length + 1 := by rw [HR.out.2, List.length_append]; rfl
        have op2 : ROpen w0 _ p (A.make k tx) F (X ++ [((⟨k, 1, [], (ByteArray.mk #[]), 0⟩ : AObj), none, 0)]) oa' oc' qa qc ba bc fa fc sa sc := ROpen.mk (by
            rw [HM.out]
            show _ = graphL _ (takeT A.T).length
            rw [htl]
            exact graphL_snoc HOX.out (by unfold AHeap.obj; simp [HR.out.1]) (fun n hn => by unfold AHeap.obj; simp [HR.out.1, hn])) (h9.cast (by
            rw [HM.out, xslotsR_append]
            have er : rcellsH { A with T := takeT A.T, objs := fun j => if j = A.fresh then some ⟨k, 1, [], (ByteArray.mk #[]), 0⟩ else A.objs j } oa' oc' qa qc ba bc fa fc sa sc = (rcellsH A oa oc qa qc ba bc fa fc sa sc).setIfInBounds 0 (.slice oa' (A.T.length + 1) oc') := by unfold rcellsH; dsimp only; rw [htl]; rfl
            rw [er]
            show slc _ 2 none 0 0 [] * _ = row _ _ _ * (slc _ 5 _ (takeT A.T).length _ _ * (xslotsR X * (slc _ 2 none 0 0 [] * 1) * _))
            rw [htl, mul_one]
            unfold rrest
            dsimp only
            ac_rfl))
        have HO := Lib.hid (And.intro h8 op2.shut)
        clear h3 h4 h8 h9 op2 H1
        have HN := Lib.hid (show (A.T.length : Int) + 1 = ((A.T.length + 1 : Nat) : Int) by push_cast; rfl)
        generalize A.T.length + 1 = N1 at *
        go_wp2_with fail
        refine bodyPost_cell rfl rfl (load_val HO.out.1) rfl ⟨by rw [HR.out.1, HN.out], HO.out.2⟩
end
end Go.Proofs.Ytkpcngcegipalaa.Tw
