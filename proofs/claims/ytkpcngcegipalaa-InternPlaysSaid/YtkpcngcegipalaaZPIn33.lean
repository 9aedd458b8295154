/- tallowref17: Of, Text, Copy. No condition. -/
import Derived.Test.YtkpcngcegipalaaZPIn32
namespace Go.Proofs.Ytkpcngcegipalaa.Tw
set_option linter.unusedVariables false
set_option linter.unusedSimpArgs false
open Go Go.RowKit Go.MapKept

attribute [local go_sem] lookE lkE valUpon
section
variable {P : Program} {w0 w : World} {F : HP} {o : Oper} {a : Act} {Q : Exit → Act → World → Prop} {K : Act → World → Prop}
theorem info_row : (Try.prog.info? 172).map (fun i => (i.zero, i.size, i.bytes)) = some (some (.agg #[.string (ByteArray.mk #[]), .int .i64 0]), 2, 24) := by kernel_rfl
theorem rowCells_app (l r : List ARow) : rowCells (l ++ r) = rowCells l ++ rowCells r := by unfold rowCells; rw [List.flatMap_append]
theorem wp_catRow (s x : Operand) (hop : o.op = .call { callee := .builtin .append, args := #[s, x], argTypes := #[54, 54] })
    (sa : Option Addr) (n c : Nat) (l : List ARow) (hs : a.eval s = .slice sa n c) (h : Sat w0 w (slc 172 2 sa n c (rowCells l) * F)) (xa : Option Addr) (m c' : Nat) (r : List ARow) (hx : a.eval x = .slice xa m c') (hr : r.length = m)
    (hsrc : (∀ ad, xa = some ad → ∀ j u, (rowCells r)[j]? = some u → w.cell? (ad.add j) = some u) ∧ (xa = none → m = 0 ∧ c' = 0)) (hn : n + m ≤ 1000000000)
    (hK : ∀ a' c'' w', Sat w0 w' (slc 172 2 a' (n + m) c'' (rowCells (l ++ r)) * F) → K (a.put o.dst (.slice a' (n + m) c'')) w') : o.wp Try.prog a w K Q := by
  obtain ⟨i0, hi, hz0, hz1, hz2⟩ := info_parts info_row
  have hl : (rowCells r).length = m * 2 := by rw [← hr]; exact rowCells_len r
  refine wp_append_any s x 54 hop i0 (.agg #[.string (ByteArray.mk #[]), .int .i64 0]) 24 Try.underlying54 hi hz0 hz1 hz2 rfl sa n c (rowCells l) hs h xa m c' (rowCells r) hx hl hsrc (oneCell_rowCells _) (by unfold maxLen; omega) (by omega) fun a' c'' w' h2 _ => ?_
  exact hK a' c'' w' (by rw [rowCells_app]; exact h2)
end
section
variable {w0 w : World} {F : HP} {s q : Nat} {R : List ARow} {A : AHeap} {B : Int}
def rofA (A : AHeap) (R : List ARow) (t : ByteArray) : AHeap := if rfB A R t then A.keep ⟨5, (rowM R t).getD 0⟩ else A.makeF 5 t
def rofR (A : AHeap) (R : List ARow) (t : ByteArray) : List ARow := if rfB A R t then R else if makeOk 5 t then rowSet R t A.fresh else R
def rofV (A : AHeap) (R : List ARow) (t : ByteArray) : AVal := if rfB A R t then ⟨5, (rowM R t).getD 0⟩ else A.makeV 5 t
theorem rowSrc {t : ByteArray} {n : Int} {b : Nat} (h : Sat w0 w (pt b (.cells #[.string t, .int .i64 n] 172 (0, 0)) * F)) : (∀ ad, (some ⟨b, 0, none⟩ : Option Addr) = some ad → ∀ j u, (rowCells [(t, n)])[j]? = some u → w.cell? (ad.add j) = some u) ∧ ((some ⟨b, 0, none⟩ : Option Addr) = none → (1 : Nat) = 0 ∧ (1 : Nat) = 0) := by
  refine ⟨fun ad e j u hj => ?_, fun e => by cases e⟩
  cases e
  rw [addr_add, Nat.zero_add]
  match j, hj with
  | 0, hj => cases hj; exact Sat.cell (T := 172) (cs := #[.string t, .int .i64 n]) h 0 rfl
  | 1, hj => cases hj; exact Sat.cell (T := 172) (cs := #[.string t, .int .i64 n]) h 1 rfl
  | j + 2, hj => simp [rowCells] at hj
set_option maxRecDepth 100000 in
set_option maxHeartbeats 4000000 in
theorem ref_Of (H0 : HW A B) (hB : B ≤ 1000000) (hW : A.watch.length ≤ 1000000) (h : Sat w0 w (refR13 q A * (refS s q R * F))) (hn : R.length ≤ 1000000) (t : ByteArray) {v : AVal} (hv : rofV A R t = v) :
    Calls Try.prog 87 #[.pointer (some ⟨s, 0, none⟩), .string t] w fun e w' => e = .returned (.agg #[.int .i64 v.kind, .int .i64 v.n]) ∧ Sat w0 w' (refR13 q (rofA A R t) * (refS s q (rofR A R t) * F)) := by
  have hz := h.alloc (.cells #[.int .i64 0, .int .i64 0] 28)
  generalize hvb : w.heap.size = vb at *
  obtain ⟨fn, hfn⟩ : ∃ n, (rowM R t).getD 0 = n := ⟨_, rfl⟩
  have HF := Lib.hid (ref_Find H0 hB (hz.cast (show _ = refR13 q A * (refS s q R * (pt vb (.cells #[.int .i64 0, .int .i64 0] 28 (0, 0)) * F)) by ac_rfl)) hn t rfl hfn)
  have H := Lib.hid H0
  have HFN := Lib.hid hfn
  clear h hz
  cases hb : rfB A R t with
  | true =>
    have hve : v = ⟨5, fn⟩ := by rw [← hv]; unfold rofV; rw [hb, if_pos rfl, hfn]
    have e1 : rofA A R t = A.keep ⟨5, fn⟩ := by unfold rofA; rw [hb, if_pos rfl, hfn]
    have e2 : rofR A R t = R := by unfold rofR; rw [hb, if_pos rfl]
    rw [e1, e2, hve]
    rw [hb] at HF
    clear hv hve e1 e2 hb H0 hfn
    go_enter Try.func87, Try.ntmps87
    go_wp2_with fail
    refine HF.out.mono ?_
    rintro e w1 ⟨rfl, h1⟩
    have h2 := h1.alloc (.cells #[.int .i64 5, .int .i64 fn] 28)
    generalize hb1 : w1.heap.size = b1 at *
    obtain ⟨ra, rc, hs⟩ := h2.p3.openS
    have c0 : (w1.alloc (.cells #[.int .i64 5, .int .i64 fn] 28)).cell? ⟨s, 0, none⟩ = some (.pointer (some ⟨q, 0, none⟩)) := hs.cell 0 rfl
    have ⟨v0, v1, _, _⟩ := val2' h2
    have HK := Lib.hid (r_Keep H.out hB hW h2.drew.p2 5 fn rfl)
    clear h1 h2 hs
    rw [show foundV fn true = .agg #[.int .i64 5, .int .i64 fn] from rfl]
    go_wp2_with fail
    refine wp_region_tail 5 (by kernel_rfl) (by kernel_rfl) ?_
    simp only [List.take_succ_cons, List.take_zero, List.drop_succ_cons, List.drop_zero]
    iterate 5 still_step
    refine wpStill_nil ?_
    go_wp2_with fail
    refine HK.out.mono ?_
    rintro e w2 ⟨rfl, h3⟩
    have ⟨v0, v1, _, _⟩ := val2' h3.p2
    have h4 := h3.cast (show _ = pt vb (.cells #[.int .i64 0, .int .i64 0] 28 (0, 0)) * (pt b1 (.cells #[.int .i64 5, .int .i64 fn] 28 (0, 0)) * (refR13 q (A.keep ⟨5, fn⟩) * (refS s q R * F))) by ac_rfl)
    have ⟨_, _, vf0, vf1⟩ := val2' h4
    have HZ := Lib.hid (h4.setVal 5 fn)
    clear h3 h4
    go_wp2_with fail
    exact bodyPost_cell rfl rfl (load_val HZ.out) rfl ⟨rfl, HZ.out.drop.drop⟩
  | false =>
    have hve : A.makeV 5 t = v := by rw [← hv]; unfold rofV; rw [hb]; rfl
    have e1 : rofA A R t = A.makeF 5 t := by unfold rofA; rw [hb]; rfl
    have e2 : rofR A R t = if makeOk 5 t then rowSet R t A.fresh else R := by unfold rofR; rw [hb]; rfl
    rw [e1]
    have HE2 := Lib.hid e2
    rw [hb] at HF
    have HMK := Lib.hid (fun (w' : World) (G : HP) (hh : Sat w0 w' (refR13 q A * G)) => r_Make H.out hB hh 5 t hve)
    have HVE := Lib.hid hve
    clear hv e1 e2 hb H0 hfn hve
    go_enter Try.func87, Try.ntmps87
    go_wp2_with fail
    refine HF.out.mono ?_
    rintro e w1 ⟨rfl, h1⟩
    have h2 := h1.alloc (.cells #[.int .i64 0, .int .i64 0] 28)
    generalize hb1 : w1.heap.size = b1 at *
    obtain ⟨ra, rc, hs⟩ := h2.p3.openS
    have c0 : (w1.alloc (.cells #[.int .i64 0, .int .i64 0] 28)).cell? ⟨s, 0, none⟩ = some (.pointer (some ⟨q, 0, none⟩)) := hs.cell 0 rfl
    have HM := Lib.hid (HMK.out _ _ h2.p2)
    clear h1 h2 hs
    rw [show foundV fn false = .agg #[.int .i64 0, .int .i64 0] from rfl]
    go_wp2_with fail
    refine HM.out.mono ?_
    rintro e w2 ⟨rfl, h3⟩
    have h3b := h3.p2
    have ⟨_, _, vf0, vf1⟩ := val2' h3b
    have h4 := h3b.setVal v.kind v.n
    clear h3 h3b HM HMK HF c0
    cases hok : makeOk 5 t with
    | false =>
      have hv0 : v = ⟨0, 0⟩ := by rw [← HVE.out]; unfold AHeap.makeV; rw [hok]; rfl
      subst hv0
      have HIF := Lib.hid (show rofR A R t = R from by rw [HE2.out, if_neg (by rw [hok]; decide)])
      clear hok
      have ⟨v0, v1, _, _⟩ := val2' h4
      have h5 := h4.cast (show _ = pt vb (.cells #[.int .i64 0, .int .i64 0] 28 (0, 0)) * (pt b1 (.cells #[.int .i64 0, .int .i64 0] 28 (0, 0)) * (refR13 q (A.makeF 5 t) * (refS s q R * F))) by ac_rfl)
      have ⟨_, _, zf0, zf1⟩ := val2' h5
      have HZ := Lib.hid (h5.setVal 0 0)
      clear h4 h5
      go_wp2_with fail
      exact bodyPost_cell rfl rfl (load_val HZ.out) rfl ⟨rfl, by rw [HIF.out]; exact HZ.out.drop.drop⟩
    | true =>
      have hv0 : v = ⟨5, A.fresh⟩ := by rw [← HVE.out]; unfold AHeap.makeV; rw [hok]; rfl
      obtain ⟨fr, hfr⟩ : ∃ n, A.fresh = n := ⟨_, rfl⟩
      rw [hfr] at hv0
      subst hv0
      have HIF := Lib.hid (show rofR A R t = rowSet R t fr from by rw [HE2.out, if_pos hok, hfr])
      clear hfr hok
      have ⟨v0, v1, _, _⟩ := val2' h4
      obtain ⟨ra, rc, hs⟩ := h4.p3.openS
      obtain ⟨ri, hri⟩ : ∃ r, rowN R t = r := ⟨_, rfl⟩
      have HR := Lib.hid (ref_row hs hn t hri)
      have h5 := hs.cast (show _ = pt b1 (.cells #[.int .i64 5, .int .i64 fr] 28 (0, 0)) * (row s 56 #[.pointer (some ⟨q, 0, none⟩), .slice ra R.length rc] * (slc 172 2 ra R.length rc (rowCells R) * (refR13 q (A.makeF 5 t) * (pt vb (.cells #[.int .i64 0, .int .i64 0] 28 (0, 0)) * F)))) by ac_rfl)
      have HS := Lib.hid h5
      clear h4 hs h5
      cases hI : rowI R t with
      | none =>
        obtain rfl : ri = -1 := by rw [← hri]; unfold rowN; rw [hI]
        have hrs : rowSet R t fr = R ++ [(t, fr)] := by unfold rowSet; rw [hI]
        have HRS := Lib.hid hrs
        clear hri hI hrs
        go_wp2_with fail
        refine HR.out.mono ?_
        rintro e w3 ⟨rfl, rfl⟩
        go_wp2_with fail
        clear v0 v1 vf0 vf1
        obtain ⟨RR, hRR⟩ : ∃ G : HP, G = refR13 q (A.makeF 5 t) * (pt vb (.cells #[.int .i64 0, .int .i64 0] 28 (0, 0)) * F) := ⟨_, rfl⟩
        rw [← hRR] at HS
        have HRR := Lib.hid hRR
        clear hRR
        refine wp_gen fun a0 ha => ?_
        have hb0 : base a0 0 = .pointer (some ⟨s, 0, none⟩) := by rw [ha]; rfl
        have hb1 : base a0 1 = .string t := by rw [ha]; rfl
        have hb5 : base a0 5 = .pointer (some ⟨b1, 0, none⟩) := by rw [ha]; rfl
        have hsz0 : a0.tmps.size = 60 := by rw [ha]; rfl
        have HA0 := Lib.hid (And.intro hsz0 ha)
        clear ha hsz0
        refine GW.start (X := Option Addr × Nat) (w0 := w0) (B := [pt b1 (.cells #[.int .i64 5, .int .i64 fr] 28 (0, 0)), row s 56 #[.pointer (some ⟨q, 0, none⟩), .slice ra R.length rc], slc 172 2 ra R.length rc (rowCells R), RR]) (a0 := a0) ?_
        refine GW.det (d := (some 37)) [] [] rfl (fun e => by rfl) ?_; apply Exists.intro; refine ⟨fun e w' F hs => ?_, ?_, ?_⟩
        · first | (go_simp; done) | (go_simp; rfl)
        · exact (fun _ _ _ => rfl)
        refine GW.det (d := (some 38)) [] [] rfl (fun e => by rfl) ?_; apply Exists.intro; refine ⟨fun e w' F hs => ?_, ?_, ?_⟩
        · first | (go_simp; done) | (go_simp; rfl)
        · exact (fun _ _ _ => rfl)
        refine GW.det (d := (some 39)) [] [] rfl (fun e => by rfl) ?_; apply Exists.intro; refine ⟨fun e w' F hs => ?_, ?_, ?_⟩
        · first | (go_simp; done) | (go_simp; rfl)
        · exact (fun _ _ _ => rfl)
        refine GW.det (d := (some 40)) [] [] rfl (fun e => by rfl) ?_; apply Exists.intro; refine ⟨fun e w' F hs => ?_, ?_, ?_⟩
        · first | (go_simp; done) | (go_simp; rfl)
        · exact (fun _ _ _ => rfl)
        refine GW.det (d := (some 41)) [1] [] rfl (fun e => by rfl) ?_; apply Exists.intro; refine ⟨fun e w' F hs => ?_, ?_, ?_⟩
        · have y0 : w'.cell? ⟨s, 1, none⟩ = some (.slice ra R.length rc) := (show Sat w0 w' (row s 56 #[.pointer (some ⟨q, 0, none⟩), .slice ra R.length rc] * F) from hs).cell 1 rfl; first | (go_simp; done) | (go_simp; rfl)
        · exact (fun _ _ _ => rfl)
        refine GW.det (d := (some 42)) [] [] rfl (fun e => by rfl) ?_; apply Exists.intro; refine ⟨fun e w' F hs => ?_, ?_, ?_⟩
        · first | (go_simp; done) | (go_simp; rfl)
        · exact (fun _ _ _ => rfl)
        refine GW.det (d := (some 43)) [] [] rfl (fun e => by rfl) ?_; apply Exists.intro; refine ⟨fun e w' F hs => ?_, ?_, ?_⟩
        · first | (go_simp; done) | (go_simp; rfl)
        · exact (fun _ _ _ => rfl)
        refine GW.det (d := (some 44)) [0] [] rfl (fun e => by rfl) ?_; apply Exists.intro; refine ⟨fun e w' F hs => ?_, ?_, ?_⟩
        · have ⟨y0, y1, _, _⟩ := val2' (show Sat w0 w' (pt b1 (.cells #[.int .i64 5, .int .i64 fr] 28 (0, 0)) * F) from hs); first | (go_simp; done) | (go_simp; rfl)
        · exact (fun _ _ _ => rfl)
        refine GW.det (d := (some 45)) [] [] rfl (fun e => by rfl) ?_; apply Exists.intro; refine ⟨fun e w' F hs => ?_, ?_, ?_⟩
        · first | (go_simp; done) | (go_simp; rfl)
        · exact (fun _ _ _ => rfl)
        refine GW.new (d := (some 46)) 9 (fun x => .slice x.1 1 1) (fun x => lits x.1 172 [.string t, .int .i64 fr]) [] rfl rfl (fun e => by rfl) (fun e w' F K hs hK => ?_) ?_
        · go_simp; exact hK (some ⟨_, 0, none⟩, 0) _ (lits_mk ((hs.alloc (.cells #[.string t, .int .i64 fr] 172)).cast (mul_left_comm _ _ _)))
        refine GW.take (d := (some 47)) 10 (fun e => .slice (e 10).1 (R.length + 1) (e 10).2) (fun e => slc 172 2 (e 10).1 (R.length + 1) (e 10).2 (rowCells (R ++ [(t, fr)]))) [] [2, 13] [10] rfl rfl (fun e => by rfl) (fun e e' hl => by simp only [hl 10 (by decide)]; exact ⟨trivial, trivial⟩) (fun e w' F K hs hK => ?_) ?_
        · obtain ⟨bq, hq, hs⟩ := lits_open (show Sat w0 w' ((lits (e 9).1 172 [.string t, .int .i64 fr]) * (slc 172 2 ra R.length rc (rowCells R) * F)) from Sat.cast (show Sat w0 w' ((slc 172 2 ra R.length rc (rowCells R) * lits (e 9).1 172 [.string t, .int .i64 fr]) * F) from one_out hs) (by ac_rfl)); refine wp_look (d := 47) (sz := 60) rfl HA0.out.1 (by decide) (by rfl) fun a1 ha1 => ?_; refine wp_catRow _ _ rfl ra R.length rc R ((ha1 _).trans rfl) hs.p2 (some ⟨bq, 0, none⟩) 1 1 [(t, fr)] ((ha1 _).trans (by rw [← hq]; rfl)) rfl (rowSrc hs) (by omega) fun a' c'' w2 h2 => ⟨rfl, _, rfl, ?_⟩; exact hK (a', c'') _ (one_in (h2.drop2))
        refine GW.det (d := (some 48)) [] [] rfl (fun e => by rfl) ?_; apply Exists.intro; refine ⟨fun e w' F hs => ?_, ?_, ?_⟩
        · first | (go_simp; done) | (go_simp; rfl)
        · exact (fun _ _ _ => rfl)
        refine GW.det (d := (some 49)) [] [] rfl (fun e => by rfl) ?_; apply Exists.intro; refine ⟨fun e w' F hs => ?_, ?_, ?_⟩
        · first | (go_simp; done) | (go_simp; rfl)
        · exact (fun _ _ _ => rfl)
        refine GW.take (d := none) 13 (fun e => undef) (fun e => row s 56 #[.pointer (some ⟨q, 0, none⟩), .slice (e 10).1 (R.length + 1) (e 10).2]) [] [1] [10] rfl rfl (fun e => by rfl) (fun e e' hl => by simp only [hl 10 (by decide)]; exact ⟨trivial, trivial⟩) (fun e w' F K hs hK => ?_) ?_
        · have hs := show Sat w0 w' (row s 56 #[.pointer (some ⟨q, 0, none⟩), .slice ra R.length rc] * F) from one_out hs; have z0 : w'.cell? ⟨s, 1, none⟩ = some (.slice ra R.length rc) := hs.cell 1 rfl; have z1 := hs.free 1; go_simp; exact hK default _ (one_in (hs.store (i := 1) (.slice (e 10).1 (R.length + 1) (e 10).2)))
        refine GW.done (sz := 60) [4 + 13, 4 + 10, 0, 3] (by kernel_rfl) (by kernel_rfl) HA0.out.1 (by rfl) HS.out (by rfl) fun e w3 gg => ?_
        have ha := HA0.out.2
        subst ha
        clear HA0 hb0 hb1 hb5
        simp only [putL, Act.put, List.setIfInBounds_toArray, List.set_cons_zero, List.set_cons_succ]
        replace gg : Sat w0 w3 (row s 56 #[.pointer (some ⟨q, 0, none⟩), .slice (e 10).1 (R.length + 1) (e 10).2] * (slc 172 2 (e 10).1 (R.length + 1) (e 10).2 (rowCells (R ++ [(t, fr)])) * (pt b1 (.cells #[.int .i64 5, .int .i64 fr] 28 (0, 0)) * RR))) := gg
        generalize e 10 = y at *
        obtain ⟨a', c'⟩ := y
        dsimp only at gg ⊢
        have h6 := gg.cast (show _ = pt b1 (.cells #[.int .i64 5, .int .i64 fr] 28 (0, 0)) * (pt vb (.cells #[.int .i64 0, .int .i64 0] 28 (0, 0)) * (row s 56 #[.pointer (some ⟨q, 0, none⟩), .slice a' (R.length + 1) c'] * (slc 172 2 a' (R.length + 1) c' (rowCells (R ++ [(t, fr)])) * (refR13 q (A.makeF 5 t) * F)))) by rw [HRR.out]; ac_rfl)
        have ⟨u0, u1, _, _⟩ := val2' h6
        have ⟨_, _, zf0, zf1⟩ := val2' h6.p2
        have HZ := Lib.hid (h6.p2.setVal 5 fr)
        clear h6 gg
        go_wp2_with fail
        exact bodyPost_cell rfl rfl (load_val HZ.out) rfl ⟨rfl, by rw [HIF.out, HRS.out]; exact (Sat.shutS (R := R ++ [(t, fr)]) (ra := a') (rc := c') (HZ.out.drop.drop.cast (by rw [List.length_append]; rfl))).p2⟩
      | some k =>
        obtain ⟨n0, hk, _⟩ := rowI_some hI
        obtain rfl : ri = (k : Int) := by rw [← hri]; unfold rowN; rw [hI]
        have hrs : rowSet R t fr = R.set k (t, fr) := by unfold rowSet; rw [hI]
        have HRS := Lib.hid hrs
        have hkl := (List.getElem?_eq_some_iff.1 hk).1
        have hset := rowCells_set R k (t, n0) fr hk
        obtain ⟨g, off, era, _, _, _⟩ := rowAt HS.out.p3 hk
        subst era
        have HKR := Lib.hid hk
        have HSET := Lib.hid hset
        have hk1 : (0 : Int) ≤ (k : Int) := by omega
        have hk2 : (k : Int) < (R.length : Int) := by omega
        clear hri hI hrs hk hset
        go_wp2_with fail
        refine HR.out.mono ?_
        rintro e w3 ⟨rfl, rfl⟩
        go_wp2_with fail
        clear v0 v1 vf0 vf1
        obtain ⟨RR, hRR⟩ : ∃ G : HP, G = refR13 q (A.makeF 5 t) * (pt vb (.cells #[.int .i64 0, .int .i64 0] 28 (0, 0)) * F) := ⟨_, rfl⟩
        rw [← hRR] at HS
        have HRR := Lib.hid hRR
        clear hRR
        refine wp_gen fun a0 ha => ?_
        have hb0 : base a0 0 = .pointer (some ⟨s, 0, none⟩) := by rw [ha]; rfl
        have hb5 : base a0 5 = .pointer (some ⟨b1, 0, none⟩) := by rw [ha]; rfl
        have hb7 : base a0 7 = .int .i64 k := by rw [ha]; rfl
        have hsz0 : a0.tmps.size = 60 := by rw [ha]; rfl
        have HA0 := Lib.hid (And.intro hsz0 ha)
        clear ha hsz0
        refine GW.start (X := Option Addr × Nat) (w0 := w0) (B := [pt b1 (.cells #[.int .i64 5, .int .i64 fr] 28 (0, 0)), row s 56 #[.pointer (some ⟨q, 0, none⟩), .slice (some ⟨g, off, none⟩) R.length rc], slc 172 2 (some ⟨g, off, none⟩) R.length rc (rowCells R), RR]) (a0 := a0) ?_
        refine GW.det (d := (some 50)) [] [] rfl (fun e => by rfl) ?_; apply Exists.intro; refine ⟨fun e w' F hs => ?_, ?_, ?_⟩
        · first | (go_simp; done) | (go_simp; rfl)
        · exact (fun _ _ _ => rfl)
        refine GW.det (d := (some 51)) [] [] rfl (fun e => by rfl) ?_; apply Exists.intro; refine ⟨fun e w' F hs => ?_, ?_, ?_⟩
        · first | (go_simp; done) | (go_simp; rfl)
        · exact (fun _ _ _ => rfl)
        refine GW.det (d := (some 52)) [] [] rfl (fun e => by rfl) ?_; apply Exists.intro; refine ⟨fun e w' F hs => ?_, ?_, ?_⟩
        · first | (go_simp; done) | (go_simp; rfl)
        · exact (fun _ _ _ => rfl)
        refine GW.det (d := (some 53)) [1] [] rfl (fun e => by rfl) ?_; apply Exists.intro; refine ⟨fun e w' F hs => ?_, ?_, ?_⟩
        · have y0 : w'.cell? ⟨s, 1, none⟩ = some (.slice (some ⟨g, off, none⟩) R.length rc) := (show Sat w0 w' (row s 56 #[.pointer (some ⟨q, 0, none⟩), .slice (some ⟨g, off, none⟩) R.length rc] * F) from hs).cell 1 rfl; first | (go_simp; done) | (go_simp; rfl)
        · exact (fun _ _ _ => rfl)
        refine GW.det (d := (some 54)) [] [] rfl (fun e => by rfl) ?_; apply Exists.intro; refine ⟨fun e w' F hs => ?_, ?_, ?_⟩
        · first | (go_simp; done) | (go_simp; rfl)
        · exact (fun _ _ _ => rfl)
        refine GW.det (d := (some 55)) [] [] rfl (fun e => by rfl) ?_; apply Exists.intro; refine ⟨fun e w' F hs => ?_, ?_, ?_⟩
        · first | (go_simp; done) | (go_simp; rfl)
        · exact (fun _ _ _ => rfl)
        refine GW.det (d := (some 56)) [0] [] rfl (fun e => by rfl) ?_; apply Exists.intro; refine ⟨fun e w' F hs => ?_, ?_, ?_⟩
        · have ⟨y0, y1, _, _⟩ := val2' (show Sat w0 w' (pt b1 (.cells #[.int .i64 5, .int .i64 fr] 28 (0, 0)) * F) from hs); first | (go_simp; done) | (go_simp; rfl)
        · exact (fun _ _ _ => rfl)
        refine GW.det (d := (some 57)) [] [] rfl (fun e => by rfl) ?_; apply Exists.intro; refine ⟨fun e w' F hs => ?_, ?_, ?_⟩
        · first | (go_simp; done) | (go_simp; rfl)
        · exact (fun _ _ _ => rfl)
        refine GW.det (d := (some 58)) [] [] rfl (fun e => by rfl) ?_; apply Exists.intro; refine ⟨fun e w' F hs => ?_, ?_, ?_⟩
        · first | (go_simp; done) | (go_simp; rfl)
        · exact (fun _ _ _ => rfl)
        refine GW.take (d := none) 9 (fun e => undef) (fun e => slc 172 2 (some ⟨g, off, none⟩) R.length rc (rowCells (R.set k (t, fr)))) [] [2] [] rfl rfl (fun e => by rfl) (fun e e' hl => by exact ⟨rfl, rfl⟩) (fun e w' F K hs hK => ?_) ?_
        · have hs := show Sat w0 w' (slc 172 2 (some ⟨g, off, none⟩) R.length rc (rowCells R) * F) from one_out hs; obtain ⟨g', off', e', _, z1, zf1⟩ := rowAt hs HKR.out; cases e'; dsimp only at z1; have hst := hs.slcStore (j := k * 2 + 1) (by omega) (.int .i64 fr); rw [HSET.out, ← Nat.add_assoc] at hst; go_simp; exact hK default _ (one_in hst)
        refine GW.done (sz := 60) [4 + 9, 0, 1, 3] (by kernel_rfl) (by kernel_rfl) HA0.out.1 (by rfl) HS.out (by rfl) fun e w3 gg => ?_
        have ha := HA0.out.2
        subst ha
        clear HA0 hb0 hb5 hb7
        simp only [putL, Act.put, List.setIfInBounds_toArray, List.set_cons_zero, List.set_cons_succ]
        replace gg : Sat w0 w3 (slc 172 2 (some ⟨g, off, none⟩) R.length rc (rowCells (R.set k (t, fr))) * (pt b1 (.cells #[.int .i64 5, .int .i64 fr] 28 (0, 0)) * (row s 56 #[.pointer (some ⟨q, 0, none⟩), .slice (some ⟨g, off, none⟩) R.length rc] * RR))) := gg
        have h6 := gg.cast (show _ = pt b1 (.cells #[.int .i64 5, .int .i64 fr] 28 (0, 0)) * (pt vb (.cells #[.int .i64 0, .int .i64 0] 28 (0, 0)) * (row s 56 #[.pointer (some ⟨q, 0, none⟩), .slice (some ⟨g, off, none⟩) R.length rc] * (slc 172 2 (some ⟨g, off, none⟩) R.length rc (rowCells (R.set k (t, fr))) * (refR13 q (A.makeF 5 t) * F)))) by rw [HRR.out]; ac_rfl)
        have ⟨u0, u1, _, _⟩ := val2' h6
        have ⟨_, _, zf0, zf1⟩ := val2' h6.p2
        have HZ := Lib.hid (h6.p2.setVal 5 fr)
        clear h6 gg
        go_wp2_with fail
        exact bodyPost_cell rfl rfl (load_val HZ.out) rfl ⟨rfl, by rw [HIF.out, HRS.out]; exact (Sat.shutS (R := R.set k (t, fr)) (ra := some ⟨g, off, none⟩) (rc := rc) (HZ.out.drop.drop.cast (by rw [List.length_set]))).p2⟩
set_option maxRecDepth 100000 in
set_option maxHeartbeats 2000000 in
theorem ref_Copy (h : Sat w0 w (refS s q R * F)) (hn : R.length ≤ 1000000) (q2 : Nat) :
    Calls Try.prog 92 #[.pointer (some ⟨s, 0, none⟩), .pointer (some ⟨q2, 0, none⟩)] w fun e w' => ∃ s2, e = .returned (.pointer (some ⟨s2, 0, none⟩)) ∧ Sat w0 w' (refS s2 q2 R * (refS s q R * F)) := by
  obtain ⟨ra, rc, hs⟩ := h.openS
  have h1 : Sat w0 _ (row w.heap.size 56 #[.pointer (some ⟨q2, 0, none⟩), .slice none 0 0] * (row s 56 #[.pointer (some ⟨q, 0, none⟩), .slice ra R.length rc] * (slc 172 2 ra R.length rc (rowCells R) * F))) := hs.alloc (.cells #[.pointer (some ⟨q2, 0, none⟩), .slice none 0 0] 56)
  generalize hb1 : w.heap.size = b1 at *
  have HS := Lib.hid h1
  clear h hs h1
  go_enter Try.func92, Try.ntmps92
  go_wp2_with fail
  refine wp_gen fun a0 ha => ?_
  have hb0 : base a0 0 = .pointer (some ⟨s, 0, none⟩) := by rw [ha]; rfl
  have hb5 : base a0 5 = .pointer (some ⟨b1, 0, none⟩) := by rw [ha]; rfl
  have hsz0 : a0.tmps.size = 22 := by rw [ha]; rfl
  have HA0 := Lib.hid (And.intro hsz0 ha)
  clear ha hsz0
  refine GW.start (X := Option Addr × Nat) (w0 := w0) (B := [row b1 56 #[.pointer (some ⟨q2, 0, none⟩), .slice none 0 0], row s 56 #[.pointer (some ⟨q, 0, none⟩), .slice ra R.length rc], slc 172 2 ra R.length rc (rowCells R), F]) (a0 := a0) ?_
  refine GW.det (d := (some 9)) [] [] rfl (fun e => by rfl) ?_; apply Exists.intro; refine ⟨fun e w' F hs => ?_, ?_, ?_⟩
  · first | (go_simp; done) | (go_simp; rfl)
  · exact (fun _ _ _ => rfl)
  refine GW.det (d := (some 10)) [] [] rfl (fun e => by rfl) ?_; apply Exists.intro; refine ⟨fun e w' F hs => ?_, ?_, ?_⟩
  · first | (go_simp; done) | (go_simp; rfl)
  · exact (fun _ _ _ => rfl)
  refine GW.det (d := (some 11)) [] [] rfl (fun e => by rfl) ?_; apply Exists.intro; refine ⟨fun e w' F hs => ?_, ?_, ?_⟩
  · first | (go_simp; done) | (go_simp; rfl)
  · exact (fun _ _ _ => rfl)
  refine GW.det (d := (some 12)) [] [] rfl (fun e => by rfl) ?_; apply Exists.intro; refine ⟨fun e w' F hs => ?_, ?_, ?_⟩
  · first | (go_simp; done) | (go_simp; rfl)
  · exact (fun _ _ _ => rfl)
  refine GW.det (d := (some 13)) [0] [] rfl (fun e => by rfl) ?_; apply Exists.intro; refine ⟨fun e w' F hs => ?_, ?_, ?_⟩
  · have y0 : w'.cell? ⟨b1, 1, none⟩ = some (.slice none 0 0) := (show Sat w0 w' (row b1 56 #[.pointer (some ⟨q2, 0, none⟩), .slice none 0 0] * F) from hs).cell 1 rfl; first | (go_simp; done) | (go_simp; rfl)
  · exact (fun _ _ _ => rfl)
  refine GW.det (d := (some 14)) [] [] rfl (fun e => by rfl) ?_; apply Exists.intro; refine ⟨fun e w' F hs => ?_, ?_, ?_⟩
  · first | (go_simp; done) | (go_simp; rfl)
  · exact (fun _ _ _ => rfl)
  refine GW.det (d := (some 15)) [] [] rfl (fun e => by rfl) ?_; apply Exists.intro; refine ⟨fun e w' F hs => ?_, ?_, ?_⟩
  · first | (go_simp; done) | (go_simp; rfl)
  · exact (fun _ _ _ => rfl)
  refine GW.det (d := (some 16)) [] [] rfl (fun e => by rfl) ?_; apply Exists.intro; refine ⟨fun e w' F hs => ?_, ?_, ?_⟩
  · first | (go_simp; done) | (go_simp; rfl)
  · exact (fun _ _ _ => rfl)
  refine GW.det (d := (some 17)) [1] [] rfl (fun e => by rfl) ?_; apply Exists.intro; refine ⟨fun e w' F hs => ?_, ?_, ?_⟩
  · have y0 : w'.cell? ⟨s, 1, none⟩ = some (.slice ra R.length rc) := (show Sat w0 w' (row s 56 #[.pointer (some ⟨q, 0, none⟩), .slice ra R.length rc] * F) from hs).cell 1 rfl; first | (go_simp; done) | (go_simp; rfl)
  · exact (fun _ _ _ => rfl)
  refine GW.new (d := (some 18)) 9 (fun x => .slice x.1 R.length x.2) (fun x => slc 172 2 x.1 R.length x.2 (rowCells R)) [2] rfl rfl (fun e => by rfl) (fun e w' F K hs hK => ?_) ?_
  · have hs := show Sat w0 w' (slc 172 2 ra R.length rc (rowCells R) * F) from hs; have hsr := hs.slcSrc; refine wp_look (d := 18) (sz := 22) rfl HA0.out.1 (by decide) (by rfl) fun a1' ha1 => ?_; refine wp_catRow _ _ rfl none 0 0 [] ((ha1 _).trans rfl) hs.nilSlc ra R.length rc R ((ha1 _).trans rfl) rfl hsr (by omega) fun a' c'' w2 h2 => ⟨rfl, _, rfl, ?_⟩; rw [Nat.zero_add] at h2 ⊢; exact hK (a', c'') _ (h2.cast (by rw [List.nil_append]; exact mul_left_comm _ _ _))
  refine GW.det (d := (some 19)) [] [] rfl (fun e => by rfl) ?_; apply Exists.intro; refine ⟨fun e w' F hs => ?_, ?_, ?_⟩
  · first | (go_simp; done) | (go_simp; rfl)
  · exact (fun _ _ _ => rfl)
  refine GW.det (d := (some 20)) [] [] rfl (fun e => by rfl) ?_; apply Exists.intro; refine ⟨fun e w' F hs => ?_, ?_, ?_⟩
  · first | (go_simp; done) | (go_simp; rfl)
  · exact (fun _ _ _ => rfl)
  refine GW.take (d := none) 12 (fun e => undef) (fun e => row b1 56 #[.pointer (some ⟨q2, 0, none⟩), .slice (e 9).1 R.length (e 9).2]) [] [0] [9] rfl rfl (fun e => by rfl) (fun e e' hl => by simp only [hl 9 (by decide)]; exact ⟨trivial, trivial⟩) (fun e w' F K hs hK => ?_) ?_
  · have hs := show Sat w0 w' (row b1 56 #[.pointer (some ⟨q2, 0, none⟩), .slice none 0 0] * F) from one_out hs; have z0 : w'.cell? ⟨b1, 1, none⟩ = some (.slice none 0 0) := hs.cell 1 rfl; have z1 := hs.free 1; go_simp; exact hK default _ (one_in (hs.store (i := 1) (.slice (e 9).1 R.length (e 9).2)))
  refine GW.done (sz := 22) [4 + 12, 4 + 9, 1, 2, 3] (by kernel_rfl) (by kernel_rfl) HA0.out.1 (by rfl) HS.out (by rfl) fun e w3 gg => ?_
  have ha := HA0.out.2
  subst ha
  clear HA0 hb0 hb5
  simp only [putL, Act.put, List.setIfInBounds_toArray, List.set_cons_zero, List.set_cons_succ]
  replace gg : Sat w0 w3 (row b1 56 #[.pointer (some ⟨q2, 0, none⟩), .slice (e 9).1 R.length (e 9).2] * (slc 172 2 (e 9).1 R.length (e 9).2 (rowCells R) * (row s 56 #[.pointer (some ⟨q, 0, none⟩), .slice ra R.length rc] * (slc 172 2 ra R.length rc (rowCells R) * F)))) := gg
  generalize e 9 = y at *
  obtain ⟨a', c'⟩ := y
  dsimp only at gg ⊢
  have HG := Lib.hid gg
  clear gg
  go_wp2_with fail
  go_ret
  refine ⟨b1, rfl, ?_⟩
  have h5 : Sat w0 _ (refS b1 q2 R * (row s 56 #[.pointer (some ⟨q, 0, none⟩), .slice ra R.length rc] * (slc 172 2 ra R.length rc (rowCells R) * F))) := Sat.shutS HG.out
  exact (Sat.shutS (h5.cast (show _ = row s 56 #[.pointer (some ⟨q, 0, none⟩), .slice ra R.length rc] * (slc 172 2 ra R.length rc (rowCells R) * (refS b1 q2 R * F)) by ac_rfl))).p2
def strX (A : AHeap) (k n : Int) : AObj := if k = 5 then A.obj n else AObj.none
theorem Sat.drop3 {A B C F : HP} (h : Sat w0 w (A * (B * (C * F)))) : Sat w0 w (A * (B * F)) := (h.p3.drop)
set_option maxRecDepth 100000 in
set_option maxHeartbeats 4000000 in
theorem ref_Text (H0 : HW A B) (hB : B ≤ 1000000) (h : Sat w0 w (refR13 q A * (refS s q R * F))) (k n : Int) {ux : ByteArray} {b : Bool} (hux : (strX A k n).text = ux) (hb : decide ((strX A k n).kind = 5) = b) :
    Calls Try.prog 93 #[.pointer (some ⟨s, 0, none⟩), .agg #[.int .i64 k, .int .i64 n]] w fun e w' => e = .returned (.tuple #[.string ux, .bool b]) ∧ Sat w0 w' (refR13 q A * (refS s q R * F)) := by
  have hz := h.alloc (.cells #[.int .i64 k, .int .i64 n] 28)
  generalize hb1 : w.heap.size = b1 at *
  obtain ⟨ra, rc, hs⟩ := (hz.p3).openS
  obtain ⟨X, oa, oc, qa, qc, ba, bc, fa, fc, sa, sc, op⟩ := hs.p4.openR
  have HX := Lib.hid op.hx
  have hT := H0.t
  obtain ⟨RR, hRR⟩ : ∃ G : HP, G = slc 172 2 ra R.length rc (rowCells R) * F := ⟨_, rfl⟩
  have HRR := Lib.hid hRR
  have HS := Lib.hid (show Sat w0 _ (pt b1 (.cells #[.int .i64 k, .int .i64 n] 28 (0, 0)) * (row s 56 #[.pointer (some ⟨q, 0, none⟩), .slice ra R.length rc] * (refO q A X oa oc qa qc ba bc fa fc sa sc * RR))) from (op.hs.cast (refO_F q A X oa oc qa qc ba bc fa fc sa sc _)).cast (by rw [hRR]; ac_rfl))
  have H := Lib.hid H0
  clear h hz hs op hRR H0
  by_cases k5 : k = 5
  · subst k5
    have e1 : strX A 5 n = A.obj n := rfl
    rw [e1] at hux hb
    by_cases hlo : n < 1
    · have hno : A.objs n = none := by
        cases hh : A.objs n with
        | none => rfl
        | some o => have := H.out.rng hh; omega
      have e2 : A.obj n = AObj.none := by unfold AHeap.obj; rw [hno]; rfl
      rw [e2] at hux hb
      have HTX := Lib.hid (show ux = ByteArray.mk #[] from hux.symm)
      have HBB := Lib.hid (show b = false from hb.symm)
      have t1 : decide (n < 1) = true := by simpa using hlo
      clear e1 e2 hux hb hno
      go_enter Try.func93, Try.ntmps93
      go_wp2_with fail
      refine wp_gen fun a0 ha => ?_
      have hb0 : base a0 0 = .pointer (some ⟨s, 0, none⟩) := by rw [ha]; rfl
      have hb3 : base a0 3 = .pointer (some ⟨b1, 0, none⟩) := by rw [ha]; rfl
      have hsz0 : a0.tmps.size = 40 := by rw [ha]; rfl
      have HA0 := Lib.hid (And.intro hsz0 ha)
      clear ha hsz0
      refine GW.start (X := Option Addr × Nat) (w0 := w0) (B := [pt b1 (.cells #[.int .i64 5, .int .i64 n] 28 (0, 0)), row s 56 #[.pointer (some ⟨q, 0, none⟩), .slice ra R.length rc], refO q A X oa oc qa qc ba bc fa fc sa sc, RR]) (a0 := a0) ?_
      refine GW.det (d := (some 7)) [] [] rfl (fun e => by rfl) ?_; apply Exists.intro; refine ⟨fun e w' F hs => ?_, ?_, ?_⟩
      · first | (go_simp; done) | (go_simp; rfl)
      · exact (fun _ _ _ => rfl)
      refine GW.det (d := (some 8)) [0] [] rfl (fun e => by rfl) ?_; apply Exists.intro; refine ⟨fun e w' F hs => ?_, ?_, ?_⟩
      · have ⟨y0, y1, _, _⟩ := val2' (show Sat w0 w' (pt b1 (.cells #[.int .i64 5, .int .i64 n] 28 (0, 0)) * F) from hs); first | (go_simp; done) | (go_simp; rfl)
      · exact (fun _ _ _ => rfl)
      refine GW.det (d := (some 9)) [] [] rfl (fun e => by rfl) ?_; apply Exists.intro; refine ⟨fun e w' F hs => ?_, ?_, ?_⟩
      · first | (go_simp; done) | (go_simp; rfl)
      · exact (fun _ _ _ => rfl)
      refine GW.det (d := (some 10)) [] [] rfl (fun e => by rfl) ?_; apply Exists.intro; refine ⟨fun e w' F hs => ?_, ?_, ?_⟩
      · first | (go_simp; done) | (go_simp; rfl)
      · exact (fun _ _ _ => rfl)
      refine GW.det (d := (some 11)) [] [] rfl (fun e => by rfl) ?_; apply Exists.intro; refine ⟨fun e w' F hs => ?_, ?_, ?_⟩
      · first | (go_simp; done) | (go_simp; rfl)
      · exact (fun _ _ _ => rfl)
      refine GW.det (d := (some 12)) [0] [] rfl (fun e => by rfl) ?_; apply Exists.intro; refine ⟨fun e w' F hs => ?_, ?_, ?_⟩
      · have ⟨y0, y1, _, _⟩ := val2' (show Sat w0 w' (pt b1 (.cells #[.int .i64 5, .int .i64 n] 28 (0, 0)) * F) from hs); first | (go_simp; done) | (go_simp; rfl)
      · exact (fun _ _ _ => rfl)
      refine GW.det (d := (some 13)) [] [] rfl (fun e => by rfl) ?_; apply Exists.intro; refine ⟨fun e w' F hs => ?_, ?_, ?_⟩
      · first | (go_simp; done) | (go_simp; rfl)
      · exact (fun _ _ _ => rfl)
      refine GW.det (d := (some 14)) [] [] rfl (fun e => by rfl) ?_; apply Exists.intro; refine ⟨fun e w' F hs => ?_, ?_, ?_⟩
      · first | (go_simp; done) | (go_simp; rfl)
      · exact (fun _ _ _ => rfl)
      refine GW.det (d := (some 15)) [] [] rfl (fun e => by rfl) ?_; apply Exists.intro; refine ⟨fun e w' F hs => ?_, ?_, ?_⟩
      · first | (go_simp; done) | (go_simp; rfl)
      · exact (fun _ _ _ => rfl)
      refine GW.skip (d := (some 16)) rfl (fun e => by rfl) ?_
      refine GW.skip (d := (some 17)) rfl (fun e => by rfl) ?_
      refine GW.skip (d := (some 18)) rfl (fun e => by rfl) ?_
      refine GW.skip (d := (some 19)) rfl (fun e => by rfl) ?_
      refine GW.skip (d := (some 20)) rfl (fun e => by rfl) ?_
      refine GW.skip (d := (some 21)) rfl (fun e => by rfl) ?_
      refine GW.skip (d := (some 22)) rfl (fun e => by rfl) ?_
      refine GW.skip (d := (some 23)) rfl (fun e => by rfl) ?_
      refine GW.skip (d := (some 24)) rfl (fun e => by rfl) ?_
      refine GW.skip (d := (some 25)) rfl (fun e => by rfl) ?_
      refine GW.skip (d := (some 26)) rfl (fun e => by rfl) ?_
      refine GW.det (d := (some 27)) [] [] rfl (fun e => by rfl) ?_; apply Exists.intro; refine ⟨fun e w' F hs => ?_, ?_, ?_⟩
      · first | (go_simp; done) | (go_simp; rfl)
      · exact (fun _ _ _ => rfl)
      refine GW.done (sz := 40) [0, 1, 2, 3] (by kernel_rfl) (by kernel_rfl) HA0.out.1 (by rfl) HS.out (by rfl) fun e w3 gg => ?_
      have ha := HA0.out.2
      subst ha
      clear HA0 hb0 hb3
      simp only [putL, Act.put, List.setIfInBounds_toArray, List.set_cons_zero, List.set_cons_succ]
      have HGG := Lib.hid (show Sat w0 w3 (pt b1 (.cells #[.int .i64 5, .int .i64 n] 28 (0, 0)) * (row s 56 #[.pointer (some ⟨q, 0, none⟩), .slice ra R.length rc] * (refO q A X oa oc qa qc ba bc fa fc sa sc * RR))) from gg)
      clear gg
      have HF := Lib.hid (show Sat w0 w3 (refR13 q A * (refS s q R * F)) from (Sat.shutS ((ROpen.shutO HX.out ((show Sat w0 w3 ((pt b1 (.cells #[.int .i64 5, .int .i64 n] 28 (0, 0)) * (row s 56 #[.pointer (some ⟨q, 0, none⟩), .slice ra R.length rc] * slc 172 2 ra R.length rc (rowCells R))) * (refO q A X oa oc qa qc ba bc fa fc sa sc * F)) from HGG.out.cast (by rw [HRR.out]; ac_rfl)).cast (by rw [refO_F]))).cast (show _ = row s 56 #[.pointer (some ⟨q, 0, none⟩), .slice ra R.length rc] * (slc 172 2 ra R.length rc (rowCells R) * (refR13 q A * (pt b1 (.cells #[.int .i64 5, .int .i64 n] 28 (0, 0)) * F))) by ac_rfl))).p2.drop3)
      clear HGG
      go_wp2_with fail
      go_ret2
      exact ⟨by rw [HTX.out, HBB.out] <;> rfl, HF.out⟩
    · have t1 : decide (n < 1) = false := by simpa using hlo
      by_cases hhi : (A.T.length : Int) < n
      · have hno : A.objs n = none := by
          cases hh : A.objs n with
          | none => rfl
          | some o => have := H.out.rng hh; omega
        have e2 : A.obj n = AObj.none := by unfold AHeap.obj; rw [hno]; rfl
        rw [e2] at hux hb
        have HTX := Lib.hid (show ux = ByteArray.mk #[] from hux.symm)
        have HBB := Lib.hid (show b = false from hb.symm)
        have t2 : decide ((A.T.length : Int) < n) = true := by simpa using hhi
        clear e1 e2 hux hb hno
        go_enter Try.func93, Try.ntmps93
        go_wp2_with fail
        refine wp_gen fun a0 ha => ?_
        have hb0 : base a0 0 = .pointer (some ⟨s, 0, none⟩) := by rw [ha]; rfl
        have hb3 : base a0 3 = .pointer (some ⟨b1, 0, none⟩) := by rw [ha]; rfl
        have hsz0 : a0.tmps.size = 40 := by rw [ha]; rfl
        have HA0 := Lib.hid (And.intro hsz0 ha)
        clear ha hsz0
        refine GW.start (X := Option Addr × Nat) (w0 := w0) (B := [pt b1 (.cells #[.int .i64 5, .int .i64 n] 28 (0, 0)), row s 56 #[.pointer (some ⟨q, 0, none⟩), .slice ra R.length rc], refO q A X oa oc qa qc ba bc fa fc sa sc, RR]) (a0 := a0) ?_
        refine GW.det (d := (some 7)) [] [] rfl (fun e => by rfl) ?_; apply Exists.intro; refine ⟨fun e w' F hs => ?_, ?_, ?_⟩
        · first | (go_simp; done) | (go_simp; rfl)
        · exact (fun _ _ _ => rfl)
        refine GW.det (d := (some 8)) [0] [] rfl (fun e => by rfl) ?_; apply Exists.intro; refine ⟨fun e w' F hs => ?_, ?_, ?_⟩
        · have ⟨y0, y1, _, _⟩ := val2' (show Sat w0 w' (pt b1 (.cells #[.int .i64 5, .int .i64 n] 28 (0, 0)) * F) from hs); first | (go_simp; done) | (go_simp; rfl)
        · exact (fun _ _ _ => rfl)
        refine GW.det (d := (some 9)) [] [] rfl (fun e => by rfl) ?_; apply Exists.intro; refine ⟨fun e w' F hs => ?_, ?_, ?_⟩
        · first | (go_simp; done) | (go_simp; rfl)
        · exact (fun _ _ _ => rfl)
        refine GW.det (d := (some 10)) [] [] rfl (fun e => by rfl) ?_; apply Exists.intro; refine ⟨fun e w' F hs => ?_, ?_, ?_⟩
        · first | (go_simp; done) | (go_simp; rfl)
        · exact (fun _ _ _ => rfl)
        refine GW.det (d := (some 11)) [] [] rfl (fun e => by rfl) ?_; apply Exists.intro; refine ⟨fun e w' F hs => ?_, ?_, ?_⟩
        · first | (go_simp; done) | (go_simp; rfl)
        · exact (fun _ _ _ => rfl)
        refine GW.det (d := (some 12)) [0] [] rfl (fun e => by rfl) ?_; apply Exists.intro; refine ⟨fun e w' F hs => ?_, ?_, ?_⟩
        · have ⟨y0, y1, _, _⟩ := val2' (show Sat w0 w' (pt b1 (.cells #[.int .i64 5, .int .i64 n] 28 (0, 0)) * F) from hs); first | (go_simp; done) | (go_simp; rfl)
        · exact (fun _ _ _ => rfl)
        refine GW.det (d := (some 13)) [] [] rfl (fun e => by rfl) ?_; apply Exists.intro; refine ⟨fun e w' F hs => ?_, ?_, ?_⟩
        · first | (go_simp; done) | (go_simp; rfl)
        · exact (fun _ _ _ => rfl)
        refine GW.det (d := (some 14)) [] [] rfl (fun e => by rfl) ?_; apply Exists.intro; refine ⟨fun e w' F hs => ?_, ?_, ?_⟩
        · first | (go_simp; done) | (go_simp; rfl)
        · exact (fun _ _ _ => rfl)
        refine GW.det (d := (some 15)) [] [] rfl (fun e => by rfl) ?_; apply Exists.intro; refine ⟨fun e w' F hs => ?_, ?_, ?_⟩
        · first | (go_simp; done) | (go_simp; rfl)
        · exact (fun _ _ _ => rfl)
        refine GW.det (d := (some 16)) [] [] rfl (fun e => by rfl) ?_; apply Exists.intro; refine ⟨fun e w' F hs => ?_, ?_, ?_⟩
        · first | (go_simp; done) | (go_simp; rfl)
        · exact (fun _ _ _ => rfl)
        refine GW.det (d := (some 17)) [0] [] rfl (fun e => by rfl) ?_; apply Exists.intro; refine ⟨fun e w' F hs => ?_, ?_, ?_⟩
        · have ⟨y0, y1, _, _⟩ := val2' (show Sat w0 w' (pt b1 (.cells #[.int .i64 5, .int .i64 n] 28 (0, 0)) * F) from hs); first | (go_simp; done) | (go_simp; rfl)
        · exact (fun _ _ _ => rfl)
        refine GW.det (d := (some 18)) [] [] rfl (fun e => by rfl) ?_; apply Exists.intro; refine ⟨fun e w' F hs => ?_, ?_, ?_⟩
        · first | (go_simp; done) | (go_simp; rfl)
        · exact (fun _ _ _ => rfl)
        refine GW.det (d := (some 19)) [] [] rfl (fun e => by rfl) ?_; apply Exists.intro; refine ⟨fun e w' F hs => ?_, ?_, ?_⟩
        · first | (go_simp; done) | (go_simp; rfl)
        · exact (fun _ _ _ => rfl)
        refine GW.det (d := (some 20)) [] [] rfl (fun e => by rfl) ?_; apply Exists.intro; refine ⟨fun e w' F hs => ?_, ?_, ?_⟩
        · first | (go_simp; done) | (go_simp; rfl)
        · exact (fun _ _ _ => rfl)
        refine GW.det (d := (some 21)) [1] [] rfl (fun e => by rfl) ?_; apply Exists.intro; refine ⟨fun e w' F hs => ?_, ?_, ?_⟩
        · have y0 : w'.cell? ⟨s, 0, none⟩ = some (.pointer (some ⟨q, 0, none⟩)) := (show Sat w0 w' (row s 56 #[.pointer (some ⟨q, 0, none⟩), .slice ra R.length rc] * F) from hs).cell 0 rfl; first | (go_simp; done) | (go_simp; rfl)
        · exact (fun _ _ _ => rfl)
        refine GW.det (d := (some 22)) [] [] rfl (fun e => by rfl) ?_; apply Exists.intro; refine ⟨fun e w' F hs => ?_, ?_, ?_⟩
        · first | (go_simp; done) | (go_simp; rfl)
        · exact (fun _ _ _ => rfl)
        refine GW.det (d := (some 23)) [] [] rfl (fun e => by rfl) ?_; apply Exists.intro; refine ⟨fun e w' F hs => ?_, ?_, ?_⟩
        · first | (go_simp; done) | (go_simp; rfl)
        · exact (fun _ _ _ => rfl)
        refine GW.det (d := (some 24)) [2] [] rfl (fun e => by rfl) ?_; apply Exists.intro; refine ⟨fun e w' F hs => ?_, ?_, ?_⟩
        · have y0 := ROpen.c0 ⟨HX.out, (show Sat w0 w' (refO q A X oa oc qa qc ba bc fa fc sa sc * F) from hs).cast (refO_F _ _ _ _ _ _ _ _ _ _ _ _ _ _).symm⟩; first | (go_simp; done) | (go_simp; rfl)
        · exact (fun _ _ _ => rfl)
        refine GW.det (d := (some 25)) [] [] rfl (fun e => by rfl) ?_; apply Exists.intro; refine ⟨fun e w' F hs => ?_, ?_, ?_⟩
        · first | (go_simp; done) | (go_simp; rfl)
        · exact (fun _ _ _ => rfl)
        refine GW.det (d := (some 26)) [] [] rfl (fun e => by rfl) ?_; apply Exists.intro; refine ⟨fun e w' F hs => ?_, ?_, ?_⟩
        · first | (go_simp; done) | (go_simp; rfl)
        · exact (fun _ _ _ => rfl)
        refine GW.det (d := (some 27)) [] [] rfl (fun e => by rfl) ?_; apply Exists.intro; refine ⟨fun e w' F hs => ?_, ?_, ?_⟩
        · first | (go_simp; done) | (go_simp; rfl)
        · exact (fun _ _ _ => rfl)
        refine GW.done (sz := 40) [0, 1, 2, 3] (by kernel_rfl) (by kernel_rfl) HA0.out.1 (by rfl) HS.out (by rfl) fun e w3 gg => ?_
        have ha := HA0.out.2
        subst ha
        clear HA0 hb0 hb3
        simp only [putL, Act.put, List.setIfInBounds_toArray, List.set_cons_zero, List.set_cons_succ]
        have HGG := Lib.hid (show Sat w0 w3 (pt b1 (.cells #[.int .i64 5, .int .i64 n] 28 (0, 0)) * (row s 56 #[.pointer (some ⟨q, 0, none⟩), .slice ra R.length rc] * (refO q A X oa oc qa qc ba bc fa fc sa sc * RR))) from gg)
        clear gg
        have HF := Lib.hid (show Sat w0 w3 (refR13 q A * (refS s q R * F)) from (Sat.shutS ((ROpen.shutO HX.out ((show Sat w0 w3 ((pt b1 (.cells #[.int .i64 5, .int .i64 n] 28 (0, 0)) * (row s 56 #[.pointer (some ⟨q, 0, none⟩), .slice ra R.length rc] * slc 172 2 ra R.length rc (rowCells R))) * (refO q A X oa oc qa qc ba bc fa fc sa sc * F)) from HGG.out.cast (by rw [HRR.out]; ac_rfl)).cast (by rw [refO_F]))).cast (show _ = row s 56 #[.pointer (some ⟨q, 0, none⟩), .slice ra R.length rc] * (slc 172 2 ra R.length rc (rowCells R) * (refR13 q A * (pt b1 (.cells #[.int .i64 5, .int .i64 n] 28 (0, 0)) * F))) by ac_rfl))).p2.drop3)
        clear HGG
        go_wp2_with fail
        go_ret2
        exact ⟨by rw [HTX.out, HBB.out] <;> rfl, HF.out⟩
      · have t2 : decide ((A.T.length : Int) < n) = false := by simpa using hhi
        obtain ⟨⟨ok, oc1, sl, tx, om⟩, hob⟩ : ∃ o, A.obj n = o := ⟨_, rfl⟩
        rw [hob] at hux hb
        have HO := Lib.hid hob
        have HTX := Lib.hid (show ux = tx from hux.symm)
        have HBB := Lib.hid (show b = (ok == 5) from by rw [← hb]; by_cases e : ok = 5 <;> simp [e])
        clear e1 hux hb hob
        go_enter Try.func93, Try.ntmps93
        go_wp2_with fail
        refine wp_gen fun a0 ha => ?_
        have hb0 : base a0 0 = .pointer (some ⟨s, 0, none⟩) := by rw [ha]; rfl
        have hb3 : base a0 3 = .pointer (some ⟨b1, 0, none⟩) := by rw [ha]; rfl
        have hsz0 : a0.tmps.size = 40 := by rw [ha]; rfl
        have HA0 := Lib.hid (And.intro hsz0 ha)
        clear ha hsz0
        refine GW.start (X := Option Addr × Nat) (w0 := w0) (B := [pt b1 (.cells #[.int .i64 5, .int .i64 n] 28 (0, 0)), row s 56 #[.pointer (some ⟨q, 0, none⟩), .slice ra R.length rc], refO q A X oa oc qa qc ba bc fa fc sa sc, RR]) (a0 := a0) ?_
        refine GW.det (d := (some 7)) [] [] rfl (fun e => by rfl) ?_; apply Exists.intro; refine ⟨fun e w' F hs => ?_, ?_, ?_⟩
        · first | (go_simp; done) | (go_simp; rfl)
        · exact (fun _ _ _ => rfl)
        refine GW.det (d := (some 8)) [0] [] rfl (fun e => by rfl) ?_; apply Exists.intro; refine ⟨fun e w' F hs => ?_, ?_, ?_⟩
        · have ⟨y0, y1, _, _⟩ := val2' (show Sat w0 w' (pt b1 (.cells #[.int .i64 5, .int .i64 n] 28 (0, 0)) * F) from hs); first | (go_simp; done) | (go_simp; rfl)
        · exact (fun _ _ _ => rfl)
        refine GW.det (d := (some 9)) [] [] rfl (fun e => by rfl) ?_; apply Exists.intro; refine ⟨fun e w' F hs => ?_, ?_, ?_⟩
        · first | (go_simp; done) | (go_simp; rfl)
        · exact (fun _ _ _ => rfl)
        refine GW.det (d := (some 10)) [] [] rfl (fun e => by rfl) ?_; apply Exists.intro; refine ⟨fun e w' F hs => ?_, ?_, ?_⟩
        · first | (go_simp; done) | (go_simp; rfl)
        · exact (fun _ _ _ => rfl)
        refine GW.det (d := (some 11)) [] [] rfl (fun e => by rfl) ?_; apply Exists.intro; refine ⟨fun e w' F hs => ?_, ?_, ?_⟩
        · first | (go_simp; done) | (go_simp; rfl)
        · exact (fun _ _ _ => rfl)
        refine GW.det (d := (some 12)) [0] [] rfl (fun e => by rfl) ?_; apply Exists.intro; refine ⟨fun e w' F hs => ?_, ?_, ?_⟩
        · have ⟨y0, y1, _, _⟩ := val2' (show Sat w0 w' (pt b1 (.cells #[.int .i64 5, .int .i64 n] 28 (0, 0)) * F) from hs); first | (go_simp; done) | (go_simp; rfl)
        · exact (fun _ _ _ => rfl)
        refine GW.det (d := (some 13)) [] [] rfl (fun e => by rfl) ?_; apply Exists.intro; refine ⟨fun e w' F hs => ?_, ?_, ?_⟩
        · first | (go_simp; done) | (go_simp; rfl)
        · exact (fun _ _ _ => rfl)
        refine GW.det (d := (some 14)) [] [] rfl (fun e => by rfl) ?_; apply Exists.intro; refine ⟨fun e w' F hs => ?_, ?_, ?_⟩
        · first | (go_simp; done) | (go_simp; rfl)
        · exact (fun _ _ _ => rfl)
        refine GW.det (d := (some 15)) [] [] rfl (fun e => by rfl) ?_; apply Exists.intro; refine ⟨fun e w' F hs => ?_, ?_, ?_⟩
        · first | (go_simp; done) | (go_simp; rfl)
        · exact (fun _ _ _ => rfl)
        refine GW.det (d := (some 16)) [] [] rfl (fun e => by rfl) ?_; apply Exists.intro; refine ⟨fun e w' F hs => ?_, ?_, ?_⟩
        · first | (go_simp; done) | (go_simp; rfl)
        · exact (fun _ _ _ => rfl)
        refine GW.det (d := (some 17)) [0] [] rfl (fun e => by rfl) ?_; apply Exists.intro; refine ⟨fun e w' F hs => ?_, ?_, ?_⟩
        · have ⟨y0, y1, _, _⟩ := val2' (show Sat w0 w' (pt b1 (.cells #[.int .i64 5, .int .i64 n] 28 (0, 0)) * F) from hs); first | (go_simp; done) | (go_simp; rfl)
        · exact (fun _ _ _ => rfl)
        refine GW.det (d := (some 18)) [] [] rfl (fun e => by rfl) ?_; apply Exists.intro; refine ⟨fun e w' F hs => ?_, ?_, ?_⟩
        · first | (go_simp; done) | (go_simp; rfl)
        · exact (fun _ _ _ => rfl)
        refine GW.det (d := (some 19)) [] [] rfl (fun e => by rfl) ?_; apply Exists.intro; refine ⟨fun e w' F hs => ?_, ?_, ?_⟩
        · first | (go_simp; done) | (go_simp; rfl)
        · exact (fun _ _ _ => rfl)
        refine GW.det (d := (some 20)) [] [] rfl (fun e => by rfl) ?_; apply Exists.intro; refine ⟨fun e w' F hs => ?_, ?_, ?_⟩
        · first | (go_simp; done) | (go_simp; rfl)
        · exact (fun _ _ _ => rfl)
        refine GW.det (d := (some 21)) [1] [] rfl (fun e => by rfl) ?_; apply Exists.intro; refine ⟨fun e w' F hs => ?_, ?_, ?_⟩
        · have y0 : w'.cell? ⟨s, 0, none⟩ = some (.pointer (some ⟨q, 0, none⟩)) := (show Sat w0 w' (row s 56 #[.pointer (some ⟨q, 0, none⟩), .slice ra R.length rc] * F) from hs).cell 0 rfl; first | (go_simp; done) | (go_simp; rfl)
        · exact (fun _ _ _ => rfl)
        refine GW.det (d := (some 22)) [] [] rfl (fun e => by rfl) ?_; apply Exists.intro; refine ⟨fun e w' F hs => ?_, ?_, ?_⟩
        · first | (go_simp; done) | (go_simp; rfl)
        · exact (fun _ _ _ => rfl)
        refine GW.det (d := (some 23)) [] [] rfl (fun e => by rfl) ?_; apply Exists.intro; refine ⟨fun e w' F hs => ?_, ?_, ?_⟩
        · first | (go_simp; done) | (go_simp; rfl)
        · exact (fun _ _ _ => rfl)
        refine GW.det (d := (some 24)) [2] [] rfl (fun e => by rfl) ?_; apply Exists.intro; refine ⟨fun e w' F hs => ?_, ?_, ?_⟩
        · have y0 := ROpen.c0 ⟨HX.out, (show Sat w0 w' (refO q A X oa oc qa qc ba bc fa fc sa sc * F) from hs).cast (refO_F _ _ _ _ _ _ _ _ _ _ _ _ _ _).symm⟩; first | (go_simp; done) | (go_simp; rfl)
        · exact (fun _ _ _ => rfl)
        refine GW.det (d := (some 25)) [] [] rfl (fun e => by rfl) ?_; apply Exists.intro; refine ⟨fun e w' F hs => ?_, ?_, ?_⟩
        · first | (go_simp; done) | (go_simp; rfl)
        · exact (fun _ _ _ => rfl)
        refine GW.det (d := (some 26)) [] [] rfl (fun e => by rfl) ?_; apply Exists.intro; refine ⟨fun e w' F hs => ?_, ?_, ?_⟩
        · first | (go_simp; done) | (go_simp; rfl)
        · exact (fun _ _ _ => rfl)
        refine GW.det (d := (some 27)) [] [] rfl (fun e => by rfl) ?_; apply Exists.intro; refine ⟨fun e w' F hs => ?_, ?_, ?_⟩
        · first | (go_simp; done) | (go_simp; rfl)
        · exact (fun _ _ _ => rfl)
        refine GW.done (sz := 40) [0, 1, 2, 3] (by kernel_rfl) (by kernel_rfl) HA0.out.1 (by rfl) HS.out (by rfl) fun e w3 gg => ?_
        have ha := HA0.out.2
        subst ha
        clear HA0 hb0 hb3
        simp only [putL, Act.put, List.setIfInBounds_toArray, List.set_cons_zero, List.set_cons_succ]
        have HGG := Lib.hid (show Sat w0 w3 (pt b1 (.cells #[.int .i64 5, .int .i64 n] 28 (0, 0)) * (row s 56 #[.pointer (some ⟨q, 0, none⟩), .slice ra R.length rc] * (refO q A X oa oc qa qc ba bc fa fc sa sc * RR))) from gg)
        clear gg
        have h6 := (ROpen.shutO HX.out ((show Sat w0 w3 ((pt b1 (.cells #[.int .i64 5, .int .i64 n] 28 (0, 0)) * (row s 56 #[.pointer (some ⟨q, 0, none⟩), .slice ra R.length rc] * slc 172 2 ra R.length rc (rowCells R))) * (refO q A X oa oc qa qc ba bc fa fc sa sc * F)) from HGG.out.cast (by rw [HRR.out]; ac_rfl)).cast (by rw [refO_F])))
        have HS2 := Lib.hid (show Sat w0 w3 (refR13 q A * (row s 56 #[.pointer (some ⟨q, 0, none⟩), .slice ra R.length rc] * (pt b1 (.cells #[.int .i64 5, .int .i64 n] 28 (0, 0)) * RR))) from h6.cast (by rw [HRR.out]; ac_rfl))
        clear HGG h6
        go_wp2_with fail
        refine wp_gen fun a0 ha => ?_
        have hb0 : base a0 0 = .pointer (some ⟨s, 0, none⟩) := by rw [ha]; rfl
        have hb3 : base a0 3 = .pointer (some ⟨b1, 0, none⟩) := by rw [ha]; rfl
        have hsz0 : a0.tmps.size = 40 := by rw [ha]; rfl
        have HA0 := Lib.hid (And.intro hsz0 ha)
        clear ha hsz0
        refine GW.start (X := Option Addr × Nat) (w0 := w0) (B := [refR13 q A, row s 56 #[.pointer (some ⟨q, 0, none⟩), .slice ra R.length rc], pt b1 (.cells #[.int .i64 5, .int .i64 n] 28 (0, 0)), RR]) (a0 := a0) ?_
        refine GW.det (d := (some 28)) [] [] rfl (fun e => by rfl) ?_; apply Exists.intro; refine ⟨fun e w' F hs => ?_, ?_, ?_⟩
        · first | (go_simp; done) | (go_simp; rfl)
        · exact (fun _ _ _ => rfl)
        refine GW.det (d := (some 29)) [] [] rfl (fun e => by rfl) ?_; apply Exists.intro; refine ⟨fun e w' F hs => ?_, ?_, ?_⟩
        · first | (go_simp; done) | (go_simp; rfl)
        · exact (fun _ _ _ => rfl)
        refine GW.det (d := (some 30)) [] [] rfl (fun e => by rfl) ?_; apply Exists.intro; refine ⟨fun e w' F hs => ?_, ?_, ?_⟩
        · first | (go_simp; done) | (go_simp; rfl)
        · exact (fun _ _ _ => rfl)
        refine GW.det (d := (some 31)) [1] [] rfl (fun e => by rfl) ?_; apply Exists.intro; refine ⟨fun e w' F hs => ?_, ?_, ?_⟩
        · have y0 : w'.cell? ⟨s, 0, none⟩ = some (.pointer (some ⟨q, 0, none⟩)) := (show Sat w0 w' (row s 56 #[.pointer (some ⟨q, 0, none⟩), .slice ra R.length rc] * F) from hs).cell 0 rfl; first | (go_simp; done) | (go_simp; rfl)
        · exact (fun _ _ _ => rfl)
        refine GW.det (d := (some 32)) [] [] rfl (fun e => by rfl) ?_; apply Exists.intro; refine ⟨fun e w' F hs => ?_, ?_, ?_⟩
        · first | (go_simp; done) | (go_simp; rfl)
        · exact (fun _ _ _ => rfl)
        refine GW.det (d := (some 33)) [2] [] rfl (fun e => by rfl) ?_; apply Exists.intro; refine ⟨fun e w' F hs => ?_, ?_, ?_⟩
        · have ⟨y0, y1, _, _⟩ := val2' (show Sat w0 w' (pt b1 (.cells #[.int .i64 5, .int .i64 n] 28 (0, 0)) * F) from hs); first | (go_simp; done) | (go_simp; rfl)
        · exact (fun _ _ _ => rfl)
        refine GW.new (d := (some 34)) 6 (fun x => .agg #[.int .i64 ok, .int .i64 oc1, .slice x.1 sl.length x.2, .string tx, .int .i64 om]) (fun x => slc 28 2 x.1 sl.length x.2 (avcells sl)) [0] rfl rfl (fun e => by rfl) (fun e w' F K hs hK => ?_) ?_
        · go_simp; (refine (r_Obj H.out hB (show Sat w0 w' (refR13 q A * F) from hs) n HO.out rfl).mono ?_; rintro e2 w2 ⟨a2, c2, rfl, h2⟩; exact ⟨_, rfl, hK (a2, c2) _ h2.p2⟩)
        refine GW.new (d := (some 6)) 7 (fun x => .pointer (some ⟨x.2, 0, none⟩)) (fun x => pt x.2 (.cells #[.int .i64 0, .int .i64 0, .slice none 0 0, .string (ByteArray.mk #[]), .int .i64 0] 39)) [] rfl rfl (fun e => by rfl) (fun e w' F K hs hK => ?_) ?_
        · go_simp; exact hK (none, _) _ ((hs.alloc (.cells #[.int .i64 0, .int .i64 0, .slice none 0 0, .string (ByteArray.mk #[]), .int .i64 0] 39)).cast (mul_left_comm _ _ _))
        refine GW.take (d := none) 8 (fun e => undef) (fun e => pt (e 7).2 (.cells #[.int .i64 ok, .int .i64 oc1, .slice (e 6).1 sl.length (e 6).2, .string tx, .int .i64 om] 39 (0, 0))) [] [11] [6, 7] rfl rfl (fun e => by rfl) (fun e e' hl => by simp only [hl 6 (by decide), hl 7 (by decide)]; exact ⟨trivial, trivial⟩) (fun e w' F K hs hK => ?_) ?_
        · have hs := show Sat w0 w' (pt (e 7).2 (.cells #[.int .i64 0, .int .i64 0, .slice none 0 0, .string (ByteArray.mk #[]), .int .i64 0] 39 (0, 0)) * F) from one_out hs; have ⟨f0, f1, f2, f3, f4⟩ := ofree hs; have ⟨c0, c1, c2, c3, c4, _⟩ := ocells hs; go_simp; exact hK default _ (one_in (setObj5 (k' := ok) (c' := oc1) (xa' := (e 6).1) (n' := sl.length) (xc' := (e 6).2) (tx' := tx) (mk' := om) hs))
        refine GW.done (sz := 40) [4 + 8, 0, 1, 3] (by kernel_rfl) (by kernel_rfl) HA0.out.1 (by rfl) HS2.out (by rfl) fun e w3 gg => ?_
        have ha := HA0.out.2
        subst ha
        clear HA0 hb0 hb3
        simp only [putL, Act.put, List.setIfInBounds_toArray, List.set_cons_zero, List.set_cons_succ]
        replace gg : Sat w0 w3 (pt (e 7).2 (.cells #[.int .i64 ok, .int .i64 oc1, .slice (e 6).1 sl.length (e 6).2, .string tx, .int .i64 om] 39 (0, 0)) * (refR13 q A * (row s 56 #[.pointer (some ⟨q, 0, none⟩), .slice ra R.length rc] * RR))) := gg
        generalize (e 7).2 = ob at *
        generalize e 6 = y at *
        obtain ⟨ya, yc⟩ := y
        dsimp only at gg ⊢
        have HG := Lib.hid gg
        clear gg
        go_wp2_with fail
        obtain ⟨RS, hRS⟩ : ∃ G : HP, G = refR13 q A * (row s 56 #[.pointer (some ⟨q, 0, none⟩), .slice ra R.length rc] * RR) := ⟨_, rfl⟩
        have HRS := Lib.hid hRS
        have HG2 := Lib.hid (show Sat w0 w3 (pt ob (.cells #[.int .i64 ok, .int .i64 oc1, .slice ya sl.length yc, .string tx, .int .i64 om] 39 (0, 0)) * RS) from hRS ▸ HG.out)
        clear HG hRS
        refine wp_gen fun a0 ha => ?_
        have hb6 : base a0 6 = .pointer (some ⟨ob, 0, none⟩) := by rw [ha]; rfl
        have hsz0 : a0.tmps.size = 40 := by rw [ha]; rfl
        have HA0 := Lib.hid (And.intro hsz0 ha)
        clear ha hsz0
        refine GW.start (X := Option Addr × Nat) (w0 := w0) (B := [pt ob (.cells #[.int .i64 ok, .int .i64 oc1, .slice ya sl.length yc, .string tx, .int .i64 om] 39 (0, 0)), RS]) (a0 := a0) ?_
        refine GW.det (d := (some 35)) [] [] rfl (fun e => by rfl) ?_; apply Exists.intro; refine ⟨fun e w' F hs => ?_, ?_, ?_⟩
        · first | (go_simp; done) | (go_simp; rfl)
        · exact (fun _ _ _ => rfl)
        refine GW.det (d := (some 36)) [0] [] rfl (fun e => by rfl) ?_; apply Exists.intro; refine ⟨fun e w' F hs => ?_, ?_, ?_⟩
        · have ⟨y0, y1, y2, y3, y4, _⟩ := ocells (show Sat w0 w' (pt ob (.cells #[.int .i64 ok, .int .i64 oc1, .slice ya sl.length yc, .string tx, .int .i64 om] 39 (0, 0)) * F) from hs); first | (go_simp; done) | (go_simp; rfl)
        · exact (fun _ _ _ => rfl)
        refine GW.det (d := (some 37)) [] [] rfl (fun e => by rfl) ?_; apply Exists.intro; refine ⟨fun e w' F hs => ?_, ?_, ?_⟩
        · first | (go_simp; done) | (go_simp; rfl)
        · exact (fun _ _ _ => rfl)
        refine GW.det (d := (some 38)) [0] [] rfl (fun e => by rfl) ?_; apply Exists.intro; refine ⟨fun e w' F hs => ?_, ?_, ?_⟩
        · have ⟨y0, y1, y2, y3, y4, _⟩ := ocells (show Sat w0 w' (pt ob (.cells #[.int .i64 ok, .int .i64 oc1, .slice ya sl.length yc, .string tx, .int .i64 om] 39 (0, 0)) * F) from hs); first | (go_simp; done) | (go_simp; rfl)
        · exact (fun _ _ _ => rfl)
        refine GW.det (d := (some 39)) [] [] rfl (fun e => by rfl) ?_; apply Exists.intro; refine ⟨fun e w' F hs => ?_, ?_, ?_⟩
        · first | (go_simp; done) | (go_simp; rfl)
        · exact (fun _ _ _ => rfl)
        refine GW.det (d := (some 4)) [] [] rfl (fun e => by rfl) ?_; apply Exists.intro; refine ⟨fun e w' F hs => ?_, ?_, ?_⟩
        · first | (go_simp; done) | (go_simp; rfl)
        · exact (fun _ _ _ => rfl)
        refine GW.det (d := (some 5)) [] [] rfl (fun e => by rfl) ?_; apply Exists.intro; refine ⟨fun e w' F hs => ?_, ?_, ?_⟩
        · first | (go_simp; done) | (go_simp; rfl)
        · exact (fun _ _ _ => rfl)
        refine GW.done (sz := 40) [1] (by kernel_rfl) (by kernel_rfl) HA0.out.1 (by rfl) HG2.out (by rfl) fun e w3 gg => ?_
        have ha := HA0.out.2
        subst ha
        clear HA0 hb6
        simp only [putL, Act.put, List.setIfInBounds_toArray, List.set_cons_zero, List.set_cons_succ]
        replace gg : Sat w0 w3 RS := gg
        have HF := Lib.hid (show Sat w0 w3 (refR13 q A * (refS s q R * F)) from (Sat.shutS (gg.cast (show _ = row s 56 #[.pointer (some ⟨q, 0, none⟩), .slice ra R.length rc] * (slc 172 2 ra R.length rc (rowCells R) * (refR13 q A * F)) by rw [HRS.out, HRR.out]; ac_rfl))).p2)
        clear gg
        go_wp2_with fail
        go_ret2
        exact ⟨by rw [HTX.out, HBB.out] <;> rfl, HF.out⟩
  · have e1 : strX A k n = AObj.none := by unfold strX; rw [if_neg k5]
    rw [e1] at hux hb
    have HTX := Lib.hid (show ux = ByteArray.mk #[] from hux.symm)
    have HBB := Lib.hid (show b = false from hb.symm)
    have t1 : (k != 5) = true := by simpa using k5
    clear e1 hux hb k5
    go_enter Try.func93, Try.ntmps93
    go_wp2_with fail
    refine wp_gen fun a0 ha => ?_
    have hb0 : base a0 0 = .pointer (some ⟨s, 0, none⟩) := by rw [ha]; rfl
    have hb3 : base a0 3 = .pointer (some ⟨b1, 0, none⟩) := by rw [ha]; rfl
    have hsz0 : a0.tmps.size = 40 := by rw [ha]; rfl
    have HA0 := Lib.hid (And.intro hsz0 ha)
    clear ha hsz0
    refine GW.start (X := Option Addr × Nat) (w0 := w0) (B := [pt b1 (.cells #[.int .i64 k, .int .i64 n] 28 (0, 0)), row s 56 #[.pointer (some ⟨q, 0, none⟩), .slice ra R.length rc], refO q A X oa oc qa qc ba bc fa fc sa sc, RR]) (a0 := a0) ?_
    refine GW.det (d := (some 7)) [] [] rfl (fun e => by rfl) ?_; apply Exists.intro; refine ⟨fun e w' F hs => ?_, ?_, ?_⟩
    · first | (go_simp; done) | (go_simp; rfl)
    · exact (fun _ _ _ => rfl)
    refine GW.det (d := (some 8)) [0] [] rfl (fun e => by rfl) ?_; apply Exists.intro; refine ⟨fun e w' F hs => ?_, ?_, ?_⟩
    · have ⟨y0, y1, _, _⟩ := val2' (show Sat w0 w' (pt b1 (.cells #[.int .i64 k, .int .i64 n] 28 (0, 0)) * F) from hs); first | (go_simp; done) | (go_simp; rfl)
    · exact (fun _ _ _ => rfl)
    refine GW.det (d := (some 9)) [] [] rfl (fun e => by rfl) ?_; apply Exists.intro; refine ⟨fun e w' F hs => ?_, ?_, ?_⟩
    · first | (go_simp; done) | (go_simp; rfl)
    · exact (fun _ _ _ => rfl)
    refine GW.det (d := (some 10)) [] [] rfl (fun e => by rfl) ?_; apply Exists.intro; refine ⟨fun e w' F hs => ?_, ?_, ?_⟩
    · first | (go_simp; done) | (go_simp; rfl)
    · exact (fun _ _ _ => rfl)
    refine GW.skip (d := (some 11)) rfl (fun e => by rfl) ?_
    refine GW.skip (d := (some 12)) rfl (fun e => by rfl) ?_
    refine GW.skip (d := (some 13)) rfl (fun e => by rfl) ?_
    refine GW.det (d := (some 14)) [] [] rfl (fun e => by rfl) ?_; apply Exists.intro; refine ⟨fun e w' F hs => ?_, ?_, ?_⟩
    · first | (go_simp; done) | (go_simp; rfl)
    · exact (fun _ _ _ => rfl)
    refine GW.det (d := (some 15)) [] [] rfl (fun e => by rfl) ?_; apply Exists.intro; refine ⟨fun e w' F hs => ?_, ?_, ?_⟩
    · first | (go_simp; done) | (go_simp; rfl)
    · exact (fun _ _ _ => rfl)
    refine GW.skip (d := (some 16)) rfl (fun e => by rfl) ?_
    refine GW.skip (d := (some 17)) rfl (fun e => by rfl) ?_
    refine GW.skip (d := (some 18)) rfl (fun e => by rfl) ?_
    refine GW.skip (d := (some 19)) rfl (fun e => by rfl) ?_
    refine GW.skip (d := (some 20)) rfl (fun e => by rfl) ?_
    refine GW.skip (d := (some 21)) rfl (fun e => by rfl) ?_
    refine GW.skip (d := (some 22)) rfl (fun e => by rfl) ?_
    refine GW.skip (d := (some 23)) rfl (fun e => by rfl) ?_
    refine GW.skip (d := (some 24)) rfl (fun e => by rfl) ?_
    refine GW.skip (d := (some 25)) rfl (fun e => by rfl) ?_
    refine GW.skip (d := (some 26)) rfl (fun e => by rfl) ?_
    refine GW.det (d := (some 27)) [] [] rfl (fun e => by rfl) ?_; apply Exists.intro; refine ⟨fun e w' F hs => ?_, ?_, ?_⟩
    · first | (go_simp; done) | (go_simp; rfl)
    · exact (fun _ _ _ => rfl)
    refine GW.done (sz := 40) [0, 1, 2, 3] (by kernel_rfl) (by kernel_rfl) HA0.out.1 (by rfl) HS.out (by rfl) fun e w3 gg => ?_
    have ha := HA0.out.2
    subst ha
    clear HA0 hb0 hb3
    simp only [putL, Act.put, List.setIfInBounds_toArray, List.set_cons_zero, List.set_cons_succ]
    have HGG := Lib.hid (show Sat w0 w3 (pt b1 (.cells #[.int .i64 k, .int .i64 n] 28 (0, 0)) * (row s 56 #[.pointer (some ⟨q, 0, none⟩), .slice ra R.length rc] * (refO q A X oa oc qa qc ba bc fa fc sa sc * RR))) from gg)
    clear gg
    have HF := Lib.hid (show Sat w0 w3 (refR13 q A * (refS s q R * F)) from (Sat.shutS ((ROpen.shutO HX.out ((show Sat w0 w3 ((pt b1 (.cells #[.int .i64 k, .int .i64 n] 28 (0, 0)) * (row s 56 #[.pointer (some ⟨q, 0, none⟩), .slice ra R.length rc] * slc 172 2 ra R.length rc (rowCells R))) * (refO q A X oa oc qa qc ba bc fa fc sa sc * F)) from HGG.out.cast (by rw [HRR.out]; ac_rfl)).cast (by rw [refO_F]))).cast (show _ = row s 56 #[.pointer (some ⟨q, 0, none⟩), .slice ra R.length rc] * (slc 172 2 ra R.length rc (rowCells R) * (refR13 q A * (pt b1 (.cells #[.int .i64 k, .int .i64 n] 28 (0, 0)) * F))) by ac_rfl))).p2.drop3)
    clear HGG
    go_wp2_with fail
    go_ret2
    exact ⟨by rw [HTX.out, HBB.out] <;> rfl, HF.out⟩
end
end Go.Proofs.Ytkpcngcegipalaa.Tw
