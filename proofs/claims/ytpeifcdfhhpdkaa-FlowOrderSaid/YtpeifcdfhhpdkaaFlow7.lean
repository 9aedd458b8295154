/- flow: Order. No condition. -/
import Derived.Test.YtpeifcdfhhpdkaaFlow6
namespace Go.Proofs.Ytpeifcdfhhpdkaa.Tw
set_option linter.unusedVariables false
set_option linter.unusedSimpArgs false
open Go Go.RowKit Go.MapKept

/-- Order's frame at its loop -/
def OAct (sa : Option Addr) (n c mb : Nat) (x14 x15 x16 : Value) (oa : Option Addr) (m oc : Nat) (da : Option Addr) (dn dc : Nat) (u6 u7 u17 u18 u19 u20 u21 u22 u23 u24 u25 u26 u27 u28 u29 u30 u31 u32 u33 u34 u35 u36 u37 u38 u39 u40 u41 u42 u43 u44 u45 u46 u47 u48 u49 u50 u51 u52 u53 u54 u55 u56 u57 u58 u59 u60 u61 u62 u63 u64 u65 u66 u67 u68 u69 u70 u71 u72 u73 : Value) : Act := { tmps := (.slice sa n c :: undef :: .slice none 0 0 :: .map (some mb) :: .slice oa m oc :: .slice da dn dc :: u6 :: u7 :: .slice sa n c :: .int .i64 n :: .bool false :: .map (some mb) :: .map (some mb) :: .slice sa n c :: x14 :: x15 :: x16 :: u17 :: u18 :: u19 :: u20 :: u21 :: u22 :: u23 :: u24 :: u25 :: u26 :: u27 :: u28 :: u29 :: u30 :: u31 :: u32 :: u33 :: u34 :: u35 :: u36 :: u37 :: u38 :: u39 :: u40 :: u41 :: u42 :: u43 :: u44 :: u45 :: u46 :: u47 :: u48 :: u49 :: u50 :: u51 :: u52 :: u53 :: u54 :: u55 :: u56 :: u57 :: u58 :: u59 :: u60 :: u61 :: u62 :: u63 :: u64 :: u65 :: u66 :: u67 :: u68 :: u69 :: u70 :: u71 :: u72 :: u73 :: []).toArray, defers := [] }
def OInv (w0 : World) (CR F : HP) (l : List AIn) (B : List Int) (sa : Option Addr) (n c mb : Nat) (x14 x15 x16 : Value) (f : Nat) (a : Act) (W : World) : Prop :=
  ∃ (st : List Vis) (seen done : List Int) (m k : Nat) (oa : Option Addr) (oc : Nat) (da : Option Addr) (dc : Nat) (u6 u7 u17 u18 u19 u20 u21 u22 u23 u24 u25 u26 u27 u28 u29 u30 u31 u32 u33 u34 u35 u36 u37 u38 u39 u40 u41 u42 u43 u44 u45 u46 u47 u48 u49 u50 u51 u52 u53 u54 u55 u56 u57 u58 u59 u60 u61 u62 u63 u64 u65 u66 u67 u68 u69 u70 u71 u72 u73 : Value), a = OAct sa n c mb x14 x15 x16 oa m oc da k dc u6 u7 u17 u18 u19 u20 u21 u22 u23 u24 u25 u26 u27 u28 u29 u30 u31 u32 u33 u34 u35 u36 u37 u38 u39 u40 u41 u42 u43 u44 u45 u46 u47 u48 u49 u50 u51 u52 u53 u54 u55 u56 u57 u58 u59 u60 u61 u62 u63 u64 u65 u66 u67 u68 u69 u70 u71 u72 u73 ∧
    (dfs l f (st.map Vis.p) seen done = B ∧ weigh n (st.map Vis.p) seen ≤ f ∧ Places n seen ∧ (∀ v ∈ st, ∀ y ∈ v.ws, inr n y = true) ∧ st.length = m ∧ done.length = k ∧ k + m = seen.length) ∧
    Sat w0 W (slc 65 2 oa m oc (visV st) * (slc 3 1 da k dc (done.map ival) * (waitsR st * (mapR (.int .i64) (Value.int .i64) mb (seenL seen) * (CR * F)))))
theorem visV_set (st : List Vis) (v v' : Vis) (h : v'.pc = v.pc) : (visV (v :: st)).set (st.length * 2 + 1) (.slice v'.wa v'.ws.length v'.wc) = visV (v' :: st) := by
  rw [visV_cons, visV_cons, List.set_append, if_neg (by rw [visV_length]; omega), visV_length, show st.length * 2 + 1 - st.length * 2 = 1 by omega]
  unfold Vis.v
  rw [h]; rfl
theorem two_cellsF {w : World} {bx : Nat} {v u : Value} (hc : w.cell? ⟨bx, 0, none⟩ = some v) (hc1 : w.cell? ⟨bx, 1, none⟩ = some u) : ∀ j x, [v, u][j]? = some x → w.cell? ((⟨bx, 0, none⟩ : Addr).add j) = some x := by
  intro j x hj
  rw [addr_add, Nat.zero_add]
  match j, hj with
  | 0, hj => cases hj; exact hc
  | 1, hj => cases hj; exact hc1
  | j + 2, hj => simp at hj
theorem info_visit : (Try.prog.info? 65).map (fun i => (i.zero, i.size, i.bytes)) = some (some (.agg #[.int .i64 0, .slice none 0 0]), 2, 32) := by kernel_rfl
theorem dfs_nil (l : List AIn) (f : Nat) (seen done : List Int) : dfs l f [] seen done = done := by cases f <;> rfl
theorem sortI_length (l : List Int) : (sortI l).length = l.length := List.length_mergeSort _
theorem mem_sortI {l : List Int} {x : Int} : x ∈ sortI l ↔ x ∈ l := List.mem_mergeSort
section
variable {w0 w : World} {CR F : HP} {sa : Option Addr} {n c : Nat} {l : List AIn}
set_option maxRecDepth 100000 in
set_option maxHeartbeats 2000000 in
theorem flow_Order (hC : CodeAt w0 CR sa n l) (hcap : n ≤ c) (hn : n ≤ 100000000) (h : Sat w0 w (CR * F)) :
    Calls Try.prog 18 #[.slice sa n c] w fun e w' => ∃ a c', e = .returned (.slice a (orderL l).length c') ∧ Sat w0 w' (slc 3 1 a (orderL l).length c' ((orderL l).map ival) * (CR * F)) := by
  have hln := hC.1
  by_cases hz : n = 0
  · have e : orderL l = [] := by unfold orderL; rw [hln, if_pos hz]
    rw [e]
    subst hz
    go_enter Try.func18, Try.ntmps18
    go_wp2
    go_ret
    exact ⟨none, 0, rfl, h.nilSlc⟩
  have e : orderL l = (dfs l (4 * n) [(0, sortI (nextL l 0))] [0] []).reverse := by unfold orderL; rw [hln, if_neg hz]
  have HE := Lib.hid e
  clear e
  have hz' : decide ((n : Int) = 0) = false := by simp; omega
  have hmm := @run_makeMap Try.prog
  have hm1 := h.newMap (d := .int .i64) (kv := Value.int .i64)
  obtain ⟨wm, hup0, hm2⟩ := run_mapUpdate (P := Try.prog) (t := 63) (keys_int .i64) hm1 Try.underlying63 Try.underlying3 0 (ival 1)
  have hup : (Instr.mapUpdate 63 (.map (some w.heap.size)) (.int .i64 0) (.int .i64 1)).run Try.prog (w.alloc (.map #[] 0)) = .ok () wm := hup0
  clear hup0 hm1
  generalize hmb : w.heap.size = mb at *
  have h2 : Sat w0 wm (CR * (mapR (.int .i64) (Value.int .i64) mb (seenL [0]) * F)) := hm2.cast (by rw [show mset [] 0 (ival 1) = seenL [0] from rfl]; ac_rfl)
  have HN := Lib.hid (flow_Next hC hcap (by omega) 0 h2)
  go_enter Try.func18, Try.ntmps18
  go_wp2_with fail
  refine HN.out.mono ?_
  rintro e w1 ⟨wa, wc, rfl, h3⟩
  go_wp2_with fail
  have h4 := h3.alloc (.cells #[.int .i64 0, .slice wa (nextL l 0).length wc] 65)
  generalize hvb : w1.heap.size = vb at *
  have h5 : Sat w0 (w1.alloc (.cells #[.int .i64 0, .slice wa (nextL l 0).length wc] 65)) (slc 65 2 (some ⟨vb, 0, none⟩) 1 1 (visV [⟨0, wa, wc, sortI (nextL l 0)⟩]) * (slc 3 1 none 0 0 (([] : List Int).map ival) * (waitsR [⟨0, wa, wc, sortI (nextL l 0)⟩] * (mapR (.int .i64) (Value.int .i64) mb (seenL [0]) * (CR * F))))) := by
    have a1 : Sat w0 (w1.alloc (.cells #[.int .i64 0, .slice wa (nextL l 0).length wc] 65)) (slc 65 2 (some ⟨vb, 0, none⟩) 1 1 (visV [⟨0, wa, wc, sortI (nextL l 0)⟩]) * (slc 3 1 wa (nextL l 0).length wc ((sortI (nextL l 0)).map ival) * (CR * (mapR (.int .i64) (Value.int .i64) mb (seenL [0]) * F)))) := by
      refine Sat.shutSlc (cur := #[.int .i64 0, .slice wa (nextL l 0).length wc]) h4 (Nat.le_refl _) (by unfold maxLen; omega) (by simp) ?_
      show _ = [ival 0, Value.slice wa (sortI (nextL l 0)).length wc]
      rw [sortI_length]; rfl
    refine (a1.nilSlc (T := 3) (sz := 1)).cast ?_
    rw [waitsR_cons]
    show _ = _ * (_ * ((slc _ _ _ (sortI (nextL l 0)).length _ _ * (1 : HP)) * _))
    rw [sortI_length, mul_one, List.map_nil]
    ac_rfl
  have hnl := nextL_length l 0
  refine wp_loop_ghost (OInv w0 CR F l (dfs l (4 * n) [(0, sortI (nextL l 0))] [0] []) sa n c mb _ _ _) (f := 4 * n)
    ⟨[⟨0, wa, wc, sortI (nextL l 0)⟩], [0], [], 1, 0, some ⟨vb, 0, none⟩, 1, none, 0, _, _, _, _, _, _, _, _, _, _, _, _, _, _, _, _, _, _, _, _, _, _, _, _, _, _, _, _, _, _, _, _, _, _, _, _, _, _, _, _, _, _, _, _, _, _, _, _, _, _, _, _, _, _, _, _, _, _, _, rfl, ⟨rfl, ?_, ⟨by simp, ?_⟩, ?_, rfl, rfl, rfl⟩, h5⟩ ?_
  · show 4 * (n - 1) + ((sortI (nextL l 0)).length + 1 + 0) ≤ 4 * n
    rw [sortI_length]; omega
  · intro x hx
    simp at hx; subst hx
    unfold inr; simp; omega
  · intro v hv y hy
    simp at hv; subst hv
    rw [← hln]; exact nextL_inr (mem_sortI.1 hy)
  clear h5 h4 h3 h2 hm2 hup HN hnl
  rintro f a W ⟨st, seen, done, m, k, oa, oc, da, dc, u6, u7, u17, u18, u19, u20, u21, u22, u23, u24, u25, u26, u27, u28, u29, u30, u31, u32, u33, u34, u35, u36, u37, u38, u39, u40, u41, u42, u43, u44, u45, u46, u47, u48, u49, u50, u51, u52, u53, u54, u55, u56, u57, u58, u59, u60, u61, u62, u63, u64, u65, u66, u67, u68, u69, u70, u71, u72, u73, rfl, ⟨hB, hw, hP, hin, hm, hdl, hlen⟩, hs⟩
  unfold OAct
  have hseen := hP.le
  cases st with
  | nil =>
    subst hm
    have HB := Lib.hid ((dfs_nil l f seen done).symm.trans hB)
    have HR := Lib.hid (reverse_sat hs.p2 hdl (by omega))
    go_wp2_with fail
    refine HR.out.mono ?_
    rintro e w5 ⟨rfl, h6⟩
    go_wp2_with fail
    go_ret
    have hlen2 : done.reverse.length = k := by rw [List.length_reverse]; exact hdl
    rw [HE.out, ← HB.out, hlen2]
    exact ⟨da, dc, rfl, (h6.cast (show _ = waitsR [] * (slc 65 2 oa ([] : List Vis).length oc (visV []) * (mapR (.int .i64) (Value.int .i64) mb (seenL seen) * (slc 3 1 da k dc (done.reverse.map ival) * (CR * F)))) by ac_rfl)).drop.drop.drop⟩
  | cons v st =>
    obtain ⟨vpc, va, vc, ws⟩ := v
    obtain ⟨m, rfl⟩ : ∃ m', m = m' + 1 := ⟨st.length, hm.symm⟩
    have hm2 : st.length = m := Nat.succ.inj hm
    obtain ⟨f, rfl⟩ : ∃ f', f = f' + 1 := ⟨f - 1, by unfold weigh at hw; simp at hw; omega⟩
    have hv0 : (visV (⟨vpc, va, vc, ws⟩ :: st))[m * 2]? = some (.int .i64 vpc) := by
      rw [← hm2, visV_cons, List.getElem?_append_right (by rw [visV_length]; exact Nat.le_refl _), visV_length, Nat.sub_self]; rfl
    have hv1 : (visV (⟨vpc, va, vc, ws⟩ :: st))[m * 2 + 1]? = some (.slice va ws.length vc) := by
      rw [← hm2, visV_cons, List.getElem?_append_right (by rw [visV_length]; omega), visV_length, show st.length * 2 + 1 - st.length * 2 = 1 by omega]; rfl
    obtain ⟨g, off, rfl, d0, _⟩ := hs.slcAt hv0
    obtain ⟨g', off', e', d1, f1⟩ := hs.slcAt hv1
    cases e'
    rw [← Nat.add_assoc] at d1 f1
    clear hv0 hv1
    have hcapo := hs.slcCap
    have hmo : m ≤ oc := by omega
    cases ws with
    | nil =>
      have h6 := hs.alloc (.cells #[.int .i64 vpc] 3)
      have b0 : (W.alloc (.cells #[.int .i64 vpc] 3)).cell? ⟨W.heap.size, 0, none⟩ = some (.int .i64 vpc) := Sat.cell (T := 3) (cs := #[.int .i64 vpc]) h6 0 rfl
      have d2 : W.cell? ⟨g, off + m * 2 + 1, none⟩ = some (.slice va 0 vc) := d1
      have hB1 : dfs l f (st.map Vis.p) seen (done ++ [vpc]) = dfs l (4 * n) [(0, sortI (nextL l 0))] [0] [] := hB
      have hw1 : weigh n (st.map Vis.p) seen ≤ f := by unfold weigh at hw ⊢; simp at hw ⊢; omega
      have hin1 : ∀ v ∈ st, ∀ y ∈ v.ws, inr n y = true := fun v hv => hin v (List.mem_cons_of_mem _ hv)
      have HH := Lib.hid (And.intro hB1 (And.intro hw1 (And.intro hP hin1)))
      have h63 := h6.p3
      clear d1 f1 hs hw hin hB hP hB1 hw1 hin1 h6
      go_wp2_with (at_builtin; refine wpList_push' rfl _ _ rfl da k dc done rfl h63 W.heap.size 1 vpc rfl b0 (by omega) ?_; intro a2 c2 w4 h7)
      have h8 : Sat w0 w4 (slc 65 2 (some ⟨g, off, none⟩) (m + 1) oc (visV st ++ [ival vpc, .slice va 0 vc]) * (slc 3 1 a2 (k + 1) c2 ((done ++ [vpc]).map ival) * (waitsR st * (mapR (.int .i64) (Value.int .i64) mb (seenL seen) * (CR * F))))) := by
        have h9 : Sat w0 w4 (pt W.heap.size (.cells #[.int .i64 vpc] 3 (0, 0)) * (slc 3 1 va 0 vc [] * (slc 65 2 (some ⟨g, off, none⟩) (m + 1) oc (visV (⟨vpc, va, vc, []⟩ :: st)) * (slc 3 1 a2 (k + 1) c2 ((done ++ [vpc]).map ival) * (waitsR st * (mapR (.int .i64) (Value.int .i64) mb (seenL seen) * (CR * F))))))) := h7.cast (by
          rw [waitsR_cons]
          simp only [List.length_nil, List.map_nil]
          ac_rfl)
        have h10 := h9.drop.drop
        rw [visV_cons] at h10
        exact h10
      have h11 := h8.slcPop (by rw [visV_length, hm2])
      exact ⟨f, Nat.lt_succ_self _, st, seen, done ++ [vpc], m, k + 1, some ⟨g, off, none⟩, oc, a2, c2, _, _, _, _, _, _, _, _, _, _, _, _, _, _, _, _, _, _, _, _, _, _, _, _, _, _, _, _, _, _, _, _, _, _, _, _, _, _, _, _, _, _, _, _, _, _, _, _, _, _, _, _, _, _, _, _, _, _, _, rfl, ⟨HH.out.1, HH.out.2.1, HH.out.2.2.1, HH.out.2.2.2, hm2, by simp; exact hdl, by omega⟩, h11⟩
    | cons y ws =>
      rw [waitsR_cons] at hs
      have hwt := hs.p3.assoc
      obtain ⟨p, q, rfl, e0, _⟩ := hwt.slcAt (j := 0) rfl
      have e1 : W.cell? ⟨p, q, none⟩ = some (.int .i64 y) := e0
      have d2 : W.cell? ⟨g, off + m * 2 + 1, none⟩ = some (.slice (some ⟨p, q, none⟩) (ws.length + 1) vc) := d1
      have hcapw : ws.length + 1 ≤ vc := hwt.slcCap.1
      generalize hoff : (if vc = 1 then q else q + 1) = q2 at *
      have hrun : (Instr.sliceAt 24 (.slice (some ⟨p, q, none⟩) (ws.length + 1) vc) (some (.int .i64 1)) none none).run Try.prog W = .ok (.slice (some ⟨p, q2, none⟩) ws.length (vc - 1)) W := by
        have := run_tail1 (P := Try.prog) W 24 3 Try.underlying24 1 (fun w => by kernel_rfl) p q ws.length vc hcapw
        rw [hoff] at this
        simpa [Instr.sliceAt] using this
      have hS : Sat w0 (W.setCell ⟨g, off + m * 2 + 1, none⟩ (.slice (some ⟨p, q2, none⟩) ws.length (vc - 1))) (slc 65 2 (some ⟨g, off, none⟩) (m + 1) oc (visV (⟨vpc, some ⟨p, q2, none⟩, vc - 1, ws⟩ :: st)) * (slc 3 1 da k dc (done.map ival) * (waitsR (⟨vpc, some ⟨p, q2, none⟩, vc - 1, ws⟩ :: st) * (mapR (.int .i64) (Value.int .i64) mb (seenL seen) * (CR * F))))) := by
        have a1 := hs.slcStore (j := m * 2 + 1) (by omega) (.slice (some ⟨p, q2, none⟩) ws.length (vc - 1))
        rw [← Nat.add_assoc] at a1
        have e2 : (visV (⟨vpc, some ⟨p, q, none⟩, vc, y :: ws⟩ :: st)).set (m * 2 + 1) (.slice (some ⟨p, q2, none⟩) ws.length (vc - 1)) = visV (⟨vpc, some ⟨p, q2, none⟩, vc - 1, ws⟩ :: st) := by
          rw [← hm2]; exact visV_set st ⟨vpc, some ⟨p, q, none⟩, vc, y :: ws⟩ ⟨vpc, some ⟨p, q2, none⟩, vc - 1, ws⟩ rfl
        rw [e2] at a1
        have a2 := a1.p3.assoc.slcTail1
        rw [hoff] at a2
        rw [waitsR_cons]
        exact a2.cast (by ac_rfl)
      have hl := seen_look y hS.p4
      have hBB : dfs l (f + 1) ((vpc, y :: ws) :: st.map Vis.p) seen done = if y ∈ seen then dfs l f ((vpc, ws) :: st.map Vis.p) seen done else dfs l f ((y, sortI (nextL l y)) :: (vpc, ws) :: st.map Vis.p) (seen ++ [y]) done := rfl
      have hB' := hBB.symm.trans hB
      have hin1 : ∀ v ∈ (⟨vpc, some ⟨p, q2, none⟩, vc - 1, ws⟩ :: st : List Vis), ∀ z ∈ v.ws, inr n z = true := by
        intro v hv z hz
        rcases List.mem_cons.1 hv with rfl | hv
        · exact hin _ (List.mem_cons_self ..) z (List.mem_cons_of_mem _ hz)
        · exact hin v (List.mem_cons_of_mem _ hv) z hz
      have hyi : inr n y = true := hin _ (List.mem_cons_self ..) y (List.mem_cons_self ..)
      by_cases hy : y ∈ seen
      · rw [if_pos hy] at hB' hl
        have hw1 : weigh n ((vpc, ws) :: st.map Vis.p) seen ≤ f := by unfold weigh at hw ⊢; simp [Vis.p] at hw ⊢; omega
        have HH := Lib.hid (And.intro hS (And.intro hw1 (And.intro hin1 (And.intro hB' hP))))
        clear hs hw hin hB hB' hBB hP hwt e0 d1 hoff hS hw1 hin1 hyi
        go_wp2_with fail
        exact ⟨f, Nat.lt_succ_self _, ⟨vpc, some ⟨p, q2, none⟩, vc - 1, ws⟩ :: st, seen, done, m + 1, k, some ⟨g, off, none⟩, oc, da, dc, _, _, _, _, _, _, _, _, _, _, _, _, _, _, _, _, _, _, _, _, _, _, _, _, _, _, _, _, _, _, _, _, _, _, _, _, _, _, _, _, _, _, _, _, _, _, _, _, _, _, _, _, _, _, _, _, _, _, _, rfl, ⟨HH.out.2.2.2.1, HH.out.2.1, HH.out.2.2.2.2, HH.out.2.2.1, hm, hdl, hlen⟩, HH.out.1⟩
      · rw [if_neg hy] at hB' hl
        obtain ⟨i0, hi, hz0, hz1, hz2⟩ := info_parts info_visit
        obtain ⟨wm2, hup0, h9⟩ := run_mapUpdate (P := Try.prog) (t := 63) (keys_int .i64) hS.p4 Try.underlying63 Try.underlying3 y (ival 1)
        have hup : (Instr.mapUpdate 63 (.map (some mb)) (.int .i64 y) (.int .i64 1)).run Try.prog (W.setCell ⟨g, off + m * 2 + 1, none⟩ (.slice (some ⟨p, q2, none⟩) ws.length (vc - 1))) = .ok () wm2 := hup0
        rw [mset_seen hy] at h9
        have h10 : Sat w0 wm2 (CR * (mapR (.int .i64) (Value.int .i64) mb (seenL (seen ++ [y])) * (slc 65 2 (some ⟨g, off, none⟩) (m + 1) oc (visV (⟨vpc, some ⟨p, q2, none⟩, vc - 1, ws⟩ :: st)) * (slc 3 1 da k dc (done.map ival) * (waitsR (⟨vpc, some ⟨p, q2, none⟩, vc - 1, ws⟩ :: st) * F))))) := h9.cast (by ac_rfl)
        have HN := Lib.hid (flow_Next hC hcap (by omega) y h10)
        have hP2 : Places n (seen ++ [y]) := by
          have := hP.add1 hyi
          unfold add1 at this
          rw [if_neg hy] at this; exact this
        have hP3 := hP2.le
        rw [List.length_append, List.length_singleton] at hP3
        have hnl := nextL_length l y
        have hw1 : weigh n ((y, sortI (nextL l y)) :: (vpc, ws) :: st.map Vis.p) (seen ++ [y]) ≤ f := by unfold weigh at hw ⊢; simp [Vis.p, sortI_length] at hw ⊢; omega
        have hin2 : ∀ v ∈ (⟨y, none, 0, sortI (nextL l y)⟩ :: ⟨vpc, some ⟨p, q2, none⟩, vc - 1, ws⟩ :: st : List Vis), ∀ z ∈ v.ws, inr n z = true := by
          intro v hv z hz
          rcases List.mem_cons.1 hv with rfl | hv
          · rw [← hln]; exact nextL_inr (mem_sortI.1 hz)
          · exact hin1 v hv z hz
        have HH := Lib.hid (And.intro hw1 (And.intro hin2 (And.intro hB' hP2)))
        clear hs hw hin hB hB' hBB hP hwt e0 d1 hoff hS hw1 hin1 hyi hin2 hP2 h9 h10 hup0
        go_wp2_with fail
        refine HN.out.mono ?_
        rintro e w6 ⟨ya, yc, rfl, h11⟩
        have h12 := h11.alloc (.cells #[.int .i64 y, .slice ya (nextL l y).length yc] 65)
        have b0 : (w6.alloc (.cells #[.int .i64 y, .slice ya (nextL l y).length yc] 65)).cell? ⟨w6.heap.size, 0, none⟩ = some (.int .i64 y) := Sat.cell (T := 65) h12 0 rfl
        have b1 : (w6.alloc (.cells #[.int .i64 y, .slice ya (nextL l y).length yc] 65)).cell? ⟨w6.heap.size, 1, none⟩ = some (.slice ya (nextL l y).length yc) := Sat.cell (T := 65) h12 1 rfl
        have h125 := h12.p5
        clear h11 h12
        go_wp2_with (at_builtin; refine wpList_append rfl _ _ 66 rfl i0 (.agg #[.int .i64 0, .slice none 0 0]) 32 Try.underlying66 hi hz0 hz1 hz2 rfl (some ⟨g, off, none⟩) (m + 1) oc _ rfl h125 ⟨w6.heap.size, 0, none⟩ 1 1 [.int .i64 y, .slice ya (nextL l y).length yc] rfl rfl (two_cellsF b0 b1) (by simp [Value.oneCell']) (by unfold maxLen; omega) (by omega) ?_; intro a2 c2 w7 h14 _)
        have h15 : Sat w0 w7 (slc 65 2 a2 (m + 1 + 1) c2 (visV (⟨y, ya, yc, sortI (nextL l y)⟩ :: ⟨vpc, some ⟨p, q2, none⟩, vc - 1, ws⟩ :: st)) * (slc 3 1 da k dc (done.map ival) * (waitsR (⟨y, ya, yc, sortI (nextL l y)⟩ :: ⟨vpc, some ⟨p, q2, none⟩, vc - 1, ws⟩ :: st) * (mapR (.int .i64) (Value.int .i64) mb (seenL (seen ++ [y])) * (CR * F))))) := by
          have a1 := h14.p2.drop
          rw [visV_cons, waitsR_cons]
          show Sat w0 w7 (slc _ 2 a2 (m + 1 + 1) c2 (visV (⟨vpc, some ⟨p, q2, none⟩, vc - 1, ws⟩ :: st) ++ [.int .i64 y, .slice ya (sortI (nextL l y)).length yc]) * (_ * ((slc _ 1 ya (sortI (nextL l y)).length yc _ * _) * _)))
          rw [sortI_length]
          exact a1.cast (by ac_rfl)
        have hin3 : ∀ v ∈ (⟨y, ya, yc, sortI (nextL l y)⟩ :: ⟨vpc, some ⟨p, q2, none⟩, vc - 1, ws⟩ :: st : List Vis), ∀ z ∈ v.ws, inr n z = true := by
          intro v hv z hz
          rcases List.mem_cons.1 hv with rfl | hv
          · exact HH.out.2.1 ⟨y, none, 0, sortI (nextL l y)⟩ (List.mem_cons_self ..) z hz
          · exact HH.out.2.1 v (List.mem_cons_of_mem _ hv) z hz
        exact ⟨f, Nat.lt_succ_self _, ⟨y, ya, yc, sortI (nextL l y)⟩ :: ⟨vpc, some ⟨p, q2, none⟩, vc - 1, ws⟩ :: st, seen ++ [y], done, m + 1 + 1, k, a2, c2, da, dc, _, _, _, _, _, _, _, _, _, _, _, _, _, _, _, _, _, _, _, _, _, _, _, _, _, _, _, _, _, _, _, _, _, _, _, _, _, _, _, _, _, _, _, _, _, _, _, _, _, _, _, _, _, _, _, _, _, _, _, rfl, ⟨HH.out.2.2.1, HH.out.1, HH.out.2.2.2, hin3, by rw [← hm]; rfl, hdl, by rw [List.length_append, List.length_singleton]; omega⟩, h15⟩
end
end Go.Proofs.Ytpeifcdfhhpdkaa.Tw
