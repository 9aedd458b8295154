/- tallowlaw11: own, tab, ints, has, rising. No condition. -/
import Derived.Test.YtmngkodejlhalaaGr12
import Derived.Test.YtmngkodejlhalaaOpn
namespace Go.Proofs.Ytmngkodejlhalaa.Tw
set_option linter.unusedVariables false
set_option linter.unusedSimpArgs false
open Go Go.RowKit Go.MapKept

section
variable {P : Program} {w0 w : World} {F : HP} {ops : Array Oper} {rest : List Oper} {o : Oper} {a : Act} {Q : Exit → Act → World → Prop} {K : Act → World → Prop}
theorem wpList_pushObj (hg : o.guard = none) (s x : Operand) (hop : o.op = .call { callee := .builtin .append, args := #[s, x], argTypes := #[22, 22] })
    (sa : Option Addr) (n c : Nat) (X : List XObj) (hs : a.eval s = .slice sa n c) (h : Sat w0 w (slc 39 5 sa n c (xscells X) * F)) (bx c' : Nat) (v : XObj) (hx : a.eval x = .slice (some ⟨bx, 0, none⟩) 1 c')
    (hc : ∀ j u, (xcells v)[j]? = some u → w.cell? ⟨bx, j, none⟩ = some u) (hn : n ≤ 1000000000)
    (hK : ∀ a' c'' w', Sat w0 w' (slc 39 5 a' (n + 1) c'' (xscells (X ++ [v])) * F) → wpList Try.prog ops Q rest (a.put o.dst (.slice a' (n + 1) c'')) w') : wpList Try.prog ops Q (o :: rest) a w :=
  wpList_plain hg fun _ hK' => wp_pushObj s x hop sa n c X hs h bx c' v hx hc hn fun a' c'' w' h2 => hK' _ _ (hK a' c'' w' h2)
end
/-- an owned slice is a source -/
theorem srcV_slc' {w0 : World} {a : Option Addr} {n c : Nat} {l : List AVal} (hl : l.length = n) (hc : n ≤ c ∧ c ≤ maxLen) (hnil : a = none → n = 0 ∧ c = 0) : SrcV w0 (slc 33 2 a n c (avcells l)) a n c l := by
  refine ⟨fun w' G h k x hx => ?_, hl, hnil, hc⟩
  obtain ⟨g, off, e, c0, c1, _, _⟩ := valAt h hx
  exact ⟨g, off, e, c0, c1⟩
theorem slc_nil {w0 w : World} {T : TypeId} {sz : Nat} {F : HP} {a : Option Addr} {n c : Nat} {xs : List Value} (h : Sat w0 w (slc T sz a n c xs * F)) : a = none → n = 0 ∧ c = 0 := by
  intro e
  subst e
  rcases h.openSlc.2 with ⟨_, e1, e2, _⟩ | ⟨g, off, cur, e, _⟩
  · exact ⟨e1, e2⟩
  · cases e
theorem xslots_get : ∀ {X : List XObj} {x : XObj}, x ∈ X → ∃ R, xslotsR X = slc 33 2 x.2.1 x.1.slots.length x.2.2 (avcells x.1.slots) * R
  | y :: X, x, h => by
    rcases List.mem_cons.1 h with rfl | h
    · exact ⟨_, rfl⟩
    · obtain ⟨R, e⟩ := xslots_get h
      exact ⟨slc 33 2 y.2.1 y.1.slots.length y.2.2 (avcells y.1.slots) * R, by show _ * xslotsR X = _; rw [e, mul_left_comm]⟩
/-- an owned graph is a source -/
theorem Sat.srcO {w0 w : World} {F : HP} {ga : Option Addr} {n c : Nat} {X : List XObj} (h : Sat w0 w ((slc 39 5 ga n c (xscells X) * xslotsR X) * F)) (hn : X.length = n) (hs : n ≤ 1000000) (hb : ∀ x ∈ X, x.1.slots.length ≤ 1000000) :
    SrcO w0 (slc 39 5 ga n c (xscells X) * xslotsR X) ga n c X := by
  refine ⟨fun w' G h' k x hx => objAtX h'.assoc hx, hn, slc_nil h.assoc, h.assoc.slcCap, fun x hx => ⟨?_, hb x hx⟩, hs⟩
  obtain ⟨R, e⟩ := xslots_get hx
  have h2 : Sat w0 w (slc 33 2 x.2.1 x.1.slots.length x.2.2 (avcells x.1.slots) * (slc 39 5 ga n c (xscells X) * (R * F))) := h.cast (by rw [e]; ac_rfl)
  have := srcV_slc' (w0 := w0) (l := x.1.slots) rfl h2.slcCap (slc_nil h2)
  rw [e]
  have h3 := (this.mono (C := slc 39 5 ga n c (xscells X) * R))
  rwa [show slc 33 2 x.2.1 x.1.slots.length x.2.2 (avcells x.1.slots) * (slc 39 5 ga n c (xscells X) * R) = slc 39 5 ga n c (xscells X) * (slc 33 2 x.2.1 x.1.slots.length x.2.2 (avcells x.1.slots) * R) by ac_rfl] at h3
section
variable {w0 w : World} {SR F : HP}
theorem SrcV.flat {a : Option Addr} {n c : Nat} {l : List AVal} (hS : SrcV w0 SR a n c l) (h : Sat w0 w (SR * F)) : ∀ ad, a = some ad → ∀ j u, (avcells l)[j]? = some u → w.cell? (ad.add j) = some u := by
  rintro ad rfl j u hj
  have hjl : j < (avcells l).length := (List.getElem?_eq_some_iff.1 hj).1
  rw [avcells_length] at hjl
  have hx : l[j / 2]? = some (l[j / 2]'(by omega)) := List.getElem?_eq_getElem _
  obtain ⟨e0, e1⟩ := avcells_get l _ _ hx
  obtain ⟨g, off, q1, d0, d1⟩ := hS.1 _ _ h _ _ hx
  cases q1
  rw [addr_add]
  rcases Nat.mod_two_eq_zero_or_one j with hm | hm
  · have : j = j / 2 * 2 := by omega
    rw [this] at hj ⊢
    rw [e0] at hj; cases hj
    exact d0
  · have : j = j / 2 * 2 + 1 := by omega
    rw [this] at hj ⊢
    rw [e1] at hj; cases hj
    rw [← Nat.add_assoc]; exact d1
theorem SrcV.take {a : Option Addr} {n c : Nat} {l : List AVal} (hS : SrcV w0 SR a n c l) {m : Nat} (hm : m ≤ n) : SrcV w0 SR a m c (l.take m) := by
  refine ⟨fun w' G h k x hx => ?_, by rw [List.length_take, hS.2.1]; omega, fun e => ?_, by have := hS.2.2.2; omega⟩
  · rw [List.getElem?_take] at hx
    split at hx
    · exact hS.1 w' G h k x hx
    · cases hx
  · have := hS.2.2.1 e; omega
theorem load_graphG {b : Nat} {x : Value} {a : Option Addr} {n c : Nat} (hx : x = .slice a n c) (h : Sat w0 w (row b 24 #[x] * F)) :
    (loadVar 24 ⟨b, 0, none⟩).run Try.prog w = .ok (.agg #[x]) w := by
  have c0 : w.cell? ⟨b, 0, none⟩ = some x := h.cell 0 rfl
  subst hx
  go_simp
theorem own5 {w : World} {b : Nat} {k cc m : Int} {a : Option Addr} {mm sc : Nat} {tx : ByteArray} {l : List AVal} {F : HP} (hl : l.length = mm) (h : Sat w0 w (pt b (.cells #[.int .i64 k, .int .i64 cc, .slice a mm sc, .string tx, .int .i64 m] 39 (0, 0)) * F)) :
    ∀ j u, (xcells (⟨k, cc, l, tx, m⟩, a, sc))[j]? = some u → w.cell? ⟨b, j, none⟩ = some u := by
  subst hl
  exact five_cells (x := (⟨k, cc, l, tx, m⟩, a, sc)) h
def o40 (o : AObj) : AObj := { o with slots := o.slots.take 40 }
def ownL (L : List AObj) : List AObj := (L.take 40).map o40
theorem ownL_len (L : List AObj) : (ownL L).length ≤ 40 := by unfold ownL; rw [List.length_map, List.length_take]; omega
theorem ownL_slots {L : List AObj} {o : AObj} (h : o ∈ ownL L) : o.slots.length ≤ 40 := by
  unfold ownL at h
  obtain ⟨x, _, rfl⟩ := List.mem_map.1 h
  show (x.slots.take 40).length ≤ 40
  rw [List.length_take]; omega
set_option maxRecDepth 100000 in
set_option maxHeartbeats 8000000 in
theorem law_own {ga : Option Addr} {n c : Nat} {X : List XObj} (h : Sat w0 w (SR * F)) (hG : SrcG w0 SR ga n c X) {N : Nat} {L : List AObj} (hL : ownL (X.map (·.1)) = L) (hN : L.length = N) :
    Calls Try.prog 15 #[.agg #[.slice ga n c]] w fun e w' => ∃ oa oc, e = .returned (.agg #[.slice oa N oc]) ∧ Sat w0 w' (objsV oa N oc L * (SR * F)) := by
  have hb := ((h.alloc (.cells #[.slice ga n c] 24)).alloc (.cells #[.slice none 0 0] 24)).alloc (.cells #[.slice none 0 0] 24)
  rw [size_alloc, size_alloc] at hb
  generalize hgb : w.heap.size = gb at *
  have HL := Lib.hid (And.intro hL hN)
  have HG := Lib.hid hG
  have hcap := hG.cap
  have hn63 : n ≤ 9223372036854775807 := by unfold maxLen at hcap; omega
  have hlen : Hid (X.length = n) := Lib.hid hG.len
  clear hL hN hG
  have h0 : Sat w0 (((w.alloc (.cells #[.slice ga n c] 24)).alloc (.cells #[.slice none 0 0] 24)).alloc (.cells #[.slice none 0 0] 24)) (objsV none 0 0 [] * (pt (gb + 1 + 1) (.cells #[.slice none 0 0] 24 (0, 0)) * (pt (gb + 1) (.cells #[.slice none 0 0] 24 (0, 0)) * (pt gb (.cells #[.slice ga n c] 24 (0, 0)) * (SR * F))))) := by
    refine Sat.shutObjs (X := []) rfl rfl ?_
    rw [xslotsR, one_mul]
    exact hb.nilSlc
  have c0 := boxG hb.p3
  go_enter Try.func15, Try.ntmps15
  try rw [hgb]
  go_wp2
  go_loopw [4] (fun iv wr => ∃ (k : Nat) (oa : Option Addr) (oc : Nat), iv = .int .i64 k ∧ k ≤ n ∧ k ≤ 40 ∧ Sat w0 wr (objsV oa k oc (((X.map (·.1)).take k).map o40) * (pt (gb + 1 + 1) (.cells #[.slice oa k oc] 24 (0, 0)) * (pt (gb + 1) (.cells #[.slice none 0 0] 24 (0, 0)) * (pt gb (.cells #[.slice ga n c] 24 (0, 0)) * (SR * F)))))) (fun iv _ => n - (intOf iv).toNat)
  case atStart => exact ⟨0, none, 0, rfl, by omega, by omega, h0⟩
  case round =>
    obtain ⟨k, oa, oc, rfl, hk, hk40, hs0⟩ := hrel
    obtain ⟨Y, hY, hs⟩ := hs0.openObjs
    have HY := Lib.hid hY.1
    have g0 := boxG hs.p5
    have g2 := boxG hs.p3
    clear hY
    by_cases hlt : k < n
    · by_cases h40 : k < 40
      · have hxl := hlen.out
        obtain ⟨x, hx⟩ : ∃ x, X[k]? = some x := ⟨X[k]'(by omega), List.getElem?_eq_getElem _⟩
        obtain ⟨g, off, rfl, e0, e1, e2, e3, e4⟩ := HG.out.cell _ _ hs.p6 k x hx
        have hsl := HG.out.slots x (List.mem_of_getElem? hx)
        have htk : ((X.map (·.1)).take (k + 1)).map o40 = ((X.map (·.1)).take k).map o40 ++ [o40 x.1] := by
          rw [List.take_add_one, List.getElem?_map, hx, List.map_append]; rfl
        have HTK := Lib.hid htk
        obtain ⟨⟨xk, xc, xs, xt, xm⟩, sa, sc⟩ := x
        dsimp only at e0 e1 e2 e3 e4 hsl
        have hscap := hsl.2.2.2
        have hs63 : xs.length ≤ 9223372036854775807 := by unfold maxLen at hscap; omega
        have HSL := Lib.hid hsl
        clear htk hsl hx hxl
        have h5 := hs.alloc (.cells #[.int .i64 xk, .int .i64 xc, .slice sa xs.length sc, .string xt, .int .i64 xm] 39)
        generalize hob : wr.heap.size = ob at *
        obtain ⟨f0, f1, f2, f3, f4⟩ := boxO h5
        have h6 := emptySlcV h5
        rw [size_alloc, hob] at h6
        have hmin : min (xs.length : Int) 40 = ((min xs.length 40 : Nat) : Int) := by omega
        have hmle : min xs.length 40 ≤ xs.length := by omega
        have hm40 : min xs.length 40 ≤ 40 := by omega
        have hmx : Hid (xs.take 40 = xs.take (min xs.length 40)) := Lib.hid (by rw [List.take_eq_take_iff]; omega)
        generalize min xs.length 40 = mm at *
        have hST := HSL.out.take hmle
        have HSRC := Lib.hid (And.intro (hST.flat (h6.p8)) hST.2.2.1)
        have hSTl := hST.2.1
        have HSTL := Lib.hid hSTl
        clear hST hSTl
        obtain ⟨i0, hi, hz0, hz1, hz2⟩ := info_parts info_val
        go_wp2_with (first
          | (at_builtin; refine wpList_append_any rfl _ _ 25 rfl i0 (.agg #[.int .i64 0, .int .i64 0]) 16 Try.underlying25 hi hz0 hz1 hz2 rfl (some ⟨ob + 1, 0, none⟩) 0 0 [] rfl h6 sa mm sc (avcells (xs.take mm)) rfl (by rw [avcells_length, HSTL.out]) ⟨HSRC.out.1, fun e => by have := HSRC.out.2 e; omega⟩ (oneCell_avcells _) (by unfold maxLen; omega) (by omega) ?_; intro a' c' w7 h7 hne; have h8 := h7.p2; have fz := Sat.free (T := 39) (cs := #[.int .i64 xk, .int .i64 xc, .slice sa xs.length sc, .string xt, .int .i64 xm]) h8 2; have c8 := (boxO h8).2.2.1; have h9 : Sat w0 _ (pt ob (.cells #[.int .i64 xk, .int .i64 xc, .slice a' mm c', .string xt, .int .i64 xm] 39 (0, 0)) * _) := Sat.store (T := 39) (cs := #[.int .i64 xk, .int .i64 xc, .slice sa xs.length sc, .string xt, .int .i64 xm]) h8 (i := 2) (.slice a' mm c'); have y0 := (boxO h9).1; have y1 := (boxO h9).2.1; have y2 := (boxO h9).2.2.1; have y3 := (boxO h9).2.2.2.1; have y4 := (boxO h9).2.2.2.2; have z2 := boxG h9.p5; have h11 := h9.alloc (.cells #[.int .i64 xk, .int .i64 xc, .slice a' mm c', .string xt, .int .i64 xm] 39); have q5 : ∀ j u, (xcells (⟨xk, xc, xs.take mm, xt, xm⟩, a', c'))[j]? = some u → ((w7.setCell ⟨ob, 2, none⟩ (.slice a' mm c')).alloc (.cells #[.int .i64 xk, .int .i64 xc, .slice a' mm c', .string xt, .int .i64 xm] 39)).cell? ⟨w7.heap.size, j, none⟩ = some u := own5 HSTL.out (by rw [size_setCell'] at h11; exact h11))
          | (at_builtin; refine wpList_pushObj rfl _ _ rfl oa k oc Y rfl h11.p4 w7.heap.size 1 (⟨xk, xc, xs.take mm, xt, xm⟩, a', c') rfl q5 (by omega) ?_; intro a2 c2 w9 h12; have x2 := boxG h12.p6; have x2f := Sat.free (T := 24) (cs := #[.slice oa k oc]) h12.p6 0))
        go_roundw
        case rel =>
          refine ⟨k + 1, a2, c2, by go_num, by omega, by omega, ?_⟩
          have h13 : Sat w0 _ (pt (gb + 1 + 1) (.cells #[.slice a2 (k + 1) c2] 24 (0, 0)) * _) := Sat.store (T := 24) (cs := #[.slice oa k oc]) h12.p6 (i := 0) (.slice a2 (k + 1) c2)
          rw [HTK.out, ← HY.out]
          refine Sat.shutObjs (X := Y ++ [(⟨xk, xc, xs.take mm, xt, xm⟩, a', c')]) ?_ ?_ ?_
          · rw [List.map_append]
            congr 1
            show [(⟨xk, xc, xs.take mm, xt, xm⟩ : AObj)] = [o40 ⟨xk, xc, xs, xt, xm⟩]
            unfold o40
            rw [hmx.out]
          · simp only [List.length_append, HY.out, List.length_map, List.length_take, List.length_singleton, hlen.out]; omega
          · rw [show xslotsR (Y ++ [((⟨xk, xc, xs.take mm, xt, xm⟩ : AObj), a', c')]) = slc 33 2 a' (xs.take mm).length c' (avcells (xs.take mm)) * xslotsR Y by rw [xslotsR_split Y [] _, List.append_nil], HSTL.out]
            rw [Nat.zero_add, List.nil_append] at h13
            exact (h13.p3.drop.p3.drop).q4.cast (by simp only [mul_assoc])
        case measure => simp [intOf]; omega
      · have hk4 : k = 40 := by omega
        subst hk4
        have HE := Lib.hid (show ((X.map (·.1)).take 40).map o40 = L from HL.out.1)
        have HE2 := Lib.hid (show N = 40 by rw [← HL.out.2, ← HE.out, List.length_map, List.length_take, List.length_map, hlen.out]; omega)
        clear h0 hb c0
        have g1 := boxG hs0.p3
        have g1f := Sat.free (T := 24) (cs := #[.slice none 0 0]) hs0.p3 0
        have h7 : Sat w0 _ (row (gb + 1) 24 #[.slice oa 40 oc] * _) := Sat.store (T := 24) (cs := #[.slice none 0 0]) hs0.p3 (i := 0) (.slice oa 40 oc)
        have h8 := h7.drop.p2.drop.p2.drop
        rw [HE.out] at h8
        go_wp2_with fail
        refine bodyPost_cell rfl rfl (load_graphG (x := .slice oa 40 oc) rfl h7) rfl ?_
        rw [HE2.out]
        exact ⟨oa, oc, rfl, h8⟩
    · have hkn : k = n := by omega
      subst hkn
      have HE := Lib.hid (show ((X.map (·.1)).take k).map o40 = L from by rw [← HL.out.1]; unfold ownL; rw [List.take_of_length_le (by rw [List.length_map, hlen.out]; omega), List.take_of_length_le (by rw [List.length_map, hlen.out]; omega)])
      have HE2 := Lib.hid (show N = k by rw [← HL.out.2, ← HE.out, List.length_map, List.length_take, List.length_map, hlen.out]; omega)
      clear h0 hb c0
      have g1 := boxG hs0.p3
      have g1f := Sat.free (T := 24) (cs := #[.slice none 0 0]) hs0.p3 0
      have h7 : Sat w0 _ (row (gb + 1) 24 #[.slice oa k oc] * _) := Sat.store (T := 24) (cs := #[.slice none 0 0]) hs0.p3 (i := 0) (.slice oa k oc)
      have h8 := h7.drop.p2.drop.p2.drop
      rw [HE.out] at h8
      go_wp2_with fail
      refine bodyPost_cell rfl rfl (load_graphG (x := .slice oa k oc) rfl h7) rfl ?_
      rw [HE2.out]
      exact ⟨oa, oc, rfl, h8⟩
end
end Go.Proofs.Ytmngkodejlhalaa.Tw
