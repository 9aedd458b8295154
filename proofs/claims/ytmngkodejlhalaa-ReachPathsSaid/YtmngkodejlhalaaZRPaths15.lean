/- tallowlaw11: tab, tables, rising. No condition. -/
import Derived.Test.YtmngkodejlhalaaZRPaths14
namespace Go.Proofs.Ytmngkodejlhalaa.Tw
set_option linter.unusedVariables false
set_option linter.unusedSimpArgs false
open Go Go.RowKit Go.MapKept

section
variable {w0 w : World} {SR F : HP}
theorem load_valG {b : Nat} {k x : Int} (h : Sat w0 w (pt b (.cells #[.int .i64 k, .int .i64 x] 33 (0, 0)) * F)) : (loadVar 33 ⟨b, 0, none⟩).run Try.prog w = .ok (.agg #[.int .i64 k, .int .i64 x]) w := by
  obtain ⟨c0, c1⟩ := boxV h
  go_simp
theorem law_tab11 (h : Sat w0 w F) (x : Int) : Calls Try.prog 31 #[.int .i64 x] w fun e w' => e = .returned (.agg #[.int .i64 6, .int .i64 x]) ∧ Sat w0 w' F := by
  have h1 := h.alloc (.cells #[.int .i64 0, .int .i64 0] 33)
  have h2 : Sat w0 _ (pt w.heap.size (.cells #[.int .i64 6, .int .i64 x] 33 (0, 0)) * F) := h.alloc (.cells #[.int .i64 6, .int .i64 x] 33)
  go_enter Try.func31, Try.ntmps31
  go_wp2
  exact bodyPost_cell rfl rfl (load_valG h2) rfl ⟨rfl, h2.drop⟩
/-- is each one above the one ahead? -/
def risingB : List Int → Bool
  | [] => true
  | [_] => true
  | x :: y :: r => decide (x < y) && risingB (y :: r)
theorem law_rising {a : Option Addr} {c n : Nat} {l : List Int} (h : Sat w0 w (slc 3 1 a n c (l.map ival) * F)) (hl : l.length = n) (hn : n ≤ 1000000000) (hr : l.Pairwise (· < ·)) :
    Calls Try.prog 25 #[.slice a n c] w fun e w' => e = .returned (.bool true) ∧ Sat w0 w' (slc 3 1 a n c (l.map ival) * F) := by
  have HR := Lib.hid hr
  have HL := Lib.hid hl
  clear hr hl
  go_enter Try.func25, Try.ntmps25
  go_wp2
  go_loopw [3] (fun iv wr => ∃ k : Nat, iv = .int .i64 ((k : Int) + 1) ∧ k ≤ n ∧ Sat w0 wr (slc 3 1 a n c (l.map ival) * F)) (fun iv _ => n - (intOf iv).toNat)
  case atStart => exact ⟨0, rfl, by omega, h⟩
  case round =>
    obtain ⟨k, rfl, hk, hs⟩ := hrel
    by_cases hlt : k + 1 < n
    · have hll := HL.out
      have ex : l[k]? = some (l[k]'(by omega)) := List.getElem?_eq_getElem _
      have ey : l[k + 1]? = some (l[k + 1]'(by omega)) := List.getElem?_eq_getElem _
      have hxy : l[k]'(by omega) < l[k + 1]'(by omega) := List.pairwise_iff_getElem.1 HR.out k (k + 1) _ _ (by omega)
      generalize l[k]'(by omega) = x at *
      generalize l[k + 1]'(by omega) = y at *
      obtain ⟨g, off, rfl, c1, _⟩ := intCells hs ex
      obtain ⟨g2, off2, e2, c2, _⟩ := intCells hs ey
      cases e2
      have hcap := hs.slcCap
      have h1 : decide (y ≤ x) = false := by simp; omega
      have h2 : (k : Int) + 1 - 1 = k := by omega
      have h3 : ((k : Int) + 1).toNat = k + 1 := by omega
      clear ex ey hxy hll
      go_wp2
      go_region
      go_wp2
      go_round
      case rel => exact ⟨k + 1, by go_num, by omega, hs⟩
      case measure => simp [intOf]; omega
    · go_wp2
      go_ret
      exact ⟨rfl, hs⟩
/-- lists of numbers in a slice, wherever SR is held -/
structure SrcT (w0 : World) (SR : HP) (a : Option Addr) (n c : Nat) (Y : List (List Int × Option Addr × Nat)) : Prop where
  cell : ∀ w' G, Sat w0 w' (SR * G) → ∀ k y, Y[k]? = some y → (∃ g off, a = some ⟨g, off, none⟩ ∧ w'.cell? ⟨g, off + k, none⟩ = some (.slice y.2.1 y.1.length y.2.2)) ∧ ∀ j x, y.1[j]? = some x → ∃ g2 off2, y.2.1 = some ⟨g2, off2, none⟩ ∧ w'.cell? ⟨g2, off2 + j, none⟩ = some (.int .i64 x)
  len : Y.length = n
  small : n ≤ 1000 ∧ ∀ y ∈ Y, y.1.length ≤ 1000
def zobj : AObj := ⟨0, 0, [], ⟨#[]⟩, 0⟩
def tabStep (o : AObj) (x : Int) : AObj := if x = 0 then zobj else { o with slots := o.slots ++ [⟨6, x⟩] }
def tabObj (l : List Int) : AObj := l.foldl tabStep ⟨6, 0, [], ⟨#[]⟩, 0⟩
theorem tabStep_len (o : AObj) (x : Int) : (tabStep o x).slots.length ≤ o.slots.length + 1 := by unfold tabStep zobj; split <;> simp
theorem storeObj {b : Nat} {k c m : Int} {a : Option Addr} {sn sc : Nat} {tx : ByteArray} (h : Sat w0 w (pt b (.cells #[.int .i64 k, .int .i64 c, .slice a sn sc, .string tx, .int .i64 m] 39 (0, 0)) * F)) (k' c' m' : Int) (a' : Option Addr) (sn' sc' : Nat) (tx' : ByteArray) :
    Sat w0 (((((w.setCell ⟨b, 0, none⟩ (.int .i64 k')).setCell ⟨b, 1, none⟩ (.int .i64 c')).setCell ⟨b, 2, none⟩ (.slice a' sn' sc')).setCell ⟨b, 3, none⟩ (.string tx')).setCell ⟨b, 4, none⟩ (.int .i64 m')) (pt b (.cells #[.int .i64 k', .int .i64 c', .slice a' sn' sc', .string tx', .int .i64 m'] 39 (0, 0)) * F) :=
  Sat.store (T := 39) (cs := #[.int .i64 k', .int .i64 c', .slice a' sn' sc', .string tx', .int .i64 m]) (Sat.store (T := 39) (cs := #[.int .i64 k', .int .i64 c', .slice a' sn' sc', .string tx, .int .i64 m]) (Sat.store (T := 39) (cs := #[.int .i64 k', .int .i64 c', .slice a sn sc, .string tx, .int .i64 m]) (Sat.store (T := 39) (cs := #[.int .i64 k', .int .i64 c, .slice a sn sc, .string tx, .int .i64 m]) (Sat.store (T := 39) (cs := #[.int .i64 k, .int .i64 c, .slice a sn sc, .string tx, .int .i64 m]) h (i := 0) _) (i := 1) _) (i := 2) _) (i := 3) _) (i := 4) _
theorem tabAt {g off k g3 off3 j : Nat} {l : List Int} {lc : Nat} {x : Int}
    (h : (∃ g' off', (some ⟨g, off, none⟩ : Option Addr) = some ⟨g', off', none⟩ ∧ w.cell? ⟨g', off' + k, none⟩ = some (.slice (some ⟨g3, off3, none⟩) l.length lc)) ∧ ∀ j x, l[j]? = some x → ∃ g2 off2, (some ⟨g3, off3, none⟩ : Option Addr) = some ⟨g2, off2, none⟩ ∧ w.cell? ⟨g2, off2 + j, none⟩ = some (.int .i64 x)) (hx : l[j]? = some x) :
    w.cell? ⟨g, off + k, none⟩ = some (.slice (some ⟨g3, off3, none⟩) l.length lc) ∧ w.cell? ⟨g3, off3 + j, none⟩ = some (.int .i64 x) := by
  obtain ⟨⟨g', off', e1, h1⟩, h2⟩ := h
  obtain ⟨g2, off2, e2, h3⟩ := h2 j x hx
  cases e1; cases e2
  exact ⟨h1, h3⟩
set_option maxRecDepth 100000 in
set_option maxHeartbeats 8000000 in
theorem law_tables {a : Option Addr} {n c : Nat} {Y : List (List Int × Option Addr × Nat)} (h : Sat w0 w (SR * F)) (hT : SrcT w0 SR a n c Y) {L : List AObj} (hL : Y.map (fun y => tabObj y.1) = L) :
    Calls Try.prog 32 #[.slice a n c] w fun e w' => ∃ oa oc, e = .returned (.agg #[.slice oa n oc]) ∧ Sat w0 w' (objsV oa n oc L * (SR * F)) := by
  have hb := ((h.alloc (.cells #[.slice none 0 0] 24)).alloc (.cells #[.slice none 0 0] 24))
  rw [size_alloc] at hb
  generalize hgb : w.heap.size = gb at *
  have HT := Lib.hid hT
  have HL := Lib.hid hL
  have hsm := hT.small.1
  have hlen : Hid (Y.length = n) := Lib.hid hT.len
  clear hL hT
  have h0 : Sat w0 ((w.alloc (.cells #[.slice none 0 0] 24)).alloc (.cells #[.slice none 0 0] 24)) (objsV none 0 0 [] * (pt (gb + 1) (.cells #[.slice none 0 0] 24 (0, 0)) * (pt gb (.cells #[.slice none 0 0] 24 (0, 0)) * (SR * F)))) := by
    refine Sat.shutObjs (X := []) rfl rfl ?_
    rw [xslotsR, one_mul]
    exact hb.nilSlc
  go_enter Try.func32, Try.ntmps32
  try rw [hgb]
  go_wp2
  go_loopw [4] (fun iv wr => ∃ (k : Nat) (oa : Option Addr) (oc : Nat), iv = .int .i64 k ∧ k ≤ n ∧ Sat w0 wr (objsV oa k oc ((Y.take k).map fun y => tabObj y.1) * (pt (gb + 1) (.cells #[.slice oa k oc] 24 (0, 0)) * (pt gb (.cells #[.slice none 0 0] 24 (0, 0)) * (SR * F))))) (fun iv _ => n - (intOf iv).toNat)
  case atStart => exact ⟨0, none, 0, rfl, by omega, h0⟩
  case round =>
    obtain ⟨k, oa, oc, rfl, hk, hs0⟩ := hrel
    obtain ⟨Z, hZ, hs⟩ := hs0.openObjs
    have HZ := Lib.hid hZ.1
    have g2 := boxG hs.p3
    clear hZ
    by_cases hlt : k < n
    · have hyl := hlen.out
      obtain ⟨y, hy⟩ : ∃ y, Y[k]? = some y := ⟨Y[k]'(by omega), List.getElem?_eq_getElem _⟩
      obtain ⟨⟨g, off, rfl, e0⟩, _⟩ := HT.out.cell _ _ hs.p5 k y hy
      have hys := HT.out.small.2 y (List.mem_of_getElem? hy)
      have htk : (Y.take (k + 1)).map (fun y => tabObj y.1) = (Y.take k).map (fun y => tabObj y.1) ++ [tabObj y.1] := by rw [List.take_add_one, hy, List.map_append]; rfl
      have HTK := Lib.hid htk
      have HYC := Lib.hid (fun w' G (h : Sat w0 w' (SR * G)) => HT.out.cell w' G h k y hy)
      obtain ⟨l, la, lc⟩ := y
      dsimp only at e0 hys HTK HYC
      clear htk hy hyl
      have h5 := hs.alloc (.cells #[.int .i64 6, .int .i64 0, .slice none 0 0, .string ⟨#[]⟩, .int .i64 0] 39)
      generalize hob : wr.heap.size = ob at *
      have h6 := h5.nilSlc (T := 33) (sz := 2)
      have hkn : k < n := hlt
      go_wp2_with fail
      go_loopw [6] (fun iv wr => ∃ (j : Nat) (o : AObj) (sa : Option Addr) (sc : Nat), iv = .int .i64 j ∧ j ≤ l.length ∧ Hid ((l.take j).foldl tabStep ⟨6, 0, [], ⟨#[]⟩, 0⟩ = o) ∧ o.slots.length ≤ j ∧
        Sat w0 wr (slc 33 2 sa o.slots.length sc (avcells o.slots) * (pt ob (.cells #[.int .i64 o.kind, .int .i64 o.count, .slice sa o.slots.length sc, .string o.text, .int .i64 o.mark] 39 (0, 0)) * (slc 39 5 oa k oc (xscells Z) * (xslotsR Z * (pt (gb + 1) (.cells #[.slice oa k oc] 24 (0, 0)) * (pt gb (.cells #[.slice none 0 0] 24 (0, 0)) * (SR * F)))))))) (fun iv _ => l.length - (intOf iv).toNat)
      case atStart => exact ⟨0, ⟨6, 0, [], ⟨#[]⟩, 0⟩, none, 0, rfl, by omega, Lib.hid rfl, by simp, h6⟩
      case round =>
        obtain ⟨j, ⟨ok, occ, os, ot, om⟩, sa, sc, rfl, hj, HO, hol, hs2⟩ := hrel
        dsimp only at hol hs2
        obtain ⟨⟨g', off', e1, d0⟩, d1⟩ := HYC.out _ _ hs2.p7
        cases e1
        obtain ⟨o0, o1, o2, o3, o4⟩ := boxO hs2.p2
        have q2 := boxG hs2.p5
        have hscap := hs2.slcCap
        clear h5 h6 e0 hs hs0 g2 h0 hb
        by_cases hlj : j < l.length
        · obtain ⟨x, hx⟩ : ∃ x, l[j]? = some x := ⟨l[j], List.getElem?_eq_getElem hlj⟩
          obtain ⟨g3, off3, rfl, x0⟩ := d1 j x hx
          have hfo := foldl_take tabStep ⟨6, 0, [], ⟨#[]⟩, 0⟩ hx
          rw [HO.out] at hfo
          have hx3 := hx
          clear d1 hx
          by_cases hx0 : x = 0
          · have HFO := Lib.hid (hfo.trans (show tabStep _ x = zobj from if_pos hx0))
            subst hx0
            clear hfo
            have f0 := Sat.free (T := 39) (cs := #[.int .i64 ok, .int .i64 occ, .slice sa os.length sc, .string ot, .int .i64 om]) hs2.p2 0
            have f1 := Sat.free (T := 39) (cs := #[.int .i64 ok, .int .i64 occ, .slice sa os.length sc, .string ot, .int .i64 om]) hs2.p2 1
            have f2 := Sat.free (T := 39) (cs := #[.int .i64 ok, .int .i64 occ, .slice sa os.length sc, .string ot, .int .i64 om]) hs2.p2 2
            have f3 := Sat.free (T := 39) (cs := #[.int .i64 ok, .int .i64 occ, .slice sa os.length sc, .string ot, .int .i64 om]) hs2.p2 3
            have f4 := Sat.free (T := 39) (cs := #[.int .i64 ok, .int .i64 occ, .slice sa os.length sc, .string ot, .int .i64 om]) hs2.p2 4
            have h9 := storeObj hs2.p2 0 0 0 none 0 0 ⟨#[]⟩
            go_wp2_with fail
            go_roundw
            case rel =>
              refine ⟨j + 1, zobj, none, 0, by go_num, by omega, HFO, by simp [zobj], ?_⟩
              exact h9.p2.drop.nilSlc
            case measure => simp [intOf]; omega
          · have HFO := Lib.hid (hfo.trans (show tabStep _ x = _ from if_neg hx0))
            have hx1 : (x == 0) = false := by simpa using hx0
            clear hfo hx0
            have HC := Lib.hid (fun w' (h : Sat w0 w' (slc 33 2 sa os.length sc (avcells os) * (pt ob (.cells #[.int .i64 ok, .int .i64 occ, .slice sa os.length sc, .string ot, .int .i64 om] 39 (0, 0)) * (slc 39 5 oa k oc (xscells Z) * (xslotsR Z * (pt (gb + 1) (.cells #[.slice oa k oc] 24 (0, 0)) * (pt gb (.cells #[.slice none 0 0] 24 (0, 0)) * (SR * F)))))))) => And.intro (boxO h.p2).2.2.1 (tabAt (HYC.out _ _ h.p7) hx3))
            have hxd := hs2.drew
            have hcd := HC.out _ hxd
            have hj1 : (0 : Int) ≤ (j : Int) := by omega
            have hj2 : (j : Int) < (l.length : Int) := by omega
            have hk1 : (0 : Int) ≤ (k : Int) := by omega
            have hk2 : (k : Int) < (n : Int) := by omega
            have ⟨hcd0, hcd1, hcd2⟩ := hcd
            clear hcd
            go_wp2_with fail
            go_region_law (first
              | (refine step_of rfl (wp_pushVal _ _ rfl sa os.length sc os (by simp [Act.eval, Act.put]) h8.p2 w5.heap.size 1 ⟨6, x⟩ (by simp [Act.eval, Act.put]) (boxV h8).1 (boxV h8).2 (by omega) ?_); intro a' c' w9 h9; have hc3 := (boxO h9.p3).2.2.1; have hc3f := Sat.free (T := 39) (cs := #[.int .i64 ok, .int .i64 occ, .slice sa os.length sc, .string ot, .int .i64 om]) h9.p3 2)
              | (refine step_of rfl ?_; go_simp; go_at_call 31; refine (law_tab11 hxd x).mono ?_; rintro e w5 ⟨rfl, h7⟩; have hc1 := (HC.out _ h7).1; have h8 := h7.alloc (.cells #[.int .i64 6, .int .i64 x] 33); have hc2 := (HC.out _ h8.drop).1))
            all_goals
              go_wp2_with fail
              go_roundw
              case rel =>
                refine ⟨j + 1, ⟨ok, occ, os ++ [⟨6, x⟩], ot, om⟩, a', c', by go_num, by omega, HFO, by simp; omega, ?_⟩
                have h10 : Sat w0 _ (pt ob (.cells #[.int .i64 ok, .int .i64 occ, .slice a' (os.length + 1) c', .string ot, .int .i64 om] 39 (0, 0)) * _) := Sat.store (T := 39) (cs := #[.int .i64 ok, .int .i64 occ, .slice sa os.length sc, .string ot, .int .i64 om]) h9.p3 (i := 2) (.slice a' (os.length + 1) c')
                simp only [List.length_append, List.length_singleton]
                exact h10.p3.drop.p2
              case measure => simp [intOf]; omega
        · have hjl : j = l.length := by omega
          subst hjl
          have HE := Lib.hid (show tabObj l = ⟨ok, occ, os, ot, om⟩ from by have := HO.out; rw [List.take_of_length_le (Nat.le_refl _)] at this; exact this)
          have h11 := hs2.alloc (.cells #[.int .i64 ok, .int .i64 occ, .slice sa os.length sc, .string ot, .int .i64 om] 39)
          have q5 := own5 (l := os) rfl h11
          go_wp2_with (at_builtin; refine wpList_pushObj rfl _ _ rfl oa k oc Z rfl h11.p4 wr.heap.size 1 (⟨ok, occ, os, ot, om⟩, sa, sc) rfl q5 (by omega) ?_; intro a2 c2 w9 h12; have x2 := boxG h12.p6; have x2f := Sat.free (T := 24) (cs := #[.slice oa k oc]) h12.p6 0)
          go_roundw
          case rel =>
            refine ⟨k + 1, a2, c2, by go_num, by omega, ?_⟩
            have h13 : Sat w0 _ (pt (gb + 1) (.cells #[.slice a2 (k + 1) c2] 24 (0, 0)) * _) := Sat.store (T := 24) (cs := #[.slice oa k oc]) h12.p6 (i := 0) (.slice a2 (k + 1) c2)
            rw [HTK.out, ← HZ.out]
            refine Sat.shutObjs (X := Z ++ [(⟨ok, occ, os, ot, om⟩, sa, sc)]) ?_ ?_ ?_
            · rw [List.map_append, HE.out]; rfl
            · simp only [List.length_append, HZ.out, List.length_map, List.length_take, List.length_singleton, hlen.out]; omega
            · rw [show xslotsR (Z ++ [((⟨ok, occ, os, ot, om⟩ : AObj), sa, sc)]) = slc 33 2 sa os.length sc (avcells os) * xslotsR Z by rw [xslotsR_split Z [] _, List.append_nil]]
              exact (h13.p3.drop.p4.drop).q4.cast (by simp only [mul_assoc])
          case measure => simp [intOf]; omega
    · have hkn : k = n := by omega
      subst hkn
      have HE := Lib.hid (show (Y.take k).map (fun y => tabObj y.1) = L from by rw [← HL.out, List.take_of_length_le (by rw [hlen.out]; omega)])
      clear h0 hb
      have g1 := boxG hs0.p3
      have g1f := Sat.free (T := 24) (cs := #[.slice none 0 0]) hs0.p3 0
      have h7 : Sat w0 _ (row gb 24 #[.slice oa k oc] * _) := Sat.store (T := 24) (cs := #[.slice none 0 0]) hs0.p3 (i := 0) (.slice oa k oc)
      have h8 := h7.drop.p2.drop
      rw [HE.out] at h8
      go_wp2_with fail
      refine bodyPost_cell rfl rfl (load_graphG (x := .slice oa k oc) rfl h7) rfl ?_
      exact ⟨oa, oc, rfl, h8⟩
end
end Go.Proofs.Ytmngkodejlhalaa.Tw
namespace Go.Proofs.Ytmngkodejlhalaa.Tw
set_option linter.unusedVariables false
set_option linter.unusedSimpArgs false
open Go Go.RowKit Go.MapKept

def sevenT : List (List Int) := [[2, 3], [4], [4], [1], [4], [0], [7]]
def sevenL : List AObj := sevenT.map tabObj
section
variable {w0 w : World} {SR F : HP}
/-- literal lists in memory, one behind the other (none: nil) -/
def litsR : List (List Int × Option Nat) → HP
  | [] => 1
  | (l, some b) :: r => pt b (.cells (l.map ival).toArray 3 (0, 0)) * litsR r
  | (_, none) :: r => litsR r
def litV (y : List Int × Option Nat) : Value := match y.2 with | some b => .slice (some ⟨b, 0, none⟩) y.1.length y.1.length | none => .slice none 0 0
def litW (y : List Int × Option Nat) : List Int × Option Addr × Nat := match y.2 with | some b => (y.1, some ⟨b, 0, none⟩, y.1.length) | none => ([], none, 0)
theorem lits_get : ∀ {Y : List (List Int × Option Nat)} {l : List Int} {b : Nat}, (l, some b) ∈ Y → ∃ R, litsR Y = pt b (.cells (l.map ival).toArray 3 (0, 0)) * R
  | (l', some b') :: Y, l, b, h => by
    rcases List.mem_cons.1 h with h | h
    · cases h; exact ⟨_, rfl⟩
    · obtain ⟨R, e⟩ := lits_get h
      exact ⟨pt b' (.cells (l'.map ival).toArray 3 (0, 0)) * R, by show _ * litsR Y = _; rw [e, mul_left_comm]⟩
  | (l', none) :: Y, l, b, h => by
    rcases List.mem_cons.1 h with h | h
    · cases h
    · obtain ⟨R, e⟩ := lits_get h
      exact ⟨R, e⟩
theorem srcT_lits {tb : Nat} {Y : List (List Int × Option Nat)} {n : Nat} (hn : Y.length = n) (h1 : n ≤ 1000) (h2 : ∀ y ∈ Y, y.1.length ≤ 1000) :
    SrcT w0 (pt tb (.cells (Y.map litV).toArray 28 (0, 0)) * litsR Y) (some ⟨tb, 0, none⟩) n n (Y.map litW) := by
  refine ⟨fun w' G h k y hy => ?_, by rw [List.length_map]; exact hn, h1, fun y hy => ?_⟩
  · obtain ⟨z, hz, rfl⟩ : ∃ z, Y[k]? = some z ∧ litW z = y := by
      rw [List.getElem?_map] at hy
      cases e : Y[k]? with
      | none => rw [e] at hy; cases hy
      | some z => rw [e] at hy; cases hy; exact ⟨z, rfl, rfl⟩
    obtain ⟨l, b⟩ := z
    have hv : (Y.map litV).toArray[0 + k]? = some (litV (l, b)) := by rw [Nat.zero_add]; simp [hz]
    have hc := Sat.cell (T := 28) (cs := (Y.map litV).toArray) h.assoc (0 + k) hv
    cases b with
    | none => exact ⟨⟨tb, 0, rfl, hc⟩, fun j x hx => by simp [litW] at hx⟩
    | some b =>
      refine ⟨⟨tb, 0, rfl, hc⟩, fun j x hx => ⟨b, 0, rfl, ?_⟩⟩
      obtain ⟨R, e⟩ := lits_get (List.mem_of_getElem? hz)
      have h' : Sat w0 w' (pt b (.cells (l.map ival).toArray 3 (0, 0)) * (R * (pt tb (.cells (Y.map litV).toArray 28 (0, 0)) * G))) := h.cast (by rw [e]; ac_rfl)
      refine Sat.cell (T := 3) (cs := (l.map ival).toArray) h' (0 + j) ?_
      rw [Nat.zero_add]
      have hx' : l[j]? = some x := hx
      simp [ival, hx']
  · obtain ⟨z, hz, rfl⟩ := List.mem_map.1 hy
    have := h2 z hz
    obtain ⟨l, b⟩ := z
    cases b with
    | none => simp [litW]
    | some b => exact this
def Y7 (gb : Nat) : List (List Int × Option Nat) := [([2, 3], some (gb + 1)), ([4], some (gb + 1 + 1)), ([4], some (gb + 1 + 1 + 1)), ([1], some (gb + 1 + 1 + 1 + 1)), ([4], some (gb + 1 + 1 + 1 + 1 + 1)), ([0], some (gb + 1 + 1 + 1 + 1 + 1 + 1)), ([7], some (gb + 1 + 1 + 1 + 1 + 1 + 1 + 1))]
set_option maxHeartbeats 1000000 in
theorem law_seven (h : Sat w0 w F) : Calls Try.prog 30 #[] w fun e w' => ∃ oa oc, e = .returned (.agg #[.slice oa 7 oc]) ∧ Sat w0 w' (objsV oa 7 oc sevenL * F) := by
  have h0 := h.alloc (.cells #[.slice none 0 0] 24)
  generalize hgb : w.heap.size = gb at *
  have h1 := ((((((h0.alloc (.cells #[.int .i64 2, .int .i64 3] 3)).alloc (.cells #[.int .i64 4] 3)).alloc (.cells #[.int .i64 4] 3)).alloc (.cells #[.int .i64 1] 3)).alloc (.cells #[.int .i64 4] 3)).alloc (.cells #[.int .i64 0] 3)).alloc (.cells #[.int .i64 7] 3)
  have h2 := h1.alloc (.cells #[.slice (some ⟨gb + 1, 0, none⟩) 2 2, .slice (some ⟨gb + 1 + 1, 0, none⟩) 1 1, .slice (some ⟨gb + 1 + 1 + 1, 0, none⟩) 1 1, .slice (some ⟨gb + 1 + 1 + 1 + 1, 0, none⟩) 1 1, .slice (some ⟨gb + 1 + 1 + 1 + 1 + 1, 0, none⟩) 1 1, .slice (some ⟨gb + 1 + 1 + 1 + 1 + 1 + 1, 0, none⟩) 1 1, .slice (some ⟨gb + 1 + 1 + 1 + 1 + 1 + 1 + 1, 0, none⟩) 1 1] 28)
  simp only [size_alloc, hgb] at h2
  have h3 : Sat w0 _ ((pt (gb + 1 + 1 + 1 + 1 + 1 + 1 + 1 + 1) (.cells ((Y7 gb).map litV).toArray 28 (0, 0)) * litsR (Y7 gb)) * (pt gb (.cells #[.slice none 0 0] 24 (0, 0)) * F)) := h2.cast (by
    show pt _ _ * _ = _
    simp only [Y7, litsR, mul_one]
    show pt _ (.cells _ _ _) * _ = (pt _ (.cells _ _ _) * _) * _
    simp only [List.map_cons, List.map_nil, litV, List.length_cons, List.length_nil, ival]
    ac_rfl)
  have HT := Lib.hid (law_tables h3 (srcT_lits (Y := Y7 gb) (n := 7) rfl (by omega) (by simp [Y7])) (L := sevenL) rfl)
  clear h1 h2 h3
  go_enter Try.func30, Try.ntmps30
  try rw [hgb]
  go_wp2_with fail
  refine HT.out.mono ?_
  rintro e w2 ⟨oa, oc, rfl, h4⟩
  have g1 := boxG h4.p3
  have g1f := Sat.free (T := 24) (cs := #[.slice none 0 0]) h4.p3 0
  have h7 : Sat w0 _ (row gb 24 #[.slice oa 7 oc] * _) := Sat.store (T := 24) (cs := #[.slice none 0 0]) h4.p3 (i := 0) (.slice oa 7 oc)
  have h8 := h7.drop.p2.drop
  go_wp2_with fail
  refine bodyPost_cell rfl rfl (load_graphG (x := .slice oa 7 oc) rfl h7) rfl ?_
  exact ⟨oa, oc, rfl, h8⟩

/-! ### reach, of an owned graph -/
theorem srcV1 {b : Nat} {k x : Int} : SrcV w0 (pt b (.cells #[.int .i64 k, .int .i64 x] 33 (0, 0))) (some ⟨b, 0, none⟩) 1 1 [⟨k, x⟩] := by
  refine ⟨fun w' G h i y hy => ⟨b, 0, rfl, ?_⟩, rfl, by simp, by unfold maxLen; omega⟩
  match i, hy with
  | 0, hy => cases hy; exact boxV h
  | i + 1, hy => simp at hy
theorem srcV0 {SR : HP} : SrcV w0 SR none 0 0 [] := ⟨fun w' G h k x hx => by simp at hx, rfl, fun _ => ⟨rfl, rfl⟩, Nat.le_refl _, Nat.zero_le _⟩
variable {ga : Option Addr} {n c : Nat} {L : List AObj}
/-- an owned graph, as a source, and back -/
theorem Sat.graphSrc (h : Sat w0 w (objsV ga n c L * (SR * F))) (hn : n ≤ 1000000) (hb : ∀ o ∈ L, o.slots.length ≤ 1000000) :
    ∃ (C : HP) (X : List XObj), X.map (·.1) = L ∧ SrcO w0 (C * SR) ga n c X ∧ (∀ {a k l}, SrcV w0 SR a k c l → SrcV w0 (C * SR) a k c l) ∧ Sat w0 w ((C * SR) * F) ∧ ∀ w' G, Sat w0 w' ((C * SR) * G) → Sat w0 w' (objsV ga n c L * (SR * G)) := by
  obtain ⟨X, ⟨hX, hl⟩, h1⟩ := h.openObjs
  have h2 : Sat w0 w ((slc 39 5 ga n c (xscells X) * xslotsR X) * (SR * F)) := h1.cast (by rw [mul_assoc])
  have hxl : X.length = n := by rw [← hl, ← hX, List.length_map]
  have hS := h2.srcO hxl hn (fun x hx => hb _ (by rw [← hX]; exact List.mem_map_of_mem hx))
  refine ⟨_, X, hX, hS.mono, fun h => h.mono', h2.cast (by simp only [mul_assoc]), fun w' G h' => ?_⟩
  exact Sat.shutObjs hX hl (h'.cast (by simp only [mul_assoc]))
def smallG (L : List AObj) : Prop := ∀ o ∈ L, o.slots.length ≤ 1000000
theorem c_From {a : Option Addr} {cl : Nat} {l : List AVal} (h : Sat w0 w (objsV ga n c L * (SR * F))) (hn : n ≤ 1000000) (hb : smallG L) (hS : SrcV w0 SR a l.length cl l) (hl : l.length ≤ 1000000) {R : List Int} (hR : thoseG L (refsV l) true = R) :
    Calls Try.prog 17 #[.agg #[.slice ga n c], .slice a l.length cl] w fun e w' => ∃ ra rc, e = .returned (.slice ra R.length rc) ∧ Sat w0 w' (slc 3 1 ra R.length rc (R.map ival) * (objsV ga n c L * (SR * F))) := by
  obtain ⟨C, X, hX, hG, _, h1, hk⟩ := h.graphSrc hn hb
  subst hX
  refine (reach_From h1 hG hS.mono' hl hR).mono ?_
  rintro e w' ⟨ra, rc, rfl, h2⟩
  exact ⟨ra, rc, rfl, (hk _ _ h2.p2).p2.cast (by ac_rfl)⟩
theorem c_Lost {a : Option Addr} {cl : Nat} {l : List AVal} (h : Sat w0 w (objsV ga n c L * (SR * F))) (hn : n ≤ 1000000) (hb : smallG L) (hS : SrcV w0 SR a l.length cl l) (hl : l.length ≤ 1000000) {R : List Int} (hR : thoseG L (refsV l) false = R) :
    Calls Try.prog 19 #[.agg #[.slice ga n c], .slice a l.length cl] w fun e w' => ∃ ra rc, e = .returned (.slice ra R.length rc) ∧ Sat w0 w' (slc 3 1 ra R.length rc (R.map ival) * (objsV ga n c L * (SR * F))) := by
  obtain ⟨C, X, hX, hG, _, h1, hk⟩ := h.graphSrc hn hb
  subst hX
  refine (reach_Lost h1 hG hS.mono' hl hR).mono ?_
  rintro e w' ⟨ra, rc, rfl, h2⟩
  exact ⟨ra, rc, rfl, (hk _ _ h2.p2).p2.cast (by ac_rfl)⟩
theorem c_Path (h : Sat w0 w (objsV ga n c L * F)) (hn : n ≤ 1000000) (hb : smallG L) (k x to : Int) {R : List Int} (hR : pathG L ⟨k, x⟩ to = R) :
    Calls Try.prog 22 #[.agg #[.slice ga n c], .agg #[.int .i64 k, .int .i64 x], .int .i64 to] w fun e w' => ∃ ra rc, e = .returned (.slice ra R.length rc) ∧ Sat w0 w' (slc 3 1 ra R.length rc (R.map ival) * (objsV ga n c L * F)) := by
  obtain ⟨C, X, hX, hG, _, h1, hk⟩ := (h.cast (show _ = objsV ga n c L * (1 * F) by rw [one_mul])).graphSrc hn hb
  subst hX
  refine (reach_Path h1 hG ⟨k, x⟩ to hR).mono ?_
  rintro e w' ⟨ra, rc, rfl, h2⟩
  exact ⟨ra, rc, rfl, (hk _ _ h2.p2).p2.cast (by rw [one_mul]; ac_rfl)⟩
theorem c_Check (h : Sat w0 w (objsV ga n c L * F)) (hn : n ≤ 1000000) (hb : smallG L) {b : Bool} (hR : okG L = b) :
    Calls Try.prog 24 #[.agg #[.slice ga n c]] w fun e w' => e = .returned (.bool b) ∧ Sat w0 w' (objsV ga n c L * F) := by
  obtain ⟨C, X, hX, hG, _, h1, hk⟩ := (h.cast (show _ = objsV ga n c L * (1 * F) by rw [one_mul])).graphSrc hn hb
  subst hX
  refine (graph_Check h1 hG).mono ?_
  rintro e w' ⟨rfl, h2⟩
  exact ⟨by rw [hR], (hk _ _ h2).cast (by rw [one_mul])⟩
theorem c_Holders (h : Sat w0 w (objsV ga n c L * F)) (hn : n ≤ 1000000) (hb : smallG L) (hok : okG L = true) (x : Int) {R : List Int} (hR : holdersG L x = R) :
    Calls Try.prog 28 #[.agg #[.slice ga n c], .int .i64 x] w fun e w' => ∃ ra rc, e = .returned (.slice ra R.length rc) ∧ Sat w0 w' (slc 3 1 ra R.length rc (R.map ival) * (objsV ga n c L * F)) := by
  obtain ⟨C, X, hX, hG, _, h1, hk⟩ := (h.cast (show _ = objsV ga n c L * (1 * F) by rw [one_mul])).graphSrc hn hb
  subst hX
  refine (graph_Holders h1 hG x hok hR).mono ?_
  rintro e w' ⟨ra, rc, rfl, h2⟩
  exact ⟨ra, rc, rfl, (hk _ _ h2.p2).p2.cast (by rw [one_mul]; ac_rfl)⟩
end
end Go.Proofs.Ytmngkodejlhalaa.Tw
