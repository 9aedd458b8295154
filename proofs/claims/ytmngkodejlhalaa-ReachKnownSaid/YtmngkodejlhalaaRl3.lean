/- tallowlaw11: seven, works. No condition. -/
import Derived.Test.YtmngkodejlhalaaRl2
namespace Go.Proofs.Ytmngkodejlhalaa.Tw
set_option linter.unusedVariables false
set_option linter.unusedSimpArgs false
open Go Go.RowKit Go.MapKept

def sevenT : List (List Int) := [[2, 3], [4], [4], [1], [4], [0], [7]]
def sevenL : List AObj := sevenT.map tabObj
section
variable {w0 w : World} {SR F : HP}
/-- literal lists in memory, one behind the other (none: nil) -/
def litsR : List (List Int × Option Nat) → HP
  | [] => 1
  | (l, some b) :: r => pt b (.cells (l.map ival).toArray 3 (0, 0)) * litsR r
  | (_, none) :: r => litsR r
def litV (y : List Int × Option Nat) : Value := match y.2 with | some b => .slice (some ⟨b, 0, none⟩) y.1.length y.1.length | none => .slice none 0 0
def litW (y : List Int × Option Nat) : List Int × Option Addr × Nat := match y.2 with | some b => (y.1, some ⟨b, 0, none⟩, y.1.length) | none => ([], none, 0)
theorem lits_get : ∀ {Y : List (List Int × Option Nat)} {l : List Int} {b : Nat}, (l, some b) ∈ Y → ∃ R, litsR Y = pt b (.cells (l.map ival).toArray 3 (0, 0)) * R
  | (l', some b') :: Y, l, b, h => by
    rcases List.mem_cons.1 h with h | h
    · cases h; exact ⟨_, rfl⟩
    · obtain ⟨R, e⟩ := lits_get h
      exact ⟨pt b' (.cells (l'.map ival).toArray 3 (0, 0)) * R, by show _ * litsR Y = _; rw [e, mul_left_comm]⟩
  | (l', none) :: Y, l, b, h => by
    rcases List.mem_cons.1 h with h | h
    · cases h
    · obtain ⟨R, e⟩ := lits_get h
      exact ⟨R, e⟩
theorem srcT_lits {tb : Nat} {Y : List (List Int × Option Nat)} {n : Nat} (hn : Y.length = n) (h1 : n ≤ 1000) (h2 : ∀ y ∈ Y, y.1.length ≤ 1000) :
    SrcT w0 (pt tb (.cells (Y.map litV).toArray 28 (0, 0)) * litsR Y) (some ⟨tb, 0, none⟩) n n (Y.map litW) := by
  refine ⟨fun w' G h k y hy => ?_, by rw [List.length_map]; exact hn, h1, fun y hy => ?_⟩
  · obtain ⟨z, hz, rfl⟩ : ∃ z, Y[k]? = some z ∧ litW z = y := by
      rw [List.getElem?_map] at hy
      cases e : Y[k]? with
      | none => rw [e] at hy; cases hy
      | some z => rw [e] at hy; cases hy; exact ⟨z, rfl, rfl⟩
    obtain ⟨l, b⟩ := z
    have hv : (Y.map litV).toArray[0 + k]? = some (litV (l, b)) := by rw [Nat.zero_add]; simp [hz]
    have hc := Sat.cell (T := 28) (cs := (Y.map litV).toArray) h.assoc (0 + k) hv
    cases b with
    | none => exact ⟨⟨tb, 0, rfl, hc⟩, fun j x hx => by simp [litW] at hx⟩
    | some b =>
      refine ⟨⟨tb, 0, rfl, hc⟩, fun j x hx => ⟨b, 0, rfl, ?_⟩⟩
      obtain ⟨R, e⟩ := lits_get (List.mem_of_getElem? hz)
      have h' : Sat w0 w' (pt b (.cells (l.map ival).toArray 3 (0, 0)) * (R * (pt tb (.cells (Y.map litV).toArray 28 (0, 0)) * G))) := h.cast (by rw [e]; ac_rfl)
      refine Sat.cell (T := 3) (cs := (l.map ival).toArray) h' (0 + j) ?_
      rw [Nat.zero_add]
      have hx' : l[j]? = some x := hx
      simp [ival, hx']
  · obtain ⟨z, hz, rfl⟩ := List.mem_map.1 hy
    have := h2 z hz
    obtain ⟨l, b⟩ := z
    cases b with
    | none => simp [litW]
    | some b => exact this
def Y7 (gb : Nat) : List (List Int × Option Nat) := [([2, 3], some (gb + 1)), ([4], some (gb + 1 + 1)), ([4], some (gb + 1 + 1 + 1)), ([1], some (gb + 1 + 1 + 1 + 1)), ([4], some (gb + 1 + 1 + 1 + 1 + 1)), ([0], some (gb + 1 + 1 + 1 + 1 + 1 + 1)), ([7], some (gb + 1 + 1 + 1 + 1 + 1 + 1 + 1))]
set_option maxHeartbeats 1000000 in
theorem law_seven (h : Sat w0 w F) : Calls Try.prog 30 #[] w fun e w' => ∃ oa oc, e = .returned (.agg #[.slice oa 7 oc]) ∧ Sat w0 w' (objsV oa 7 oc sevenL * F) := by
  have h0 := h.alloc (.cells #[.slice none 0 0] 24)
  generalize hgb : w.heap.size = gb at *
  have h1 := ((((((h0.alloc (.cells #[.int .i64 2, .int .i64 3] 3)).alloc (.cells #[.int .i64 4] 3)).alloc (.cells #[.int .i64 4] 3)).alloc (.cells #[.int .i64 1] 3)).alloc (.cells #[.int .i64 4] 3)).alloc (.cells #[.int .i64 0] 3)).alloc (.cells #[.int .i64 7] 3)
  have h2 := h1.alloc (.cells #[.slice (some ⟨gb + 1, 0, none⟩) 2 2, .slice (some ⟨gb + 1 + 1, 0, none⟩) 1 1, .slice (some ⟨gb + 1 + 1 + 1, 0, none⟩) 1 1, .slice (some ⟨gb + 1 + 1 + 1 + 1, 0, none⟩) 1 1, .slice (some ⟨gb + 1 + 1 + 1 + 1 + 1, 0, none⟩) 1 1, .slice (some ⟨gb + 1 + 1 + 1 + 1 + 1 + 1, 0, none⟩) 1 1, .slice (some ⟨gb + 1 + 1 + 1 + 1 + 1 + 1 + 1, 0, none⟩) 1 1] 28)
  simp only [size_alloc, hgb] at h2
  have h3 : Sat w0 _ ((pt (gb + 1 + 1 + 1 + 1 + 1 + 1 + 1 + 1) (.cells ((Y7 gb).map litV).toArray 28 (0, 0)) * litsR (Y7 gb)) * (pt gb (.cells #[.slice none 0 0] 24 (0, 0)) * F)) := h2.cast (by
    show pt _ _ * _ = _
    simp only [Y7, litsR, mul_one]
    show pt _ (.cells _ _ _) * _ = (pt _ (.cells _ _ _) * _) * _
    simp only [List.map_cons, List.map_nil, litV, List.length_cons, List.length_nil, ival]
    ac_rfl)
  have HT := Lib.hid (law_tables h3 (srcT_lits (Y := Y7 gb) (n := 7) rfl (by omega) (by simp [Y7])) (L := sevenL) rfl)
  clear h1 h2 h3
  go_enter Try.func30, Try.ntmps30
  try rw [hgb]
  go_wp2_with fail
  refine HT.out.mono ?_
  rintro e w2 ⟨oa, oc, rfl, h4⟩
  have g1 := boxG h4.p3
  have g1f := Sat.free (T := 24) (cs := #[.slice none 0 0]) h4.p3 0
  have h7 : Sat w0 _ (row gb 24 #[.slice oa 7 oc] * _) := Sat.store (T := 24) (cs := #[.slice none 0 0]) h4.p3 (i := 0) (.slice oa 7 oc)
  have h8 := h7.drop.p2.drop
  go_wp2_with fail
  refine bodyPost_cell rfl rfl (load_graphG (x := .slice oa 7 oc) rfl h7) rfl ?_
  exact ⟨oa, oc, rfl, h8⟩

/-! ### reach, of an owned graph -/
theorem srcV1 {b : Nat} {k x : Int} : SrcV w0 (pt b (.cells #[.int .i64 k, .int .i64 x] 33 (0, 0))) (some ⟨b, 0, none⟩) 1 1 [⟨k, x⟩] := by
  refine ⟨fun w' G h i y hy => ⟨b, 0, rfl, ?_⟩, rfl, by simp, by unfold maxLen; omega⟩
  match i, hy with
  | 0, hy => cases hy; exact boxV h
  | i + 1, hy => simp at hy
theorem srcV0 {SR : HP} : SrcV w0 SR none 0 0 [] := ⟨fun w' G h k x hx => by simp at hx, rfl, fun _ => ⟨rfl, rfl⟩, Nat.le_refl _, Nat.zero_le _⟩
variable {ga : Option Addr} {n c : Nat} {L : List AObj}
/-- an owned graph, as a source, and back -/
theorem Sat.graphSrc (h : Sat w0 w (objsV ga n c L * (SR * F))) (hn : n ≤ 1000000) (hb : ∀ o ∈ L, o.slots.length ≤ 1000000) :
    ∃ (C : HP) (X : List XObj), X.map (·.1) = L ∧ SrcO w0 (C * SR) ga n c X ∧ (∀ {a k l}, SrcV w0 SR a k c l → SrcV w0 (C * SR) a k c l) ∧ Sat w0 w ((C * SR) * F) ∧ ∀ w' G, Sat w0 w' ((C * SR) * G) → Sat w0 w' (objsV ga n c L * (SR * G)) := by
  obtain ⟨X, ⟨hX, hl⟩, h1⟩ := h.openObjs
  have h2 : Sat w0 w ((slc 39 5 ga n c (xscells X) * xslotsR X) * (SR * F)) := h1.cast (by rw [mul_assoc])
  have hxl : X.length = n := by rw [← hl, ← hX, List.length_map]
  have hS := h2.srcO hxl hn (fun x hx => hb _ (by rw [← hX]; exact List.mem_map_of_mem hx))
  refine ⟨_, X, hX, hS.mono, fun h => h.mono', h2.cast (by simp only [mul_assoc]), fun w' G h' => ?_⟩
  exact Sat.shutObjs hX hl (h'.cast (by simp only [mul_assoc]))
def smallG (L : List AObj) : Prop := ∀ o ∈ L, o.slots.length ≤ 1000000
theorem c_From {a : Option Addr} {cl : Nat} {l : List AVal} (h : Sat w0 w (objsV ga n c L * (SR * F))) (hn : n ≤ 1000000) (hb : smallG L) (hS : SrcV w0 SR a l.length cl l) (hl : l.length ≤ 1000000) {R : List Int} (hR : thoseG L (refsV l) true = R) :
    Calls Try.prog 17 #[.agg #[.slice ga n c], .slice a l.length cl] w fun e w' => ∃ ra rc, e = .returned (.slice ra R.length rc) ∧ Sat w0 w' (slc 3 1 ra R.length rc (R.map ival) * (objsV ga n c L * (SR * F))) := by
  obtain ⟨C, X, hX, hG, _, h1, hk⟩ := h.graphSrc hn hb
  subst hX
  refine (reach_From h1 hG hS.mono' hl hR).mono ?_
  rintro e w' ⟨ra, rc, rfl, h2⟩
  exact ⟨ra, rc, rfl, (hk _ _ h2.p2).p2.cast (by ac_rfl)⟩
theorem c_Lost {a : Option Addr} {cl : Nat} {l : List AVal} (h : Sat w0 w (objsV ga n c L * (SR * F))) (hn : n ≤ 1000000) (hb : smallG L) (hS : SrcV w0 SR a l.length cl l) (hl : l.length ≤ 1000000) {R : List Int} (hR : thoseG L (refsV l) false = R) :
    Calls Try.prog 19 #[.agg #[.slice ga n c], .slice a l.length cl] w fun e w' => ∃ ra rc, e = .returned (.slice ra R.length rc) ∧ Sat w0 w' (slc 3 1 ra R.length rc (R.map ival) * (objsV ga n c L * (SR * F))) := by
  obtain ⟨C, X, hX, hG, _, h1, hk⟩ := h.graphSrc hn hb
  subst hX
  refine (reach_Lost h1 hG hS.mono' hl hR).mono ?_
  rintro e w' ⟨ra, rc, rfl, h2⟩
  exact ⟨ra, rc, rfl, (hk _ _ h2.p2).p2.cast (by ac_rfl)⟩
theorem c_Path (h : Sat w0 w (objsV ga n c L * F)) (hn : n ≤ 1000000) (hb : smallG L) (k x to : Int) {R : List Int} (hR : pathG L ⟨k, x⟩ to = R) :
    Calls Try.prog 22 #[.agg #[.slice ga n c], .agg #[.int .i64 k, .int .i64 x], .int .i64 to] w fun e w' => ∃ ra rc, e = .returned (.slice ra R.length rc) ∧ Sat w0 w' (slc 3 1 ra R.length rc (R.map ival) * (objsV ga n c L * F)) := by
  obtain ⟨C, X, hX, hG, _, h1, hk⟩ := (h.cast (show _ = objsV ga n c L * (1 * F) by rw [one_mul])).graphSrc hn hb
  subst hX
  refine (reach_Path h1 hG ⟨k, x⟩ to hR).mono ?_
  rintro e w' ⟨ra, rc, rfl, h2⟩
  exact ⟨ra, rc, rfl, (hk _ _ h2.p2).p2.cast (by rw [one_mul]; ac_rfl)⟩
theorem c_Check (h : Sat w0 w (objsV ga n c L * F)) (hn : n ≤ 1000000) (hb : smallG L) {b : Bool} (hR : okG L = b) :
    Calls Try.prog 24 #[.agg #[.slice ga n c]] w fun e w' => e = .returned (.bool b) ∧ Sat w0 w' (objsV ga n c L * F) := by
  obtain ⟨C, X, hX, hG, _, h1, hk⟩ := (h.cast (show _ = objsV ga n c L * (1 * F) by rw [one_mul])).graphSrc hn hb
  subst hX
  refine (graph_Check h1 hG).mono ?_
  rintro e w' ⟨rfl, h2⟩
  exact ⟨by rw [hR], (hk _ _ h2).cast (by rw [one_mul])⟩
theorem c_Holders (h : Sat w0 w (objsV ga n c L * F)) (hn : n ≤ 1000000) (hb : smallG L) (hok : okG L = true) (x : Int) {R : List Int} (hR : holdersG L x = R) :
    Calls Try.prog 28 #[.agg #[.slice ga n c], .int .i64 x] w fun e w' => ∃ ra rc, e = .returned (.slice ra R.length rc) ∧ Sat w0 w' (slc 3 1 ra R.length rc (R.map ival) * (objsV ga n c L * F)) := by
  obtain ⟨C, X, hX, hG, _, h1, hk⟩ := (h.cast (show _ = objsV ga n c L * (1 * F) by rw [one_mul])).graphSrc hn hb
  subst hX
  refine (graph_Holders h1 hG x hok hR).mono ?_
  rintro e w' ⟨ra, rc, rfl, h2⟩
  exact ⟨ra, rc, rfl, (hk _ _ h2.p2).p2.cast (by rw [one_mul]; ac_rfl)⟩
end
end Go.Proofs.Ytmngkodejlhalaa.Tw
