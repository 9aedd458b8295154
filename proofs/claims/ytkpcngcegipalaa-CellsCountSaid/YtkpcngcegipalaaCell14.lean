/- The heap of cells: Graph; lists of objects in memory. No condition. -/
import Derived.Test.YtkpcngcegipalaaCell12
import Derived.IntWalk
namespace Go.Proofs.Ytkpcngcegipalaa.Tw
set_option linter.unusedVariables false
set_option linter.unusedSimpArgs false
open Go Go.RowKit Go.MapKept

/-- an object, and where its slots lie -/
abbrev XObj := AObj × Option Addr × Nat
def xcells (x : XObj) : List Value := [.int .i64 x.1.kind, .int .i64 x.1.count, .slice x.2.1 x.1.slots.length x.2.2, .string x.1.text, .int .i64 x.1.mark]
def xscells (X : List XObj) : List Value := X.flatMap xcells
def xslotsR : List XObj → HP
  | [] => 1
  | x :: r => slc 28 2 x.2.1 x.1.slots.length x.2.2 (avcells x.1.slots) * xslotsR r
/-- a slice of objects, each with slots of its own -/
def objsV (ga : Option Addr) (gn gc : Nat) (L : List AObj) : HP := fun h => ∃ X : List XObj, (X.map (·.1) = L ∧ L.length = gn) ∧ (slc 39 5 ga gn gc (xscells X) * xslotsR X) h
theorem xscells_append (X Y : List XObj) : xscells (X ++ Y) = xscells X ++ xscells Y := by simp [xscells]
theorem xslotsR_append (l r : List XObj) : xslotsR (l ++ r) = xslotsR l * xslotsR r := by
  induction l with
  | nil => rw [List.nil_append, xslotsR, one_mul]
  | cons x l ih => rw [List.cons_append, xslotsR, ih, xslotsR, mul_assoc]
theorem xslotsR_split (l r : List XObj) (x : XObj) : xslotsR (l ++ x :: r) = slc 28 2 x.2.1 x.1.slots.length x.2.2 (avcells x.1.slots) * xslotsR (l ++ r) := by
  rw [xslotsR_append, xslotsR, xslotsR_append, mul_left_comm]
theorem Sat.openObjs {w0 w : World} {F : HP} {ga : Option Addr} {gn gc : Nat} {L : List AObj} (h : Sat w0 w (objsV ga gn gc L * F)) : ∃ X : List XObj, (X.map (·.1) = L ∧ L.length = gn) ∧ Sat w0 w (slc 39 5 ga gn gc (xscells X) * (xslotsR X * F)) := by
  obtain ⟨h1, x, ⟨y, z, dj, rfl, ⟨X, e, hp⟩, hq⟩, r⟩ := h
  exact ⟨X, e, Sat.cast ⟨h1, _, ⟨y, z, dj, rfl, hp, hq⟩, r⟩ (mul_assoc _ _ _)⟩
theorem Sat.shutObjs {w0 w : World} {F : HP} {ga : Option Addr} {gn gc : Nat} {L : List AObj} {X : List XObj} (e : X.map (·.1) = L) (hl : L.length = gn) (h : Sat w0 w (slc 39 5 ga gn gc (xscells X) * (xslotsR X * F))) : Sat w0 w (objsV ga gn gc L * F) := by
  rw [← mul_assoc] at h
  exact h.mono_l fun _ q => ⟨X, ⟨e, hl⟩, q⟩
theorem xscells_length (X : List XObj) : (xscells X).length = X.length * 5 := by
  induction X with
  | nil => rfl
  | cons x r ih => simp only [xscells, List.flatMap_cons, List.length_append, List.length_cons] at ih ⊢; rw [ih]; simp [xcells]; omega
theorem oneCell_xscells (X : List XObj) : ∀ v ∈ xscells X, v.oneCell' = true := by
  intro v hv
  simp only [xscells, List.mem_flatMap, xcells] at hv
  obtain ⟨x, _, h⟩ := hv
  simp at h
  rcases h with rfl | rfl | rfl | rfl | rfl <;> rfl
theorem xscells_get (X : List XObj) : ∀ (i : Nat) (x : XObj), X[i]? = some x → ∀ j, j < 5 → (xscells X)[i * 5 + j]? = (xcells x)[j]? := by
  induction X with
  | nil => intro i x h; simp at h
  | cons y X ih =>
    intro i x h j hj
    have e : xscells (y :: X) = xcells y ++ xscells X := rfl
    have l5 : (xcells y).length = 5 := rfl
    rw [e]
    cases i with
    | zero => simp at h; subst h; rw [Nat.zero_mul, Nat.zero_add, List.getElem?_append_left (by omega)]
    | succ i =>
      rw [List.getElem?_append_right (by omega), l5, show (i + 1) * 5 + j - 5 = i * 5 + j by omega]
      exact ih i x (by simpa using h) j hj
theorem objAtX {w0 w : World} {F : HP} {ga : Option Addr} {gn gc : Nat} {X : List XObj} (h : Sat w0 w (slc 39 5 ga gn gc (xscells X) * F)) {k : Nat} {x : XObj} (hk : X[k]? = some x) :
    ∃ g off, ga = some ⟨g, off, none⟩ ∧ w.cell? ⟨g, off + k * 5, none⟩ = some (.int .i64 x.1.kind) ∧ w.cell? ⟨g, off + k * 5 + 1, none⟩ = some (.int .i64 x.1.count) ∧ w.cell? ⟨g, off + k * 5 + 2, none⟩ = some (.slice x.2.1 x.1.slots.length x.2.2) ∧ w.cell? ⟨g, off + k * 5 + 3, none⟩ = some (.string x.1.text) ∧ w.cell? ⟨g, off + k * 5 + 4, none⟩ = some (.int .i64 x.1.mark) := by
  have hg := xscells_get X k x hk
  have hg0 : (xscells X)[k * 5]? = some (.int .i64 x.1.kind) := hg 0 (by omega)
  obtain ⟨g, off, ha, h0, _⟩ := h.slcAt hg0
  have hj : ∀ j v, j < 5 → (xcells x)[j]? = some v → w.cell? ⟨g, off + k * 5 + j, none⟩ = some v := fun j v hj hv => by
    obtain ⟨g', off', ha', h1, _⟩ := h.slcAt ((hg j hj).trans hv)
    rw [ha] at ha'
    cases ha'
    rw [Nat.add_assoc]; exact h1
  exact ⟨g, off, ha, h0, hj 1 _ (by omega) rfl, hj 2 _ (by omega) rfl, hj 3 _ (by omega) rfl, hj 4 _ (by omega) rfl⟩
def zobjV : Value := .agg #[.int .i64 0, .int .i64 0, .slice none 0 0, .string (ByteArray.mk #[]), .int .i64 0]
theorem info_obj : (Try.prog.info? 39).map (fun i => (i.zero, i.size, i.bytes)) = some (some zobjV, 5, 64) := by kernel_rfl
section
variable {P : Program} {w0 w : World} {F : HP} {ops : Array Oper} {rest : List Oper} {o : Oper} {a : Act} {Q : Exit → Act → World → Prop} {K : Act → World → Prop}
/-- one object more -/
theorem wp_pushObj (s x : Operand) (hop : o.op = .call { callee := .builtin .append, args := #[s, x], argTypes := #[47, 47] })
    (sa : Option Addr) (n c : Nat) (X : List XObj) (hs : a.eval s = .slice sa n c) (h : Sat w0 w (slc 39 5 sa n c (xscells X) * F)) (bx c' : Nat) (v : XObj) (hx : a.eval x = .slice (some ⟨bx, 0, none⟩) 1 c')
    (hc : ∀ j u, (xcells v)[j]? = some u → w.cell? ⟨bx, j, none⟩ = some u) (hn : n ≤ 1000000000)
    (hK : ∀ a' c'' w', Sat w0 w' (slc 39 5 a' (n + 1) c'' (xscells (X ++ [v])) * F) → K (a.put o.dst (.slice a' (n + 1) c'')) w') : o.wp Try.prog a w K Q := by
  obtain ⟨i0, hi, hz0, hz1, hz2⟩ := info_parts info_obj
  refine wp_append s x 47 hop i0 zobjV 64 Try.underlying47 hi hz0 hz1 hz2 rfl sa n c (xscells X) hs h ⟨bx, 0, none⟩ 1 c' (xcells v) hx rfl (fun j u hj => by rw [addr_add, Nat.zero_add]; exact hc j u hj) (fun u hu => oneCell_xscells [v] u (by simpa [xscells] using hu)) (by unfold maxLen; omega) (by omega) fun a' c'' w' h2 _ => ?_
  refine hK a' c'' w' ?_
  rw [xscells_append, show xscells [v] = xcells v by simp [xscells]]; exact h2
end
theorem five_cells {w0 w : World} {F : HP} {b : Nat} {T : TypeId} {x : XObj} (h : Sat w0 w (pt b (.cells (xcells x).toArray T (0, 0)) * F)) : ∀ j u, (xcells x)[j]? = some u → w.cell? ⟨b, j, none⟩ = some u := fun j u hj =>
  Sat.cell (T := T) (cs := (xcells x).toArray) h j (by simpa using hj)

def graphL (A : AHeap) (k : Nat) : List AObj := (List.range k).map fun (i : Nat) => A.obj (i + 1)
theorem load_graph {w0 w : World} {F : HP} {b : Nat} {x : Value} {a : Option Addr} {n c : Nat} (hx : x = .slice a n c) (h : Sat w0 w (row b 64 #[x] * F)) :
    (loadVar 64 ⟨b, 0, none⟩).run Try.prog w = .ok (.agg #[x]) w := by
  have c0 : w.cell? ⟨b, 0, none⟩ = some x := h.cell 0 rfl
  subst hx
  go_simp
theorem heap_Graph_nil (w : World) {w0 : World} {F : HP} (h : Sat w0 w F) : Calls Try.prog 30 #[.pointer none] w fun e w' => e = .returned (.agg #[.slice none 0 0]) ∧ Sat w0 w' F := by
  have h1 := h.alloc (.cells #[.slice none 0 0] 64)
  have h2 := h1.alloc (.cells #[.slice none 0 0] 64)
  go_enter Try.func30, Try.ntmps30
  go_wp2
  exact bodyPost_cell rfl rfl (load_graph rfl h2.p2) rfl ⟨rfl, h2.drop.drop⟩
set_option maxRecDepth 100000 in
set_option maxHeartbeats 4000000 in
theorem heap_Graph {w0 w : World} {m : Hp} {p : Nat} {A : AHeap} {F : HP} (h : Sat w0 w (heapR m p A * F)) (hT : A.T.length < 1000000000) (hS : ∀ n o, A.objs n = some o → o.slots.length ≤ 1000000000) :
    Calls Try.prog 30 #[.pointer (some ⟨p, 0, none⟩)] w fun e w' => ∃ ga gc, e = .returned (.agg #[.slice ga (lastT A.T) gc]) ∧ Sat w0 w' (objsV ga (lastT A.T) gc (graphL A (lastT A.T)) * (heapR m p A * F)) := by
  have hlast := lastT_le A.T
  generalize hN : lastT A.T = N at *
  have hB : ∀ n, (A.obj n).slots.length ≤ 2000000000 := fun n => by
    unfold AHeap.obj
    cases ho : A.objs n with
    | none => simp [AObj.none]
    | some o => have := hS n o ho; simp; omega
  have HB := Lib.hid hB
  clear hB hS
  have h1 := h.alloc (.cells #[.slice none 0 0] 64)
  have h2 := h1.alloc (.cells #[.slice none 0 0] 64)
  rw [size_alloc] at h2
  generalize hrb : w.heap.size = rb at *
  obtain ⟨pb, mb, O, qa, qc, ba, bc, fa, fc, fv, op⟩ := h2.p3.openHeap
  have c0 : ((w.alloc (.cells #[.slice none 0 0] 64)).alloc (.cells #[.slice none 0 0] 64)).cell? ⟨p, 0, none⟩ = some (.pointer (some ⟨pb, 0, none⟩)) := op.hs.cell 0 rfl
  have hL := pool_Last op.hs.p2 hT
  rw [hN] at hL
  have HL := Lib.hid hL
  clear hL
  go_enter Try.func30, Try.ntmps30
  try rw [hrb]
  go_wp2_with fail
  refine HL.out.mono ?_
  rintro e w1 ⟨rfl, h3⟩
  have op3 := op.to (G := pt (rb + 1) (.cells #[.slice none 0 0] 64) * (pt rb (.cells #[.slice none 0 0] 64) * F)) (h3.cast (by ac_rfl))
  have h4 := op3.shut
  have h5 := ((h4.nilSlc (T := 39) (sz := 5)).cast (show _ = slc 39 5 none 0 0 (xscells []) * (xslotsR [] * (pt (rb + 1) (.cells #[.slice none 0 0] 64 (0, 0)) * (heapR m p A * (pt rb (.cells #[.slice none 0 0] 64 (0, 0)) * F)))) by rw [xslotsR, one_mul]; simp only [xscells, List.flatMap_nil]; ac_rfl))
  clear op op3 h3 h4 c0 HL
  have hgr : ∀ k, graphL A (k + 1) = graphL A k ++ [A.obj (k + 1)] := fun k => by unfold graphL; rw [List.range_succ, List.map_append]; rfl
  have HGR := Lib.hid hgr
  clear hgr
  go_wp2
  go_loopw [13] (fun iv wr => ∃ (k : Nat) (ga : Option Addr) (gc : Nat) (X : List XObj), iv = .int .i64 k ∧ k ≤ N ∧ Hid (X.map (·.1) = graphL A k) ∧ Sat w0 wr (slc 39 5 ga k gc (xscells X) * (xslotsR X * (pt (rb + 1) (.cells #[.slice ga k gc] 64 (0, 0)) * (heapR m p A * (pt rb (.cells #[.slice none 0 0] 64 (0, 0)) * F)))))) (fun iv _ => N - (intOf iv).toNat)
  case atStart => exact ⟨0, none, 0, [], rfl, by omega, Lib.hid rfl, h5⟩
  case round =>
    obtain ⟨k, ga, gc, X, rfl, hk, HX, hs⟩ := hrel
    by_cases hlt : k < N
    · have g0 : wr.cell? ⟨rb + 1, 0, none⟩ = some (.slice ga k gc) := Sat.cell (T := 64) (cs := #[.slice ga k gc]) hs.p3 0 rfl
      have HO : ∀ w', Sat w0 w' _ → _ := fun w' hs' => heap_Obj (w0 := w0) (w := w') (m := m) (p := p) (A := A) (F := slc 39 5 ga k gc (xscells X) * (xslotsR X * (pt (rb + 1) (.cells #[.slice ga k gc] 64 (0, 0)) * (pt rb (.cells #[.slice none 0 0] 64 (0, 0)) * F)))) hs' ((k : Int) + 1) (HB.out _)
      have HO2 := Lib.hid (HO wr.drew (hs.drew.p4))
      clear HO
      unfold objV at HO2
      generalize hob : A.obj ((k : Int) + 1) = ob at *
      have hw1 : IntKind.i64.wrap ((k : Int) + 1) = (k : Int) + 1 := IntWalk.i64_in _ (by omega)
      go_wp2_with fail
      go_region_law (first
        | (refine step_of rfl (wp_pushObj _ _ rfl ga k gc X (by simp [Act.eval, Act.put]) h7.p4 w2.heap.size 1 (ob, oa, oc) (by simp [Act.eval, Act.put]) (five_cells h7) (by omega) ?_); intro a' c' w4 h9; have f4 : w4.frozen? ⟨rb + 1, 0, none⟩ = false := Sat.free (T := 64) (cs := #[.slice ga k gc]) h9.p6 0; have q4 : w4.cell? ⟨rb + 1, 0, none⟩ = some (.slice ga k gc) := Sat.cell (T := 64) (cs := #[.slice ga k gc]) h9.p6 0 rfl)
        | (refine step_of rfl ?_; go_simp; go_at_call 23; refine HO2.out.mono ?_; rintro e w2 ⟨oa, oc, rfl, h6⟩; have g2 : w2.cell? ⟨rb + 1, 0, none⟩ = some (.slice ga k gc) := Sat.cell (T := 64) (cs := #[.slice ga k gc]) h6.p5 0 rfl; have h7 := h6.alloc (.cells (xcells (ob, oa, oc)).toArray 39); have g2a : (w2.alloc (.cells (xcells (ob, oa, oc)).toArray 39)).cell? ⟨rb + 1, 0, none⟩ = some (.slice ga k gc) := Sat.cell (T := 64) (cs := #[.slice ga k gc]) h7.p6 0 rfl; simp only [xcells] at g2a))
      all_goals
        have h10 := Sat.store (T := 64) (cs := #[.slice ga k gc]) h9.p6 (i := 0) (.slice a' (k + 1) c')
        have HXX : Hid ((X ++ [(ob, oa, oc)]).map (·.1) = graphL A (k + 1)) := Lib.hid (by rw [List.map_append, HX.out, HGR.out, hob]; rfl)
        go_wp2_with fail
        go_roundw
        case rel =>
          refine ⟨k + 1, a', c', X ++ [(ob, oa, oc)], by go_num, by omega, HXX, ?_⟩
          rw [show xslotsR (X ++ [(ob, oa, oc)]) = slc 28 2 oa ob.slots.length oc (avcells ob.slots) * xslotsR X by rw [xslotsR_split X [] (ob, oa, oc), List.append_nil]]
          exact (h10.p3.drop).cast (by show row _ _ _ * _ = _; unfold row; simp only [List.setIfInBounds_toArray, List.set_cons_zero]; ac_rfl)
        case measure => simp [intOf]; omega
    · obtain rfl : k = N := by omega
      have g0 : wr.cell? ⟨rb + 1, 0, none⟩ = some (.slice ga k gc) := Sat.cell (T := 64) (cs := #[.slice ga k gc]) hs.p3 0 rfl
      have r0 : wr.cell? ⟨rb, 0, none⟩ = some (.slice none 0 0) := Sat.cell (T := 64) (cs := #[.slice none 0 0]) hs.p5 0 rfl
      have rf0 : wr.frozen? ⟨rb, 0, none⟩ = false := Sat.free (T := 64) (cs := #[.slice none 0 0]) hs.p5 0
      have h7 := Sat.store (T := 64) (cs := #[.slice none 0 0]) hs.p5 (i := 0) (.slice ga k gc)
      go_wp2
      refine bodyPost_cell rfl rfl (load_graph (x := .slice ga k gc) rfl h7) rfl ?_
      refine ⟨ga, gc, rfl, ?_⟩
      exact Sat.shutObjs HX.out (by unfold graphL; simp) (h7.drop.p3.drop.cast (by ac_rfl))
end Go.Proofs.Ytkpcngcegipalaa.Tw
