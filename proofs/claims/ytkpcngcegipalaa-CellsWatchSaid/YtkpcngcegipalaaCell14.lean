/- The heap of cells: Graph; lists of objects in memory. No condition. -/
import Derived.Test.YtkpcngcegipalaaCell12
import Derived.IntWalk
namespace Go.Proofs.Ytkpcngcegipalaa.Tw
set_option linter.unusedVariables false
set_option linter.unusedSimpArgs false
open Go Go.RowKit Go.MapKept

def graphL (A : AHeap) (k : Nat) : List AObj := (List.range k).map fun (i : Nat) => A.obj (i + 1)
theorem load_graph {w0 w : World} {F : HP} {b : Nat} {x : Value} {a : Option Addr} {n c : Nat} (hx : x = .slice a n c) (h : Sat w0 w (row b 64 #[x] * F)) :
    (loadVar 64 ⟨b, 0, none⟩).run Try.prog w = .ok (.agg #[x]) w := by
  have c0 : w.cell? ⟨b, 0, none⟩ = some x := h.cell 0 rfl
  subst hx
  go_simp
theorem heap_Graph_nil (w : World) {w0 : World} {F : HP} (h : Sat w0 w F) : Calls Try.prog 30 #[.pointer none] w fun e w' => e = .returned (.agg #[.slice none 0 0]) ∧ Sat w0 w' F := by
  have h1 := h.alloc (.cells #[.slice none 0 0] 64)
  have h2 := h1.alloc (.cells #[.slice none 0 0] 64)
  go_enter Try.func30, Try.ntmps30
  go_wp2
  exact bodyPost_cell rfl rfl (load_graph rfl h2.p2) rfl ⟨rfl, h2.drop.drop⟩
set_option maxRecDepth 100000 in
set_option maxHeartbeats 4000000 in
theorem heap_Graph {w0 w : World} {m : Hp} {p : Nat} {A : AHeap} {F : HP} (h : Sat w0 w (heapR m p A * F)) (hT : A.T.length < 1000000000) (hS : ∀ n o, A.objs n = some o → o.slots.length ≤ 1000000000) :
    Calls Try.prog 30 #[.pointer (some ⟨p, 0, none⟩)] w fun e w' => ∃ ga gc, e = .returned (.agg #[.slice ga (lastT A.T) gc]) ∧ Sat w0 w' (objsV ga (lastT A.T) gc (graphL A (lastT A.T)) * (heapR m p A * F)) := by
  have hlast := lastT_le A.T
  generalize hN : lastT A.T = N at *
  have hB : ∀ n, (A.obj n).slots.length ≤ 2000000000 := fun n => by
    unfold AHeap.obj
    cases ho : A.objs n with
    | none => simp [AObj.none]
    | some o => have := hS n o ho; simp; omega
  have HB := Lib.hid hB
  clear hB hS
  have h1 := h.alloc (.cells #[.slice none 0 0] 64)
  have h2 := h1.alloc (.cells #[.slice none 0 0] 64)
  rw [size_alloc] at h2
  generalize hrb : w.heap.size = rb at *
  obtain ⟨pb, mb, O, qa, qc, ba, bc, fa, fc, fv, op⟩ := h2.p3.openHeap
  have c0 : ((w.alloc (.cells #[.slice none 0 0] 64)).alloc (.cells #[.slice none 0 0] 64)).cell? ⟨p, 0, none⟩ = some (.pointer (some ⟨pb, 0, none⟩)) := op.hs.cell 0 rfl
  have hL := pool_Last op.hs.p2 hT
  rw [hN] at hL
  have HL := Lib.hid hL
  clear hL
  go_enter Try.func30, Try.ntmps30
  try rw [hrb]
  go_wp2_with fail
  refine HL.out.mono ?_
  rintro e w1 ⟨rfl, h3⟩
  have op3 := op.to (G := pt (rb + 1) (.cells #[.slice none 0 0] 64) * (pt rb (.cells #[.slice none 0 0] 64) * F)) (h3.cast (by ac_rfl))
  have h4 := op3.shut
  have h5 := ((h4.nilSlc (T := 39) (sz := 5)).cast (show _ = slc 39 5 none 0 0 (xscells []) * (xslotsR [] * (pt (rb + 1) (.cells #[.slice none 0 0] 64 (0, 0)) * (heapR m p A * (pt rb (.cells #[.slice none 0 0] 64 (0, 0)) * F)))) by rw [xslotsR, one_mul]; simp only [xscells, List.flatMap_nil]; ac_rfl))
  clear op op3 h3 h4 c0 HL
  have hgr : ∀ k, graphL A (k + 1) = graphL A k ++ [A.obj (k + 1)] := fun k => by unfold graphL; rw [List.range_succ, List.map_append]; rfl
  have HGR := Lib.hid hgr
  clear hgr
  go_wp2
  go_loopw [13] (fun iv wr => ∃ (k : Nat) (ga : Option Addr) (gc : Nat) (X : List XObj), iv = .int .i64 k ∧ k ≤ N ∧ Hid (X.map (·.1) = graphL A k) ∧ Sat w0 wr (slc 39 5 ga k gc (xscells X) * (xslotsR X * (pt (rb + 1) (.cells #[.slice ga k gc] 64 (0, 0)) * (heapR m p A * (pt rb (.cells #[.slice none 0 0] 64 (0, 0)) * F)))))) (fun iv _ => N - (intOf iv).toNat)
  case atStart => exact ⟨0, none, 0, [], rfl, by omega, Lib.hid rfl, h5⟩
  case round =>
    obtain ⟨k, ga, gc, X, rfl, hk, HX, hs⟩ := hrel
    by_cases hlt : k < N
    · have g0 : wr.cell? ⟨rb + 1, 0, none⟩ = some (.slice ga k gc) := Sat.cell (T := 64) (cs := #[.slice ga k gc]) hs.p3 0 rfl
      have HO : ∀ w', Sat w0 w' _ → _ := fun w' hs' => heap_Obj (w0 := w0) (w := w') (m := m) (p := p) (A := A) (F := slc 39 5 ga k gc (xscells X) * (xslotsR X * (pt (rb + 1) (.cells #[.slice ga k gc] 64 (0, 0)) * (pt rb (.cells #[.slice none 0 0] 64 (0, 0)) * F)))) hs' ((k : Int) + 1) (HB.out _)
      have HO2 := Lib.hid (HO wr.drew (hs.drew.p4))
      clear HO
      unfold objV at HO2
      generalize hob : A.obj ((k : Int) + 1) = ob at *
      have hw1 : IntKind.i64.wrap ((k : Int) + 1) = (k : Int) + 1 := IntWalk.i64_in _ (by omega)
      go_wp2_with fail
      go_region_law (first
        | (refine step_of rfl (wp_pushObj _ _ rfl ga k gc X (by simp [Act.eval, Act.put]) h7.p4 w2.heap.size 1 (ob, oa, oc) (by simp [Act.eval, Act.put]) (five_cells h7) (by omega) ?_); intro a' c' w4 h9; have f4 : w4.frozen? ⟨rb + 1, 0, none⟩ = false := Sat.free (T := 64) (cs := #[.slice ga k gc]) h9.p6 0; have q4 : w4.cell? ⟨rb + 1, 0, none⟩ = some (.slice ga k gc) := Sat.cell (T := 64) (cs := #[.slice ga k gc]) h9.p6 0 rfl)
        | (refine step_of rfl ?_; go_simp; go_at_call 23; refine HO2.out.mono ?_; rintro e w2 ⟨oa, oc, rfl, h6⟩; have g2 : w2.cell? ⟨rb + 1, 0, none⟩ = some (.slice ga k gc) := Sat.cell (T := 64) (cs := #[.slice ga k gc]) h6.p5 0 rfl; have h7 := h6.alloc (.cells (xcells (ob, oa, oc)).toArray 39); have g2a : (w2.alloc (.cells (xcells (ob, oa, oc)).toArray 39)).cell? ⟨rb + 1, 0, none⟩ = some (.slice ga k gc) := Sat.cell (T := 64) (cs := #[.slice ga k gc]) h7.p6 0 rfl; simp only [xcells] at g2a))
      all_goals
        have h10 := Sat.store (T := 64) (cs := #[.slice ga k gc]) h9.p6 (i := 0) (.slice a' (k + 1) c')
        have HXX : Hid ((X ++ [(ob, oa, oc)]).map (·.1) = graphL A (k + 1)) := Lib.hid (by rw [List.map_append, HX.out, HGR.out, hob]; rfl)
        go_wp2_with fail
        go_roundw
        case rel =>
          refine ⟨k + 1, a', c', X ++ [(ob, oa, oc)], by go_num, by omega, HXX, ?_⟩
          rw [show xslotsR (X ++ [(ob, oa, oc)]) = slc 28 2 oa ob.slots.length oc (avcells ob.slots) * xslotsR X by rw [xslotsR_split X [] (ob, oa, oc), List.append_nil]]
          exact (h10.p3.drop).cast (by show row _ _ _ * _ = _; unfold row; simp only [List.setIfInBounds_toArray, List.set_cons_zero]; ac_rfl)
        case measure => simp [intOf]; omega
    · obtain rfl : k = N := by omega
      have g0 : wr.cell? ⟨rb + 1, 0, none⟩ = some (.slice ga k gc) := Sat.cell (T := 64) (cs := #[.slice ga k gc]) hs.p3 0 rfl
      have r0 : wr.cell? ⟨rb, 0, none⟩ = some (.slice none 0 0) := Sat.cell (T := 64) (cs := #[.slice none 0 0]) hs.p5 0 rfl
      have rf0 : wr.frozen? ⟨rb, 0, none⟩ = false := Sat.free (T := 64) (cs := #[.slice none 0 0]) hs.p5 0
      have h7 := Sat.store (T := 64) (cs := #[.slice none 0 0]) hs.p5 (i := 0) (.slice ga k gc)
      go_wp2
      refine bodyPost_cell rfl rfl (load_graph (x := .slice ga k gc) rfl h7) rfl ?_
      refine ⟨ga, gc, rfl, ?_⟩
      exact Sat.shutObjs HX.out (by unfold graphL; simp) (h7.drop.p3.drop.cast (by ac_rfl))
end Go.Proofs.Ytkpcngcegipalaa.Tw
