/- tallowref13: Graph. No condition. -/
import Derived.Test.YtkpcngcegipalaaZPIn25
import Derived.Test.YtkpcngcegipalaaZPIn4
namespace Go.Proofs.Ytkpcngcegipalaa.Tw
set_option linter.unusedVariables false
set_option linter.unusedSimpArgs false
open Go Go.RowKit Go.MapKept
section
variable {w0 w : World} {p : Nat} {A : AHeap} {F SR : HP} {B : Int} {X : List XObj}
set_option maxRecDepth 100000 in
set_option maxHeartbeats 4000000 in
theorem r_Graph_G {RO : HP} (H : HW A B) (hB : B ≤ 1000000) (hC : ∀ (w' : World) (G : HP), Sat w0 w' (RO * G) → ∃ oa oc, w'.cell? ⟨p, 0, none⟩ = some (.slice oa A.T.length oc))
    (hO : ∀ (w' : World) (G : HP), Sat w0 w' (RO * G) → ∀ (k : Nat) (o : AObj), A.obj ((k : Int) + 1) = o → Calls Try.prog 57 #[.pointer (some ⟨p, 0, none⟩), .int .i64 ((k : Int) + 1)] w' fun e w'' => ∃ a cc, e = .returned (.agg #[.int .i64 o.kind, .int .i64 o.count, .slice a o.slots.length cc, .string o.text, .int .i64 o.mark]) ∧ Sat w0 w'' (slc 28 2 a o.slots.length cc (avcells o.slots) * (RO * G)))
    (h : Sat w0 w (RO * F)) {N : Nat} {L : List AObj} (hN : lastT A.T = N) (hL : graphL A N = L) :
    Calls Try.prog 31 #[.pointer (some ⟨p, 0, none⟩)] w fun e w' => ∃ ga gc, e = .returned (.agg #[.slice ga N gc]) ∧ Sat w0 w' (objsV ga N gc L * (RO * F)) := by
  have hT := H.t
  have hlast := lastT_le A.T
  have h1 := h.alloc (.cells #[.slice none 0 0] 64)
  have h2 := h1.alloc (.cells #[.slice none 0 0] 64)
  rw [size_alloc] at h2
  generalize hrb : w.heap.size = rb at *
  have HO := Lib.hid hO
  have HC := Lib.hid hC
  clear hC hO
  have h5 := ((h2.nilSlc (T := 39) (sz := 5)).cast (show _ = slc 39 5 none 0 0 (xscells []) * (xslotsR [] * (pt (rb + 1) (.cells #[.slice none 0 0] 64 (0, 0)) * (RO * (pt rb (.cells #[.slice none 0 0] 64 (0, 0)) * F)))) by rw [xslotsR, one_mul]; simp only [xscells, List.flatMap_nil]; ac_rfl))
  have HGR := Lib.hid (show ∀ k, graphL A (k + 1) = graphL A k ++ [A.obj (k + 1)] from fun k => by unfold graphL; rw [List.range_succ, List.map_append]; rfl)
  have HH := Lib.hid H
  have HL := Lib.hid (And.intro hN hL)
  have H5 := Lib.hid h5
  clear H h h1 h2 h5 hN hL hlast
  generalize hM : A.T.length = M at *
  go_enter Try.func31, Try.ntmps31
  go_wp2_with fail
  go_loopw [4] (fun iv wr => ∃ (k : Nat) (ga : Option Addr) (gc : Nat) (X : List XObj), iv = .int .i64 ((k : Int) + 1) ∧ k ≤ M ∧ Hid (X.map (·.1) = graphL A k) ∧ Sat w0 wr (slc 39 5 ga k gc (xscells X) * (xslotsR X * (pt (rb + 1) (.cells #[.slice ga k gc] 64 (0, 0)) * (RO * (pt rb (.cells #[.slice none 0 0] 64 (0, 0)) * F)))))) (fun iv _ => M + 1 - (intOf iv).toNat)
  case atStart => exact ⟨0, none, 0, [], rfl, by omega, Lib.hid rfl, H5.out⟩
  case round =>
    obtain ⟨k, ga, gc, X, rfl, hk, HX, hs⟩ := hrel
    obtain ⟨oa0, oc0, c0⟩ := HC.out _ _ hs.p4
    by_cases hlt : k < M
    · have g0 : wr.cell? ⟨rb + 1, 0, none⟩ = some (.slice ga k gc) := Sat.cell (T := 64) (cs := #[.slice ga k gc]) hs.p3 0 rfl
      have hlt2 : (k : Int) + 1 ≤ (M : Int) := by omega
      generalize hob : A.obj ((k : Int) + 1) = ob at *
      have HO2 := Lib.hid (HO.out wr.drew _ hs.drew.p4 k ob hob)
      go_wp2_with fail
      go_region_law (first
        | (refine step_of rfl (wp_pushObj _ _ rfl ga k gc X (by simp [Act.eval, Act.put]) h7.p4 w2.heap.size 1 (ob, oa, oc) (by simp [Act.eval, Act.put]) (five_cells h7) (by omega) ?_); intro a' c' w4 h9; have f4 : w4.frozen? ⟨rb + 1, 0, none⟩ = false := Sat.free (T := 64) (cs := #[.slice ga k gc]) h9.p6 0; have q4 : w4.cell? ⟨rb + 1, 0, none⟩ = some (.slice ga k gc) := Sat.cell (T := 64) (cs := #[.slice ga k gc]) h9.p6 0 rfl)
        | (refine step_of rfl ?_; go_simp; go_at_call 57; refine HO2.out.mono ?_; rintro e w2 ⟨oa, oc, rfl, h6⟩; have g2 : w2.cell? ⟨rb + 1, 0, none⟩ = some (.slice ga k gc) := Sat.cell (T := 64) (cs := #[.slice ga k gc]) h6.p5 0 rfl; have h7 := h6.alloc (.cells (xcells (ob, oa, oc)).toArray 39); have g2a : (w2.alloc (.cells (xcells (ob, oa, oc)).toArray 39)).cell? ⟨rb + 1, 0, none⟩ = some (.slice ga k gc) := Sat.cell (T := 64) (cs := #[.slice ga k gc]) h7.p6 0 rfl; simp only [xcells] at g2a))
      all_goals
        have h10 := Sat.store (T := 64) (cs := #[.slice ga k gc]) h9.p6 (i := 0) (.slice a' (k + 1) c')
        have HXX : Hid ((X ++ [(ob, oa, oc)]).map (·.1) = graphL A (k + 1)) := Lib.hid (by rw [List.map_append, HX.out, HGR.out, hob]; rfl)
        go_wp2_with fail
        go_roundw
        case rel =>
          refine ⟨k + 1, a', c', X ++ [(ob, oa, oc)], by go_num, by omega, HXX, ?_⟩
          rw [show xslotsR (X ++ [(ob, oa, oc)]) = slc 28 2 oa ob.slots.length oc (avcells ob.slots) * xslotsR X by rw [xslotsR_split X [] (ob, oa, oc), List.append_nil]]
          exact (h10.p3.drop).cast (by show row _ _ _ * _ = _; unfold row; simp only [List.setIfInBounds_toArray, List.set_cons_zero]; ac_rfl)
        case measure => simp [intOf]; omega
    · have hlt2 : ¬ ((k : Int) + 1 ≤ (M : Int)) := by omega
      obtain rfl : k = M := by omega
      have HS := Lib.hid hs
      clear hs
      go_wp2_with fail
      go_loopw [] (fun wr => ∃ (n : Nat) (ga : Option Addr) (gc : Nat) (X : List XObj), N ≤ n ∧ n ≤ k ∧ Hid (X.map (·.1) = graphL A n) ∧ Sat w0 wr (slc 39 5 ga n gc (xscells X) * (xslotsR X * (pt (rb + 1) (.cells #[.slice ga n gc] 64 (0, 0)) * (RO * (pt rb (.cells #[.slice none 0 0] 64 (0, 0)) * F)))))) (fun wr => match wr.cell? ⟨rb + 1, 0, none⟩ with | some (.slice _ n _) => n | _ => 0)
      case atStart => exact ⟨k, ga, gc, X, by have := lastT_le A.T; have := HL.out.1; omega, by omega, HX, HS.out⟩
      case round =>
        obtain ⟨n, ga', gc', X', hn1, hn2, HX', hs⟩ := hrel
        have g0 : wr.cell? ⟨rb + 1, 0, none⟩ = some (.slice ga' n gc') := Sat.cell (T := 64) (cs := #[.slice ga' n gc']) hs.p3 0 rfl
        cases n with
        | zero =>
          obtain rfl : N = 0 := by omega
          have r0 : wr.cell? ⟨rb, 0, none⟩ = some (.slice none 0 0) := Sat.cell (T := 64) (cs := #[.slice none 0 0]) hs.p5 0 rfl
          have rf0 : wr.frozen? ⟨rb, 0, none⟩ = false := Sat.free (T := 64) (cs := #[.slice none 0 0]) hs.p5 0
          have h7 := Sat.store (T := 64) (cs := #[.slice none 0 0]) hs.p5 (i := 0) (.slice ga' 0 gc')
          have hfin : Sat w0 _ (objsV ga' 0 gc' L * (RO * F)) := Sat.shutObjs (HX'.out.trans HL.out.2) (by rw [← HL.out.2]; unfold graphL; simp) h7.drop.p3.drop
          have HF := Lib.hid (And.intro h7 hfin)
          clear h7 hfin HX'
          go_wp2_with fail
          refine bodyPost_cell rfl rfl (load_graph (x := .slice ga' 0 gc') rfl HF.out.1) rfl ⟨ga', gc', rfl, HF.out.2⟩
        | succ m =>
          obtain ⟨Y, y, rfl⟩ : ∃ Y y, X' = Y ++ [y] := by
            rcases List.eq_nil_or_concat X' with e | ⟨Y, y, e⟩
            · have := congrArg List.length HX'.out
              rw [e] at this; simp [graphL] at this
            · exact ⟨Y, y, by rw [e, List.concat_eq_append]⟩
          have e1 := HX'.out
          rw [HGR.out, List.map_append] at e1
          obtain ⟨e2, e3⟩ := List.append_inj' e1 rfl
          have hYl : Y.length = m := by have := congrArg List.length e2; simpa [graphL] using this
          have e4 : y.1 = A.obj ((m : Int) + 1) := by simpa using e3
          obtain ⟨o, xa, xc⟩ := y
          dsimp only at e4
          have hx0 : (Y ++ [((o, xa, xc) : XObj)])[m]? = some (o, xa, xc) := by rw [← hYl]; simp
          obtain ⟨g, off, ea, d0, _⟩ := objAtX hs hx0
          subst ea
          dsimp only at d0
          have hcap := hs.slcCap
          have htk := HH.out.ht ((m : Int) + 1)
          have gf : wr.frozen? ⟨rb + 1, 0, none⟩ = false := Sat.free (T := 64) (cs := #[.slice (some ⟨g, off, none⟩) (m + 1) gc']) hs.p3 0
          have hj4 : IntKind.i64.wrap (m : Int) = m := IntWalk.i64_in _ (by omega)
          by_cases hz : N = m + 1
          · have hk0 : (o.kind == 0) = false := by
              have h1 := lastT_at A.T (by have := HL.out.1; omega)
              rw [HL.out.1, hz] at h1
              rw [(tk_get A.T m).2 h1] at htk
              obtain ⟨o2, ho2⟩ := Option.isSome_iff_exists.1 htk
              have h2 := (HH.out.c _ _ ho2).2.2.2.1
              have h3 : o = o2 := by rw [e4]; unfold AHeap.obj; rw [ho2]; rfl
              rw [h3]; simp; omega
            clear e1 e2 e3 e4 htk hx0
            subst hz
            have r0 : wr.cell? ⟨rb, 0, none⟩ = some (.slice none 0 0) := Sat.cell (T := 64) (cs := #[.slice none 0 0]) hs.p5 0 rfl
            have rf0 : wr.frozen? ⟨rb, 0, none⟩ = false := Sat.free (T := 64) (cs := #[.slice none 0 0]) hs.p5 0
            have h7 := Sat.store (T := 64) (cs := #[.slice none 0 0]) hs.p5 (i := 0) (.slice (some ⟨g, off, none⟩) (m + 1) gc')
            have hfin : Sat w0 _ (objsV (some ⟨g, off, none⟩) (m + 1) gc' L * (RO * F)) := Sat.shutObjs (HX'.out.trans HL.out.2) (by rw [← HL.out.2]; unfold graphL; simp) h7.drop.p3.drop
            have HF := Lib.hid (And.intro h7 hfin)
            clear h7 hfin HX'
            go_wp2_with fail
            refine bodyPost_cell rfl rfl (load_graph (x := .slice (some ⟨g, off, none⟩) (m + 1) gc') rfl HF.out.1) rfl ⟨(some ⟨g, off, none⟩), gc', rfl, HF.out.2⟩
          · have hk0 : (o.kind == 0) = true := by
              cases hh : A.objs ((m : Int) + 1) with
              | none =>
                have h3 : o = AObj.none := by rw [e4]; unfold AHeap.obj; rw [hh]; rfl
                rw [h3]; rfl
              | some o2 =>
                rw [hh] at htk
                have h1 := lastT_ge A.T m ((tk_get A.T m).1 htk.symm)
                have := HL.out.1
                omega
            have HY : Hid (Y.map (·.1) = graphL A m) := Lib.hid e2
            rw [xscells_append, xslotsR_append] at hs
            have h8 := hs.slcPop (by rw [xscells_length, hYl])
            have h9 := Sat.store (T := 64) (cs := #[.slice (some ⟨g, off, none⟩) (m + 1) gc']) h8.p3 (i := 0) (.slice (some ⟨g, off, none⟩) m gc')
            have H9 := Lib.hid h9
            clear e1 e2 e3 e4 htk hx0 h8 h9 hs HX'
            go_wp2_with fail
            go_roundw
            case rel =>
              refine ⟨m, some ⟨g, off, none⟩, gc', Y, by omega, by omega, HY, ?_⟩
              refine Sat.drop (P := slc 28 2 xa o.slots.length xc (avcells o.slots)) (H9.out.cast ?_)
              show row _ _ _ * _ = _
              unfold row
              simp only [List.setIfInBounds_toArray, List.set_cons_zero, xslotsR, mul_one]
              ac_rfl
            case measure =>
              have q : (wr.setCell ⟨rb + 1, 0, none⟩ (.slice (some ⟨g, off, none⟩) m gc')).cell? ⟨rb + 1, 0, none⟩ = some (.slice (some ⟨g, off, none⟩) m gc') := H9.out.cell 0 rfl
              simp only [g0, q]
              omega
theorem r_Graph (H : HW A B) (hB : B ≤ 1000000) (h : Sat w0 w (refR13 p A * F)) {N : Nat} {L : List AObj} (hN : lastT A.T = N) (hL : graphL A N = L) :
    Calls Try.prog 31 #[.pointer (some ⟨p, 0, none⟩)] w fun e w' => ∃ ga gc, e = .returned (.agg #[.slice ga N gc]) ∧ Sat w0 w' (objsV ga N gc L * (refR13 p A * F)) :=
  r_Graph_G H hB (fun w' G hh => by obtain ⟨_, oa, oc, _, _, _, _, _, _, _, _, oo⟩ := hh.openR; exact ⟨oa, oc, oo.c0⟩) (fun w' G hh k o ho => r_Obj H hB hh ((k : Int) + 1) ho rfl) h hN hL
theorem r_Graph_O {oa : Option Addr} {oc : Nat} {qa : Option Addr} {qc : Nat} {ba : Option Addr} {bc : Nat} {fa : Option Addr} {fc : Nat} {sa : Option Addr} {sc : Nat} (H : HW A B) (hB : B ≤ 1000000) (hx : X.map (·.1) = graphL A A.T.length) (h : Sat w0 w (refO p A X oa oc qa qc ba bc fa fc sa sc * F)) {N : Nat} {L : List AObj} (hN : lastT A.T = N) (hL : graphL A N = L) :
    Calls Try.prog 31 #[.pointer (some ⟨p, 0, none⟩)] w fun e w' => ∃ ga gc, e = .returned (.agg #[.slice ga N gc]) ∧ Sat w0 w' (objsV ga N gc L * (refO p A X oa oc qa qc ba bc fa fc sa sc * F)) :=
  r_Graph_G H hB (fun w' G hh => ⟨oa, oc, ROpen.c0 ⟨hx, hh.cast (refO_F _ _ _ _ _ _ _ _ _ _ _ _ _ _).symm⟩⟩) (fun w' G hh k o ho => (r_Obj_O H hB ⟨hx, hh.cast (refO_F _ _ _ _ _ _ _ _ _ _ _ _ _ _).symm⟩ ((k : Int) + 1) ho rfl).mono fun e w2 ⟨a, cc, he, h2⟩ => ⟨a, cc, he, h2.cast (by rw [refO_F])⟩) h hN hL
end
end Go.Proofs.Ytkpcngcegipalaa.Tw
namespace Go.Proofs.Ytkpcngcegipalaa.Tw
set_option linter.unusedVariables false
set_option linter.unusedSimpArgs false
open Go Go.RowKit Go.MapKept

attribute [local go_sem] lookE lkE valUpon
section
variable {w0 w : World} {F : HP} {X Y : List XObj}
set_option maxRecDepth 100000 in
set_option maxHeartbeats 4000000 in
theorem ref_Same {L : List AObj} {a b : Option Addr} {N c c' : Nat} (h : Sat w0 w (objsV a N c L * (objsV b N c' L * F))) (hN : N ≤ 1000000) (hsl : ∀ o ∈ L, o.slots.length ≤ 1000000) :
    Calls Try.prog 29 #[.agg #[.slice a N c], .agg #[.slice b N c']] w fun e w' => e = .returned (.bool true) ∧ Sat w0 w' (objsV a N c L * (objsV b N c' L * F)) := by
  obtain ⟨X, ⟨hX, hl⟩, h1⟩ := h.openObjs
  obtain ⟨Y, ⟨hY, _⟩, h2⟩ := (h1.cast (show _ = objsV b N c' L * (slc 39 5 a N c (xscells X) * (xslotsR X * F)) by ac_rfl)).openObjs
  have h3 := (h2.alloc (.cells #[.slice a N c] 64)).alloc (.cells #[.slice b N c'] 64)
  rw [size_alloc] at h3
  have HXY := Lib.hid (And.intro hX (And.intro hY (And.intro hl hsl)))
  generalize hba : w.heap.size = ba at *
  generalize hbb : ba + 1 = bb at *
  have h0 : Sat w0 _ (pt ba (.cells #[.slice a N c] 64 (0, 0)) * (pt bb (.cells #[.slice b N c'] 64 (0, 0)) * (slc 39 5 a N c (xscells X) * (slc 39 5 b N c' (xscells Y) * (xslotsR X * (xslotsR Y * F)))))) := h3.cast (by ac_rfl)
  have ga0 : (World.alloc (World.alloc w (.cells #[.slice a N c] 64)) (.cells #[.slice b N c'] 64)).cell? ⟨ba, 0, none⟩ = some (.slice a N c) := Sat.cell (T := 64) (cs := #[.slice a N c]) h0 0 rfl
  have gb0 : (World.alloc (World.alloc w (.cells #[.slice a N c] 64)) (.cells #[.slice b N c'] 64)).cell? ⟨bb, 0, none⟩ = some (.slice b N c') := Sat.cell (T := 64) (cs := #[.slice b N c']) h0.p2 0 rfl
  have H0 := Lib.hid h0
  clear h h1 h2 h3 h0 hX hY hl hsl
  go_enter Try.func29, Try.ntmps29
  go_wp2_with fail
  go_loopw [5] (fun iv wr => ∃ k : Nat, iv = .int .i64 k ∧ k ≤ N ∧ Sat w0 wr (pt ba (.cells #[.slice a N c] 64 (0, 0)) * (pt bb (.cells #[.slice b N c'] 64 (0, 0)) * (slc 39 5 a N c (xscells X) * (slc 39 5 b N c' (xscells Y) * (xslotsR X * (xslotsR Y * F))))))) (fun iv _ => N - (intOf iv).toNat)
  case atStart => exact ⟨0, rfl, by omega, H0.out⟩
  case round =>
    clear ga0 gb0
    obtain ⟨k, rfl, hk, hs⟩ := hrel
    have g0 : wr.cell? ⟨ba, 0, none⟩ = some (.slice a N c) := Sat.cell (T := 64) (cs := #[.slice a N c]) hs 0 rfl
    by_cases hlt : k < N
    · obtain ⟨⟨o, xa, xc⟩, hx, hxo⟩ : ∃ x, X[k]? = some x ∧ L[k]? = some x.1 := by
        have h1 := HXY.out.1; have h2 := HXY.out.2.2.1
        have h3 : k < X.length := by rw [← List.length_map (f := Prod.fst), h1]; omega
        exact ⟨X[k], List.getElem?_eq_getElem h3, by rw [← h1, List.getElem?_map, List.getElem?_eq_getElem h3]; rfl⟩
      obtain ⟨⟨o2, ya, yc⟩, hy, hyo⟩ : ∃ x, Y[k]? = some x ∧ L[k]? = some x.1 := by
        have h1 := HXY.out.2.1; have h2 := HXY.out.2.2.1
        have h3 : k < Y.length := by rw [← List.length_map (f := Prod.fst), h1]; omega
        exact ⟨Y[k], List.getElem?_eq_getElem h3, by rw [← h1, List.getElem?_map, List.getElem?_eq_getElem h3]; rfl⟩
      dsimp only at hxo hyo
      obtain rfl : o = o2 := by rw [hxo] at hyo; exact Option.some.inj hyo
      have hsl := HXY.out.2.2.2 o (List.mem_of_getElem? hxo)
      obtain ⟨ok, oc, sl, tx, om⟩ := o
      dsimp only at hsl
      obtain ⟨ag, ao, ea, _⟩ := objAtX hs.p3 hx
      obtain ⟨bg, bo, eb, _⟩ := objAtX hs.p4 hy
      subst ea eb
      obtain ⟨RX, eX, _⟩ := xslotsR_set (y := (⟨ok, oc, sl, tx, om⟩, xa, xc)) hx
      obtain ⟨RY, eY, _⟩ := xslotsR_set (y := (⟨ok, oc, sl, tx, om⟩, ya, yc)) hy
      dsimp only at eX eY
      obtain ⟨RR, hRR⟩ : ∃ R : HP, R = xslotsR X * (xslotsR Y * F) := ⟨_, rfl⟩
      rw [← hRR] at hs
      have HX := Lib.hid hx
      have HY := Lib.hid hy
      have HE := Lib.hid (And.intro eX eY)
      have HRR := Lib.hid hRR
      have HS := Lib.hid (show Sat w0 wr (pt ba (.cells #[.slice (some ⟨ag, ao, none⟩) N c] 64 (0, 0)) * (pt bb (.cells #[.slice (some ⟨bg, bo, none⟩) N c'] 64 (0, 0)) * (slc 39 5 (some ⟨ag, ao, none⟩) N c (xscells X) * (slc 39 5 (some ⟨bg, bo, none⟩) N c' (xscells Y) * RR)))) from hs)
      clear hx hy hxo hyo eX eY hRR hs
      go_wp2_with fail
      clear g0
      refine wp_gen fun a0 ha => ?_
      have hb2 : base a0 2 = .pointer (some ⟨ba, 0, none⟩) := by rw [ha]; rfl
      have hb3 : base a0 3 = .pointer (some ⟨bb, 0, none⟩) := by rw [ha]; rfl
      have hb5 : base a0 5 = .int .i64 k := by rw [ha]; rfl
      have hsz0 : a0.tmps.size = 66 := by rw [ha]; rfl
      have HA0 := Lib.hid (And.intro hsz0 ha)
      clear ha hsz0
      refine GW.start (X := Option Addr × Nat) (w0 := w0) (B := [pt ba (.cells #[.slice (some ⟨ag, ao, none⟩) N c] 64 (0, 0)), pt bb (.cells #[.slice (some ⟨bg, bo, none⟩) N c'] 64 (0, 0)), slc 39 5 (some ⟨ag, ao, none⟩) N c (xscells X), slc 39 5 (some ⟨bg, bo, none⟩) N c' (xscells Y), RR]) (a0 := a0) ?_
      refine GW.det (d := (some 22)) [] [] rfl (fun e => by rfl) ?_; apply Exists.intro; refine ⟨fun e w' F hs => ?_, ?_, ?_⟩
      · first | (go_simp; done) | (go_simp; rfl)
      · exact (fun _ _ _ => rfl)
      refine GW.det (d := (some 23)) [0] [] rfl (fun e => by rfl) ?_; apply Exists.intro; refine ⟨fun e w' F hs => ?_, ?_, ?_⟩
      · have y0 : w'.cell? ⟨ba, 0, none⟩ = some (.slice (some ⟨ag, ao, none⟩) N c) := Sat.cell (T := 64) (cs := #[.slice (some ⟨ag, ao, none⟩) N c]) (show Sat w0 w' (pt ba (.cells #[.slice (some ⟨ag, ao, none⟩) N c] 64 (0, 0)) * F) from hs) 0 rfl; first | (go_simp; done) | (go_simp; rfl)
      · exact (fun _ _ _ => rfl)
      refine GW.det (d := (some 24)) [] [] rfl (fun e => by rfl) ?_; apply Exists.intro; refine ⟨fun e w' F hs => ?_, ?_, ?_⟩
      · first | (go_simp; done) | (go_simp; rfl)
      · exact (fun _ _ _ => rfl)
      refine GW.det (d := (some 25)) [] [] rfl (fun e => by rfl) ?_; apply Exists.intro; refine ⟨fun e w' F hs => ?_, ?_, ?_⟩
      · first | (go_simp; done) | (go_simp; rfl)
      · exact (fun _ _ _ => rfl)
      refine GW.det (d := (some 26)) [2] [] rfl (fun e => by rfl) ?_; apply Exists.intro; refine ⟨fun e w' F hs => ?_, ?_, ?_⟩
      · obtain ⟨g', off', e', y0, y1, y2, y3, y4⟩ := objAtX (show Sat w0 w' (slc 39 5 (some ⟨ag, ao, none⟩) N c (xscells X) * F) from hs) HX.out; cases e'; dsimp only at y0 y1 y2 y3 y4; first | (go_simp; done) | (go_simp; rfl)
      · exact (fun _ _ _ => rfl)
      refine GW.det (d := (some 27)) [] [] rfl (fun e => by rfl) ?_; apply Exists.intro; refine ⟨fun e w' F hs => ?_, ?_, ?_⟩
      · first | (go_simp; done) | (go_simp; rfl)
      · exact (fun _ _ _ => rfl)
      refine GW.det (d := (some 28)) [1] [] rfl (fun e => by rfl) ?_; apply Exists.intro; refine ⟨fun e w' F hs => ?_, ?_, ?_⟩
      · have y0 : w'.cell? ⟨bb, 0, none⟩ = some (.slice (some ⟨bg, bo, none⟩) N c') := Sat.cell (T := 64) (cs := #[.slice (some ⟨bg, bo, none⟩) N c']) (show Sat w0 w' (pt bb (.cells #[.slice (some ⟨bg, bo, none⟩) N c'] 64 (0, 0)) * F) from hs) 0 rfl; first | (go_simp; done) | (go_simp; rfl)
      · exact (fun _ _ _ => rfl)
      refine GW.det (d := (some 29)) [] [] rfl (fun e => by rfl) ?_; apply Exists.intro; refine ⟨fun e w' F hs => ?_, ?_, ?_⟩
      · first | (go_simp; done) | (go_simp; rfl)
      · exact (fun _ _ _ => rfl)
      refine GW.det (d := (some 30)) [] [] rfl (fun e => by rfl) ?_; apply Exists.intro; refine ⟨fun e w' F hs => ?_, ?_, ?_⟩
      · first | (go_simp; done) | (go_simp; rfl)
      · exact (fun _ _ _ => rfl)
      refine GW.det (d := (some 31)) [3] [] rfl (fun e => by rfl) ?_; apply Exists.intro; refine ⟨fun e w' F hs => ?_, ?_, ?_⟩
      · obtain ⟨g', off', e', y0, y1, y2, y3, y4⟩ := objAtX (show Sat w0 w' (slc 39 5 (some ⟨bg, bo, none⟩) N c' (xscells Y) * F) from hs) HY.out; cases e'; dsimp only at y0 y1 y2 y3 y4; first | (go_simp; done) | (go_simp; rfl)
      · exact (fun _ _ _ => rfl)
      refine GW.new (d := (some 6)) 10 (fun x => .pointer (some ⟨x.2, 0, none⟩)) (fun x => pt x.2 (.cells #[.int .i64 0, .int .i64 0, .slice none 0 0, .string (ByteArray.mk #[]), .int .i64 0] 39)) [] rfl rfl (fun e => by rfl) (fun e w' F K hs hK => ?_) ?_
      · go_simp; exact hK (none, _) _ ((hs.alloc (.cells #[.int .i64 0, .int .i64 0, .slice none 0 0, .string (ByteArray.mk #[]), .int .i64 0] 39)).cast (mul_left_comm _ _ _))
      refine GW.new (d := (some 7)) 11 (fun x => .pointer (some ⟨x.2, 0, none⟩)) (fun x => pt x.2 (.cells #[.int .i64 0, .int .i64 0, .slice none 0 0, .string (ByteArray.mk #[]), .int .i64 0] 39)) [] rfl rfl (fun e => by rfl) (fun e w' F K hs hK => ?_) ?_
      · go_simp; exact hK (none, _) _ ((hs.alloc (.cells #[.int .i64 0, .int .i64 0, .slice none 0 0, .string (ByteArray.mk #[]), .int .i64 0] 39)).cast (mul_left_comm _ _ _))
      refine GW.take (d := none) 12 (fun e => undef) (fun e => pt (e 10).2 (.cells #[.int .i64 ok, .int .i64 oc, .slice xa sl.length xc, .string tx, .int .i64 om] 39 (0, 0))) [] [15] [10] rfl rfl (fun e => by rfl) (fun e e' hl => by simp only [hl 10 (by decide)]; exact ⟨trivial, trivial⟩) (fun e w' F K hs hK => ?_) ?_
      · have hs := show Sat w0 w' (pt (e 10).2 (.cells #[.int .i64 0, .int .i64 0, .slice none 0 0, .string (ByteArray.mk #[]), .int .i64 0] 39 (0, 0)) * F) from one_out hs; have ⟨f0, f1, f2, f3, f4⟩ := ofree hs; have ⟨c0, c1, c2, c3, c4, _⟩ := ocells hs; go_simp; exact hK default _ (one_in (setObj5 (k' := ok) (c' := oc) (xa' := xa) (n' := sl.length) (xc' := xc) (tx' := tx) (mk' := om) hs))
      refine GW.take (d := none) 13 (fun e => undef) (fun e => pt (e 11).2 (.cells #[.int .i64 ok, .int .i64 oc, .slice ya sl.length yc, .string tx, .int .i64 om] 39 (0, 0))) [] [16] [11] rfl rfl (fun e => by rfl) (fun e e' hl => by simp only [hl 11 (by decide)]; exact ⟨trivial, trivial⟩) (fun e w' F K hs hK => ?_) ?_
      · have hs := show Sat w0 w' (pt (e 11).2 (.cells #[.int .i64 0, .int .i64 0, .slice none 0 0, .string (ByteArray.mk #[]), .int .i64 0] 39 (0, 0)) * F) from one_out hs; have ⟨f0, f1, f2, f3, f4⟩ := ofree hs; have ⟨c0, c1, c2, c3, c4, _⟩ := ocells hs; go_simp; exact hK default _ (one_in (setObj5 (k' := ok) (c' := oc) (xa' := ya) (n' := sl.length) (xc' := yc) (tx' := tx) (mk' := om) hs))
      refine GW.done (sz := 66) [5 + 12, 5 + 13, 0, 1, 2, 3, 4] (by kernel_rfl) (by kernel_rfl) HA0.out.1 (by rfl) HS.out (by rfl) fun e w3 gg => ?_
      have ha := HA0.out.2
      subst ha
      clear HA0 hb2 hb3 hb5 HS
      simp only [putL, Act.put, List.setIfInBounds_toArray, List.set_cons_zero, List.set_cons_succ]
      have h3 : Sat w0 w3 (pt (e 10).2 (.cells #[.int .i64 ok, .int .i64 oc, .slice xa sl.length xc, .string tx, .int .i64 om] 39 (0, 0)) * (pt (e 11).2 (.cells #[.int .i64 ok, .int .i64 oc, .slice ya sl.length yc, .string tx, .int .i64 om] 39 (0, 0)) * (pt ba (.cells #[.slice (some ⟨ag, ao, none⟩) N c] 64 (0, 0)) * (pt bb (.cells #[.slice (some ⟨bg, bo, none⟩) N c'] 64 (0, 0)) * (slc 39 5 (some ⟨ag, ao, none⟩) N c (xscells X) * (slc 39 5 (some ⟨bg, bo, none⟩) N c' (xscells Y) * RR)))))) := gg
      clear gg
      generalize (e 10).2 = q1 at *
      generalize (e 11).2 = q2 at *
      have ⟨y0, y1, y2, y3, y4, _⟩ := ocells h3
      have ⟨z0, z1, z2, z3, z4, _⟩ := ocells h3.p2
      have hval := Lib.hid (ref_Values (a := xa) (c := xc) (b := ya) (c' := yc) (l := sl) (h3.cast (show _ = slc 28 2 xa sl.length xc (avcells sl) * (slc 28 2 ya sl.length yc (avcells sl) * (pt ba (.cells #[.slice (some ⟨ag, ao, none⟩) N c] 64 (0, 0)) * (pt bb (.cells #[.slice (some ⟨bg, bo, none⟩) N c'] 64 (0, 0)) * (slc 39 5 (some ⟨ag, ao, none⟩) N c (xscells X) * (slc 39 5 (some ⟨bg, bo, none⟩) N c' (xscells Y) * (RX * (RY * (F * (pt q1 (.cells #[.int .i64 ok, .int .i64 oc, .slice xa sl.length xc, .string tx, .int .i64 om] 39 (0, 0)) * pt q2 (.cells #[.int .i64 ok, .int .i64 oc, .slice ya sl.length yc, .string tx, .int .i64 om] 39 (0, 0))))))))))) by rw [HRR.out, HE.out.1, HE.out.2]; ac_rfl)) rfl (by omega))
      have HD := Lib.hid (fun (w' : World) (hh : Sat w0 w' (slc 28 2 xa sl.length xc (avcells sl) * (slc 28 2 ya sl.length yc (avcells sl) * (pt ba (.cells #[.slice (some ⟨ag, ao, none⟩) N c] 64 (0, 0)) * (pt bb (.cells #[.slice (some ⟨bg, bo, none⟩) N c'] 64 (0, 0)) * (slc 39 5 (some ⟨ag, ao, none⟩) N c (xscells X) * (slc 39 5 (some ⟨bg, bo, none⟩) N c' (xscells Y) * (RX * (RY * (F * (pt q1 (.cells #[.int .i64 ok, .int .i64 oc, .slice xa sl.length xc, .string tx, .int .i64 om] 39 (0, 0)) * pt q2 (.cells #[.int .i64 ok, .int .i64 oc, .slice ya sl.length yc, .string tx, .int .i64 om] 39 (0, 0))))))))))))) => show Sat w0 w' (pt ba (.cells #[.slice (some ⟨ag, ao, none⟩) N c] 64 (0, 0)) * (pt bb (.cells #[.slice (some ⟨bg, bo, none⟩) N c'] 64 (0, 0)) * (slc 39 5 (some ⟨ag, ao, none⟩) N c (xscells X) * (slc 39 5 (some ⟨bg, bo, none⟩) N c' (xscells Y) * (xslotsR X * (xslotsR Y * F)))))) from Sat.drop (P := pt q1 (.cells #[.int .i64 ok, .int .i64 oc, .slice xa sl.length xc, .string tx, .int .i64 om] 39 (0, 0)) * pt q2 (.cells #[.int .i64 ok, .int .i64 oc, .slice ya sl.length yc, .string tx, .int .i64 om] 39 (0, 0))) (hh.cast (show _ = (pt q1 (.cells #[.int .i64 ok, .int .i64 oc, .slice xa sl.length xc, .string tx, .int .i64 om] 39 (0, 0)) * pt q2 (.cells #[.int .i64 ok, .int .i64 oc, .slice ya sl.length yc, .string tx, .int .i64 om] 39 (0, 0))) * (pt ba (.cells #[.slice (some ⟨ag, ao, none⟩) N c] 64 (0, 0)) * (pt bb (.cells #[.slice (some ⟨bg, bo, none⟩) N c'] 64 (0, 0)) * (slc 39 5 (some ⟨ag, ao, none⟩) N c (xscells X) * (slc 39 5 (some ⟨bg, bo, none⟩) N c' (xscells Y) * (xslotsR X * (xslotsR Y * F)))))) by rw [HE.out.1, HE.out.2]; ac_rfl)))
      clear h3
      go_wp2_with fail
      refine hval.out.mono ?_
      rintro e w4 ⟨rfl, h4⟩
      have h5 := HD.out _ h4
      clear h4
      go_wp2_with fail
      go_roundw
      case rel => exact ⟨k + 1, by go_num, by omega, h5⟩
      case measure => simp [intOf]; omega
    · obtain rfl : k = N := by omega
      go_wp2
      go_ret
      refine ⟨rfl, ?_⟩
      have h5 := Sat.drop (P := pt ba (.cells #[.slice a k c] 64 (0, 0)) * pt bb (.cells #[.slice b k c'] 64 (0, 0))) (hs.cast (show _ = _ * (slc 39 5 a k c (xscells X) * (xslotsR X * (slc 39 5 b k c' (xscells Y) * (xslotsR Y * F)))) by ac_rfl))
      have h6 := Sat.shutObjs HXY.out.1 HXY.out.2.2.1 h5
      have h7 := Sat.shutObjs HXY.out.2.1 HXY.out.2.2.1 (h6.cast (show _ = slc 39 5 b k c' (xscells Y) * (xslotsR Y * (objsV a k c L * F)) by ac_rfl))
      exact h7.p2
end
end Go.Proofs.Ytkpcngcegipalaa.Tw
