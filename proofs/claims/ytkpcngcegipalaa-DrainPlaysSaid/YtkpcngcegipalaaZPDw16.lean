/- The heap of cells: NextFin, Queue, Buffer, TakeBuffer, Fins, Touched, Watch. No condition. -/
import Derived.Test.YtkpcngcegipalaaZPDw15
namespace Go.Proofs.Ytkpcngcegipalaa.Tw
set_option linter.unusedVariables false
set_option linter.unusedSimpArgs false
open Go Go.RowKit Go.MapKept

theorem run_store_fn {P : Program} (w : World) (ad : Addr) (f : Fn) (b r : Array Value) : (store ad (.func f b r)).run P w = stored P w ad (.func f b r) .plain := run_store P w ad _ _ rfl
theorem heap_Queue_nil (w : World) : Calls Try.prog 35 #[.pointer none] w fun e w' => e = .returned (.slice none 0 0) ∧ w = w' := by
  go_enter Try.func35, Try.ntmps35
  go_wp2
  go_ret
  exact ⟨rfl, rfl⟩
theorem heap_Queue {w0 w : World} {m : Hp} {p : Nat} {A : AHeap} {F : HP} (h : Sat w0 w (heapR m p A * F)) (hq : A.queue.length ≤ 1000000000) :
    Calls Try.prog 35 #[.pointer (some ⟨p, 0, none⟩)] w fun e w' => ∃ a c, e = .returned (.slice a A.queue.length c) ∧ Sat w0 w' (slc 3 1 a A.queue.length c (A.queue.map ival) * (heapR m p A * F)) := by
  obtain ⟨pb, mb, O, qa, qc, ba, bc, fa, fc, fv, op⟩ := h.openHeap
  have c2 : w.cell? ⟨p, 2, none⟩ = some (.slice qa A.queue.length qc) := op.hs.cell 2 rfl
  have HC := Lib.hid (slices_clone op.hs.p5 (by omega) (oneCell_ivals _))
  go_enter Try.func35, Try.ntmps35
  go_wp2_with fail
  refine HC.out.mono ?_
  rintro e w' ⟨a, c, rfl, _, h1⟩
  go_wp2_with fail
  go_ret
  have op1 : Opened w0 w' m p A (slc 3 1 a A.queue.length c (A.queue.map ival) * F) pb mb O qa qc ba bc fa fc fv := ⟨op.ho, op.ht, op.hw, h1.cast (by ac_rfl)⟩
  exact ⟨a, c, rfl, op1.shut.p2⟩
theorem heap_Buffer_nil (w : World) : Calls Try.prog 51 #[.pointer none] w fun e w' => e = .returned (.slice none 0 0) ∧ w = w' := by
  go_enter Try.func51, Try.ntmps51
  go_wp2
  go_ret
  exact ⟨rfl, rfl⟩
theorem heap_Buffer {w0 w : World} {m : Hp} {p : Nat} {A : AHeap} {F : HP} (h : Sat w0 w (heapR m p A * F)) (hq : A.buf.length ≤ 1000000000) :
    Calls Try.prog 51 #[.pointer (some ⟨p, 0, none⟩)] w fun e w' => ∃ a c, e = .returned (.slice a A.buf.length c) ∧ Sat w0 w' (slc 3 1 a A.buf.length c (A.buf.map ival) * (heapR m p A * F)) := by
  obtain ⟨pb, mb, O, qa, qc, ba, bc, fa, fc, fv, op⟩ := h.openHeap
  have c3 : w.cell? ⟨p, 3, none⟩ = some (.slice ba A.buf.length bc) := op.hs.cell 3 rfl
  have HC := Lib.hid (slices_clone op.hs.p6 (by omega) (oneCell_ivals _))
  go_enter Try.func51, Try.ntmps51
  go_wp2_with fail
  refine HC.out.mono ?_
  rintro e w' ⟨a, c, rfl, _, h1⟩
  go_wp2_with fail
  go_ret
  have op1 : Opened w0 w' m p A (slc 3 1 a A.buf.length c (A.buf.map ival) * F) pb mb O qa qc ba bc fa fc fv := ⟨op.ho, op.ht, op.hw, h1.cast (by ac_rfl)⟩
  exact ⟨a, c, rfl, op1.shut.p2⟩
theorem heap_TakeBuffer_nil (w : World) : Calls Try.prog 65 #[.pointer none] w fun e w' => e = .returned (.slice none 0 0) ∧ w = w' := by
  go_enter Try.func65, Try.ntmps65
  go_wp2_with fail
  refine (heap_Buffer_nil _).mono ?_
  rintro e w' ⟨rfl, rfl⟩
  go_wp2_with fail
  go_ret
  exact ⟨rfl, rfl⟩
theorem heap_TakeBuffer {w0 w : World} {m : Hp} {p : Nat} {A : AHeap} {F : HP} (h : Sat w0 w (heapR m p A * F)) (hq : A.buf.length ≤ 1000000000) :
    Calls Try.prog 65 #[.pointer (some ⟨p, 0, none⟩)] w fun e w' => ∃ a c, e = .returned (.slice a A.buf.length c) ∧ Sat w0 w' (slc 3 1 a A.buf.length c (A.buf.map ival) * (heapR m p { A with buf := [] } * F)) := by
  have HC := Lib.hid (heap_Buffer h hq)
  go_enter Try.func65, Try.ntmps65
  go_wp2_with fail
  refine HC.out.mono ?_
  rintro e w' ⟨a, c, rfl, h1⟩
  obtain ⟨pb, mb, O, qa, qc, ba, bc, fa, fc, fv, op⟩ := h1.p2.openHeap
  have c3 : w'.cell? ⟨p, 3, none⟩ = some (.slice ba A.buf.length bc) := op.hs.cell 3 rfl
  have f3 := op.hs.free 3
  have op1 := op.buf (q := []) rfl ((((op.hs.p6.drop).store (i := 3) (.slice none 0 0)).nilSlc (T := 3) (sz := 1)).p2)
  go_wp2_with fail
  go_ret
  exact ⟨a, c, rfl, op1.shut.p2⟩
theorem heap_Touched_nil (w : World) : Calls Try.prog 48 #[.pointer none] w fun e w' => e = .returned (.bool false) ∧ w = w' := by
  go_enter Try.func48, Try.ntmps48
  go_wp2
  go_ret
  exact ⟨rfl, rfl⟩
theorem heap_Touched {w0 w : World} {m : Hp} {p : Nat} {A : AHeap} {F : HP} (h : Sat w0 w (heapR m p A * F)) :
    Calls Try.prog 48 #[.pointer (some ⟨p, 0, none⟩)] w fun e w' => e = .returned (.bool A.touched) ∧ w = w' := by
  obtain ⟨pb, mb, O, qa, qc, ba, bc, fa, fc, fv, op⟩ := h.openHeap
  have c7 : w.cell? ⟨p, 7, none⟩ = some (.bool A.touched) := op.hs.cell 7 rfl
  go_enter Try.func48, Try.ntmps48
  go_wp2
  go_ret
  exact ⟨rfl, rfl⟩
theorem heap_Watch_nil (w : World) (a : Option Addr) (n c : Nat) : Calls Try.prog 47 #[.pointer none, .slice a n c] w fun e w' => e = .returned (.tuple #[]) ∧ w = w' := by
  go_enter Try.func47, Try.ntmps47
  go_wp2
  refine bodyPost_ret (results_none rfl _ _ _) rfl ?_
  exact ⟨rfl, rfl⟩
set_option maxHeartbeats 1000000 in
theorem heap_Watch {w0 w : World} {m : Hp} {p : Nat} {A : AHeap} {F : HP} {a : Option Addr} {n c : Nat} {l : List Int} (h : Sat w0 w (slc 3 1 a n c (l.map ival) * (heapR m p A * F))) (hl : l.length = n) (hn : n ≤ 1000000000) :
    Calls Try.prog 47 #[.pointer (some ⟨p, 0, none⟩), .slice a n c] w fun e w' => e = .returned (.tuple #[]) ∧ ∃ m' X, Knows m' X ∧ Sat w0 w' (heapR m' p { A with watch := l, touched := false } * (X * (slc 3 1 a n c (l.map ival) * F))) := by
  subst hl
  have HC := Lib.hid (slices_clone h (by omega) (oneCell_ivals _))
  go_enter Try.func47, Try.ntmps47
  go_wp2_with fail
  refine HC.out.mono ?_
  rintro e w1 ⟨a', c', rfl, _, h1⟩
  have h2 := h1.alloc (.cells #[.slice a' l.length c'] 48)
  obtain ⟨pb, mb, O, qa, qc, ba, bc, fa, fc, fv, op⟩ := h2.p4.openHeap
  generalize hbx : w1.heap.size = bx at *
  have c6 : (w1.alloc (.cells #[.slice a' l.length c'] 48)).cell? ⟨p, 6, none⟩ = some fv := op.hs.cell 6 rfl
  have f6 := op.hs.free 6
  have hs1 := op.hs.store (i := 6) (.func (.func 108) #[] #[.pointer (some ⟨bx, 0, none⟩)])
  have d7 : ((w1.alloc (.cells #[.slice a' l.length c'] 48)).setCell ⟨p, 6, none⟩ (.func (.func 108) #[] #[.pointer (some ⟨bx, 0, none⟩)])).cell? ⟨p, 7, none⟩ = some (.bool A.touched) := hs1.cell 7 rfl
  have g7 := hs1.free 7
  have hs2 := hs1.store (i := 7) (.bool false)
  have hss := @run_store_fn Try.prog
  go_wp2_with fail
  try rw [hbx]
  go_wp2_with fail
  go_end0
  refine ⟨rfl, ?_⟩
  have h3 := (hs2.p9.p9).cast (show _ = slc 3 1 a' l.length c' (l.map ival) * (pt bx (.cells #[.slice a' l.length c'] 48) * (row p 90 (((heapCells pb mb A qa qc ba bc fa fc fv).setIfInBounds 6 (.func (.func 108) #[] #[.pointer (some ⟨bx, 0, none⟩)])).setIfInBounds 7 (.bool false)) * (poolR pb A.T * (mapR (.int .i64) (Value.int .i64) mb (omap O) * (objsR O * (slc 3 1 qa A.queue.length qc (A.queue.map ival) * (slc 3 1 ba A.buf.length bc (A.buf.map ival) * (slc 135 2 fa A.fins.length fc (finCells A.fins) * (slc 3 1 a l.length c (l.map ival) * F))))))))) by ac_rfl)
  have fin : ∀ (wF : World) (m' : Hp) (X : HP), Knows m' X → watchOK m' (.func (.func 108) #[] #[.pointer (some ⟨bx, 0, none⟩)]) l → Sat w0 wF (X * (row p 90 (((heapCells pb mb A qa qc ba bc fa fc fv).setIfInBounds 6 (.func (.func 108) #[] #[.pointer (some ⟨bx, 0, none⟩)])).setIfInBounds 7 (.bool false)) * (poolR pb A.T * (mapR (.int .i64) (Value.int .i64) mb (omap O) * (objsR O * (slc 3 1 qa A.queue.length qc (A.queue.map ival) * (slc 3 1 ba A.buf.length bc (A.buf.map ival) * (slc 135 2 fa A.fins.length fc (finCells A.fins) * (slc 3 1 a l.length c (l.map ival) * F))))))))) →
      ∃ m' X, Knows m' X ∧ Sat w0 wF (heapR m' p { A with watch := l, touched := false } * (X * (slc 3 1 a l.length c (l.map ival) * F))) := fun wF m' X hK hw hs => by
    have op1 : Opened w0 wF m' p { A with watch := l, touched := false } (X * (slc 3 1 a l.length c (l.map ival) * F)) pb mb O qa qc ba bc fa fc (.func (.func 108) #[] #[.pointer (some ⟨bx, 0, none⟩)]) := ⟨op.ho, op.ht, hw, hs.cast (by unfold heapCells; ac_rfl)⟩
    exact ⟨m', X, hK, op1.shut⟩
  rcases h3.openSlc.2 with ⟨rfl, e1, rfl, h4⟩ | ⟨g, off, cur, rfl, e2, e3', e4, e5, h4⟩
  · have el : l = [] := List.eq_nil_of_length_eq_zero e1
    subst el
    exact fin _ _ _ (Knows.pt bx _) (.inr (.inr ⟨bx, 0, 0, 0, #[], rfl, .inl ⟨rfl, by simp⟩⟩)) h4
  · refine fin _ _ _ (Knows.pt2 (b := bx) (c := g)) (.inr (.inr ⟨bx, g, off, c', cur, rfl, .inr ⟨by simp, ?_, ?_, e2, e3', hn⟩⟩)) ((h4.p2).unassoc)
    · have hne : g ≠ bx := h4.ne
      simp [hne]
    · rw [Nat.mul_one] at e5; exact e5
theorem heap_Fins_nil (w : World) : Calls Try.prog 40 #[.pointer none] w fun e w' => e = .returned (.slice none 0 0) ∧ w = w' := by
  go_enter Try.func40, Try.ntmps40
  go_wp2
  go_ret
  exact ⟨rfl, rfl⟩
set_option maxHeartbeats 1000000 in
theorem heap_Fins {w0 w : World} {m : Hp} {p : Nat} {A : AHeap} {F : HP} (h : Sat w0 w (heapR m p A * F)) (hq : A.fins.length ≤ 1000000000) :
    Calls Try.prog 40 #[.pointer (some ⟨p, 0, none⟩)] w fun e w' => ∃ a c, e = .returned (.slice a A.fins.length c) ∧ Sat w0 w' (slc 3 1 a A.fins.length c ((A.fins.map (·.1)).map ival) * (heapR m p A * F)) := by
  obtain ⟨pb, mb, O, qa, qc, ba, bc, fa, fc, fv, op⟩ := h.openHeap
  have c4 : w.cell? ⟨p, 4, none⟩ = some (.slice fa A.fins.length fc) := op.hs.cell 4 rfl
  have hcap := op.hs.p7.slcCap
  have h0 := op.hs.p7.nilSlc (T := 3) (sz := 1)
  go_enter Try.func40, Try.ntmps40
  go_wp2
  go_loopw [3, 13] (fun ov iv wr => ∃ (k : Nat) (a : Option Addr) (c : Nat), iv = .int .i64 k ∧ k ≤ A.fins.length ∧ ov = .slice a k c ∧ Sat w0 wr (slc 3 1 a k c (((A.fins.map (·.1)).take k).map ival) * (slc 135 2 fa A.fins.length fc (finCells A.fins) * (row p 90 (heapCells pb mb A qa qc ba bc fa fc fv) * (poolR pb A.T * (mapR (.int .i64) (Value.int .i64) mb (omap O) * (objsR O * (slc 3 1 qa A.queue.length qc (A.queue.map ival) * (slc 3 1 ba A.buf.length bc (A.buf.map ival) * F))))))))) (fun _ iv _ => A.fins.length - (intOf iv).toNat)
  case atStart => exact ⟨0, none, 0, rfl, by omega, rfl, h0⟩
  case round =>
    obtain ⟨k, a, c, rfl, hk, rfl, hs⟩ := hrel
    by_cases hlt : k < A.fins.length
    · obtain ⟨x, hx⟩ : ∃ x, A.fins[k]? = some x := ⟨A.fins[k]'(by omega), List.getElem?_eq_getElem _⟩
      obtain ⟨g, off, rfl, x0, x1, _, _⟩ := finAt hs.p2 hx
      obtain ⟨y, z⟩ := x
      have h1 := (hs.alloc (.cells #[.int .i64 y, .int .i64 z] 135)).alloc (.cells #[.int .i64 y] 3)
      rw [size_alloc] at h1
      have b0 : ((wr.alloc (.cells #[.int .i64 y, .int .i64 z] 135)).alloc (.cells #[.int .i64 y] 3)).cell? ⟨wr.heap.size + 1, 0, none⟩ = some (.int .i64 y) := Sat.cell (T := 3) (cs := #[.int .i64 y]) h1 0 rfl
      have htk : (A.fins.map (·.1)).take (k + 1) = (A.fins.map (·.1)).take k ++ [y] := by rw [List.take_add_one, List.getElem?_map, hx]; rfl
      have HTK := Lib.hid htk
      clear hx htk
      go_wp2_with (at_builtin; refine wpList_push rfl _ _ rfl a k c ((A.fins.map (·.1)).take k) rfl h1.p3 (wr.heap.size + 1) 1 y rfl b0 (by omega) ?_; intro a' c' w4 h4)
      go_roundw
      case rel =>
        refine ⟨k + 1, a', c', by go_num, by omega, rfl, ?_⟩
        rw [HTK.out]
        exact (h4.p3.drop.p2.drop)
      case measure => simp [intOf]; omega
    · obtain rfl : k = A.fins.length := by omega
      go_wp2
      go_ret
      refine ⟨a, c, rfl, ?_⟩
      rw [List.take_of_length_le (by simp)] at hs
      have op1 : Opened w0 wr m p A (slc 3 1 a A.fins.length c ((A.fins.map (·.1)).map ival) * F) pb mb O qa qc ba bc fa fc fv := ⟨op.ho, op.ht, op.hw, hs.cast (by ac_rfl)⟩
      exact op1.shut.p2
end Go.Proofs.Ytkpcngcegipalaa.Tw
namespace Go.Proofs.Ytkpcngcegipalaa.Tw
set_option linter.unusedVariables false
set_option linter.unusedSimpArgs false
open Go Go.RowKit Go.MapKept

theorem Sat.slcTailN {w0 w : World} {F : HP} {T : TypeId} {g off n c sz : Nat} {x xs : List Value} (h : Sat w0 w (slc T sz (some ⟨g, off, none⟩) (n + 1) c (x ++ xs) * F)) (hx : x.length = sz) : Sat w0 w (slc T sz (some ⟨g, if c = 1 then off else off + sz, none⟩) n (c - 1) xs * F) := by
  rcases h.openSlc with ⟨hl, ⟨e, _⟩ | ⟨g', off', cur, e, e2, e3, e4, e5, e6⟩⟩
  · cases e
  · cases e
    rw [List.length_append, hx] at hl
    have hm : (n + 1) * sz = n * sz + sz := by rw [Nat.add_mul, Nat.one_mul]
    rw [hm] at hl e5
    have hlx : xs.length = n * sz := by omega
    by_cases hc : c = 1
    · rw [if_pos hc]
      have : n = 0 := by omega
      subst this
      have : xs = [] := List.eq_nil_of_length_eq_zero (by rw [hlx]; simp)
      subst this
      subst hc
      exact Sat.shutSlc e6 (by omega) (by omega) (by simp; omega) (by simp)
    · rw [if_neg hc]
      obtain ⟨d, rfl⟩ : ∃ d, c = d + 1 := ⟨c - 1, by omega⟩
      have hd : (d + 1) * sz = d * sz + sz := by rw [Nat.add_mul, Nat.one_mul]
      rw [hd] at e4
      refine Sat.shutSlc e6 (by omega) (by omega) (by simp; omega) ?_
      have := congrArg (List.drop sz) e5
      rw [List.drop_take, List.drop_drop, ← hx, List.drop_left, hx] at this
      rw [Nat.add_sub_cancel] at this
      exact this
section
variable {P : Program} {w : World} {R : Ending → World → Prop} {a : Act}
theorem results_cell_tmp2 {fn : Func} {p u v : Tmp} {ty : TypeId} (h : fn.results = #[.cell p ty, .tmp u, .tmp v]) (tmps : Array Value) (P : Program) (w : World) :
    (results fn tmps).run P w = ((asAddr (tmps.getD p undef)).run P w).andThen fun a w₁ => ((loadVar ty a).run P w₁).andThen fun x w₂ => .ok (.tuple #[x, tmps.getD u undef, tmps.getD v undef]) w₂ := by
  simp only [results, h]
  simp [Sem.run_bind, Result.andThen]
theorem bodyPost_cell_tmp2 {fn : Func} {v x y : Value} {p u u' : Tmp} {ty : TypeId} {ad : Addr}
    (h : fn.results = #[.cell p ty, .tmp u, .tmp u']) (ha : a.tmps.getD p undef = .pointer (some ad)) (hu : a.tmps.getD u undef = x) (hu' : a.tmps.getD u' undef = y) (hl : (loadVar ty ad).run P w = .ok v w) (hd : a.defers = []) (hR : R (.returned (.tuple #[v, x, y])) w) : bodyPost P fn R .ret a w := by
  refine bodyPost_ret ?_ hd hR
  rw [results_cell_tmp2 h, ha, hu, hu']
  simp only [asAddr, Sem.run_pure, Result.andThen_ok, hl]
end
theorem val2' {w0 w : World} {b : Nat} {k n : Int} {F : HP} (h : Sat w0 w (pt b (.cells #[.int .i64 k, .int .i64 n] 28) * F)) : w.cell? ⟨b, 0, none⟩ = some (.int .i64 k) ∧ w.cell? ⟨b, 1, none⟩ = some (.int .i64 n) ∧ w.frozen? ⟨b, 0, none⟩ = false ∧ w.frozen? ⟨b, 1, none⟩ = false :=
  ⟨Sat.cell (T := 28) (cs := #[.int .i64 k, .int .i64 n]) h 0 rfl, Sat.cell (T := 28) (cs := #[.int .i64 k, .int .i64 n]) h 1 rfl, Sat.free (T := 28) (cs := #[.int .i64 k, .int .i64 n]) h 0, Sat.free (T := 28) (cs := #[.int .i64 k, .int .i64 n]) h 1⟩
/-- a value's box, written -/
theorem Sat.setVal {w0 w : World} {b : Nat} {k n : Int} {F : HP} (h : Sat w0 w (pt b (.cells #[.int .i64 k, .int .i64 n] 28) * F)) (k' n' : Int) :
    Sat w0 ((w.setCell ⟨b, 0, none⟩ (.int .i64 k')).setCell ⟨b, 1, none⟩ (.int .i64 n')) (pt b (.cells #[.int .i64 k', .int .i64 n'] 28) * F) :=
  (Sat.store (T := 28) (cs := #[.int .i64 k, .int .i64 n]) h (i := 0) (.int .i64 k')).store (i := 1) (.int .i64 n')

theorem heap_NextFin_nil (w : World) {w0 : World} {F : HP} (h : Sat w0 w F) : Calls Try.prog 42 #[.pointer none] w fun e w' => e = .returned (.tuple #[.agg #[.int .i64 0, .int .i64 0], .int .i64 0, .bool false]) ∧ Sat w0 w' F := by
  have h1 := h.alloc (.cells #[.int .i64 0, .int .i64 0] 28)
  go_enter Try.func42, Try.ntmps42
  go_wp2
  refine bodyPost_cell_tmp2 rfl rfl rfl rfl (load_val h1) rfl ⟨rfl, h1.drop⟩
theorem heap_NextFin_no {w0 w : World} {m : Hp} {p : Nat} {A : AHeap} {F : HP} (h : Sat w0 w (heapR m p A * F)) (hf : A.fins = []) : Calls Try.prog 42 #[.pointer (some ⟨p, 0, none⟩)] w fun e w' => e = .returned (.tuple #[.agg #[.int .i64 0, .int .i64 0], .int .i64 0, .bool false]) ∧ Sat w0 w' (heapR m p A * F) := by
  have h1 := h.alloc (.cells #[.int .i64 0, .int .i64 0] 28)
  obtain ⟨pb, mb, O, qa, qc, ba, bc, fa, fc, fv, op⟩ := h1.p2.openHeap
  have c4 : (w.alloc (.cells #[.int .i64 0, .int .i64 0] 28)).cell? ⟨p, 4, none⟩ = some (.slice fa A.fins.length fc) := op.hs.cell 4 rfl
  rw [hf] at c4
  simp only [List.length_nil] at c4
  clear hf
  go_enter Try.func42, Try.ntmps42
  go_wp2
  refine bodyPost_cell_tmp2 rfl rfl rfl rfl (load_val h1) rfl ⟨rfl, h1.drop⟩
set_option maxRecDepth 100000 in
set_option maxHeartbeats 2000000 in
theorem heap_NextFin {w0 w : World} {m : Hp} {p : Nat} {A : AHeap} {F : HP} (h : Sat w0 w (heapR m p A * F)) {x : Int × Int} {q : List (Int × Int)} {o : AObj} (hf : A.fins = x :: q) (ho : A.objs x.1 = some o) (hn : A.fins.length ≤ 1000000000) : Calls Try.prog 42 #[.pointer (some ⟨p, 0, none⟩)] w fun e w' => e = .returned (.tuple #[.agg #[.int .i64 o.kind, .int .i64 x.1], .int .i64 x.2, .bool true]) ∧ Sat w0 w' (heapR m p { A with fins := q } * F) := by
  obtain ⟨n, k⟩ := x
  have h1 := h.alloc (.cells #[.int .i64 0, .int .i64 0] 28)
  obtain ⟨pb, mb, O, qa, qc, ba, bc, fa, fc, fv, op⟩ := h1.p2.openHeap
  have hlen : A.fins.length = q.length + 1 := by rw [hf]; rfl
  obtain ⟨g, off, rfl, x0, x1, _, _⟩ := finAt op.hs.p7 (k := 0) (by rw [hf]; rfl)
  have hcap := op.hs.p7.slcCap
  rw [hlen] at hcap hn
  simp only [Nat.zero_mul, Nat.add_zero] at x0 x1
  have c4 : (w.alloc (.cells #[.int .i64 0, .int .i64 0] 28)).cell? ⟨p, 4, none⟩ = some (.slice (some ⟨g, off, none⟩) (q.length + 1) fc) := by rw [← hlen]; exact op.hs.cell 4 rfl
  have h2 := op.alloc (.cells #[.int .i64 n, .int .i64 k] 135)
  rw [size_alloc] at h2
  have hs2 := h2.hs.p7
  have eF : finCells A.fins = [.int .i64 n, .int .i64 k] ++ finCells q := by rw [hf]; rfl
  rw [eF, hlen] at hs2
  have hs3 := (hs2.slcTailN rfl).p2
  obtain ⟨off', hoff⟩ : ∃ off', (if fc = 1 then off else off + 2) = off' := ⟨_, rfl⟩
  rw [hoff] at hs3
  have hl1 : ((q.length : Int) + 1 == 0) = false := by simp; omega
  have hl2 : 0 < q.length + 1 := by omega
  generalize hr : w.heap.size = rb at *
  have c4a : ((w.alloc (.cells #[.int .i64 0, .int .i64 0] 28)).alloc (.cells #[.int .i64 n, .int .i64 k] 135)).cell? ⟨p, 4, none⟩ = some (.slice (some ⟨g, off, none⟩) (q.length + 1) fc) := by rw [← hlen]; exact h2.hs.cell 4 rfl
  have f4 := h2.hs.free 4
  have op3 := h2.fins rfl (hs3.store (i := 4) (.slice (some ⟨g, off', none⟩) q.length (fc - 1)))
  have hrun : (Instr.sliceAt 87 (.slice (some ⟨g, off, none⟩) (q.length + 1) fc) (some (.int .i64 1)) none none).run Try.prog ((w.alloc (.cells #[.int .i64 0, .int .i64 0] 28)).alloc (.cells #[.int .i64 n, .int .i64 k] 135)) = .ok (.slice (some ⟨g, off', none⟩) q.length (fc - 1)) ((w.alloc (.cells #[.int .i64 0, .int .i64 0] 28)).alloc (.cells #[.int .i64 n, .int .i64 k] 135)) := by
    have := run_tail1 (P := Try.prog) ((w.alloc (.cells #[.int .i64 0, .int .i64 0] 28)).alloc (.cells #[.int .i64 n, .int .i64 k] 135)) 87 135 Try.underlying87 2 (fun w => by kernel_rfl) g off q.length fc hcap.1
    rw [hoff] at this
    simpa [Instr.sliceAt] using this
  clear hs3 hs2 eF hf hlen hoff h1
  go_enter Try.func42, Try.ntmps42
  go_wp2_with fail
  generalize hw3 : World.setCell _ ⟨p, 4, none⟩ (.slice (some ⟨g, off', none⟩) q.length (fc - 1)) = w3 at *
  obtain ⟨b, l, r, eO, _, e3⟩ := op3.obj (o := o) ho
  obtain ⟨_, _, _, hG⟩ := op3.objCells eO
  have d0 : w3.cell? ⟨b, 0, none⟩ = some (.int .i64 o.kind) := hG.cell 0 rfl
  have d1 : w3.cell? ⟨p, 1, none⟩ = some (.map (some mb)) := op3.hs.cell 1 rfl
  have y0 : w3.cell? ⟨rb + 1, 0, none⟩ = some (.int .i64 n) := Sat.cell (T := 135) (cs := #[.int .i64 n, .int .i64 k]) op3.front 0 rfl
  have y1 : w3.cell? ⟨rb + 1, 1, none⟩ = some (.int .i64 k) := Sat.cell (T := 135) (cs := #[.int .i64 n, .int .i64 k]) op3.front 1 rfl
  have hl := op3.drew.look n
  rw [e3] at hl
  have hv : Sat w0 w3 (pt rb (.cells #[.int .i64 0, .int .i64 0] 28) * _) := op3.unframe.front
  have ⟨v0, v1, vf0, vf1⟩ := val2' hv
  have hv2 := (hv.setVal o.kind n).drew
  clear hG eO e3
  go_region
  go_wp2_with fail
  refine bodyPost_cell_tmp2 rfl rfl rfl rfl (load_val hv2) rfl ⟨rfl, ?_⟩
  exact (op3.unframe.unframe.to hv2.drop).shut

/-- object n put back, turned -/
theorem Opened.putTurned {w0 w w' : World} {m : Hp} {p : Nat} {A : AHeap} {F G : HP} {pb mb : Nat} {O : List (Int × Nat × AObj)} {qa : Option Addr} {qc : Nat} {ba : Option Addr} {bc : Nat} {fa : Option Addr} {fc : Nat} {fv : Value} (h : Opened w0 w m p A F pb mb O qa qc ba bc fa fc fv) {l r : List (Int × Nat × AObj)} {n : Int} {b : Nat} {o : AObj} (o' : AObj) (e : O = l ++ (n, b, o) :: r) (hl : oget l n = none) {a : Option Addr} {c : Nat}
    (hs : Sat w0 w' (row b 39 #[.int .i64 o'.kind, .int .i64 o'.count, .slice a o'.slots.length c, .string o'.text, .int .i64 o'.mark] * (slc 28 2 a o'.slots.length c (avcells o'.slots) * restR p A G pb mb O qa qc ba bc fa fc fv l r))) :
    Opened w0 w' m p (A.upd n o') G pb mb (l ++ (n, b, o') :: r) qa qc ba bc fa fc fv := by
  have h2 := hs.shutObj
  refine ⟨?_, ?_, h.hw, ?_⟩
  · intro k
    rw [oget_set (o := o) hl, ← e]
    show _ = if k = n then some o' else A.objs k
    split
    · rfl
    · exact h.ho k
  · intro k
    show (if k = n then some o' else A.objs k).isSome = tk A.T k
    have := h.ht k
    split
    · rename_i ek
      subst ek
      rw [← this]
      have h2 := h.ho k
      rw [e, oget_set (o := o) hl] at h2
      simp at h2
      rw [← h2]; rfl
    · exact this
  · unfold restR at h2
    rw [← mul_assoc, ← objsR_split l r (n, b, o'), e] at h2
    rw [omap_set l r n b o o']
    exact h2.cast (sD _ _ _ _ _ _ _ _).symm
def pushB (A : AHeap) (o : AObj) (v : AVal) : Bool := !decide (o.kind = 5) && thereV A v
def AHeap.push (A : AHeap) (n : Int) (o : AObj) (v : AVal) : AHeap := (A.upd n { o with slots := o.slots ++ [v] }).touch n
theorem heap_Push_nil (w : World) (n : Int) (v : AVal) {w0 : World} {F : HP} (h : Sat w0 w F) :
    Calls Try.prog 33 #[.pointer none, .int .i64 n, .agg #[.int .i64 v.kind, .int .i64 v.n]] w fun e w' => e = .returned (.int .i64 1) ∧ Sat w0 w' F := by
  have h1 := (h.alloc (.cells #[.int .i64 v.kind, .int .i64 v.n] 28)).drop
  go_enter Try.func33, Try.ntmps33
  go_wp2_with fail
  refine (heap_find_nil _ n).mono ?_
  rintro e w' ⟨rfl, rfl⟩
  go_wp2_with fail
  go_ret
  exact ⟨rfl, h1⟩
theorem heap_Push_none {w0 w : World} {m : Hp} {p : Nat} {A : AHeap} {F : HP} (h : Sat w0 w (heapR m p A * F)) (n : Int) (v : AVal) (ho : A.objs n = none) :
    Calls Try.prog 33 #[.pointer (some ⟨p, 0, none⟩), .int .i64 n, .agg #[.int .i64 v.kind, .int .i64 v.n]] w fun e w' => e = .returned (.int .i64 5) ∧ Sat w0 w' (heapR m p A * F) := by
  have h1 := (h.alloc (.cells #[.int .i64 v.kind, .int .i64 v.n] 28)).drop
  have HF := Lib.hid (heap_find_no h1 n ho)
  clear ho
  go_enter Try.func33, Try.ntmps33
  go_wp2_with fail
  refine HF.out.mono ?_
  rintro e w' ⟨rfl, rfl⟩
  go_wp2_with fail
  go_ret
  exact ⟨rfl, h1⟩
set_option maxHeartbeats 1000000 in
theorem heap_Push_no {w0 w : World} {m : Hp} {p : Nat} {A : AHeap} {F : HP} (h : Sat w0 w (heapR m p A * F)) (n : Int) (v : AVal) {o : AObj} (ho : A.objs n = some o) (hno : pushB A o v = false) :
    Calls Try.prog 33 #[.pointer (some ⟨p, 0, none⟩), .int .i64 n, .agg #[.int .i64 v.kind, .int .i64 v.n]] w fun e w' => e = .returned (.int .i64 2) ∧ Sat w0 w' (heapR m p A * F) := by
  obtain ⟨k, x⟩ := v
  obtain ⟨pb, mb, O, qa, qc, ba, bc, fa, fc, fv, op0⟩ := h.openHeap
  have op := op0.alloc (.cells #[.int .i64 k, .int .i64 x] 28)
  generalize hbx : w.heap.size = bx at *
  have hx := op.box2
  have d0 := hx.1
  have d1 := hx.2
  obtain ⟨b, l, r, eO, hl, e3⟩ := op.obj ho
  have HF := Lib.hid (heap_find op e3)
  obtain ⟨sa, sc, G, hG⟩ := op.objCells eO
  have c0 : (w.alloc (.cells #[.int .i64 k, .int .i64 x] 28)).cell? ⟨b, 0, none⟩ = some (.int .i64 o.kind) := hG.cell 0 rfl
  have hT := heap_there op ⟨k, x⟩
  clear hx ho eO e3 hG
  by_cases hk : o.kind = 5
  · have hk' : (o.kind == 5) = true := by simpa using hk
    clear hno hk hT
    go_enter Try.func33, Try.ntmps33
    try rw [hbx]
    go_wp2_with fail
    refine HF.out.mono ?_
    rintro e w' ⟨rfl, rfl⟩
    go_wp2_with fail
    go_ret
    exact ⟨rfl, op.unframe.shut⟩
  · have hk' : (o.kind == 5) = false := by simpa using hk
    have ht : thereV A ⟨k, x⟩ = false := by unfold pushB at hno; simpa [hk] using hno
    rw [ht] at hT
    have HT := Lib.hid hT
    clear hno hk hT ht
    go_enter Try.func33, Try.ntmps33
    try rw [hbx]
    go_wp2_with fail
    refine HF.out.mono ?_
    rintro e w' ⟨rfl, rfl⟩
    go_wp2_with fail
    refine HT.out.mono ?_
    rintro e w' ⟨rfl, op1⟩
    go_wp2_with fail
    go_ret
    exact ⟨rfl, op1.unframe.shut⟩
set_option maxRecDepth 100000 in
set_option maxHeartbeats 2000000 in
theorem heap_Push {w0 w : World} {m : Hp} {p : Nat} {A : AHeap} {F : HP} (h : Sat w0 w (heapR m p A * F)) (K : Knows m F) (n : Int) (v : AVal) {o : AObj} (ho : A.objs n = some o) (hyes : pushB A o v = true) (hn : o.slots.length ≤ 1000000000) :
    Calls Try.prog 33 #[.pointer (some ⟨p, 0, none⟩), .int .i64 n, .agg #[.int .i64 v.kind, .int .i64 v.n]] w fun e w' => e = .returned (.int .i64 0) ∧ Sat w0 w' (heapR m p (A.push n o v) * F) := by
  obtain ⟨k, x⟩ := v
  obtain ⟨pb, mb, O, qa, qc, ba, bc, fa, fc, fv, op0⟩ := h.openHeap
  have op := op0.alloc (.cells #[.int .i64 k, .int .i64 x] 28)
  generalize hbx : w.heap.size = bx at *
  have hx := op.box2
  have d0 := hx.1
  have d1 := hx.2
  obtain ⟨b, l, r, eO, hl, e3⟩ := op.obj ho
  have HF := Lib.hid (heap_find op e3)
  obtain ⟨sa0, sc0, G, hG⟩ := op.objCells eO
  have c0 : (w.alloc (.cells #[.int .i64 k, .int .i64 x] 28)).cell? ⟨b, 0, none⟩ = some (.int .i64 o.kind) := hG.cell 0 rfl
  have hT := heap_there op ⟨k, x⟩
  unfold pushB at hyes
  simp only [Bool.and_eq_true, Bool.not_eq_true', decide_eq_false_iff_not] at hyes
  obtain ⟨hk, ht⟩ := hyes
  have hk' : (o.kind == 5) = false := by simpa using hk
  rw [ht] at hT
  have HT := Lib.hid hT
  have HO := Lib.hid eO
  clear hx ho eO e3 hG hk hT ht
  go_enter Try.func33, Try.ntmps33
  try rw [hbx]
  go_wp2_with fail
  refine HF.out.mono ?_
  rintro e w' ⟨rfl, rfl⟩
  go_wp2_with fail
  refine HT.out.mono ?_
  rintro e w1 ⟨rfl, op1⟩
  obtain ⟨sa, sc, hT1⟩ := op1.takeObj HO.out
  have hx := op1.box2
  have e0 := hx.1
  have e1 := hx.2
  have c2 : w1.cell? ⟨b, 2, none⟩ = some (.slice sa o.slots.length sc) := hT1.cell 2 rfl
  have ha := hT1.alloc (.cells #[.int .i64 k, .int .i64 x] 28)
  have ⟨b0, b1⟩ := val2' ha
  have c2a : (w1.alloc (.cells #[.int .i64 k, .int .i64 x] 28)).cell? ⟨b, 2, none⟩ = some (.slice sa o.slots.length sc) := ha.p2.cell 2 rfl
  clear hx
  go_wp2_with fail
  go_region_law
    ((refine step_of rfl (wp_pushVal _ _ rfl sa o.slots.length sc o.slots (by simp [Act.eval, Act.put]) ha.drew.p3 w1.heap.size 1 ⟨k, x⟩ (by simp [Act.eval, Act.put]) b0 b1.1 hn ?_); intro a' c' w4 h4; have f2 := h4.p3.free 2; have q24 : w4.cell? ⟨b, 2, none⟩ = some (.slice sa o.slots.length sc) := h4.p3.cell 2 rfl))
  all_goals
    have h5 := (h4.p3.store (i := 2) (.slice a' (o.slots.length + 1) c')).p3.drop
    have op5 := op1.putTurned { o with slots := o.slots ++ [⟨k, x⟩] } HO.out hl (a := a') (c := c') (by simpa using h5)
    have HT := Lib.hid (heap_touch op5 K.left n)
    go_wp2_with fail
    refine HT.out.mono ?_
    rintro e w6 ⟨rfl, op6⟩
    go_wp2_with fail
    go_ret
    exact ⟨rfl, op6.unframe.shut⟩
end Go.Proofs.Ytkpcngcegipalaa.Tw
