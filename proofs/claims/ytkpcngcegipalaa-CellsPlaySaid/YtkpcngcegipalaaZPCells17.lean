/- The heap of cells: NextFin, Push, At, Pop. No condition. -/
import Derived.Test.YtkpcngcegipalaaZPCells16
namespace Go.Proofs.Ytkpcngcegipalaa.Tw
set_option linter.unusedVariables false
set_option linter.unusedSimpArgs false
open Go Go.RowKit Go.MapKept

theorem Sat.slcTailN {w0 w : World} {F : HP} {T : TypeId} {g off n c sz : Nat} {x xs : List Value} (h : Sat w0 w (slc T sz (some ⟨g, off, none⟩) (n + 1) c (x ++ xs) * F)) (hx : x.length = sz) : Sat w0 w (slc T sz (some ⟨g, if c = 1 then off else off + sz, none⟩) n (c - 1) xs * F) := by
  rcases h.openSlc with ⟨hl, ⟨e, _⟩ | ⟨g', off', cur, e, e2, e3, e4, e5, e6⟩⟩
  · cases e
  · cases e
    rw [List.length_append, hx] at hl
    have hm : (n + 1) * sz = n * sz + sz := by rw [Nat.add_mul, Nat.one_mul]
    rw [hm] at hl e5
    have hlx : xs.length = n * sz := by omega
    by_cases hc : c = 1
    · rw [if_pos hc]
      have : n = 0 := by omega
      subst this
      have : xs = [] := List.eq_nil_of_length_eq_zero (by rw [hlx]; simp)
      subst this
      subst hc
      exact Sat.shutSlc e6 (by omega) (by omega) (by simp; omega) (by simp)
    · rw [if_neg hc]
      obtain ⟨d, rfl⟩ : ∃ d, c = d + 1 := ⟨c - 1, by omega⟩
      have hd : (d + 1) * sz = d * sz + sz := by rw [Nat.add_mul, Nat.one_mul]
      rw [hd] at e4
      refine Sat.shutSlc e6 (by omega) (by omega) (by simp; omega) ?_
      have := congrArg (List.drop sz) e5
      rw [List.drop_take, List.drop_drop, ← hx, List.drop_left, hx] at this
      rw [Nat.add_sub_cancel] at this
      exact this
section
variable {P : Program} {w : World} {R : Ending → World → Prop} {a : Act}
theorem results_cell_tmp2 {fn : Func} {p u v : Tmp} {ty : TypeId} (h : fn.results = #[.cell p ty, .tmp u, .tmp v]) (tmps : Array Value) (P : Program) (w : World) :
    (results fn tmps).run P w = ((asAddr (tmps.getD p undef)).run P w).andThen fun a w₁ => ((loadVar ty a).run P w₁).andThen fun x w₂ => .ok (.tuple #[x, tmps.getD u undef, tmps.getD v undef]) w₂ := by
  simp only [results, h]
  simp [Sem.run_bind, Result.andThen]
theorem bodyPost_cell_tmp2 {fn : Func} {v x y : Value} {p u u' : Tmp} {ty : TypeId} {ad : Addr}
    (h : fn.results = #[.cell p ty, .tmp u, .tmp u']) (ha : a.tmps.getD p undef = .pointer (some ad)) (hu : a.tmps.getD u undef = x) (hu' : a.tmps.getD u' undef = y) (hl : (loadVar ty ad).run P w = .ok v w) (hd : a.defers = []) (hR : R (.returned (.tuple #[v, x, y])) w) : bodyPost P fn R .ret a w := by
  refine bodyPost_ret ?_ hd hR
  rw [results_cell_tmp2 h, ha, hu, hu']
  simp only [asAddr, Sem.run_pure, Result.andThen_ok, hl]
end
theorem val2' {w0 w : World} {b : Nat} {k n : Int} {F : HP} (h : Sat w0 w (pt b (.cells #[.int .i64 k, .int .i64 n] 28) * F)) : w.cell? ⟨b, 0, none⟩ = some (.int .i64 k) ∧ w.cell? ⟨b, 1, none⟩ = some (.int .i64 n) ∧ w.frozen? ⟨b, 0, none⟩ = false ∧ w.frozen? ⟨b, 1, none⟩ = false :=
  ⟨Sat.cell (T := 28) (cs := #[.int .i64 k, .int .i64 n]) h 0 rfl, Sat.cell (T := 28) (cs := #[.int .i64 k, .int .i64 n]) h 1 rfl, Sat.free (T := 28) (cs := #[.int .i64 k, .int .i64 n]) h 0, Sat.free (T := 28) (cs := #[.int .i64 k, .int .i64 n]) h 1⟩
/-- a value's box, written -/
theorem Sat.setVal {w0 w : World} {b : Nat} {k n : Int} {F : HP} (h : Sat w0 w (pt b (.cells #[.int .i64 k, .int .i64 n] 28) * F)) (k' n' : Int) :
    Sat w0 ((w.setCell ⟨b, 0, none⟩ (.int .i64 k')).setCell ⟨b, 1, none⟩ (.int .i64 n')) (pt b (.cells #[.int .i64 k', .int .i64 n'] 28) * F) :=
  (Sat.store (T := 28) (cs := #[.int .i64 k, .int .i64 n]) h (i := 0) (.int .i64 k')).store (i := 1) (.int .i64 n')

theorem heap_NextFin_nil (w : World) {w0 : World} {F : HP} (h : Sat w0 w F) : Calls Try.prog 42 #[.pointer none] w fun e w' => e = .returned (.tuple #[.agg #[.int .i64 0, .int .i64 0], .int .i64 0, .bool false]) ∧ Sat w0 w' F := by
  have h1 := h.alloc (.cells #[.int .i64 0, .int .i64 0] 28)
  go_enter Try.func42, Try.ntmps42
  go_wp2
  refine bodyPost_cell_tmp2 rfl rfl rfl rfl (load_val h1) rfl ⟨rfl, h1.drop⟩
theorem heap_NextFin_no {w0 w : World} {m : Hp} {p : Nat} {A : AHeap} {F : HP} (h : Sat w0 w (heapR m p A * F)) (hf : A.fins = []) : Calls Try.prog 42 #[.pointer (some ⟨p, 0, none⟩)] w fun e w' => e = .returned (.tuple #[.agg #[.int .i64 0, .int .i64 0], .int .i64 0, .bool false]) ∧ Sat w0 w' (heapR m p A * F) := by
  have h1 := h.alloc (.cells #[.int .i64 0, .int .i64 0] 28)
  obtain ⟨pb, mb, O, qa, qc, ba, bc, fa, fc, fv, op⟩ := h1.p2.openHeap
  have c4 : (w.alloc (.cells #[.int .i64 0, .int .i64 0] 28)).cell? ⟨p, 4, none⟩ = some (.slice fa A.fins.length fc) := op.hs.cell 4 rfl
  rw [hf] at c4
  simp only [List.length_nil] at c4
  clear hf
  go_enter Try.func42, Try.ntmps42
  go_wp2
  refine bodyPost_cell_tmp2 rfl rfl rfl rfl (load_val h1) rfl ⟨rfl, h1.drop⟩
set_option maxRecDepth 100000 in
set_option maxHeartbeats 2000000 in
theorem heap_NextFin {w0 w : World} {m : Hp} {p : Nat} {A : AHeap} {F : HP} (h : Sat w0 w (heapR m p A * F)) {x : Int × Int} {q : List (Int × Int)} {o : AObj} (hf : A.fins = x :: q) (ho : A.objs x.1 = some o) (hn : A.fins.length ≤ 1000000000) : Calls Try.prog 42 #[.pointer (some ⟨p, 0, none⟩)] w fun e w' => e = .returned (.tuple #[.agg #[.int .i64 o.kind, .int .i64 x.1], .int .i64 x.2, .bool true]) ∧ Sat w0 w' (heapR m p { A with fins := q } * F) := by
  obtain ⟨n, k⟩ := x
  have h1 := h.alloc (.cells #[.int .i64 0, .int .i64 0] 28)
  obtain ⟨pb, mb, O, qa, qc, ba, bc, fa, fc, fv, op⟩ := h1.p2.openHeap
  have hlen : A.fins.length = q.length + 1 := by rw [hf]; rfl
  obtain ⟨g, off, rfl, x0, x1, _, _⟩ := finAt op.hs.p7 (k := 0) (by rw [hf]; rfl)
  have hcap := op.hs.p7.slcCap
  rw [hlen] at hcap hn
  simp only [Nat.zero_mul, Nat.add_zero] at x0 x1
  have c4 : (w.alloc (.cells #[.int .i64 0, .int .i64 0] 28)).cell? ⟨p, 4, none⟩ = some (.slice (some ⟨g, off, none⟩) (q.length + 1) fc) := by rw [← hlen]; exact op.hs.cell 4 rfl
  have h2 := op.alloc (.cells #[.int .i64 n, .int .i64 k] 135)
  rw [size_alloc] at h2
  have hs2 := h2.hs.p7
  have eF : finCells A.fins = [.int .i64 n, .int .i64 k] ++ finCells q := by rw [hf]; rfl
  rw [eF, hlen] at hs2
  have hs3 := (hs2.slcTailN rfl).p2
  obtain ⟨off', hoff⟩ : ∃ off', (if fc = 1 then off else off + 2) = off' := ⟨_, rfl⟩
  rw [hoff] at hs3
  have hl1 : ((q.length : Int) + 1 == 0) = false := by simp; omega
  have hl2 : 0 < q.length + 1 := by omega
  generalize hr : w.heap.size = rb at *
  have c4a : ((w.alloc (.cells #[.int .i64 0, .int .i64 0] 28)).alloc (.cells #[.int .i64 n, .int .i64 k] 135)).cell? ⟨p, 4, none⟩ = some (.slice (some ⟨g, off, none⟩) (q.length + 1) fc) := by rw [← hlen]; exact h2.hs.cell 4 rfl
  have f4 := h2.hs.free 4
  have op3 := h2.fins rfl (hs3.store (i := 4) (.slice (some ⟨g, off', none⟩) q.length (fc - 1)))
  have hrun : (Instr.sliceAt 87 (.slice (some ⟨g, off, none⟩) (q.length + 1) fc) (some (.int .i64 1)) none none).run Try.prog ((w.alloc (.cells #[.int .i64 0, .int .i64 0] 28)).alloc (.cells #[.int .i64 n, .int .i64 k] 135)) = .ok (.slice (some ⟨g, off', none⟩) q.length (fc - 1)) ((w.alloc (.cells #[.int .i64 0, .int .i64 0] 28)).alloc (.cells #[.int .i64 n, .int .i64 k] 135)) := by
    have := run_tail1 (P := Try.prog) ((w.alloc (.cells #[.int .i64 0, .int .i64 0] 28)).alloc (.cells #[.int .i64 n, .int .i64 k] 135)) 87 135 Try.underlying87 2 (fun w => by kernel_rfl) g off q.length fc hcap.1
    rw [hoff] at this
    simpa [Instr.sliceAt] using this
  clear hs3 hs2 eF hf hlen hoff h1
  go_enter Try.func42, Try.ntmps42
  go_wp2_with fail
  generalize hw3 : World.setCell _ ⟨p, 4, none⟩ (.slice (some ⟨g, off', none⟩) q.length (fc - 1)) = w3 at *
  obtain ⟨b, l, r, eO, _, e3⟩ := op3.obj (o := o) ho
  obtain ⟨_, _, _, hG⟩ := op3.objCells eO
  have d0 : w3.cell? ⟨b, 0, none⟩ = some (.int .i64 o.kind) := hG.cell 0 rfl
  have d1 : w3.cell? ⟨p, 1, none⟩ = some (.map (some mb)) := op3.hs.cell 1 rfl
  have y0 : w3.cell? ⟨rb + 1, 0, none⟩ = some (.int .i64 n) := Sat.cell (T := 135) (cs := #[.int .i64 n, .int .i64 k]) op3.front 0 rfl
  have y1 : w3.cell? ⟨rb + 1, 1, none⟩ = some (.int .i64 k) := Sat.cell (T := 135) (cs := #[.int .i64 n, .int .i64 k]) op3.front 1 rfl
  have hl := op3.drew.look n
  rw [e3] at hl
  have hv : Sat w0 w3 (pt rb (.cells #[.int .i64 0, .int .i64 0] 28) * _) := op3.unframe.front
  have ⟨v0, v1, vf0, vf1⟩ := val2' hv
  have hv2 := (hv.setVal o.kind n).drew
  clear hG eO e3
  go_region
  go_wp2_with fail
  refine bodyPost_cell_tmp2 rfl rfl rfl rfl (load_val hv2) rfl ⟨rfl, ?_⟩
  exact (op3.unframe.unframe.to hv2.drop).shut

/-- object n put back, turned -/
theorem Opened.putTurned {w0 w w' : World} {m : Hp} {p : Nat} {A : AHeap} {F G : HP} {pb mb : Nat} {O : List (Int × Nat × AObj)} {qa : Option Addr} {qc : Nat} {ba : Option Addr} {bc : Nat} {fa : Option Addr} {fc : Nat} {fv : Value} (h : Opened w0 w m p A F pb mb O qa qc ba bc fa fc fv) {l r : List (Int × Nat × AObj)} {n : Int} {b : Nat} {o : AObj} (o' : AObj) (e : O = l ++ (n, b, o) :: r) (hl : oget l n = none) {a : Option Addr} {c : Nat}
    (hs : Sat w0 w' (row b 39 #[.int .i64 o'.kind, .int .i64 o'.count, .slice a o'.slots.length c, .string o'.text, .int .i64 o'.mark] * (slc 28 2 a o'.slots.length c (avcells o'.slots) * restR p A G pb mb O qa qc ba bc fa fc fv l r))) :
    Opened w0 w' m p (A.upd n o') G pb mb (l ++ (n, b, o') :: r) qa qc ba bc fa fc fv := by
  have h2 := hs.shutObj
  refine ⟨?_, ?_, h.hw, ?_⟩
  · intro k
    rw [oget_set (o := o) hl, ← e]
    show _ = if k = n then some o' else A.objs k
    split
    · rfl
    · exact h.ho k
  · intro k
    show (if k = n then some o' else A.objs k).isSome = tk A.T k
    have := h.ht k
    split
    · rename_i ek
      subst ek
      rw [← this]
      have h2 := h.ho k
      rw [e, oget_set (o := o) hl] at h2
      simp at h2
      rw [← h2]; rfl
    · exact this
  · unfold restR at h2
    rw [← mul_assoc, ← objsR_split l r (n, b, o'), e] at h2
    rw [omap_set l r n b o o']
    exact h2.cast (sD _ _ _ _ _ _ _ _).symm
def pushB (A : AHeap) (o : AObj) (v : AVal) : Bool := !decide (o.kind = 5) && thereV A v
def AHeap.push (A : AHeap) (n : Int) (o : AObj) (v : AVal) : AHeap := (A.upd n { o with slots := o.slots ++ [v] }).touch n
theorem heap_Push_nil (w : World) (n : Int) (v : AVal) {w0 : World} {F : HP} (h : Sat w0 w F) :
    Calls Try.prog 33 #[.pointer none, .int .i64 n, .agg #[.int .i64 v.kind, .int .i64 v.n]] w fun e w' => e = .returned (.int .i64 1) ∧ Sat w0 w' F := by
  have h1 := (h.alloc (.cells #[.int .i64 v.kind, .int .i64 v.n] 28)).drop
  go_enter Try.func33, Try.ntmps33
  go_wp2_with fail
  refine (heap_find_nil _ n).mono ?_
  rintro e w' ⟨rfl, rfl⟩
  go_wp2_with fail
  go_ret
  exact ⟨rfl, h1⟩
theorem heap_Push_none {w0 w : World} {m : Hp} {p : Nat} {A : AHeap} {F : HP} (h : Sat w0 w (heapR m p A * F)) (n : Int) (v : AVal) (ho : A.objs n = none) :
    Calls Try.prog 33 #[.pointer (some ⟨p, 0, none⟩), .int .i64 n, .agg #[.int .i64 v.kind, .int .i64 v.n]] w fun e w' => e = .returned (.int .i64 5) ∧ Sat w0 w' (heapR m p A * F) := by
  have h1 := (h.alloc (.cells #[.int .i64 v.kind, .int .i64 v.n] 28)).drop
  have HF := Lib.hid (heap_find_no h1 n ho)
  clear ho
  go_enter Try.func33, Try.ntmps33
  go_wp2_with fail
  refine HF.out.mono ?_
  rintro e w' ⟨rfl, rfl⟩
  go_wp2_with fail
  go_ret
  exact ⟨rfl, h1⟩
set_option maxHeartbeats 1000000 in
theorem heap_Push_no {w0 w : World} {m : Hp} {p : Nat} {A : AHeap} {F : HP} (h : Sat w0 w (heapR m p A * F)) (n : Int) (v : AVal) {o : AObj} (ho : A.objs n = some o) (hno : pushB A o v = false) :
    Calls Try.prog 33 #[.pointer (some ⟨p, 0, none⟩), .int .i64 n, .agg #[.int .i64 v.kind, .int .i64 v.n]] w fun e w' => e = .returned (.int .i64 2) ∧ Sat w0 w' (heapR m p A * F) := by
  obtain ⟨k, x⟩ := v
  obtain ⟨pb, mb, O, qa, qc, ba, bc, fa, fc, fv, op0⟩ := h.openHeap
  have op := op0.alloc (.cells #[.int .i64 k, .int .i64 x] 28)
  generalize hbx : w.heap.size = bx at *
  have hx := op.box2
  have d0 := hx.1
  have d1 := hx.2
  obtain ⟨b, l, r, eO, hl, e3⟩ := op.obj ho
  have HF := Lib.hid (heap_find op e3)
  obtain ⟨sa, sc, G, hG⟩ := op.objCells eO
  have c0 : (w.alloc (.cells #[.int .i64 k, .int .i64 x] 28)).cell? ⟨b, 0, none⟩ = some (.int .i64 o.kind) := hG.cell 0 rfl
  have hT := heap_there op ⟨k, x⟩
  clear hx ho eO e3 hG
  by_cases hk : o.kind = 5
  · have hk' : (o.kind == 5) = true := by simpa using hk
    clear hno hk hT
    go_enter Try.func33, Try.ntmps33
    try rw [hbx]
    go_wp2_with fail
    refine HF.out.mono ?_
    rintro e w' ⟨rfl, rfl⟩
    go_wp2_with fail
    go_ret
    exact ⟨rfl, op.unframe.shut⟩
  · have hk' : (o.kind == 5) = false := by simpa using hk
    have ht : thereV A ⟨k, x⟩ = false := by unfold pushB at hno; simpa [hk] using hno
    rw [ht] at hT
    have HT := Lib.hid hT
    clear hno hk hT ht
    go_enter Try.func33, Try.ntmps33
    try rw [hbx]
    go_wp2_with fail
    refine HF.out.mono ?_
    rintro e w' ⟨rfl, rfl⟩
    go_wp2_with fail
    refine HT.out.mono ?_
    rintro e w' ⟨rfl, op1⟩
    go_wp2_with fail
    go_ret
    exact ⟨rfl, op1.unframe.shut⟩
set_option maxRecDepth 100000 in
set_option maxHeartbeats 2000000 in
theorem heap_Push {w0 w : World} {m : Hp} {p : Nat} {A : AHeap} {F : HP} (h : Sat w0 w (heapR m p A * F)) (K : Knows m F) (n : Int) (v : AVal) {o : AObj} (ho : A.objs n = some o) (hyes : pushB A o v = true) (hn : o.slots.length ≤ 1000000000) :
    Calls Try.prog 33 #[.pointer (some ⟨p, 0, none⟩), .int .i64 n, .agg #[.int .i64 v.kind, .int .i64 v.n]] w fun e w' => e = .returned (.int .i64 0) ∧ Sat w0 w' (heapR m p (A.push n o v) * F) := by
  obtain ⟨k, x⟩ := v
  obtain ⟨pb, mb, O, qa, qc, ba, bc, fa, fc, fv, op0⟩ := h.openHeap
  have op := op0.alloc (.cells #[.int .i64 k, .int .i64 x] 28)
  generalize hbx : w.heap.size = bx at *
  have hx := op.box2
  have d0 := hx.1
  have d1 := hx.2
  obtain ⟨b, l, r, eO, hl, e3⟩ := op.obj ho
  have HF := Lib.hid (heap_find op e3)
  obtain ⟨sa0, sc0, G, hG⟩ := op.objCells eO
  have c0 : (w.alloc (.cells #[.int .i64 k, .int .i64 x] 28)).cell? ⟨b, 0, none⟩ = some (.int .i64 o.kind) := hG.cell 0 rfl
  have hT := heap_there op ⟨k, x⟩
  unfold pushB at hyes
  simp only [Bool.and_eq_true, Bool.not_eq_true', decide_eq_false_iff_not] at hyes
  obtain ⟨hk, ht⟩ := hyes
  have hk' : (o.kind == 5) = false := by simpa using hk
  rw [ht] at hT
  have HT := Lib.hid hT
  have HO := Lib.hid eO
  clear hx ho eO e3 hG hk hT ht
  go_enter Try.func33, Try.ntmps33
  try rw [hbx]
  go_wp2_with fail
  refine HF.out.mono ?_
  rintro e w' ⟨rfl, rfl⟩
  go_wp2_with fail
  refine HT.out.mono ?_
  rintro e w1 ⟨rfl, op1⟩
  obtain ⟨sa, sc, hT1⟩ := op1.takeObj HO.out
  have hx := op1.box2
  have e0 := hx.1
  have e1 := hx.2
  have c2 : w1.cell? ⟨b, 2, none⟩ = some (.slice sa o.slots.length sc) := hT1.cell 2 rfl
  have ha := hT1.alloc (.cells #[.int .i64 k, .int .i64 x] 28)
  have ⟨b0, b1⟩ := val2' ha
  have c2a : (w1.alloc (.cells #[.int .i64 k, .int .i64 x] 28)).cell? ⟨b, 2, none⟩ = some (.slice sa o.slots.length sc) := ha.p2.cell 2 rfl
  clear hx
  go_wp2_with fail
  go_region_law
    ((refine step_of rfl (wp_pushVal _ _ rfl sa o.slots.length sc o.slots (by simp [Act.eval, Act.put]) ha.drew.p3 w1.heap.size 1 ⟨k, x⟩ (by simp [Act.eval, Act.put]) b0 b1.1 hn ?_); intro a' c' w4 h4; have f2 := h4.p3.free 2; have q24 : w4.cell? ⟨b, 2, none⟩ = some (.slice sa o.slots.length sc) := h4.p3.cell 2 rfl))
  all_goals
    have h5 := (h4.p3.store (i := 2) (.slice a' (o.slots.length + 1) c')).p3.drop
    have op5 := op1.putTurned { o with slots := o.slots ++ [⟨k, x⟩] } HO.out hl (a := a') (c := c') (by simpa using h5)
    have HT := Lib.hid (heap_touch op5 K.left n)
    go_wp2_with fail
    refine HT.out.mono ?_
    rintro e w6 ⟨rfl, op6⟩
    go_wp2_with fail
    go_ret
    exact ⟨rfl, op6.unframe.shut⟩
end Go.Proofs.Ytkpcngcegipalaa.Tw
