/- The heap of cells: NextFin, Push, At, Pop. No condition. -/
import Derived.Test.YtkpcngcegipalaaZPIn10
namespace Go.Proofs.Ytkpcngcegipalaa.Tw
set_option linter.unusedVariables false
set_option linter.unusedSimpArgs false
open Go Go.RowKit Go.MapKept

theorem Sat.slcTailN {w0 w : World} {F : HP} {T : TypeId} {g off n c sz : Nat} {x xs : List Value} (h : Sat w0 w (slc T sz (some ⟨g, off, none⟩) (n + 1) c (x ++ xs) * F)) (hx : x.length = sz) : Sat w0 w (slc T sz (some ⟨g, if c = 1 then off else off + sz, none⟩) n (c - 1) xs * F) := by
  rcases h.openSlc with ⟨hl, ⟨e, _⟩ | ⟨g', off', cur, e, e2, e3, e4, e5, e6⟩⟩
  · cases e
  · cases e
    rw [List.length_append, hx] at hl
    have hm : (n + 1) * sz = n * sz + sz := by rw [Nat.add_mul, Nat.one_mul]
    rw [hm] at hl e5
    have hlx : xs.length = n * sz := by omega
    by_cases hc : c = 1
    · rw [if_pos hc]
      have : n = 0 := by omega
      subst this
      have : xs = [] := List.eq_nil_of_length_eq_zero (by rw [hlx]; simp)
      subst this
      subst hc
      exact Sat.shutSlc e6 (by omega) (by omega) (by simp; omega) (by simp)
    · rw [if_neg hc]
      obtain ⟨d, rfl⟩ : ∃ d, c = d + 1 := ⟨c - 1, by omega⟩
      have hd : (d + 1) * sz = d * sz + sz := by rw [Nat.add_mul, Nat.one_mul]
      rw [hd] at e4
      refine Sat.shutSlc e6 (by omega) (by omega) (by simp; omega) ?_
      have := congrArg (List.drop sz) e5
      rw [List.drop_take, List.drop_drop, ← hx, List.drop_left, hx] at this
      rw [Nat.add_sub_cancel] at this
      exact this
section
variable {P : Program} {w : World} {R : Ending → World → Prop} {a : Act}
theorem results_cell_tmp2 {fn : Func} {p u v : Tmp} {ty : TypeId} (h : fn.results = #[.cell p ty, .tmp u, .tmp v]) (tmps : Array Value) (P : Program) (w : World) :
    (results fn tmps).run P w = ((asAddr (tmps.getD p undef)).run P w).andThen fun a w₁ => ((loadVar ty a).run P w₁).andThen fun x w₂ => .ok (.tuple #[x, tmps.getD u undef, tmps.getD v undef]) w₂ := by
  simp only [results, h]
  simp [Sem.run_bind, Result.andThen]
theorem bodyPost_cell_tmp2 {fn : Func} {v x y : Value} {p u u' : Tmp} {ty : TypeId} {ad : Addr}
    (h : fn.results = #[.cell p ty, .tmp u, .tmp u']) (ha : a.tmps.getD p undef = .pointer (some ad)) (hu : a.tmps.getD u undef = x) (hu' : a.tmps.getD u' undef = y) (hl : (loadVar ty ad).run P w = .ok v w) (hd : a.defers = []) (hR : R (.returned (.tuple #[v, x, y])) w) : bodyPost P fn R .ret a w := by
  refine bodyPost_ret ?_ hd hR
  rw [results_cell_tmp2 h, ha, hu, hu']
  simp only [asAddr, Sem.run_pure, Result.andThen_ok, hl]
end
theorem val2' {w0 w : World} {b : Nat} {k n : Int} {F : HP} (h : Sat w0 w (pt b (.cells #[.int .i64 k, .int .i64 n] 28) * F)) : w.cell? ⟨b, 0, none⟩ = some (.int .i64 k) ∧ w.cell? ⟨b, 1, none⟩ = some (.int .i64 n) ∧ w.frozen? ⟨b, 0, none⟩ = false ∧ w.frozen? ⟨b, 1, none⟩ = false :=
  ⟨Sat.cell (T := 28) (cs := #[.int .i64 k, .int .i64 n]) h 0 rfl, Sat.cell (T := 28) (cs := #[.int .i64 k, .int .i64 n]) h 1 rfl, Sat.free (T := 28) (cs := #[.int .i64 k, .int .i64 n]) h 0, Sat.free (T := 28) (cs := #[.int .i64 k, .int .i64 n]) h 1⟩
/-- a value's box, written -/
theorem Sat.setVal {w0 w : World} {b : Nat} {k n : Int} {F : HP} (h : Sat w0 w (pt b (.cells #[.int .i64 k, .int .i64 n] 28) * F)) (k' n' : Int) :
    Sat w0 ((w.setCell ⟨b, 0, none⟩ (.int .i64 k')).setCell ⟨b, 1, none⟩ (.int .i64 n')) (pt b (.cells #[.int .i64 k', .int .i64 n'] 28) * F) :=
  (Sat.store (T := 28) (cs := #[.int .i64 k, .int .i64 n]) h (i := 0) (.int .i64 k')).store (i := 1) (.int .i64 n')

theorem heap_NextFin_nil (w : World) {w0 : World} {F : HP} (h : Sat w0 w F) : Calls Try.prog 42 #[.pointer none] w fun e w' => e = .returned (.tuple #[.agg #[.int .i64 0, .int .i64 0], .int .i64 0, .bool false]) ∧ Sat w0 w' F := by
  have h1 := h.alloc (.cells #[.int .i64 0, .int .i64 0] 28)
  go_enter Try.func42, Try.ntmps42
  go_wp2
  refine bodyPost_cell_tmp2 rfl rfl rfl rfl (load_val h1) rfl ⟨rfl, h1.drop⟩
theorem heap_NextFin_no {w0 w : World} {m : Hp} {p : Nat} {A : AHeap} {F : HP} (h : Sat w0 w (heapR m p A * F)) (hf : A.fins = []) : Calls Try.prog 42 #[.pointer (some ⟨p, 0, none⟩)] w fun e w' => e = .returned (.tuple #[.agg #[.int .i64 0, .int .i64 0], .int .i64 0, .bool false]) ∧ Sat w0 w' (heapR m p A * F) := by
  have h1 := h.alloc (.cells #[.int .i64 0, .int .i64 0] 28)
  obtain ⟨pb, mb, O, qa, qc, ba, bc, fa, fc, fv, op⟩ := h1.p2.openHeap
  have c4 : (w.alloc (.cells #[.int .i64 0, .int .i64 0] 28)).cell? ⟨p, 4, none⟩ = some (.slice fa A.fins.length fc) := op.hs.cell 4 rfl
  rw [hf] at c4
  simp only [List.length_nil] at c4
  clear hf
  go_enter Try.func42, Try.ntmps42
  go_wp2
  refine bodyPost_cell_tmp2 rfl rfl rfl rfl (load_val h1) rfl ⟨rfl, h1.drop⟩
set_option maxRecDepth 100000 in
set_option maxHeartbeats 2000000 in
theorem heap_NextFin {w0 w : World} {m : Hp} {p : Nat} {A : AHeap} {F : HP} (h : Sat w0 w (heapR m p A * F)) {x : Int × Int} {q : List (Int × Int)} {o : AObj} (hf : A.fins = x :: q) (ho : A.objs x.1 = some o) (hn : A.fins.length ≤ 1000000000) : Calls Try.prog 42 #[.pointer (some ⟨p, 0, none⟩)] w fun e w' => e = .returned (.tuple #[.agg #[.int .i64 o.kind, .int .i64 x.1], .int .i64 x.2, .bool true]) ∧ Sat w0 w' (heapR m p { A with fins := q } * F) := by
  obtain ⟨n, k⟩ := x
  have h1 := h.alloc (.cells #[.int .i64 0, .int .i64 0] 28)
  obtain ⟨pb, mb, O, qa, qc, ba, bc, fa, fc, fv, op⟩ := h1.p2.openHeap
  have hlen : A.fins.length = q.length + 1 := by rw [hf]; rfl
  obtain ⟨g, off, rfl, x0, x1, _, _⟩ := finAt op.hs.p7 (k := 0) (by rw [hf]; rfl)
  have hcap := op.hs.p7.slcCap
  rw [hlen] at hcap hn
  simp only [Nat.zero_mul, Nat.add_zero] at x0 x1
  have c4 : (w.alloc (.cells #[.int .i64 0, .int .i64 0] 28)).cell? ⟨p, 4, none⟩ = some (.slice (some ⟨g, off, none⟩) (q.length + 1) fc) := by rw [← hlen]; exact op.hs.cell 4 rfl
  have h2 := op.alloc (.cells #[.int .i64 n, .int .i64 k] 135)
  rw [size_alloc] at h2
  have hs2 := h2.hs.p7
  have eF : finCells A.fins = [.int .i64 n, .int .i64 k] ++ finCells q := by rw [hf]; rfl
  rw [eF, hlen] at hs2
  have hs3 := (hs2.slcTailN rfl).p2
  obtain ⟨off', hoff⟩ : ∃ off', (if fc = 1 then off else off + 2) = off' := ⟨_, rfl⟩
  rw [hoff] at hs3
  have hl1 : ((q.length : Int) + 1 == 0) = false := by simp; omega
  have hl2 : 0 < q.length + 1 := by omega
  generalize hr : w.heap.size = rb at *
  have c4a : ((w.alloc (.cells #[.int .i64 0, .int .i64 0] 28)).alloc (.cells #[.int .i64 n, .int .i64 k] 135)).cell? ⟨p, 4, none⟩ = some (.slice (some ⟨g, off, none⟩) (q.length + 1) fc) := by rw [← hlen]; exact h2.hs.cell 4 rfl
  have f4 := h2.hs.free 4
  have op3 := h2.fins rfl (hs3.store (i := 4) (.slice (some ⟨g, off', none⟩) q.length (fc - 1)))
  have hrun : (Instr.sliceAt 87 (.slice (some ⟨g, off, none⟩) (q.length + 1) fc) (some (.int .i64 1)) none none).run Try.prog ((w.alloc (.cells #[.int .i64 0, .int .i64 0] 28)).alloc (.cells #[.int .i64 n, .int .i64 k] 135)) = .ok (.slice (some ⟨g, off', none⟩) q.length (fc - 1)) ((w.alloc (.cells #[.int .i64 0, .int .i64 0] 28)).alloc (.cells #[.int .i64 n, .int .i64 k] 135)) := by
    have := run_tail1 (P := Try.prog) ((w.alloc (.cells #[.int .i64 0, .int .i64 0] 28)).alloc (.cells #[.int .i64 n, .int .i64 k] 135)) 87 135 Try.underlying87 2 (fun w => by kernel_rfl) g off q.length fc hcap.1
    rw [hoff] at this
    simpa [Instr.sliceAt] using this
  clear hs3 hs2 eF hf hlen hoff h1
  go_enter Try.func42, Try.ntmps42
  go_wp2_with fail
  generalize hw3 : World.setCell _ ⟨p, 4, none⟩ (.slice (some ⟨g, off', none⟩) q.length (fc - 1)) = w3 at *
  obtain ⟨b, l, r, eO, _, e3⟩ := op3.obj (o := o) ho
  obtain ⟨_, _, _, hG⟩ := op3.objCells eO
  have d0 : w3.cell? ⟨b, 0, none⟩ = some (.int .i64 o.kind) := hG.cell 0 rfl
  have d1 : w3.cell? ⟨p, 1, none⟩ = some (.map (some mb)) := op3.hs.cell 1 rfl
  have y0 : w3.cell? ⟨rb + 1, 0, none⟩ = some (.int .i64 n) := Sat.cell (T := 135) (cs := #[.int .i64 n, .int .i64 k]) op3.front 0 rfl
  have y1 : w3.cell? ⟨rb + 1, 1, none⟩ = some (.int .i64 k) := Sat.cell (T := 135) (cs := #[.int .i64 n, .int .i64 k]) op3.front 1 rfl
  have hl := op3.drew.look n
  rw [e3] at hl
  have hv : Sat w0 w3 (pt rb (.cells #[.int .i64 0, .int .i64 0] 28) * _) := op3.unframe.front
  have ⟨v0, v1, vf0, vf1⟩ := val2' hv
  have hv2 := (hv.setVal o.kind n).drew
  clear hG eO e3
  go_region
  go_wp2_with fail
  refine bodyPost_cell_tmp2 rfl rfl rfl rfl (load_val hv2) rfl ⟨rfl, ?_⟩
  exact (op3.unframe.unframe.to hv2.drop).shut

/-- object n put back, turned -/
theorem Opened.putTurned {w0 w w' : World} {m : Hp} {p : Nat} {A : AHeap} {F G : HP} {pb mb : Nat} {O : List (Int × Nat × AObj)} {qa : Option Addr} {qc : Nat} {ba : Option Addr} {bc : Nat} {fa : Option Addr} {fc : Nat} {fv : Value} (h : Opened w0 w m p A F pb mb O qa qc ba bc fa fc fv) {l r : List (Int × Nat × AObj)} {n : Int} {b : Nat} {o : AObj} (o' : AObj) (e : O = l ++ (n, b, o) :: r) (hl : oget l n = none) {a : Option Addr} {c : Nat}
    (hs : Sat w0 w' (row b 39 #[.int .i64 o'.kind, .int .i64 o'.count, .slice a o'.slots.length c, .string o'.text, .int .i64 o'.mark] * (slc 28 2 a o'.slots.length c (avcells o'.slots) * restR p A G pb mb O qa qc ba bc fa fc fv l r))) :
    Opened w0 w' m p (A.upd n o') G pb mb (l ++ (n, b, o') :: r) qa qc ba bc fa fc fv := by
  have h2 := hs.shutObj
  refine ⟨?_, ?_, h.hw, ?_⟩
  · intro k
    rw [oget_set (o := o) hl, ← e]
    show _ = if k = n then some o' else A.objs k
    split
    · rfl
    · exact h.ho k
  · intro k
    show (if k = n then some o' else A.objs k).isSome = tk A.T k
    have := h.ht k
    split
    · rename_i ek
      subst ek
      rw [← this]
      have h2 := h.ho k
      rw [e, oget_set (o := o) hl] at h2
      simp at h2
      rw [← h2]; rfl
    · exact this
  · unfold restR at h2
    rw [← mul_assoc, ← objsR_split l r (n, b, o'), e] at h2
    rw [omap_set l r n b o o']
    exact h2.cast (sD _ _ _ _ _ _ _ _).symm
def pushB (A : AHeap) (o : AObj) (v : AVal) : Bool := !decide (o.kind = 5) && thereV A v
def AHeap.push (A : AHeap) (n : Int) (o : AObj) (v : AVal) : AHeap := (A.upd n { o with slots := o.slots ++ [v] }).touch n
theorem heap_Push_nil (w : World) (n : Int) (v : AVal) {w0 : World} {F : HP} (h : Sat w0 w F) :
    Calls Try.prog 33 #[.pointer none, .int .i64 n, .agg #[.int .i64 v.kind, .int .i64 v.n]] w fun e w' => e = .returned (.int .i64 1) ∧ Sat w0 w' F := by
  have h1 := (h.alloc (.cells #[.int .i64 v.kind, .int .i64 v.n] 28)).drop
  go_enter Try.func33, Try.ntmps33
  go_wp2_with fail
  refine (heap_find_nil _ n).mono ?_
  rintro e w' ⟨rfl, rfl⟩
  go_wp2_with fail
  go_ret
  exact ⟨rfl, h1⟩
theorem heap_Push_none {w0 w : World} {m : Hp} {p : Nat} {A : AHeap} {F : HP} (h : Sat w0 w (heapR m p A * F)) (n : Int) (v : AVal) (ho : A.objs n = none) :
    Calls Try.prog 33 #[.pointer (some ⟨p, 0, none⟩), .int .i64 n, .agg #[.int .i64 v.kind, .int .i64 v.n]] w fun e w' => e = .returned (.int .i64 5) ∧ Sat w0 w' (heapR m p A * F) := by
  have h1 := (h.alloc (.cells #[.int .i64 v.kind, .int .i64 v.n] 28)).drop
  have HF := Lib.hid (heap_find_no h1 n ho)
  clear ho
  go_enter Try.func33, Try.ntmps33
  go_wp2_with fail
  refine HF.out.mono ?_
  rintro e w' ⟨rfl, rfl⟩
  go_wp2_with fail
  go_ret
  exact ⟨rfl, h1⟩
set_option maxHeartbeats 1000000 in
theorem heap_Push_no {w0 w : World} {m : Hp} {p : Nat} {A : AHeap} {F : HP} (h : Sat w0 w (heapR m p A * F)) (n : Int) (v : AVal) {o : AObj} (ho : A.objs n = some o) (hno : pushB A o v = false) :
    Calls Try.prog 33 #[.pointer (some ⟨p, 0, none⟩), .int .i64 n, .agg #[.int .i64 v.kind, .int .i64 v.n]] w fun e w' => e = .returned (.int .i64 2) ∧ Sat w0 w' (heapR m p A * F) := by
  obtain ⟨k, x⟩ := v
  obtain ⟨pb, mb, O, qa, qc, ba, bc, fa, fc, fv, op0⟩ := h.openHeap
  have op := op0.alloc (.cells #[.int .i64 k, .int .i64 x] 28)
  generalize hbx : w.heap.size = bx at *
  have hx := op.box2
  have d0 := hx.1
  have d1 := hx.2
  obtain ⟨b, l, r, eO, hl, e3⟩ := op.obj ho
  have HF := Lib.hid (heap_find op e3)
  obtain ⟨sa, sc, G, hG⟩ := op.objCells eO
  have c0 : (w.alloc (.cells #[.int .i64 k, .int .i64 x] 28)).cell? ⟨b, 0, none⟩ = some (.int .i64 o.kind) := hG.cell 0 rfl
  have hT := heap_there op ⟨k, x⟩
  clear hx ho eO e3 hG
  by_cases hk : o.kind = 5
  · have hk' : (o.kind == 5) = true := by simpa using hk
    clear hno hk hT
    go_enter Try.func33, Try.ntmps33
    try rw [hbx]
    go_wp2_with fail
    refine HF.out.mono ?_
    rintro e w' ⟨rfl, rfl⟩
    go_wp2_with fail
    go_ret
    exact ⟨rfl, op.unframe.shut⟩
  · have hk' : (o.kind == 5) = false := by simpa using hk
    have ht : thereV A ⟨k, x⟩ = false := by unfold pushB at hno; simpa [hk] using hno
    rw [ht] at hT
    have HT := Lib.hid hT
    clear hno hk hT ht
    go_enter Try.func33, Try.ntmps33
    try rw [hbx]
    go_wp2_with fail
    refine HF.out.mono ?_
    rintro e w' ⟨rfl, rfl⟩
    go_wp2_with fail
    refine HT.out.mono ?_
    rintro e w' ⟨rfl, op1⟩
    go_wp2_with fail
    go_ret
    exact ⟨rfl, op1.unframe.shut⟩
set_option maxRecDepth 100000 in
set_option maxHeartbeats 2000000 in
theorem heap_Push {w0 w : World} {m : Hp} {p : Nat} {A : AHeap} {F : HP} (h : Sat w0 w (heapR m p A * F)) (K : Knows m F) (n : Int) (v : AVal) {o : AObj} (ho : A.objs n = some o) (hyes : pushB A o v = true) (hn : o.slots.length ≤ 1000000000) :
    Calls Try.prog 33 #[.pointer (some ⟨p, 0, none⟩), .int .i64 n, .agg #[.int .i64 v.kind, .int .i64 v.n]] w fun e w' => e = .returned (.int .i64 0) ∧ Sat w0 w' (heapR m p (A.push n o v) * F) := by
  obtain ⟨k, x⟩ := v
  obtain ⟨pb, mb, O, qa, qc, ba, bc, fa, fc, fv, op0⟩ := h.openHeap
  have op := op0.alloc (.cells #[.int .i64 k, .int .i64 x] 28)
  generalize hbx : w.heap.size = bx at *
  have hx := op.box2
  have d0 := hx.1
  have d1 := hx.2
  obtain ⟨b, l, r, eO, hl, e3⟩ := op.obj ho
  have HF := Lib.hid (heap_find op e3)
  obtain ⟨sa0, sc0, G, hG⟩ := op.objCells eO
  have c0 : (w.alloc (.cells #[.int .i64 k, .int .i64 x] 28)).cell? ⟨b, 0, none⟩ = some (.int .i64 o.kind) := hG.cell 0 rfl
  have hT := heap_there op ⟨k, x⟩
  unfold pushB at hyes
  simp only [Bool.and_eq_true, Bool.not_eq_true', decide_eq_false_iff_not] at hyes
  obtain ⟨hk, ht⟩ := hyes
  have hk' : (o.kind == 5) = false := by simpa using hk
  rw [ht] at hT
  have HT := Lib.hid hT
  have HO := Lib.hid eO
  clear hx ho eO e3 hG hk hT ht
  go_enter Try.func33, Try.ntmps33
  try rw [hbx]
  go_wp2_with fail
  refine HF.out.mono ?_
  rintro e w' ⟨rfl, rfl⟩
  go_wp2_with fail
  refine HT.out.mono ?_
  rintro e w1 ⟨rfl, op1⟩
  obtain ⟨sa, sc, hT1⟩ := op1.takeObj HO.out
  have hx := op1.box2
  have e0 := hx.1
  have e1 := hx.2
  have c2 : w1.cell? ⟨b, 2, none⟩ = some (.slice sa o.slots.length sc) := hT1.cell 2 rfl
  have ha := hT1.alloc (.cells #[.int .i64 k, .int .i64 x] 28)
  have ⟨b0, b1⟩ := val2' ha
  have c2a : (w1.alloc (.cells #[.int .i64 k, .int .i64 x] 28)).cell? ⟨b, 2, none⟩ = some (.slice sa o.slots.length sc) := ha.p2.cell 2 rfl
  clear hx
  go_wp2_with fail
  go_region_law
    ((refine step_of rfl (wp_pushVal _ _ rfl sa o.slots.length sc o.slots (by simp [Act.eval, Act.put]) ha.drew.p3 w1.heap.size 1 ⟨k, x⟩ (by simp [Act.eval, Act.put]) b0 b1.1 hn ?_); intro a' c' w4 h4; have f2 := h4.p3.free 2; have q24 : w4.cell? ⟨b, 2, none⟩ = some (.slice sa o.slots.length sc) := h4.p3.cell 2 rfl))
  all_goals
    have h5 := (h4.p3.store (i := 2) (.slice a' (o.slots.length + 1) c')).p3.drop
    have op5 := op1.putTurned { o with slots := o.slots ++ [⟨k, x⟩] } HO.out hl (a := a') (c := c') (by simpa using h5)
    have HT := Lib.hid (heap_touch op5 K.left n)
    go_wp2_with fail
    refine HT.out.mono ?_
    rintro e w6 ⟨rfl, op6⟩
    go_wp2_with fail
    go_ret
    exact ⟨rfl, op6.unframe.shut⟩
end Go.Proofs.Ytkpcngcegipalaa.Tw
namespace Go.Proofs.Ytkpcngcegipalaa.Tw
set_option linter.unusedVariables false
set_option linter.unusedSimpArgs false
open Go Go.RowKit Go.MapKept

def atV (A : AHeap) (n i : Int) : Option AVal := match A.objs n with | some o => if 0 ≤ i then o.slots[i.toNat]? else none | none => none
theorem heap_At_nil (w : World) (n i : Int) {w0 : World} {F : HP} (h : Sat w0 w F) :
    Calls Try.prog 68 #[.pointer none, .int .i64 n, .int .i64 i] w fun e w' => e = .returned (.tuple #[.agg #[.int .i64 0, .int .i64 0], .int .i64 1]) ∧ Sat w0 w' F := by
  have h1 := h.alloc (.cells #[.int .i64 0, .int .i64 0] 28)
  go_enter Try.func68, Try.ntmps68
  go_wp2_with fail
  refine (heap_find_nil _ n).mono ?_
  rintro e w' ⟨rfl, rfl⟩
  go_wp2_with fail
  exact bodyPost_cell_tmp rfl rfl rfl (load_val h1) rfl ⟨rfl, h1.drop⟩
set_option maxHeartbeats 1000000 in
theorem heap_At_none {w0 w : World} {m : Hp} {p : Nat} {A : AHeap} {F : HP} (h : Sat w0 w (heapR m p A * F)) (n i : Int) (hno : atV A n i = none) (hn : ∀ o, A.objs n = some o → o.slots.length ≤ 1000000000) :
    Calls Try.prog 68 #[.pointer (some ⟨p, 0, none⟩), .int .i64 n, .int .i64 i] w fun e w' => e = .returned (.tuple #[.agg #[.int .i64 0, .int .i64 0], .int .i64 5]) ∧ Sat w0 w' (heapR m p A * F) := by
  have h1 := h.alloc (.cells #[.int .i64 0, .int .i64 0] 28)
  have ⟨v0, v1, vf0, vf1⟩ := val2' h1
  have h2 := h1.setVal 0 0
  cases ho : A.objs n with
  | none =>
    have HF := Lib.hid (heap_find_no h1.p2 n ho)
    clear ho hno hn
    go_enter Try.func68, Try.ntmps68
    go_wp2_with fail
    refine HF.out.mono ?_
    rintro e w' ⟨rfl, rfl⟩
    go_wp2_with fail
    exact bodyPost_cell_tmp rfl rfl rfl (load_val h1) rfl ⟨rfl, h1.drop⟩
  | some o =>
    have hlen := hn o ho
    obtain ⟨pb, mb, O, qa, qc, ba, bc, fa, fc, fv, op⟩ := h1.p2.openHeap
    obtain ⟨b, l, r, eO, hl, e3⟩ := op.obj ho
    have HF := Lib.hid (heap_find op e3)
    obtain ⟨sa, sc, G, hG⟩ := op.objCells eO
    have c2 : (w.alloc (.cells #[.int .i64 0, .int .i64 0] 28)).cell? ⟨b, 2, none⟩ = some (.slice sa o.slots.length sc) := hG.cell 2 rfl
    unfold atV at hno
    simp only [ho] at hno
    clear ho eO e3 hG hn
    by_cases h0 : i < 0
    · clear hno
      go_enter Try.func68, Try.ntmps68
      go_wp2_with fail
      refine HF.out.mono ?_
      rintro e w' ⟨rfl, rfl⟩
      go_wp2_with fail
      exact bodyPost_cell_tmp rfl rfl rfl (load_val h1) rfl ⟨rfl, h1.drop⟩
    · rw [if_pos (by omega)] at hno
      have hge : (o.slots.length : Int) ≤ i := by
        have := List.getElem?_eq_none_iff.1 hno
        omega
      have hge0 : 0 ≤ i := by omega
      clear hno h0
      go_enter Try.func68, Try.ntmps68
      go_wp2_with fail
      refine HF.out.mono ?_
      rintro e w' ⟨rfl, rfl⟩
      go_wp2_with fail
      exact bodyPost_cell_tmp rfl rfl rfl (load_val h1) rfl ⟨rfl, h1.drop⟩
set_option maxHeartbeats 1000000 in
theorem heap_At_op {w0 w : World} {m : Hp} {p : Nat} {A : AHeap} {F : HP} {pb mb : Nat} {O : List (Int × Nat × AObj)} {qa : Option Addr} {qc : Nat} {ba : Option Addr} {bc : Nat} {fa : Option Addr} {fc : Nat} {fv : Value} (op0 : Opened w0 w m p A F pb mb O qa qc ba bc fa fc fv) (n i : Int) {v : AVal} (hv : atV A n i = some v) (hn : ∀ o, A.objs n = some o → o.slots.length ≤ 1000000000) :
    Calls Try.prog 68 #[.pointer (some ⟨p, 0, none⟩), .int .i64 n, .int .i64 i] w fun e w' => e = .returned (.tuple #[.agg #[.int .i64 v.kind, .int .i64 v.n], .int .i64 0]) ∧ Opened w0 w' m p A F pb mb O qa qc ba bc fa fc fv := by
  have op := op0.alloc (.cells #[.int .i64 0, .int .i64 0] 28)
  have ⟨v0, v1, vf0, vf1⟩ := val2' op.front
  cases ho : A.objs n with
  | none => unfold atV at hv; rw [ho] at hv; cases hv
  | some o =>
    have hlen := hn o ho
    obtain ⟨b, l, r, eO, hl, e3⟩ := op.obj ho
    have HF := Lib.hid (heap_find op e3)
    obtain ⟨sa, sc, hG⟩ := op.takeObj eO
    unfold atV at hv
    simp only [ho] at hv
    by_cases h0 : 0 ≤ i
    · rw [if_pos h0] at hv
      obtain ⟨j, rfl⟩ : ∃ j : Nat, i = (j : Int) := ⟨i.toNat, by omega⟩
      simp only [Int.toNat_natCast] at hv
      have hj : j < o.slots.length := (List.getElem?_eq_some_iff.1 hv).1
      obtain ⟨g, off, rfl, x0, x1, _, _⟩ := valAt hG.p2 hv
      have hcap := hG.p2.slcCap
      have c2 : (w.alloc (.cells #[.int .i64 0, .int .i64 0] 28)).cell? ⟨b, 2, none⟩ = some (.slice (some ⟨g, off, none⟩) o.slots.length sc) := hG.cell 2 rfl
      have hj1 : (j : Int) < o.slots.length := by omega
      obtain ⟨vk, vn⟩ := v
      clear ho eO e3 hG hn hv
      go_enter Try.func68, Try.ntmps68
      go_wp2_with fail
      refine HF.out.mono ?_
      rintro e w' ⟨rfl, rfl⟩
      go_wp2_with fail
      have h3 := op0.alloc (.cells #[.int .i64 vk, .int .i64 vn] 28)
      exact bodyPost_cell_tmp rfl rfl rfl (load_val h3.front) rfl ⟨rfl, h3.unframe⟩
    · rw [if_neg h0] at hv; cases hv
theorem heap_At {w0 w : World} {m : Hp} {p : Nat} {A : AHeap} {F : HP} (h : Sat w0 w (heapR m p A * F)) (n i : Int) {v : AVal} (hv : atV A n i = some v) (hn : ∀ o, A.objs n = some o → o.slots.length ≤ 1000000000) :
    Calls Try.prog 68 #[.pointer (some ⟨p, 0, none⟩), .int .i64 n, .int .i64 i] w fun e w' => e = .returned (.tuple #[.agg #[.int .i64 v.kind, .int .i64 v.n], .int .i64 0]) ∧ Sat w0 w' (heapR m p A * F) := by
  obtain ⟨pb, mb, O, qa, qc, ba, bc, fa, fc, fv, op⟩ := h.openHeap
  exact (heap_At_op op n i hv hn).mono fun e w' ⟨h1, h2⟩ => ⟨h1, h2.shut⟩

theorem heap_Pop_nil (w : World) (n : Int) {w0 : World} {F : HP} (h : Sat w0 w F) :
    Calls Try.prog 61 #[.pointer none, .int .i64 n] w fun e w' => e = .returned (.tuple #[.agg #[.int .i64 0, .int .i64 0], .int .i64 1]) ∧ Sat w0 w' F := by
  have h1 := h.alloc (.cells #[.int .i64 0, .int .i64 0] 28)
  go_enter Try.func61, Try.ntmps61
  go_wp2_with fail
  refine (heap_find_nil _ n).mono ?_
  rintro e w' ⟨rfl, rfl⟩
  go_wp2_with fail
  exact bodyPost_cell_tmp rfl rfl rfl (load_val h1) rfl ⟨rfl, h1.drop⟩
set_option maxHeartbeats 1000000 in
theorem heap_Pop_none {w0 w : World} {m : Hp} {p : Nat} {A : AHeap} {F : HP} (h : Sat w0 w (heapR m p A * F)) (n : Int) (hno : ∀ o, A.objs n = some o → o.slots = []) :
    Calls Try.prog 61 #[.pointer (some ⟨p, 0, none⟩), .int .i64 n] w fun e w' => e = .returned (.tuple #[.agg #[.int .i64 0, .int .i64 0], .int .i64 5]) ∧ Sat w0 w' (heapR m p A * F) := by
  have h1 := h.alloc (.cells #[.int .i64 0, .int .i64 0] 28)
  have ⟨v0, v1, vf0, vf1⟩ := val2' h1
  cases ho : A.objs n with
  | none =>
    have HF := Lib.hid (heap_find_no h1.p2 n ho)
    clear ho hno
    go_enter Try.func61, Try.ntmps61
    go_wp2_with fail
    refine HF.out.mono ?_
    rintro e w' ⟨rfl, rfl⟩
    go_wp2_with fail
    exact bodyPost_cell_tmp rfl rfl rfl (load_val h1) rfl ⟨rfl, h1.drop⟩
  | some o =>
    have hsl := hno o ho
    have hat : atV A n (-1) = none := by unfold atV; rw [ho]; rfl
    have HAT := Lib.hid (heap_At_none h1.p2 n (-1) hat (fun o' ho' => by rw [hno o' ho']; simp))
    obtain ⟨pb, mb, O, qa, qc, ba, bc, fa, fc, fv, op⟩ := h1.p2.openHeap
    obtain ⟨b, l, r, eO, hl, e3⟩ := op.obj ho
    have HF := Lib.hid (heap_find op e3)
    obtain ⟨sa, sc, G, hG⟩ := op.objCells eO
    rw [hsl] at hG
    have c2 : (w.alloc (.cells #[.int .i64 0, .int .i64 0] 28)).cell? ⟨b, 2, none⟩ = some (.slice sa 0 sc) := hG.cell 2 rfl
    clear ho eO e3 hG hno hsl hat
    go_enter Try.func61, Try.ntmps61
    go_wp2_with fail
    refine HF.out.mono ?_
    rintro e w' ⟨rfl, rfl⟩
    go_wp2_with fail
    refine HAT.out.mono ?_
    rintro e w1 ⟨rfl, h3⟩
    have h4 := h3.alloc (.cells #[.int .i64 0, .int .i64 0] 28)
    have ⟨y0, y1, yf0, yf1⟩ := val2' h4.p3
    have h5 := h4.p3.setVal 0 0
    go_wp2_with fail
    exact bodyPost_cell_tmp rfl rfl rfl (load_val h5) rfl ⟨rfl, h5.drop.drop⟩
set_option maxRecDepth 100000 in
set_option maxHeartbeats 2000000 in
theorem heap_Pop {w0 w : World} {m : Hp} {p : Nat} {A : AHeap} {F : HP} (h : Sat w0 w (heapR m p A * F)) (K : Knows m F) (n : Int) {o : AObj} {sl : List AVal} {v : AVal} (ho : A.objs n = some o) (hsl : o.slots = sl ++ [v]) (hn : o.slots.length ≤ 1000000000) :
    Calls Try.prog 61 #[.pointer (some ⟨p, 0, none⟩), .int .i64 n] w fun e w' => e = .returned (.tuple #[.agg #[.int .i64 v.kind, .int .i64 v.n], .int .i64 0]) ∧ Sat w0 w' (heapR m p ((A.upd n { o with slots := sl }).touch n) * F) := by
  have h1 := h.alloc (.cells #[.int .i64 0, .int .i64 0] 28)
  have ⟨v0, v1, vf0, vf1⟩ := val2' h1
  have hlen : o.slots.length = sl.length + 1 := by rw [hsl]; simp
  have hat : atV A n (sl.length : Int) = some v := by unfold atV; rw [ho]; simp [hsl]
  obtain ⟨pb, mb, O, qa, qc, ba, bc, fa, fc, fv, op⟩ := h1.p2.openHeap
  have HAT := Lib.hid (heap_At_op op n sl.length hat (fun o' ho' => by rw [ho] at ho'; cases ho'; exact hn))
  obtain ⟨b, l, r, eO, hl, e3⟩ := op.obj ho
  have HF := Lib.hid (heap_find op e3)
  obtain ⟨sa, sc, G, hG⟩ := op.objCells eO
  have c2 : (w.alloc (.cells #[.int .i64 0, .int .i64 0] 28)).cell? ⟨b, 2, none⟩ = some (.slice sa o.slots.length sc) := hG.cell 2 rfl
  rw [hlen] at c2 hn
  have HO := Lib.hid eO
  have HSL := Lib.hid hsl
  have HLEN := Lib.hid hlen
  obtain ⟨vk, vn⟩ := v
  generalize hrb : w.heap.size = rb at *
  clear ho eO e3 hG hsl hat hlen
  go_enter Try.func61, Try.ntmps61
  try rw [hrb]
  go_wp2_with fail
  refine HF.out.mono ?_
  rintro e w' ⟨rfl, rfl⟩
  go_wp2_with fail
  refine HAT.out.mono ?_
  rintro e w1 ⟨rfl, op1⟩
  have op2 := op1.alloc (.cells #[.int .i64 vk, .int .i64 vn] 28)
  obtain ⟨sa1, sc1, hT1⟩ := op2.takeObj HO.out
  have hcap := hT1.p2.slcCap
  have hT2 := hT1
  rw [HLEN.out] at hT2 hcap
  have d2 : (w1.alloc (.cells #[.int .i64 vk, .int .i64 vn] 28)).cell? ⟨b, 2, none⟩ = some (.slice sa1 (sl.length + 1) sc1) := hT2.cell 2 rfl
  have fd2 := hT2.free 2
  have hs3 := hT2.p2
  rw [HSL.out, show avcells (sl ++ [⟨vk, vn⟩]) = avcells sl ++ [.int .i64 vk, .int .i64 vn] by simp [avcells, AVal.cells]] at hs3
  have hs4 := hs3.slcPop (by rw [avcells_length])
  have hs5 := hs4.p2.store (i := 2) (.slice sa1 sl.length sc1)
  have op5 := op2.putTurned { o with slots := sl } HO.out hl (a := sa1) (c := sc1) hs5
  obtain ⟨g1, off1, rfl⟩ := hs3.slcSome (by omega)
  have HT := Lib.hid (heap_touch op5 K.left.left n)
  clear hT1 hT2 hs3 hs4 hs5
  go_wp2_with fail
  refine HT.out.mono ?_
  rintro e w6 ⟨rfl, op6⟩
  have ⟨y0, y1, _, _⟩ := val2' op6.front
  have ⟨r0, r1, rf0, rf1⟩ := val2' op6.unframe.front
  have h7 := op6.unframe.front.setVal vk vn
  go_wp2_with fail
  exact bodyPost_cell_tmp rfl rfl rfl (load_val h7) rfl ⟨rfl, (op6.unframe.unframe.to h7.drop).shut⟩

def AHeap.swap (A : AHeap) (n : Int) (o : AObj) (j : Nat) (v : AVal) : AHeap := (A.upd n { o with slots := o.slots.set j v }).touch n
theorem heap_Swap_nil (w : World) (n i : Int) (v : AVal) {w0 : World} {F : HP} (h : Sat w0 w F) :
    Calls Try.prog 67 #[.pointer none, .int .i64 n, .int .i64 i, .agg #[.int .i64 v.kind, .int .i64 v.n]] w fun e w' => e = .returned (.tuple #[.agg #[.int .i64 0, .int .i64 0], .int .i64 1]) ∧ Sat w0 w' F := by
  have h1 := (h.alloc (.cells #[.int .i64 v.kind, .int .i64 v.n] 28)).drop.alloc (.cells #[.int .i64 0, .int .i64 0] 28)
  rw [size_alloc] at h1
  have HA := Lib.hid (heap_At_nil _ n i h1)
  go_enter Try.func67, Try.ntmps67
  go_wp2_with fail
  refine HA.out.mono ?_
  rintro e w1 ⟨rfl, h2⟩
  have h3 := h2.alloc (.cells #[.int .i64 0, .int .i64 0] 28)
  have ⟨r0, r1, rf0, rf1⟩ := val2' h3.p2
  have h4 := h3.p2.setVal 0 0
  go_wp2_with fail
  exact bodyPost_cell_tmp rfl rfl rfl (load_val h4) rfl ⟨rfl, h4.drop.drop⟩
theorem heap_Swap_none {w0 w : World} {m : Hp} {p : Nat} {A : AHeap} {F : HP} (h : Sat w0 w (heapR m p A * F)) (n i : Int) (v : AVal) (hno : atV A n i = none) (hn : ∀ o, A.objs n = some o → o.slots.length ≤ 1000000000) :
    Calls Try.prog 67 #[.pointer (some ⟨p, 0, none⟩), .int .i64 n, .int .i64 i, .agg #[.int .i64 v.kind, .int .i64 v.n]] w fun e w' => e = .returned (.tuple #[.agg #[.int .i64 0, .int .i64 0], .int .i64 5]) ∧ Sat w0 w' (heapR m p A * F) := by
  have h1 := (h.alloc (.cells #[.int .i64 v.kind, .int .i64 v.n] 28)).drop.alloc (.cells #[.int .i64 0, .int .i64 0] 28)
  rw [size_alloc] at h1
  have HA := Lib.hid (heap_At_none h1.p2 n i hno hn)
  clear hno hn
  go_enter Try.func67, Try.ntmps67
  go_wp2_with fail
  refine HA.out.mono ?_
  rintro e w1 ⟨rfl, h2⟩
  have h3 := h2.alloc (.cells #[.int .i64 0, .int .i64 0] 28)
  have ⟨r0, r1, rf0, rf1⟩ := val2' h3.p3
  have h4 := h3.p3.setVal 0 0
  go_wp2_with fail
  exact bodyPost_cell_tmp rfl rfl rfl (load_val h4) rfl ⟨rfl, h4.drop.drop⟩
set_option maxHeartbeats 1000000 in
theorem heap_Swap_no {w0 w : World} {m : Hp} {p : Nat} {A : AHeap} {F : HP} (h : Sat w0 w (heapR m p A * F)) (n i : Int) (v : AVal) {u : AVal} (hat : atV A n i = some u) (hn : ∀ o, A.objs n = some o → o.slots.length ≤ 1000000000) (ht : thereV A v = false) :
    Calls Try.prog 67 #[.pointer (some ⟨p, 0, none⟩), .int .i64 n, .int .i64 i, .agg #[.int .i64 v.kind, .int .i64 v.n]] w fun e w' => e = .returned (.tuple #[.agg #[.int .i64 0, .int .i64 0], .int .i64 2]) ∧ Sat w0 w' (heapR m p A * F) := by
  obtain ⟨k, x⟩ := v
  have h1 := (h.alloc (.cells #[.int .i64 k, .int .i64 x] 28)).alloc (.cells #[.int .i64 0, .int .i64 0] 28)
  rw [size_alloc] at h1
  have HA := Lib.hid (heap_At h1.p3 n i hat hn)
  obtain ⟨uk, un⟩ := u
  clear hat hn
  have HTT := Lib.hid ht
  clear ht
  go_enter Try.func67, Try.ntmps67
  go_wp2_with fail
  refine HA.out.mono ?_
  rintro e w1 ⟨rfl, h2⟩
  have h3 := h2.alloc (.cells #[.int .i64 uk, .int .i64 un] 28)
  obtain ⟨pb, mb, O, qa, qc, ba, bc, fa, fc, fv, op⟩ := h3.p2.openHeap
  have hT := heap_there op ⟨k, x⟩
  rw [HTT.out] at hT
  have HT := Lib.hid hT
  have ⟨x0, x1, _, _⟩ := val2' h3.p4
  clear hT
  go_wp2_with fail
  refine HT.out.mono ?_
  rintro e w2 ⟨rfl, op2⟩
  have h4 := op2.shut
  have ⟨r0, r1, rf0, rf1⟩ := val2' h4.p3
  have h5 := h4.p3.setVal 0 0
  go_wp2_with fail
  exact bodyPost_cell_tmp rfl rfl rfl (load_val h5) rfl ⟨rfl, (h5.drop.p2.drop.p2.drop)⟩
set_option maxRecDepth 100000 in
set_option maxHeartbeats 2000000 in
theorem heap_Swap {w0 w : World} {m : Hp} {p : Nat} {A : AHeap} {F : HP} (h : Sat w0 w (heapR m p A * F)) (K : Knows m F) (n : Int) (j : Nat) (v : AVal) {o : AObj} {u : AVal} (ho : A.objs n = some o) (hu : o.slots[j]? = some u) (hn : o.slots.length ≤ 1000000000) (ht : thereV A v = true) :
    Calls Try.prog 67 #[.pointer (some ⟨p, 0, none⟩), .int .i64 n, .int .i64 j, .agg #[.int .i64 v.kind, .int .i64 v.n]] w fun e w' => e = .returned (.tuple #[.agg #[.int .i64 u.kind, .int .i64 u.n], .int .i64 0]) ∧ Sat w0 w' (heapR m p (A.swap n o j v) * F) := by
  obtain ⟨k, x⟩ := v
  have h1 := (h.alloc (.cells #[.int .i64 k, .int .i64 x] 28)).alloc (.cells #[.int .i64 0, .int .i64 0] 28)
  rw [size_alloc] at h1
  have hat : atV A n j = some u := by unfold atV; rw [ho]; simp [hu]
  have HA := Lib.hid (heap_At h1.p3 n j hat (fun o' ho' => by rw [ho] at ho'; cases ho'; exact hn))
  obtain ⟨uk, un⟩ := u
  have hj : j < o.slots.length := (List.getElem?_eq_some_iff.1 hu).1
  have HTT := Lib.hid ht
  have HU := Lib.hid hu
  have HOO := Lib.hid ho
  generalize hxb : w.heap.size = xb at *
  clear hat ht ho hu
  go_enter Try.func67, Try.ntmps67
  try rw [hxb]
  go_wp2_with fail
  refine HA.out.mono ?_
  rintro e w1 ⟨rfl, h2⟩
  have h3 := h2.alloc (.cells #[.int .i64 uk, .int .i64 un] 28)
  obtain ⟨pb, mb, O, qa, qc, ba, bc, fa, fc, fv, op⟩ := h3.p2.openHeap
  have hT := heap_there op ⟨k, x⟩
  rw [HTT.out] at hT
  have HT := Lib.hid hT
  have ⟨x0, x1, _, _⟩ := val2' h3.p4
  clear hT
  go_wp2_with fail
  refine HT.out.mono ?_
  rintro e w2 ⟨rfl, op2⟩
  obtain ⟨b, l, r, eO, hl, e3⟩ := op2.obj HOO.out
  obtain ⟨sa, sc, hT1⟩ := op2.takeObj eO
  obtain ⟨g, off, rfl, s0, s1, sf0, sf1⟩ := valAt hT1.p2 HU.out
  have hcap := hT1.p2.slcCap
  have hlk := op2.drew.look n
  rw [e3] at hlk
  have c1 : w2.cell? ⟨p, 1, none⟩ = some (.map (some mb)) := op2.hs.cell 1 rfl
  have c2 : w2.cell? ⟨b, 2, none⟩ = some (.slice (some ⟨g, off, none⟩) o.slots.length sc) := hT1.cell 2 rfl
  have ⟨x0, x1, _, _⟩ := val2' (op2.unframe.unframe.front)
  have hj1 : (j : Int) < o.slots.length := by omega
  have hs4 := (hT1.p2.drew.slcStore (j := j * 2) (by omega) (.int .i64 k)).slcStore (j := j * 2 + 1) (by omega) (.int .i64 x)
  rw [← Nat.add_assoc, avcells_set o.slots j ⟨k, x⟩] at hs4
  have hlen2 : (o.slots.set j ⟨k, x⟩).length = o.slots.length := by simp
  have op4 := op2.putTurned { o with slots := o.slots.set j ⟨k, x⟩ } eO hl (a := some ⟨g, off, none⟩) (c := sc) (by rw [hlen2]; exact hs4.p2)
  have HTo := Lib.hid (heap_touch op4 K.left.left.left n)
  clear eO e3 hT1 hlen2 hs4
  go_wp2_with fail
  refine wp_region_tail 12 (by kernel_rfl) (by kernel_rfl) ?_
  simp only [List.take_succ_cons, List.take_zero, List.drop_succ_cons, List.drop_zero]
  iterate 12 still_step
  refine wpStill_nil ?_
  go_wp2_with fail
  refine HTo.out.mono ?_
  rintro e w5 ⟨rfl, op5⟩
  have ⟨u0, u1, _, _⟩ := val2' op5.front
  have ⟨r0, r1, rf0, rf1⟩ := val2' op5.unframe.front
  have h6 := op5.unframe.front.setVal uk un
  go_wp2_with fail
  refine bodyPost_cell_tmp rfl rfl rfl (load_val h6) rfl ?_
  refine ⟨rfl, ?_⟩
  exact (op5.unframe.unframe.to h6.drop).unframe.shut
end Go.Proofs.Ytkpcngcegipalaa.Tw
