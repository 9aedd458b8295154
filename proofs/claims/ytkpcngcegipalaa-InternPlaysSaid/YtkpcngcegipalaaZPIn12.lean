/- The heap of cells: Lay. No condition. -/
import Derived.Test.YtkpcngcegipalaaZPIn11
import Derived.Test.YtkpcngcegipalaaZPIn9
namespace Go.Proofs.Ytkpcngcegipalaa.Tw
set_option linter.unusedVariables false
set_option linter.unusedSimpArgs false
open Go Go.RowKit Go.MapKept

/-- the heap A, its blocks known -/
def openR (p : Nat) (A : AHeap) (pb mb : Nat) (O : List (Int × Nat × AObj)) (qa : Option Addr) (qc : Nat) (ba : Option Addr) (bc : Nat) (fa : Option Addr) (fc : Nat) (fv : Value) : HP :=
  row p 90 (heapCells pb mb A qa qc ba bc fa fc fv) * (poolR pb A.T * (mapR (.int .i64) (Value.int .i64) mb (omap O) * (objsR O * (slc 3 1 qa A.queue.length qc (A.queue.map ival) * (slc 3 1 ba A.buf.length bc (A.buf.map ival) * slc 135 2 fa A.fins.length fc (finCells A.fins))))))
section
variable {w0 w w' : World} {m : Hp} {p : Nat} {A : AHeap} {F G : HP} {pb mb : Nat} {O : List (Int × Nat × AObj)} {qa : Option Addr} {qc : Nat} {ba : Option Addr} {bc : Nat} {fa : Option Addr} {fc : Nat} {fv : Value}
theorem Opened.closed (h : Opened w0 w m p A F pb mb O qa qc ba bc fa fc fv) : Sat w0 w (openR p A pb mb O qa qc ba bc fa fc fv * F) := h.hs.cast (star7 _ _ _ _ _ _ _ _).symm
theorem Opened.opens (h : Opened w0 w m p A F pb mb O qa qc ba bc fa fc fv) (hs : Sat w0 w' (openR p A pb mb O qa qc ba bc fa fc fv * G)) : Opened w0 w' m p A G pb mb O qa qc ba bc fa fc fv := h.to (hs.cast (star7 _ _ _ _ _ _ _ _))
theorem lay_fn (op : Opened w0 w m p A F pb mb O qa qc ba bc fa fc fv) (hb : Nat) :
    AsksV w0 116 #[.pointer (some ⟨hb, 0, none⟩)] (pt hb (.cells #[.pointer (some ⟨p, 0, none⟩)] 22 (0, 0)) * openR p A pb mb O qa qc ba bc fa fc fv) (fun v => !thereV A v) := by
  intro w1 G v h
  obtain ⟨k, x⟩ := v
  have op1 := op.opens (h.assoc.p2)
  have c0 : w1.cell? ⟨hb, 0, none⟩ = some (.pointer (some ⟨p, 0, none⟩)) := Sat.cell (T := 22) (cs := #[.pointer (some ⟨p, 0, none⟩)]) op1.front 0 rfl
  have op2 := op1.alloc (.cells #[.int .i64 k, .int .i64 x] 28)
  have c1 : (w1.alloc (.cells #[.int .i64 k, .int .i64 x] 28)).cell? ⟨hb, 0, none⟩ = some (.pointer (some ⟨p, 0, none⟩)) := Sat.cell (T := 22) (cs := #[.pointer (some ⟨p, 0, none⟩)]) op2.unframe.front 0 rfl
  have HT := Lib.hid (heap_there op2 ⟨k, x⟩)
  clear h
  show Calls Try.prog 116 #[.agg #[.int .i64 k, .int .i64 x], .pointer (some ⟨hb, 0, none⟩)] w1 _
  go_enter Try.func116, Try.ntmps116
  go_wp2_with fail
  refine HT.out.mono ?_
  rintro e w3 ⟨rfl, op3⟩
  go_wp2_with fail
  go_ret
  exact ⟨rfl, op3.unframe.closed.p2.unassoc⟩
end
def layB (A : AHeap) (o : AObj) (s : List AVal) : Bool := !decide (o.kind = 5) && s.all (thereV A)
def AHeap.lay (A : AHeap) (n : Int) (o : AObj) (s : List AVal) : AHeap := (A.upd n { o with slots := s }).touch n
theorem heap_Lay_nil (w : World) (n : Int) (a : Option Addr) (sn c : Nat) {w0 : World} {F : HP} (h : Sat w0 w F) :
    Calls Try.prog 66 #[.pointer none, .int .i64 n, .slice a sn c] w fun e w' => e = .returned (.int .i64 1) ∧ Sat w0 w' F := by
  have h1 := (h.alloc (.cells #[.pointer none] 22)).drop
  go_enter Try.func66, Try.ntmps66
  go_wp2_with fail
  refine (heap_find_nil _ n).mono ?_
  rintro e w' ⟨rfl, rfl⟩
  go_wp2_with fail
  go_ret
  exact ⟨rfl, h1⟩
theorem heap_Lay_none {w0 w : World} {m : Hp} {p : Nat} {A : AHeap} {F : HP} (h : Sat w0 w (heapR m p A * F)) (n : Int) (a : Option Addr) (sn c : Nat) (ho : A.objs n = none) :
    Calls Try.prog 66 #[.pointer (some ⟨p, 0, none⟩), .int .i64 n, .slice a sn c] w fun e w' => e = .returned (.int .i64 5) ∧ Sat w0 w' (heapR m p A * F) := by
  have h1 := (h.alloc (.cells #[.pointer (some ⟨p, 0, none⟩)] 22)).drop
  have HF := Lib.hid (heap_find_no h1 n ho)
  clear ho
  go_enter Try.func66, Try.ntmps66
  go_wp2_with fail
  refine HF.out.mono ?_
  rintro e w' ⟨rfl, rfl⟩
  go_wp2_with fail
  go_ret
  exact ⟨rfl, h1⟩
set_option maxHeartbeats 1000000 in
theorem heap_Lay_no {w0 w : World} {m : Hp} {p : Nat} {A : AHeap} {F : HP} (n : Int) {a : Option Addr} {sn c : Nat} {s : List AVal} (h : Sat w0 w (heapR m p A * (slc 28 2 a sn c (avcells s) * F))) (hs : s.length = sn) (hn : sn ≤ 1000000000) {o : AObj} (ho : A.objs n = some o) (hno : layB A o s = false) :
    Calls Try.prog 66 #[.pointer (some ⟨p, 0, none⟩), .int .i64 n, .slice a sn c] w fun e w' => e = .returned (.int .i64 2) ∧ Sat w0 w' (heapR m p A * (slc 28 2 a sn c (avcells s) * F)) := by
  obtain ⟨pb, mb, O, qa, qc, ba, bc, fa, fc, fv, op0⟩ := h.openHeap
  have op := op0.alloc (.cells #[.pointer (some ⟨p, 0, none⟩)] 22)
  generalize hbx : w.heap.size = bx at *
  obtain ⟨b, l, r, eO, hl, e3⟩ := op.obj ho
  have HF := Lib.hid (heap_find op e3)
  obtain ⟨sa, sc, G, hG⟩ := op.objCells eO
  have c0 : (w.alloc (.cells #[.pointer (some ⟨p, 0, none⟩)] 22)).cell? ⟨b, 0, none⟩ = some (.int .i64 o.kind) := hG.cell 0 rfl
  have hC := containsFunc_val (fun v => !thereV A v) 116 #[.pointer (some ⟨bx, 0, none⟩)] (enters_of Try.func116 (by kernel_rfl) rfl) (lay_fn op bx) ((op.closed.p3).cast (show _ = slc 28 2 a sn c (avcells s) * ((pt bx (.cells #[.pointer (some ⟨p, 0, none⟩)] 22 (0, 0)) * openR p A pb mb O qa qc ba bc fa fc fv) * F) by ac_rfl)) hs hn
  clear ho eO e3 hG
  by_cases hk : o.kind = 5
  · have hk' : (o.kind == 5) = true := by simpa using hk
    clear hno hk hC
    go_enter Try.func66, Try.ntmps66
    try rw [hbx]
    go_wp2_with fail
    refine HF.out.mono ?_
    rintro e w' ⟨rfl, rfl⟩
    go_wp2_with fail
    go_ret
    exact ⟨rfl, op.unframe.shut⟩
  · have hk' : (o.kind == 5) = false := by simpa using hk
    have hany : s.any (fun v => !thereV A v) = true := by
      unfold layB at hno
      simp only [hk, decide_false, Bool.not_false, Bool.true_and] at hno
      rw [List.any_eq_not_all_not]
      simp [hno]
    rw [hany] at hC
    have HC := Lib.hid hC
    clear hno hk hC hany
    go_enter Try.func66, Try.ntmps66
    try rw [hbx]
    go_wp2_with fail
    refine HF.out.mono ?_
    rintro e w' ⟨rfl, rfl⟩
    go_wp2_with fail
    refine HC.out.mono ?_
    rintro e w2 ⟨rfl, h2⟩
    have op2 := op.opens (G := slc 28 2 a sn c (avcells s) * F) ((h2.p2.assoc.drop).cast (by ac_rfl))
    go_wp2_with fail
    go_ret
    exact ⟨rfl, op2.shut⟩
set_option maxRecDepth 100000 in
set_option maxHeartbeats 2000000 in
theorem heap_Lay {w0 w : World} {m : Hp} {p : Nat} {A : AHeap} {F : HP} (n : Int) {a : Option Addr} {sn c : Nat} {s : List AVal} (h : Sat w0 w (heapR m p A * (slc 28 2 a sn c (avcells s) * F))) (K : Knows m F) (hs : s.length = sn) (hn : sn ≤ 1000000000) {o : AObj} (ho : A.objs n = some o) (hyes : layB A o s = true) :
    Calls Try.prog 66 #[.pointer (some ⟨p, 0, none⟩), .int .i64 n, .slice a sn c] w fun e w' => e = .returned (.int .i64 0) ∧ Sat w0 w' (heapR m p (A.lay n o s) * (slc 28 2 a sn c (avcells s) * F)) := by
  obtain ⟨pb, mb, O, qa, qc, ba, bc, fa, fc, fv, op0⟩ := h.openHeap
  have op := op0.alloc (.cells #[.pointer (some ⟨p, 0, none⟩)] 22)
  generalize hbx : w.heap.size = bx at *
  obtain ⟨b, l, r, eO, hl, e3⟩ := op.obj ho
  have HF := Lib.hid (heap_find op e3)
  obtain ⟨sa, sc, G, hG⟩ := op.objCells eO
  have c0 : (w.alloc (.cells #[.pointer (some ⟨p, 0, none⟩)] 22)).cell? ⟨b, 0, none⟩ = some (.int .i64 o.kind) := hG.cell 0 rfl
  have hC := containsFunc_val (fun v => !thereV A v) 116 #[.pointer (some ⟨bx, 0, none⟩)] (enters_of Try.func116 (by kernel_rfl) rfl) (lay_fn op bx) ((op.closed.p3).cast (show _ = slc 28 2 a sn c (avcells s) * ((pt bx (.cells #[.pointer (some ⟨p, 0, none⟩)] 22 (0, 0)) * openR p A pb mb O qa qc ba bc fa fc fv) * F) by ac_rfl)) hs hn
  unfold layB at hyes
  simp only [Bool.and_eq_true, Bool.not_eq_true', decide_eq_false_iff_not] at hyes
  obtain ⟨hk, hall⟩ := hyes
  have hk' : (o.kind == 5) = false := by simpa using hk
  have hany : s.any (fun v => !thereV A v) = false := by
    rw [List.any_eq_false]
    intro v hv
    have := List.all_eq_true.1 hall v hv
    simp [this]
  rw [hany] at hC
  have HC := Lib.hid hC
  have HO := Lib.hid eO
  clear ho eO e3 hG hk hC hany hall
  subst hs
  go_enter Try.func66, Try.ntmps66
  try rw [hbx]
  go_wp2_with fail
  refine HF.out.mono ?_
  rintro e w' ⟨rfl, rfl⟩
  go_wp2_with fail
  refine HC.out.mono ?_
  rintro e w2 ⟨rfl, h2⟩
  have HCl := Lib.hid (clone_vals h2 (by omega) (oneCell_avcells _))
  go_wp2_with fail
  refine HCl.out.mono ?_
  rintro e w3 ⟨a', c', rfl, hnil, h3⟩
  have op3 := op.opens (G := pt bx (.cells #[.pointer (some ⟨p, 0, none⟩)] 22 (0, 0)) * (slc 28 2 a' s.length c' (avcells s) * (slc 28 2 a s.length c (avcells s) * F))) (h3.cast (by ac_rfl))
  obtain ⟨sa1, sc1, hT1⟩ := op3.takeObj HO.out
  have c2 : w3.cell? ⟨b, 2, none⟩ = some (.slice sa1 o.slots.length sc1) := hT1.cell 2 rfl
  have f2 := hT1.free 2
  have hs4 := (hT1.store (i := 2) (.slice a' s.length c')).p2.drop
  rw [restR_frame, restR_frame] at hs4
  have op4 := op3.putTurned { o with slots := s } HO.out hl (a := a') (c := c') (G := pt bx (.cells #[.pointer (some ⟨p, 0, none⟩)] 22 (0, 0)) * (slc 28 2 a s.length c (avcells s) * F)) (by rw [restR_frame]; exact hs4.cast (by ac_rfl))
  have HT := Lib.hid (heap_touch op4 K.left.left n)
  have x0 : (w3.setCell ⟨b, 2, none⟩ (.slice a' s.length c')).cell? ⟨bx, 0, none⟩ = some (.pointer (some ⟨p, 0, none⟩)) := Sat.cell (T := 22) (cs := #[.pointer (some ⟨p, 0, none⟩)]) op4.front 0 rfl
  clear hT1 hs4 h3
  go_wp2_with fail
  refine HT.out.mono ?_
  rintro e w5 ⟨rfl, op5⟩
  go_wp2_with fail
  go_ret
  exact ⟨rfl, op5.unframe.shut⟩
end Go.Proofs.Ytkpcngcegipalaa.Tw
namespace Go.Proofs.Ytkpcngcegipalaa.Tw
set_option linter.unusedVariables false
set_option linter.unusedSimpArgs false
open Go Go.RowKit Go.MapKept

def AHeap.fresh (A : AHeap) : Int := firstFree A.T + 1
def AHeap.make (A : AHeap) (k : Int) (tx : ByteArray) : AHeap := { A with T := takeT A.T, objs := fun j => if j = A.fresh then some ⟨k, 1, [], if k = 5 then tx else ByteArray.mk #[], 0⟩ else A.objs j }
def makeOk (k : Int) (tx : ByteArray) : Bool := decide (5 ≤ k) && decide (k ≤ 9) && decide (tx.size ≤ 4096)

theorem heap_Make_no {w0 w : World} {F : HP} (h : Sat w0 w F) (ptr : Option Addr) (k : Int) (tx : ByteArray) (hno : ptr = none ∨ makeOk k tx = false) :
    Calls Try.prog 25 #[.pointer ptr, .int .i64 k, .string tx] w fun e w' => e = .returned (.agg #[.int .i64 0, .int .i64 0]) ∧ Sat w0 w' F := by
  have h1 := h.alloc (.cells #[.int .i64 0, .int .i64 0] 28)
  have f0 := h1.free 0
  have f1 := h1.free 1
  generalize hbx : w.heap.size = bx at *
  have fin : ∀ Q : Prop, Sat w0 (w.alloc (.cells #[.int .i64 0, .int .i64 0] 28)) F := fun _ => h1.drop
  cases ptr with
  | none =>
    go_enter Try.func25, Try.ntmps25
    try rw [hbx]
    go_wp2_with fail
    try simp only [Exit.inBlock, Exit.then]
    refine bodyPost_cell rfl rfl (load_val h1) rfl ⟨rfl, h1.drop⟩
  | some ad =>
    have hn : makeOk k tx = false := by simpa using hno
    by_cases k1 : k < 5
    · go_enter Try.func25, Try.ntmps25
      try rw [hbx]
      go_wp2_with fail
      try simp only [Exit.inBlock, Exit.then]
      refine bodyPost_cell rfl rfl (load_val h1) rfl ⟨rfl, h1.drop⟩
    · by_cases k2 : 9 < k
      · go_enter Try.func25, Try.ntmps25
        try rw [hbx]
        go_wp2_with fail
        try simp only [Exit.inBlock, Exit.then]
        refine bodyPost_cell rfl rfl (load_val h1) rfl ⟨rfl, h1.drop⟩
      · have k3 : (4096 : Int) < tx.size := by
          simp [makeOk] at hn
          have := hn (by omega) (by omega)
          omega
        go_enter Try.func25, Try.ntmps25
        try rw [hbx]
        go_wp2_with fail
        try simp only [Exit.inBlock, Exit.then]
        refine bodyPost_cell rfl rfl (load_val h1) rfl ⟨rfl, h1.drop⟩

theorem sM1 (X Y A B C D E G I F : HP) : X * (Y * (A * (B * (C * (D * (E * (G * (I * F)))))))) = B * (X * (Y * (A * (C * (D * (E * (G * (I * F)))))))) := by ac_rfl
theorem sM2 (X Y A B C D E G I F : HP) : B * (X * (Y * (A * (C * (D * (E * (G * (I * F)))))))) = C * (X * (Y * (A * (B * (D * (E * (G * (I * F)))))))) := by ac_rfl
theorem sM3 (X Y A B C D E G I F : HP) : C * (X * (Y * (A * (B * (D * (E * (G * (I * F)))))))) = Y * (C * (X * (A * (B * (D * (E * (G * (I * F)))))))) := by ac_rfl
theorem sM4 (S Y A B C D E G I F : HP) : S * (Y * (A * (B * (C * (D * (E * (G * (I * F)))))))) = A * (B * (C * ((S * D) * (E * (G * (I * (Y * F))))))) := by ac_rfl
theorem sM6 (B X Y A R : HP) : B * (X * (Y * (A * R))) = A * (B * (X * (Y * R))) := by ac_rfl
theorem sM7 (C X Y A B R : HP) : C * (X * (Y * (A * (B * R)))) = X * (Y * (A * (B * (C * R)))) := by ac_rfl
theorem sM8 (Y X R : HP) : Y * (X * R) = X * (Y * R) := by ac_rfl
theorem sM9 (Y C X A B R : HP) : Y * (C * (X * (A * (B * R)))) = X * (Y * (A * (B * (C * R)))) := by ac_rfl
theorem oget_snoc (O : List (Int × Nat × AObj)) (f : Int) (b : Nat) (o : AObj) (j : Int) : oget (O ++ [(f, b, o)]) j = (oget O j).or (if j = f then some (b, o) else none) := by
  unfold oget
  rw [List.find?_append]
  cases e : O.find? fun x => decide (x.1 = j) with
  | some x => rfl
  | none =>
    by_cases ej : j = f
    · subst ej; simp
    · have : ¬ f = j := fun q => ej q.symm
      simp [ej, this]
theorem heap_Make {w0 w : World} {m : Hp} {p : Nat} {A : AHeap} {F : HP} (h : Sat w0 w (heapR m p A * F)) (hT : A.T.length < 1000000000) (k : Int) (tx : ByteArray) (hok : makeOk k tx = true) :
    Calls Try.prog 25 #[.pointer (some ⟨p, 0, none⟩), .int .i64 k, .string tx] w fun e w' => e = .returned (.agg #[.int .i64 k, .int .i64 A.fresh]) ∧ Sat w0 w' (heapR m p (A.make k tx) * F) := by
  obtain ⟨pb, mb, O, qa, qc, ba, bc, fa, fc, fv, op0⟩ := h.openHeap
  have hk : (5 : Int) ≤ k ∧ k ≤ 9 ∧ (tx.size : Int) ≤ 4096 := by simp [makeOk] at hok; omega
  obtain ⟨hk1, hk2, hk3⟩ := hk
  have hfr : A.objs A.fresh = none := by
    have := op0.ht A.fresh
    rw [show tk A.T A.fresh = false from firstFree_free A.T] at this
    simpa using this
  have hno := op0.no hfr
  have h1 := (op0.hs.alloc (.cells #[.int .i64 0, .int .i64 0] 28)).alloc (.cells #[.int .i64 k, .int .i64 1, .slice none 0 0, .string (ByteArray.mk #[]), .int .i64 0] 39)
  rw [size_alloc] at h1
  have h1' := (op0.hs.alloc (.cells #[.int .i64 0, .int .i64 0] 28)).alloc (.cells #[.int .i64 k, .int .i64 1, .slice none 0 0, .string tx, .int .i64 0] 39)
  rw [size_alloc] at h1'
  generalize hbx : w.heap.size = bx at *
  /- what is left to do, once the object stands -/
  have main : ∀ (wx : World) (t2 : ByteArray) (Z : HP), t2 = (if k = 5 then tx else ByteArray.mk #[]) → Sat w0 wx (pt (bx + 1) (.cells #[.int .i64 k, .int .i64 1, .slice none 0 0, .string t2, .int .i64 0] 39) * (Z * (row p 90 (heapCells pb mb A qa qc ba bc fa fc fv) * (poolR pb (takeT A.T) * (mapR (.int .i64) (Value.int .i64) mb (mset (omap O) A.fresh (.pointer (some ⟨bx + 1, 0, none⟩))) * (objsR O * (slc 3 1 qa A.queue.length qc (A.queue.map ival) * (slc 3 1 ba A.buf.length bc (A.buf.map ival) * (slc 135 2 fa A.fins.length fc (finCells A.fins) * F))))))))) →
      Opened w0 wx m p (A.make k tx) (Z * F) pb mb (O ++ [(A.fresh, bx + 1, ⟨k, 1, [], t2, 0⟩)]) qa qc ba bc fa fc fv := by
    intro wx t2 Z ht2 hs
    subst ht2
    refine ⟨?_, ?_, op0.hw, ?_⟩
    · intro j
      show _ = if j = A.fresh then _ else A.objs j
      rw [oget_snoc]
      cases e : oget O j with
      | none =>
        have := op0.ho j
        rw [e] at this
        by_cases ej : j = A.fresh
        · simp [ej]
        · simp [ej] at this ⊢
          exact this
      | some x =>
        have ej : j ≠ A.fresh := by rintro rfl; rw [hno] at e; cases e
        rw [if_neg ej, if_neg ej, ← op0.ho j, e]
        rfl
    · intro j
      show (if j = A.fresh then _ else A.objs j).isSome = tk (takeT A.T) j
      rw [tk_takeT, ← op0.ht j]
      by_cases ej : j = A.fresh
      · rw [if_pos ej]; simp [ej, AHeap.fresh]
      · rw [if_neg ej]; simp [AHeap.fresh] at ej; simp [ej]
    · have em : mset (omap O) A.fresh (.pointer (some ⟨bx + 1, 0, none⟩)) = omap (O ++ [(A.fresh, bx + 1, ⟨k, 1, [], if k = 5 then tx else ByteArray.mk #[], 0⟩)]) := by
        unfold mset
        rw [mget_omap, hno]
        simp [omap]
      rw [em] at hs
      have h2 := (hs.nilSlc (T := 28) (sz := 2)).cast (mul_left_comm _ _ _)
      have h3 := Sat.shutObj (o := ⟨k, 1, [], if k = 5 then tx else ByteArray.mk #[], 0⟩) (a := none) (c := 0) h2
      have eo : objsR (O ++ [(A.fresh, bx + 1, (⟨k, 1, [], if k = 5 then tx else ByteArray.mk #[], 0⟩ : AObj))]) = objR (bx + 1) ⟨k, 1, [], if k = 5 then tx else ByteArray.mk #[], 0⟩ * objsR O := by
        rw [objsR_append, objsR, objsR, mul_one, mul_comm]
      rw [eo]
      exact h3.cast (sM4 _ _ _ _ _ _ _ _ _ _)
  by_cases k5 : k = 5
  · have k5' : (k == 5) = true := by simpa using k5
    have hp := h1'.cast (sM1 _ _ _ _ _ _ _ _ _ _)
    have hpA := hp.cast (sM6 _ _ _ _ _)
    have p0 : ((w.alloc (.cells #[.int .i64 0, .int .i64 0] 28)).alloc (.cells #[.int .i64 k, .int .i64 1, .slice none 0 0, .string tx, .int .i64 0] 39)).cell? ⟨p, 0, none⟩ = some (.pointer (some ⟨pb, 0, none⟩)) := hpA.cell 0 rfl
    have hT' := pool_Take hp hT
    have HT := Lib.hid hT'
    have HM := Lib.hid main
    have HK := Lib.hid k5
    clear hT' main hok hfr hno k5
    go_enter Try.func25, Try.ntmps25
    try rw [hbx]
    go_wp2_with fail
    refine HT.out.mono ?_
    rintro e w1 ⟨rfl, h2⟩
    have h3 := h2.cast (sM2 _ _ _ _ _ _ _ _ _ _)
    have hpB := h2.cast (sM6 _ _ _ _ _)
    have p1 : w1.cell? ⟨p, 1, none⟩ = some (.map (some mb)) := hpB.cell 1 rfl
    go_wp2_with (at_mapUpdate; refine wpList_mapUpdate rfl _ _ _ _ rfl (keys_int .i64) Try.underlying86 Try.underlying3 mb (omap O) rfl h3 _ rfl (.pointer (some ⟨bx + 1, 0, none⟩)) rfl ?_; intro w2 h4; have h5 := h4.cast (sM3 _ _ _ _ _ _ _ _ _ _); have v0 : w2.cell? ⟨bx, 0, none⟩ = some (.int .i64 0) := (Sat.cell (T := 28) (cs := #[.int .i64 0, .int .i64 0]) h5 0 rfl); have v1 : w2.cell? ⟨bx, 1, none⟩ = some (.int .i64 0) := (Sat.cell (T := 28) (cs := #[.int .i64 0, .int .i64 0]) h5 1 rfl); have z0 := h5.free 0; have z1 := h5.free 1)
    have h6 := h5.store (i := 0) (.int .i64 k) |>.store (i := 1) (.int .i64 A.fresh)
    try simp only [Exit.inBlock, Exit.then]
    refine bodyPost_cell rfl rfl (v := .agg #[.int .i64 k, .int .i64 A.fresh]) ?_ rfl ⟨rfl, ?_⟩
    · exact load_val h6
    exact (HM.out _ _ _ (by rw [if_pos HK.out]) (h6.cast (sM9 _ _ _ _ _ _))).unframe.shut
  · have k5' : (k == 5) = false := by simpa using k5
    have hp := h1.cast (sM1 _ _ _ _ _ _ _ _ _ _)
    have hpA := hp.cast (sM6 _ _ _ _ _)
    have p0 : ((w.alloc (.cells #[.int .i64 0, .int .i64 0] 28)).alloc (.cells #[.int .i64 k, .int .i64 1, .slice none 0 0, .string (ByteArray.mk #[]), .int .i64 0] 39)).cell? ⟨p, 0, none⟩ = some (.pointer (some ⟨pb, 0, none⟩)) := hpA.cell 0 rfl
    have hT' := pool_Take hp hT
    have HT := Lib.hid hT'
    have HM := Lib.hid main
    have HK := Lib.hid k5
    clear hT' main hok hfr hno k5
    go_enter Try.func25, Try.ntmps25
    try rw [hbx]
    go_wp2_with fail
    refine HT.out.mono ?_
    rintro e w1 ⟨rfl, h2⟩
    have h3 := h2.cast (sM2 _ _ _ _ _ _ _ _ _ _)
    have hpB := h2.cast (sM6 _ _ _ _ _)
    have p1 : w1.cell? ⟨p, 1, none⟩ = some (.map (some mb)) := hpB.cell 1 rfl
    go_wp2_with (at_mapUpdate; refine wpList_mapUpdate rfl _ _ _ _ rfl (keys_int .i64) Try.underlying86 Try.underlying3 mb (omap O) rfl h3 _ rfl (.pointer (some ⟨bx + 1, 0, none⟩)) rfl ?_; intro w2 h4; have h5 := h4.cast (sM3 _ _ _ _ _ _ _ _ _ _); have v0 : w2.cell? ⟨bx, 0, none⟩ = some (.int .i64 0) := (Sat.cell (T := 28) (cs := #[.int .i64 0, .int .i64 0]) h5 0 rfl); have v1 : w2.cell? ⟨bx, 1, none⟩ = some (.int .i64 0) := (Sat.cell (T := 28) (cs := #[.int .i64 0, .int .i64 0]) h5 1 rfl); have z0 := h5.free 0; have z1 := h5.free 1)
    have h6 := h5.store (i := 0) (.int .i64 k) |>.store (i := 1) (.int .i64 A.fresh)
    try simp only [Exit.inBlock, Exit.then]
    refine bodyPost_cell rfl rfl (v := .agg #[.int .i64 k, .int .i64 A.fresh]) ?_ rfl ⟨rfl, ?_⟩
    · exact load_val h6
    exact (HM.out _ _ _ (by rw [if_neg HK.out]) (h6.cast (sM9 _ _ _ _ _ _))).unframe.shut
end Go.Proofs.Ytkpcngcegipalaa.Tw
