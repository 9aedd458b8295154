/- The heap of cells: Free. No condition. -/
import Derived.Test.YtkpcngcegipalaaZPIn8
import Derived.Test.YtkpcngcegipalaaZPIn7
namespace Go.Proofs.Ytkpcngcegipalaa.Tw
set_option linter.unusedVariables false
set_option linter.unusedSimpArgs false
open Go Go.RowKit Go.MapKept

def AHeap.free (A : AHeap) (n : Int) : AHeap := { A.touch n with queue := A.queue.tail, fins := A.fins.filter fun f => !decide (f.1 = n), objs := fun k => if k = n then none else A.objs k, T := giveT A.T n }

theorem mdel_omap {O l r : List (Int × Nat × AObj)} {n : Int} {b : Nat} {o : AObj} (e : O = l ++ (n, b, o) :: r) (hn : ((omap O).map (·.1)).Nodup) :
    mdel (omap O) n = omap (l ++ r) ∧ ∀ k, oget (l ++ r) k = if k = n then none else oget O k := by
  subst e
  have hn' : ((l ++ (n, b, o) :: r).map (·.1)).Nodup := by simpa [omap, List.map_map, Function.comp_def] using hn
  simp only [List.map_append, List.map_cons, List.nodup_append, List.nodup_cons] at hn'
  obtain ⟨h1, ⟨h2, h3⟩, h4⟩ := hn'
  have hl : ∀ x ∈ l, x.1 ≠ n := fun x hx => h4 x.1 (List.mem_map_of_mem hx) n (by simp)
  have hr : ∀ x ∈ r, x.1 ≠ n := fun x hx q => h2 (q ▸ List.mem_map_of_mem hx)
  constructor
  · unfold mdel omap
    rw [List.map_append, List.filter_append, List.map_cons, List.filter_cons_of_neg (by simp), List.map_append]
    congr 1
    · refine List.filter_eq_self.2 fun x hx => ?_
      obtain ⟨y, hy, rfl⟩ := List.mem_map.1 hx
      simpa using hl y hy
    · refine List.filter_eq_self.2 fun x hx => ?_
      obtain ⟨y, hy, rfl⟩ := List.mem_map.1 hx
      simpa using hr y hy
  · intro k
    unfold oget
    rw [List.find?_append, List.find?_append]
    by_cases hk : k = n
    · subst hk
      rw [if_pos rfl, List.find?_eq_none.2 fun x hx => by simpa using hl x hx, List.find?_eq_none.2 fun x hx => by simpa using hr x hx]
      rfl
    · have hk' : ¬ n = k := fun q => hk q.symm
      rw [if_neg hk, List.find?_cons_of_neg (by simpa using hk')]

theorem free_fn {w0 : World} (nb : Nat) (v : Int) : AsksF w0 78 #[.pointer (some ⟨nb, 0, none⟩)] (pt nb (.cells #[.int .i64 v] 3 (0, 0))) (fun x => decide (x.1 = v)) := by
  intro w G x h
  obtain ⟨x1, x2⟩ := x
  have h1 := h.alloc (.cells #[.int .i64 x1, .int .i64 x2] 135)
  have b0 : (w.alloc (.cells #[.int .i64 x1, .int .i64 x2] 135)).cell? ⟨w.heap.size, 0, none⟩ = some (.int .i64 x1) := Sat.cell (T := 135) (cs := #[.int .i64 x1, .int .i64 x2]) h1 0 rfl
  have c0 : (w.alloc (.cells #[.int .i64 x1, .int .i64 x2] 135)).cell? ⟨nb, 0, none⟩ = some (.int .i64 v) := Sat.cell (T := 3) (cs := #[.int .i64 v]) h1.p2 0 rfl
  have hd : decide (x1 = v) = (x1 == v) := by rw [Bool.eq_iff_iff]; simp
  have HD := Lib.hid hd
  have HH := Lib.hid h1.drop
  clear hd h h1
  show Calls Try.prog 78 #[.agg #[.int .i64 x1, .int .i64 x2], .pointer (some ⟨nb, 0, none⟩)] w _
  go_enter Try.func78, Try.ntmps78
  go_wp2
  go_ret
  exact ⟨by rw [HD.out]; rfl, HH.out⟩
theorem heap_Free_nil (w : World) (n : Int) {w0 : World} {F : HP} (h : Sat w0 w F) :
    Calls Try.prog 21 #[.pointer none, .int .i64 n] w fun e w' => e = .returned (.int .i64 1) ∧ Sat w0 w' F := by
  have h1 := (h.alloc (.cells #[.int .i64 n] 3)).drop
  go_enter Try.func21, Try.ntmps21
  go_wp2
  go_ret
  exact ⟨rfl, h1⟩
set_option maxRecDepth 100000 in
set_option maxHeartbeats 4000000 in
theorem heap_Free_no {w0 w : World} {m : Hp} {p : Nat} {A : AHeap} {F : HP} (h : Sat w0 w (heapR m p A * F)) (n : Int) (hq : A.queue.length ≤ 1000000000) (hno : A.queue.head? ≠ some n ∨ ∃ o, A.objs n = some o ∧ A.queue.head? = some n ∧ o.slots.length > 0) :
    Calls Try.prog 21 #[.pointer (some ⟨p, 0, none⟩), .int .i64 n] w fun e w' => e = .returned (.int .i64 2) ∧ Sat w0 w' (heapR m p A * F) := by
  obtain ⟨pb, mb, O, qa, qc, ba, bc, fa, fc, fv, op0⟩ := h.openHeap
  have op := op0.alloc (.cells #[.int .i64 n] 3)
  generalize hbx : w.heap.size = bx at *
  have F0 : ∀ w', Opened w0 w' m p A (pt bx (.cells #[.int .i64 n] 3) * F) pb mb O qa qc ba bc fa fc fv → w'.cell? ⟨bx, 0, none⟩ = some (.int .i64 n) ∧ w'.cell? ⟨p, 2, none⟩ = some (.slice qa A.queue.length qc) := fun w' hw => ⟨Sat.cell (T := 3) (cs := #[.int .i64 n]) hw.front 0 rfl, hw.hs.cell 2 rfl⟩
  cases hQ : A.queue with
  | nil =>
    rw [hQ] at F0
    simp only [List.length_nil] at F0
    clear hno hQ
    go_enter Try.func21, Try.ntmps21
    try rw [hbx]
    go_wp2_with fail
    refine wp_region_qq (fun w' => Opened w0 w' m p A (pt bx (.cells #[.int .i64 n] 3) * F) pb mb O qa qc ba bc fa fc fv) (by kernel_rfl) (by kernel_rfl) op.drew ?_
    iterate 29 (first
      | (refine QQ.skip (by rfl) ?_; simp only [Act.put, List.setIfInBounds_toArray, List.set_cons_zero, List.set_cons_succ])
      | (refine QQ.want (by rfl) ?_
         apply Exists.intro
         refine ⟨?_, ?_⟩
         · intro w hw
           have ⟨hd0, hd2⟩ := F0 w hw
           first
             | (go_simp; done)
             | (go_simp; rfl)
         simp only [Act.put, List.setIfInBounds_toArray, List.set_cons_zero, List.set_cons_succ]))
    refine QQ.nil ?_
    intro w3 h3
    go_wp2_with fail
    go_ret
    exact ⟨rfl, h3.unframe.shut⟩
  | cons x q =>
    have hx : (A.queue.map ival)[0]? = some (ival x) := by rw [hQ]; rfl
    obtain ⟨g, off, rfl, _, _⟩ := op.hs.p5.slcAt hx
    have hcap := op.hs.p5.slcCap
    have hlen : A.queue.length = q.length + 1 := by rw [hQ]; rfl
    rw [hlen] at hcap
    have F1 : ∀ w', Opened w0 w' m p A (pt bx (.cells #[.int .i64 n] 3) * F) pb mb O (some ⟨g, off, none⟩) qc ba bc fa fc fv → w'.cell? ⟨bx, 0, none⟩ = some (.int .i64 n) ∧ w'.cell? ⟨p, 2, none⟩ = some (.slice (some ⟨g, off, none⟩) (q.length + 1) qc) ∧ w'.cell? ⟨g, off, none⟩ = some (.int .i64 x) := fun w' hw => by
      obtain ⟨g', off', ea, hc, _⟩ := hw.hs.p5.slcAt hx
      cases ea
      have h2 := (F0 w' hw).2
      rw [hlen] at h2
      exact ⟨(F0 w' hw).1, h2, hc⟩
    have hl1 : 0 < q.length + 1 := by omega
    have hl2 : ((q.length : Int) + 1 == 0) = false := by simp; omega
    rw [hlen] at hq
    by_cases hxn : x = n
    · subst hxn
      rcases hno with hno | ⟨o, ho, _, hsl⟩
      · rw [hQ] at hno; simp at hno
      obtain ⟨b, l, r, eO, _, e3⟩ := op.obj ho
      obtain ⟨sa, sc, hT⟩ := op.takeObj eO
      have F2 : ∀ w', Sat w0 w' (row b 39 #[.int .i64 o.kind, .int .i64 o.count, .slice sa o.slots.length sc, .string o.text, .int .i64 o.mark] * (slc 28 2 sa o.slots.length sc (avcells o.slots) * restR p A (pt bx (.cells #[.int .i64 x] 3) * F) pb mb O (some ⟨g, off, none⟩) qc ba bc fa fc fv l r)) →
          Opened w0 w' m p A (pt bx (.cells #[.int .i64 x] 3) * F) pb mb O (some ⟨g, off, none⟩) qc ba bc fa fc fv ∧ w'.cell? ⟨p, 1, none⟩ = some (.map (some mb)) ∧ ((Instr.lookup 86 (.map (some mb)) (.int .i64 x) false).run Try.prog w' = .ok (.pointer (some ⟨b, 0, none⟩)) w') ∧ w'.cell? ⟨b, 2, none⟩ = some (.slice sa o.slots.length sc) := fun w' hs => by
        have hw : Opened w0 w' m p A (pt bx (.cells #[.int .i64 x] 3) * F) pb mb O (some ⟨g, off, none⟩) qc ba bc fa fc fv := op.putObj eO hs
        have hlk := hw.look x
        rw [e3] at hlk
        exact ⟨hw, hw.hs.cell 1 rfl, hlk, hs.cell 2 rfl⟩
      have hxx : (x != x) = false := by simp
      have hsl' : decide (0 < o.slots.length) = true := by simpa using hsl
      have HT := Lib.hid hT.drew
      have HF1 := Lib.hid F1
      have HF2 := Lib.hid F2
      clear hQ hx eO e3 hlen F0 F1 F2 hT ho hsl
      go_enter Try.func21, Try.ntmps21
      try rw [hbx]
      go_wp2_with fail
      refine wp_region_qq (fun w' => Sat w0 w' (row b 39 #[.int .i64 o.kind, .int .i64 o.count, .slice sa o.slots.length sc, .string o.text, .int .i64 o.mark] * (slc 28 2 sa o.slots.length sc (avcells o.slots) * restR p A (pt bx (.cells #[.int .i64 x] 3) * F) pb mb O (some ⟨g, off, none⟩) qc ba bc fa fc fv l r))) (by kernel_rfl) (by kernel_rfl) HT.out ?_
      iterate 29 (first
        | (refine QQ.skip (by rfl) ?_; simp only [Act.put, List.setIfInBounds_toArray, List.set_cons_zero, List.set_cons_succ])
        | (refine QQ.want (by rfl) ?_
           apply Exists.intro
           refine ⟨?_, ?_⟩
           · intro w hw
             have ⟨hw2, hd4, hd5, hd6⟩ := HF2.out w hw
             have ⟨hd0, hd2, hd3⟩ := HF1.out w hw2
             first
               | (go_simp; done)
               | (go_simp; rfl)
           simp only [Act.put, List.setIfInBounds_toArray, List.set_cons_zero, List.set_cons_succ]))
      refine QQ.nil ?_
      intro w3 h3
      go_wp2_with fail
      go_ret
      exact ⟨rfl, (HF2.out w3 h3).1.unframe.shut⟩
    · have hxx : (x != n) = true := by simpa using hxn
      clear hno hQ hx hxn hlen F0
      go_enter Try.func21, Try.ntmps21
      try rw [hbx]
      go_wp2_with fail
      refine wp_region_qq (fun w' => Opened w0 w' m p A (pt bx (.cells #[.int .i64 n] 3) * F) pb mb O (some ⟨g, off, none⟩) qc ba bc fa fc fv) (by kernel_rfl) (by kernel_rfl) op.drew ?_
      iterate 29 (first
        | (refine QQ.skip (by rfl) ?_; simp only [Act.put, List.setIfInBounds_toArray, List.set_cons_zero, List.set_cons_succ])
        | (refine QQ.want (by rfl) ?_
           apply Exists.intro
           refine ⟨?_, ?_⟩
           · intro w hw
             have ⟨hd0, hd2, hd3⟩ := F1 w hw
             first
               | (go_simp; done)
               | (go_simp; rfl)
           simp only [Act.put, List.setIfInBounds_toArray, List.set_cons_zero, List.set_cons_succ]))
      refine QQ.nil ?_
      intro w3 h3
      go_wp2_with fail
      go_ret
      exact ⟨rfl, h3.unframe.shut⟩

theorem Sat.slcTail {w0 w : World} {F : HP} {T : TypeId} {g off n c : Nat} {x : Value} {xs : List Value} (h : Sat w0 w (slc T 1 (some ⟨g, off, none⟩) (n + 1) c (x :: xs) * F)) : Sat w0 w (slc T 1 (some ⟨g, if c = 1 then off else off + 1, none⟩) n (c - 1) xs * F) := by
  rcases h.openSlc with ⟨hl, ⟨e, _⟩ | ⟨g', off', cur, e, e2, e3, e4, e5, e6⟩⟩
  · cases e
  · cases e
    simp only [Nat.mul_one, List.length_cons] at hl e4 e5
    have hlx : xs.length = n := by omega
    by_cases hc : c = 1
    · rw [if_pos hc]
      have : n = 0 := by omega
      subst this
      have : xs = [] := List.eq_nil_of_length_eq_zero hlx
      subst this
      exact Sat.shutSlc e6 (by omega) (by omega) (by omega) (by simp)
    · rw [if_neg hc]
      refine Sat.shutSlc e6 (by omega) (by omega) (by omega) ?_
      have := congrArg (List.drop 1) e5
      rw [List.drop_take, List.drop_drop, List.drop_succ_cons, List.drop_zero] at this
      simpa using this
set_option maxRecDepth 100000 in
set_option maxHeartbeats 4000000 in
theorem heap_Free {w0 w : World} {m : Hp} {p : Nat} {A : AHeap} {F : HP} (h : Sat w0 w (heapR m p A * F)) (K : Knows m F) (n : Int) {q : List Int} {o : AObj} (hQ : A.queue = n :: q) (ho : A.objs n = some o) (hsl : o.slots = []) (hq : A.queue.length ≤ 1000000000) (hf : A.fins.length ≤ 1000000000) (hT : A.T.length < 1000000000) :
    Calls Try.prog 21 #[.pointer (some ⟨p, 0, none⟩), .int .i64 n] w fun e w' => e = .returned (.int .i64 0) ∧ Sat w0 w' (heapR m p (A.free n) * F) := by
  obtain ⟨pb, mb, O, qa, qc, ba, bc, fa, fc, fv, op0⟩ := h.openHeap
  have op := op0.alloc (.cells #[.int .i64 n] 3)
  generalize hbx : w.heap.size = bx at *
  have F0 : ∀ w', Opened w0 w' m p A (pt bx (.cells #[.int .i64 n] 3) * F) pb mb O qa qc ba bc fa fc fv → w'.cell? ⟨bx, 0, none⟩ = some (.int .i64 n) ∧ w'.cell? ⟨p, 2, none⟩ = some (.slice qa A.queue.length qc) := fun w' hw => ⟨Sat.cell (T := 3) (cs := #[.int .i64 n]) hw.front 0 rfl, hw.hs.cell 2 rfl⟩
  have hx : (A.queue.map ival)[0]? = some (ival n) := by rw [hQ]; rfl
  obtain ⟨g, off, rfl, _, _⟩ := op.hs.p5.slcAt hx
  have hcap := op.hs.p5.slcCap
  have hlen : A.queue.length = q.length + 1 := by rw [hQ]; rfl
  rw [hlen] at hcap
  have F1 : ∀ w', Opened w0 w' m p A (pt bx (.cells #[.int .i64 n] 3) * F) pb mb O (some ⟨g, off, none⟩) qc ba bc fa fc fv → w'.cell? ⟨bx, 0, none⟩ = some (.int .i64 n) ∧ w'.cell? ⟨p, 2, none⟩ = some (.slice (some ⟨g, off, none⟩) (q.length + 1) qc) ∧ w'.cell? ⟨g, off, none⟩ = some (.int .i64 n) := fun w' hw => by
    obtain ⟨g', off', ea, hc, _⟩ := hw.hs.p5.slcAt hx
    cases ea
    have h2 := (F0 w' hw).2
    rw [hlen] at h2
    exact ⟨(F0 w' hw).1, h2, hc⟩
  have hl1 : 0 < q.length + 1 := by omega
  have hl2 : ((q.length : Int) + 1 == 0) = false := by simp; omega
  rw [hlen] at hq
  obtain ⟨b, l, r, eO, hlo, e3⟩ := op.obj ho
  obtain ⟨sa, sc, hTk⟩ := op.takeObj eO
  rw [hsl] at hTk
  have F2 : ∀ w', Sat w0 w' (row b 39 #[.int .i64 o.kind, .int .i64 o.count, .slice sa 0 sc, .string o.text, .int .i64 o.mark] * (slc 28 2 sa 0 sc (avcells []) * restR p A (pt bx (.cells #[.int .i64 n] 3) * F) pb mb O (some ⟨g, off, none⟩) qc ba bc fa fc fv l r)) →
      Opened w0 w' m p A (pt bx (.cells #[.int .i64 n] 3) * F) pb mb O (some ⟨g, off, none⟩) qc ba bc fa fc fv ∧ w'.cell? ⟨p, 1, none⟩ = some (.map (some mb)) ∧ ((Instr.lookup 86 (.map (some mb)) (.int .i64 n) false).run Try.prog w' = .ok (.pointer (some ⟨b, 0, none⟩)) w') ∧ w'.cell? ⟨b, 2, none⟩ = some (.slice sa 0 sc) := fun w' hs => by
    have hw : Opened w0 w' m p A (pt bx (.cells #[.int .i64 n] 3) * F) pb mb O (some ⟨g, off, none⟩) qc ba bc fa fc fv := op.putObj (a := sa) (c := sc) eO (by rw [hsl]; exact hs)
    have hlk := hw.look n
    rw [e3] at hlk
    exact ⟨hw, hw.hs.cell 1 rfl, hlk, hs.cell 2 rfl⟩
  have hxx : (n != n) = false := by simp
  have HT := Lib.hid hTk.drew
  have HF1 := Lib.hid F1
  have HF2 := Lib.hid F2
  have HQ := Lib.hid hQ
  have HO := Lib.hid eO
  have HO3 := Lib.hid e3
  have HLO := Lib.hid hlo
  have HO2 := Lib.hid ho
  have HLEN := Lib.hid hlen
  clear hQ hx eO e3 hlen F0 F1 F2 hTk ho hsl hlo
  go_enter Try.func21, Try.ntmps21
  try rw [hbx]
  go_wp2_with fail
  refine wp_region_qq (fun w' => Sat w0 w' (row b 39 #[.int .i64 o.kind, .int .i64 o.count, .slice sa 0 sc, .string o.text, .int .i64 o.mark] * (slc 28 2 sa 0 sc (avcells []) * restR p A (pt bx (.cells #[.int .i64 n] 3) * F) pb mb O (some ⟨g, off, none⟩) qc ba bc fa fc fv l r))) (by kernel_rfl) (by kernel_rfl) HT.out ?_
  iterate 29 (first
    | (refine QQ.skip (by rfl) ?_; simp only [Act.put, List.setIfInBounds_toArray, List.set_cons_zero, List.set_cons_succ])
    | (refine QQ.want (by rfl) ?_
       apply Exists.intro
       refine ⟨?_, ?_⟩
       · intro w hw
         have ⟨hw2, hd4, hd5, hd6⟩ := HF2.out w hw
         have ⟨hd0, hd2, hd3⟩ := HF1.out w hw2
         first
           | (go_simp; done)
           | (go_simp; rfl)
       simp only [Act.put, List.setIfInBounds_toArray, List.set_cons_zero, List.set_cons_succ]))
  refine QQ.nil ?_
  intro w3 h3
  have op3 := (HF2.out w3 h3).1
  have hd0 := (HF1.out w3 op3).1
  go_wp2_with fail
  refine (heap_touch op3 K.left n).mono ?_
  rintro e w4 ⟨rfl, op4⟩
  have hs4 := op4.hs.p5
  have eq4 : (A.touch n).queue.map ival = ival n :: q.map ival := by show A.queue.map ival = _; rw [HQ.out]; rfl
  have eq5 : (A.touch n).queue.length = q.length + 1 := HLEN.out
  have c2 : w4.cell? ⟨p, 2, none⟩ = some (.slice (some ⟨g, off, none⟩) (q.length + 1) qc) := by rw [← eq5]; exact op4.hs.cell 2 rfl
  have f2 := op4.hs.free 2
  rw [eq4, eq5] at hs4
  have hs5 := (hs4.slcTail).p2
  obtain ⟨off', hoff⟩ : ∃ off', (if qc = 1 then off else off + 1) = off' := ⟨_, rfl⟩
  rw [hoff] at hs5
  have op5 := op4.queue rfl (hs5.store (i := 2) (.slice (some ⟨g, off', none⟩) q.length (qc - 1)))
  have HOFF := Lib.hid hoff
  clear hs4 hs5 eq4 eq5 hoff
  have hrun : (Instr.sliceAt 48 (.slice (some ⟨g, off, none⟩) (q.length + 1) qc) (some (.int .i64 1)) none none).run Try.prog w4 = .ok (.slice (some ⟨g, off', none⟩) q.length (qc - 1)) w4 := by
    have := run_tail1 (P := Try.prog) w4 48 3 Try.underlying48 1 (fun w => by kernel_rfl) g off q.length qc hcap.1
    rw [HOFF.out] at this
    simpa [Instr.sliceAt] using this
  have c4 : (w4.setCell ⟨p, 2, none⟩ (.slice (some ⟨g, off', none⟩) q.length (qc - 1))).cell? ⟨p, 4, none⟩ = some (.slice fa A.fins.length fc) := op5.hs.cell 4 rfl
  have hD := deleteFunc_fin (n := A.fins.length) (l := A.fins) (fun x => decide (x.1 = n)) 78 #[.pointer (some ⟨bx, 0, none⟩)] (enters_of Try.func78 (by kernel_rfl) rfl) (free_fn _ n) op5.hs.p8.p8 rfl hf
  have HD := Lib.hid hD
  clear hD
  go_wp2_with fail
  refine HD.out.mono ?_
  rintro e w6 ⟨rfl, h6⟩
  have c6 : w6.cell? ⟨p, 4, none⟩ = some (.slice fa A.fins.length fc) := h6.p3.cell 4 rfl
  have f6 := h6.p3.free 4
  have op6 := op5.fins rfl ((h6.p3.store (i := 4) (.slice fa (A.fins.filter fun x => !decide (x.1 = n)).length fc)).cast (by ac_rfl))
  have c60 : (w6.setCell ⟨p, 4, none⟩ (.slice fa (A.fins.filter fun x => !decide (x.1 = n)).length fc)).cell? ⟨p, 1, none⟩ = some (.map (some mb)) := op6.hs.cell 1 rfl
  have c61 : (w6.setCell ⟨p, 4, none⟩ (.slice fa (A.fins.filter fun x => !decide (x.1 = n)).length fc)).cell? ⟨bx, 0, none⟩ = some (.int .i64 n) := Sat.cell (T := 3) (cs := #[.int .i64 n]) op6.front 0 rfl
  go_wp2_with fail
  generalize hw7 : w6.setCell ⟨p, 4, none⟩ (.slice fa (A.fins.filter fun x => !decide (x.1 = n)).length fc) = w7 at *
  refine wp_region_tail 5 (by kernel_rfl) (by kernel_rfl) ?_
  simp only [List.take_succ_cons, List.take_zero, List.drop_succ_cons, List.drop_zero]
  iterate 5 still_step
  refine wpStill_nil ?_
  go_wp2_with (refine wpList_delete rfl _ _ 86 3 rfl (keys_int .i64) Try.underlying86 Try.underlying3 mb (omap O) rfl (op6.hs.p3.drew) n rfl ?_; intro w8 h8)
  have htk : tk A.T n = true := by rw [← op0.ht, HO2.out]; rfl
  have hnd := (op6.hs.p3.openMap).1
  obtain ⟨eM, eG⟩ := mdel_omap HO.out hnd
  rw [eM] at h8
  have eO' : objsR O = objR b o * objsR (l ++ r) := by rw [HO.out]; exact objsR_split l r (n, b, o)
  rw [eO'] at h8
  have h9 := (h8.cast (show _ = objR b o * (poolR pb A.T * (row p 90 (hcells pb mb (some ⟨g, off', none⟩) q.length (qc - 1) ba A.buf.length bc fa (A.fins.filter fun x => !decide (x.1 = n)).length fc A.marks fv (A.touch n).touched) * (mapR (.int .i64) (Value.int .i64) mb (omap (l ++ r)) * (objsR (l ++ r) * (slc 3 1 (some ⟨g, off', none⟩) q.length (qc - 1) (q.map ival) * (slc 3 1 ba A.buf.length bc (A.buf.map ival) * (slc 135 2 fa (A.fins.filter fun x => !decide (x.1 = n)).length fc (finCells (A.fins.filter fun x => !decide (x.1 = n))) * (pt bx (.cells #[.int .i64 n] 3) * F)))))))) by unfold hcells; show mapR _ _ _ _ * (row _ _ _ * (poolR _ _ * (_ * (_ * (_ * (_ * _)))))) = _; unfold heapCells; ac_rfl)).drop
  have c80 : w8.cell? ⟨p, 0, none⟩ = some (.pointer (some ⟨pb, 0, none⟩)) := h9.p2.cell 0 rfl
  have c81 : w8.cell? ⟨bx, 0, none⟩ = some (.int .i64 n) := Sat.cell (T := 3) (cs := #[.int .i64 n]) h9.p8 0 rfl
  have hG := pool_Give_yes h9.drew hT n htk
  have HG := Lib.hid hG
  have HE := Lib.hid eG
  clear hG h8 eM eG hnd htk eO'
  go_wp2_with fail
  refine wp_region_tail 5 (by kernel_rfl) (by kernel_rfl) ?_
  simp only [List.take_succ_cons, List.take_zero, List.drop_succ_cons, List.drop_zero]
  iterate 5 still_step
  refine wpStill_nil ?_
  go_wp2_with fail
  refine HG.out.mono ?_
  rintro e w10 ⟨rfl, h10⟩
  go_wp2_with fail
  go_ret
  refine ⟨rfl, ?_⟩
  have opF : Opened w0 w10 m p (A.free n) F pb mb (l ++ r) (some ⟨g, off', none⟩) (qc - 1) ba bc fa fc fv := by
    refine ⟨?_, ?_, op0.hw, ?_⟩
    · intro k
      rw [HE.out]
      show _ = if k = n then none else A.objs k
      split
      · rfl
      · exact op0.ho k
    · intro k
      show (if k = n then none else A.objs k).isSome = tk (giveT A.T n) k
      rw [tk_giveT]
      have := op0.ht k
      by_cases hk : k = n
      · subst hk; simp
      · rw [if_neg hk, this]; simp [hk]
    · have e1 : (A.free n).queue = q := by show A.queue.tail = q; rw [HQ.out]; rfl
      unfold heapCells
      rw [e1]
      exact (h10.p8.drop).cast (by unfold hcells; ac_rfl)
  exact opF.shut
end Go.Proofs.Ytkpcngcegipalaa.Tw
namespace Go.Proofs.Ytkpcngcegipalaa.Tw
set_option linter.unusedVariables false
set_option linter.unusedSimpArgs false
open Go Go.RowKit Go.MapKept

/-- an object as it is handed out -/
def objV (o : AObj) (a : Option Addr) (c : Nat) : Value := .agg #[.int .i64 o.kind, .int .i64 o.count, .slice a o.slots.length c, .string o.text, .int .i64 o.mark]
def AObj.none : AObj := ⟨0, 0, [], ByteArray.mk #[], 0⟩
def AHeap.obj (A : AHeap) (n : Int) : AObj := (A.objs n).getD AObj.none

theorem sX (N S R B G : HP) : N * (R * (S * (B * G))) = S * (N * (R * (B * G))) := by ac_rfl
theorem sX2 (C S N R B G : HP) : C * (S * (N * (R * (B * G)))) = N * (C * (S * (R * (B * G)))) := by ac_rfl
theorem sX3 (N C S R B G : HP) : N * (C * (S * (R * (B * G)))) = B * (N * (C * (S * (R * G)))) := by ac_rfl
theorem sX4 (C S R G : HP) : C * (S * (R * G)) = R * (S * (C * G)) := by ac_rfl
theorem sN (A B C D E G F : HP) : A * (B * (C * (D * (E * (G * F))))) = D * (G * (E * (C * (B * (A * F))))) := by ac_rfl

def AHeap.empty : AHeap := ⟨[], fun _ => none, [], [], [], 0, [], false⟩
theorem load_obj {w0 w : World} {F : HP} {b : Nat} {x0 x1 x2 x3 x4 : Value} (h : Sat w0 w (row b 39 #[x0, x1, x2, x3, x4] * F)) :
    (loadVar 39 ⟨b, 0, none⟩).run Try.prog w = .ok (.agg #[x0, x1, x2, x3, x4]) w := by
  have c0 : w.cell? ⟨b, 0, none⟩ = some x0 := h.cell 0 rfl
  have c1 : w.cell? ⟨b, 1, none⟩ = some x1 := h.cell 1 rfl
  have c2 : w.cell? ⟨b, 2, none⟩ = some x2 := h.cell 2 rfl
  have c3 : w.cell? ⟨b, 3, none⟩ = some x3 := h.cell 3 rfl
  have c4 : w.cell? ⟨b, 4, none⟩ = some x4 := h.cell 4 rfl
  go_simp
theorem load_val {w0 w : World} {F : HP} {b : Nat} {x0 x1 : Value} (h : Sat w0 w (row b 28 #[x0, x1] * F)) :
    (loadVar 28 ⟨b, 0, none⟩).run Try.prog w = .ok (.agg #[x0, x1]) w := by
  have c0 : w.cell? ⟨b, 0, none⟩ = some x0 := h.cell 0 rfl
  have c1 : w.cell? ⟨b, 1, none⟩ = some x1 := h.cell 1 rfl
  go_simp

def obj0 : Obj := .cells #[.int .i64 0, .int .i64 0, .slice none 0 0, .string (ByteArray.mk #[]), .int .i64 0] 39
theorem heap_Obj_nil (w : World) (n : Int) {w0 : World} {F : HP} (h : Sat w0 w F) :
    Calls Try.prog 23 #[.pointer none, .int .i64 n] w fun e w' => e = .returned (objV AObj.none none 0) ∧ Sat w0 w' F := by
  have h1 := h.alloc (.cells #[.int .i64 0, .int .i64 0, .slice none 0 0, .string (ByteArray.mk #[]), .int .i64 0] 39)
  have f0 := h1.free 0
  have f1 := h1.free 1
  have f2 := h1.free 2
  have f3 := h1.free 3
  have f4 := h1.free 4
  generalize hbx : w.heap.size = bx at *
  go_enter Try.func23, Try.ntmps23
  try rw [hbx]
  go_wp2_with fail
  refine (heap_find_nil _ n).mono ?_
  rintro e w1 ⟨rfl, rfl⟩
  go_wp2_with fail
  try simp only [Exit.inBlock, Exit.then]
  refine bodyPost_cell rfl rfl (v := objV AObj.none none 0) ?_ rfl ⟨rfl, ?_⟩
  · exact load_obj h1
  exact h1.drop

theorem heap_Obj {w0 w : World} {m : Hp} {p : Nat} {A : AHeap} {F : HP} (h : Sat w0 w (heapR m p A * F)) (n : Int) (hB : (A.obj n).slots.length ≤ 2000000000) :
    Calls Try.prog 23 #[.pointer (some ⟨p, 0, none⟩), .int .i64 n] w fun e w' => ∃ a c, e = .returned (objV (A.obj n) a c) ∧ Sat w0 w' (heapR m p A * (slc 28 2 a (A.obj n).slots.length c (avcells (A.obj n).slots) * F)) := by
  obtain ⟨pb, mb, O, qa, qc, ba, bc, fa, fc, fv, op0⟩ := h.openHeap
  have h1 := op0.alloc (.cells #[.int .i64 0, .int .i64 0, .slice none 0 0, .string (ByteArray.mk #[]), .int .i64 0] 39)
  have hf := h1.front
  have f0 := hf.free 0
  have f1 := hf.free 1
  have f2 := hf.free 2
  have f3 := hf.free 3
  have f4 := hf.free 4
  generalize hbx : w.heap.size = bx at *
  cases ho : A.objs n with
  | none =>
    have e : A.obj n = AObj.none := by unfold AHeap.obj; rw [ho]; rfl
    rw [e]
    go_enter Try.func23, Try.ntmps23
    try rw [hbx]
    go_wp2_with fail
    refine (heap_find_no h1.shut n ho).mono ?_
    rintro e w1 ⟨rfl, rfl⟩
    go_wp2_with fail
    try simp only [Exit.inBlock, Exit.then]
    refine bodyPost_cell rfl rfl (v := objV AObj.none none 0) ?_ rfl ⟨none, 0, rfl, ?_⟩
    · exact load_obj hf
    exact ((h1.unframe.shut.cast (mul_comm _ _)).cast (mul_comm _ _)).nilSlc.cast (mul_left_comm _ _ _)
  | some o =>
    have e : A.obj n = o := by unfold AHeap.obj; rw [ho]; rfl
    rw [e] at hB ⊢
    obtain ⟨b, l, r, eO, hl, e3⟩ := h1.obj ho
    obtain ⟨a, c, hG⟩ := h1.takeObj eO
    have hG2 := hG.alloc (.cells #[.int .i64 o.kind, .int .i64 o.count, .slice a o.slots.length c, .string o.text, .int .i64 o.mark] 39)
    rw [show (w.alloc (.cells #[.int .i64 0, .int .i64 0, .slice none 0 0, .string (ByteArray.mk #[]), .int .i64 0] 39)).heap.size = bx + 1 by simp [hbx]] at hG2
    have d2 := (hG2.cast (mul_left_comm _ _ _)).cell 2 rfl
    have c0 : (w.alloc (.cells #[.int .i64 0, .int .i64 0, .slice none 0 0, .string (ByteArray.mk #[]), .int .i64 0] 39)).cell? ⟨b, 0, none⟩ = some (.int .i64 o.kind) := hG.cell 0 rfl
    have c1 : (w.alloc (.cells #[.int .i64 0, .int .i64 0, .slice none 0 0, .string (ByteArray.mk #[]), .int .i64 0] 39)).cell? ⟨b, 1, none⟩ = some (.int .i64 o.count) := hG.cell 1 rfl
    have c2 : (w.alloc (.cells #[.int .i64 0, .int .i64 0, .slice none 0 0, .string (ByteArray.mk #[]), .int .i64 0] 39)).cell? ⟨b, 2, none⟩ = some (.slice a o.slots.length c) := hG.cell 2 rfl
    have c3 : (w.alloc (.cells #[.int .i64 0, .int .i64 0, .slice none 0 0, .string (ByteArray.mk #[]), .int .i64 0] 39)).cell? ⟨b, 3, none⟩ = some (.string o.text) := hG.cell 3 rfl
    have c4 : (w.alloc (.cells #[.int .i64 0, .int .i64 0, .slice none 0 0, .string (ByteArray.mk #[]), .int .i64 0] 39)).cell? ⟨b, 4, none⟩ = some (.int .i64 o.mark) := hG.cell 4 rfl
    go_enter Try.func23, Try.ntmps23
    try rw [hbx]
    go_wp2_with fail
    refine (heap_find h1 e3).mono ?_
    rintro e w1 ⟨rfl, rfl⟩
    clear e3 hl ho e
    have EO := Lib.hid eO
    clear eO
    go_wp2_with fail
    refine (clone_vals (hG2.cast (by rw [restR_frame]; exact sX _ _ _ _ _)) hB (oneCell_avcells _)).mono ?_
    rintro e w2 ⟨a', c', rfl, _, h3⟩
    have h4 := h3.cast (sX2 _ _ _ _ _ _)
    have g2 := h4.free 2
    have gc2 : w2.cell? ⟨bx + 1, 2, none⟩ = some (.slice a o.slots.length c) := Sat.cell (T := 39) (cs := #[.int .i64 o.kind, .int .i64 o.count, .slice a o.slots.length c, .string o.text, .int .i64 o.mark]) h4 2 rfl
    have h5 := h4.store (i := 2) (.slice a' o.slots.length c')
    simp only [List.setIfInBounds_toArray, List.set_cons_zero, List.set_cons_succ] at h5
    have e0 : (w2.setCell ⟨bx + 1, 2, none⟩ (.slice a' o.slots.length c')).cell? ⟨bx + 1, 0, none⟩ = some (.int .i64 o.kind) := h5.cell 0 rfl
    have e1 : (w2.setCell ⟨bx + 1, 2, none⟩ (.slice a' o.slots.length c')).cell? ⟨bx + 1, 1, none⟩ = some (.int .i64 o.count) := h5.cell 1 rfl
    have e2 : (w2.setCell ⟨bx + 1, 2, none⟩ (.slice a' o.slots.length c')).cell? ⟨bx + 1, 2, none⟩ = some (.slice a' o.slots.length c') := h5.cell 2 rfl
    have e3 : (w2.setCell ⟨bx + 1, 2, none⟩ (.slice a' o.slots.length c')).cell? ⟨bx + 1, 3, none⟩ = some (.string o.text) := h5.cell 3 rfl
    have e4 : (w2.setCell ⟨bx + 1, 2, none⟩ (.slice a' o.slots.length c')).cell? ⟨bx + 1, 4, none⟩ = some (.int .i64 o.mark) := h5.cell 4 rfl
    have h6 := h5.cast (sX3 _ _ _ _ _ _)
    have j0 : (w2.setCell ⟨bx + 1, 2, none⟩ (.slice a' o.slots.length c')).cell? ⟨bx, 0, none⟩ = some (.int .i64 0) := Sat.cell (T := 39) (cs := #[.int .i64 0, .int .i64 0, .slice none 0 0, .string (ByteArray.mk #[]), .int .i64 0]) h6 0 rfl
    have j1 : (w2.setCell ⟨bx + 1, 2, none⟩ (.slice a' o.slots.length c')).cell? ⟨bx, 1, none⟩ = some (.int .i64 0) := Sat.cell (T := 39) (cs := #[.int .i64 0, .int .i64 0, .slice none 0 0, .string (ByteArray.mk #[]), .int .i64 0]) h6 1 rfl
    have j2 : (w2.setCell ⟨bx + 1, 2, none⟩ (.slice a' o.slots.length c')).cell? ⟨bx, 2, none⟩ = some (.slice none 0 0) := Sat.cell (T := 39) (cs := #[.int .i64 0, .int .i64 0, .slice none 0 0, .string (ByteArray.mk #[]), .int .i64 0]) h6 2 rfl
    have j3 : (w2.setCell ⟨bx + 1, 2, none⟩ (.slice a' o.slots.length c')).cell? ⟨bx, 3, none⟩ = some (.string (ByteArray.mk #[])) := Sat.cell (T := 39) (cs := #[.int .i64 0, .int .i64 0, .slice none 0 0, .string (ByteArray.mk #[]), .int .i64 0]) h6 3 rfl
    have j4 : (w2.setCell ⟨bx + 1, 2, none⟩ (.slice a' o.slots.length c')).cell? ⟨bx, 4, none⟩ = some (.int .i64 0) := Sat.cell (T := 39) (cs := #[.int .i64 0, .int .i64 0, .slice none 0 0, .string (ByteArray.mk #[]), .int .i64 0]) h6 4 rfl
    have i0 := h6.free 0
    have i1 := h6.free 1
    have i2 := h6.free 2
    have i3 := h6.free 3
    have i4 := h6.free 4
    clear c0 c1 c2 c3 c4 d2 f0 f1 f2 f3 f4
    go_wp2_with fail
    try simp only [Exit.inBlock, Exit.then]
    have h7 := h6.store (i := 0) (.int .i64 o.kind) |>.store (i := 1) (.int .i64 o.count) |>.store (i := 2) (.slice a' o.slots.length c') |>.store (i := 3) (.string o.text) |>.store (i := 4) (.int .i64 o.mark)
    simp only [List.setIfInBounds_toArray, List.set_cons_zero, List.set_cons_succ] at h7
    refine bodyPost_cell rfl rfl (v := objV o a' c') ?_ rfl ⟨a', c', rfl, ?_⟩
    · exact load_obj h7
    have h8 := h7.drop.drop.cast (sX4 _ _ _ _)
    rw [← restR_frame] at h8
    exact (op0.putObj EO.out h8).shut

theorem heap_New {w0 w : World} {F : HP} (h : Sat w0 w F) :
    Calls Try.prog 15 #[] w fun e w' => ∃ p, e = .returned (.pointer (some ⟨p, 0, none⟩)) ∧ ∀ m, Sat w0 w' (heapR m p AHeap.empty * F) := by
  have hmm := @run_makeMap Try.prog
  go_enter Try.func15, Try.ntmps15
  go_wp2_with fail
  refine (pool_New h).mono ?_
  rintro e w1 ⟨pb, rfl, h1⟩
  go_wp2_with fail
  go_ret
  refine ⟨_, rfl, fun m => ?_⟩
  have h2 := (h1.newMap (d := .int .i64) (kv := Value.int .i64)).alloc (.cells (heapCells pb w1.heap.size AHeap.empty none 0 none 0 none 0 (.func (.func 70) #[] #[])) 90)
  have h3 := ((h2.nilSlc (T := 3) (sz := 1)).nilSlc (T := 3) (sz := 1)).nilSlc (T := 135) (sz := 2)
  refine Opened.shut (pb := pb) (mb := w1.heap.size) (O := []) (qa := none) (qc := 0) (ba := none) (bc := 0) (fa := none) (fc := 0) (fv := .func (.func 70) #[] #[]) ⟨fun n => rfl, fun n => by simp [AHeap.empty, tk], .inl ⟨rfl, rfl⟩, ?_⟩
  have e1 : objsR [] = 1 := rfl
  show Sat w0 _ (_ * (poolR pb [] * (mapR _ _ _ [] * (objsR [] * (slc _ 1 none 0 0 [] * (slc _ 1 none 0 0 [] * (slc _ 2 none 0 0 [] * F)))))))
  rw [e1, one_mul]
  rw [size_alloc] at h3
  exact h3.cast (sN _ _ _ _ _ _ _)
end Go.Proofs.Ytkpcngcegipalaa.Tw
