/- A region that draws its order, walked by text Grow: an operation whose law is a wp (append). No condition. -/
import Derived.Test.YtkpcngcegipalaaZPIn15
import Derived.Test.YtkpcngcegipalaaZPIn3
import Derived.Test.YtkpcngcegipalaaZPIn14
namespace Go.Proofs.Ytkpcngcegipalaa.Tw
set_option linter.unusedVariables false
set_option linter.unusedSimpArgs false
open Go Go.RowKit

section
variable {X : Type} {P : Program} {w0 w : World} {B : List HP} {a0 : Act} {tbl : List (Ent X)} {e : Nat → X} {o : Oper} {K : Value → World → Prop}
theorem put_inj {a : Act} {d : Nat} {v v' : Value} (hd : d < a.tmps.size) (h : a.put (some d) v = a.put (some d) v') : v = v' := by
  have h1 : (a.put (some d) v).tmps[d]? = (a.put (some d) v').tmps[d]? := by rw [h]
  simpa [Act.put, hd] using h1
theorem valUpon_of_wp {a : Act} {d : Nat} (hd : o.dst = some d) (hb : d < a.tmps.size) (h : o.wp P a w (fun a' w' => a'.defers = a.defers ∧ ∃ v, a' = a.put o.dst v ∧ K v w') (fun _ _ _ => False)) : valUpon P K ((execOp a.eval o).run P w) := by
  unfold Oper.wp at h
  rw [hd] at h
  generalize (execOp a.eval o).run P w = r at *
  cases r with
  | ok n w' =>
    cases n <;> simp only [Oper.upon] at h <;> simp only [valUpon]
    case value u =>
      obtain ⟨_, v, e, hv⟩ := h
      rw [hd] at e
      rw [put_inj hb e]; exact hv
    case skip =>
      obtain ⟨_, v, e, hv⟩ := h
      rw [hd] at e
      rw [put_inj hb e]; exact hv
    case enter f args =>
      refine Calls.mono h fun e w'' he => ?_
      cases e with
      | returned u =>
        obtain ⟨_, v, e, hv⟩ := he
        rw [hd] at e
        rw [put_inj hb e]; exact ⟨_, rfl, hv⟩
      | panicked c => exact he.elim
      | outgrown => obtain ⟨_, _, q⟩ := he; exact q.elim
    case row row args =>
      refine Rows.mono h fun v w'' he => ?_
      obtain ⟨_, v', e, hv⟩ := he
      rw [hd] at e
      rw [put_inj hb e]; exact hv
    case defer dd =>
      have := h.1
      rw [hd] at this
      simp only [Act.put] at this
      have hl := congrArg List.length this
      simp at hl
  | halt x w' => cases x <;> simp only [Oper.upon] at h
theorem putL_size (e : Nat → X) : ∀ t : List (Ent X), (putL a0 e t).tmps.size = a0.tmps.size
  | [] => rfl
  | E :: t => by
    simp only [putL]
    cases E.dst with
    | none => exact putL_size e t
    | some x => simp only [Act.put, Array.size_setIfInBounds]; exact putL_size e t
theorem putL_get (e : Nat → X) (d : Nat) : ∀ t : List (Ent X), (∀ E, E ∈ t → ∀ d, E.dst = some d → d < a0.tmps.size) → (putL a0 e t).tmps.getD d undef = lkE e d t (base a0 d)
  | [], _ => rfl
  | E :: t, h => by
    simp only [putL, lkE]
    rw [Act.getD_put (fun d hd => by rw [putL_size]; exact h E List.mem_cons_self d hd), putL_get e d t fun E' hE => h E' (List.mem_cons_of_mem _ hE)]
/-- an operation whose law is a wp -/
theorem wp_look {d sz : Nat} (hd : o.dst = some d) (hs : a0.tmps.size = sz) (hb : d < sz) (hsz : (tbl.all fun E => match E.dst with | some d => decide (d < sz) | none => true) = true)
    (h : ∀ a : Act, (∀ x, a.eval x = lookE a0 tbl e x) → o.wp P a w (fun a' w' => a'.defers = a.defers ∧ ∃ v, a' = a.put o.dst v ∧ K v w') (fun _ _ _ => False)) : valUpon P K ((execOp (lookE a0 tbl e) o).run P w) := by
  have hin : ∀ E, E ∈ tbl → ∀ d, E.dst = some d → d < a0.tmps.size := fun E hE d hd => by
    have := List.all_eq_true.1 hsz E hE
    rw [hd] at this
    rw [hs]; simpa using this
  have ha : ∀ x, (putL a0 e tbl).eval x = lookE a0 tbl e x := fun x => by
    cases x with
    | tmp d => exact putL_get e d tbl hin
    | _ => rfl
  rw [← funext ha]
  exact valUpon_of_wp hd (by rw [putL_size, hs]; exact hb) (h _ ha)
end
section
variable {w0 w : World} {F : HP}
/-- a literal in memory -/
def lits (x : Option Addr) (T : TypeId) (cs : List Value) : HP := ex fun q => wh (x = some ⟨q, 0, none⟩) (pt q (.cells cs.toArray T (0, 0)))
theorem lits_open {x : Option Addr} {T : TypeId} {cs : List Value} (h : Sat w0 w (lits x T cs * F)) : ∃ q, x = some ⟨q, 0, none⟩ ∧ Sat w0 w (pt q (.cells cs.toArray T (0, 0)) * F) := by
  obtain ⟨q, h⟩ := Sat.elim_ex h
  exact ⟨q, h.elim_wh⟩
theorem lits_shut {x : Option Addr} {T : TypeId} {cs : List Value} {q : Nat} (e : x = some ⟨q, 0, none⟩) (h : Sat w0 w (pt q (.cells cs.toArray T (0, 0)) * F)) : Sat w0 w (lits x T cs * F) := Sat.intro_ex (P := fun q => wh (x = some ⟨q, 0, none⟩) (pt q (.cells cs.toArray T (0, 0)))) q (Sat.intro_wh e h)
theorem lits_mk {T : TypeId} {cs : List Value} {q : Nat} {A : HP} (h : Sat w0 w (A * (pt q (.cells cs.toArray T (0, 0)) * F))) : Sat w0 w (A * (lits (some ⟨q, 0, none⟩) T cs * F)) := Sat.cast (lits_shut rfl (h.cast (mul_left_comm _ _ _))) (mul_left_comm _ _ _)
theorem one_out {A : HP} (h : Sat w0 w (1 * (A * F))) : Sat w0 w (A * F) := h.cast (one_mul _)
theorem one_in {A : HP} (h : Sat w0 w (A * F)) : Sat w0 w (1 * (A * F)) := h.cast (one_mul _).symm
end
end Go.Proofs.Ytkpcngcegipalaa.Tw
namespace Go.Proofs.Ytkpcngcegipalaa.Tw
set_option linter.unusedVariables false
set_option linter.unusedSimpArgs false
open Go Go.RowKit Go.MapKept

def rcellsH (A : AHeap) (oa : Option Addr) (oc : Nat) (qa : Option Addr) (qc : Nat) (ba : Option Addr) (bc : Nat) (fa : Option Addr) (fc : Nat) (sa : Option Addr) (sc : Nat) : Array Value :=
  #[.slice oa A.T.length oc, .slice qa A.queue.length qc, .slice ba A.buf.length bc, .slice fa A.fins.length fc, .int .i64 A.marks, .slice sa A.watch.length sc, .bool A.touched]
def rrest (A : AHeap) (qa : Option Addr) (qc : Nat) (ba : Option Addr) (bc : Nat) (fa : Option Addr) (fc : Nat) (sa : Option Addr) (sc : Nat) (F : HP) : HP :=
  slc 3 1 qa A.queue.length qc (A.queue.map ival) * (slc 3 1 ba A.buf.length bc (A.buf.map ival) * (slc 176 2 fa A.fins.length fc (finCells A.fins) * (slc 3 1 sa A.watch.length sc (A.watch.map ival) * F)))
abbrev opG (p : Nat) (A : AHeap) (X : List XObj) (oa : Option Addr) (oc : Nat) (qa : Option Addr) (qc : Nat) (ba : Option Addr) (bc : Nat) (fa : Option Addr) (fc : Nat) (sa : Option Addr) (sc : Nat) (F : HP) : HP :=
  row p 51 (rcellsH A oa oc qa qc ba bc fa fc sa sc) * (slc 39 5 oa A.T.length oc (xscells X) * (xslotsR X * rrest A qa qc ba bc fa fc sa sc F))
/-- the reference's heap A at block p -/
def refR13 (p : Nat) (A : AHeap) : HP := fun h => ∃ X oa oc qa qc ba bc fa fc sa sc, X.map (·.1) = graphL A A.T.length ∧
  (row p 51 (rcellsH A oa oc qa qc ba bc fa fc sa sc) * (slc 39 5 oa A.T.length oc (xscells X) * (xslotsR X * rrest A qa qc ba bc fa fc sa sc 1))) h
structure ROpen (w0 w : World) (p : Nat) (A : AHeap) (F : HP) (X : List XObj) (oa : Option Addr) (oc : Nat) (qa : Option Addr) (qc : Nat) (ba : Option Addr) (bc : Nat) (fa : Option Addr) (fc : Nat) (sa : Option Addr) (sc : Nat) : Prop where
  hx : X.map (·.1) = graphL A A.T.length
  hs : Sat w0 w (row p 51 (rcellsH A oa oc qa qc ba bc fa fc sa sc) * (slc 39 5 oa A.T.length oc (xscells X) * (xslotsR X * rrest A qa qc ba bc fa fc sa sc F)))
theorem rrest_F (A : AHeap) (qa : Option Addr) (qc : Nat) (ba : Option Addr) (bc : Nat) (fa : Option Addr) (fc : Nat) (sa : Option Addr) (sc : Nat) (F : HP) : rrest A qa qc ba bc fa fc sa sc F = rrest A qa qc ba bc fa fc sa sc 1 * F := by
  unfold rrest; rw [mul_one]; ac_rfl
section
variable {w0 w : World} {p : Nat} {A A' : AHeap} {F G : HP} {X : List XObj} {oa : Option Addr} {oc : Nat} {qa : Option Addr} {qc : Nat} {ba : Option Addr} {bc : Nat} {fa : Option Addr} {fc : Nat} {sa : Option Addr} {sc : Nat} {B : Int}
theorem Sat.openR (h : Sat w0 w (refR13 p A * F)) : ∃ X oa oc qa qc ba bc fa fc sa sc, ROpen w0 w p A F X oa oc qa qc ba bc fa fc sa sc := by
  obtain ⟨h1, x, ⟨y, z, dj, rfl, ⟨X, oa, oc, qa, qc, ba, bc, fa, fc, sa, sc, e, hp⟩, hq⟩, r⟩ := h
  have h2 : Sat w0 w ((row p 51 (rcellsH A oa oc qa qc ba bc fa fc sa sc) * (slc 39 5 oa A.T.length oc (xscells X) * (xslotsR X * rrest A qa qc ba bc fa fc sa sc 1))) * F) := ⟨h1, _, ⟨y, z, dj, rfl, hp, hq⟩, r⟩
  exact ⟨X, oa, oc, qa, qc, ba, bc, fa, fc, sa, sc, e, h2.cast (by rw [rrest_F _ _ _ _ _ _ _ _ _ F]; ac_rfl)⟩
theorem ROpen.shut (h : ROpen w0 w p A F X oa oc qa qc ba bc fa fc sa sc) : Sat w0 w (refR13 p A * F) := by
  have h1 := h.hs.cast (show _ = (row p 51 (rcellsH A oa oc qa qc ba bc fa fc sa sc) * (slc 39 5 oa A.T.length oc (xscells X) * (xslotsR X * rrest A qa qc ba bc fa fc sa sc 1))) * F by rw [rrest_F _ _ _ _ _ _ _ _ _ F]; ac_rfl)
  exact h1.mono_l fun _ q => ⟨X, oa, oc, qa, qc, ba, bc, fa, fc, sa, sc, h.hx, q⟩
theorem ROpen.shutO {G : HP} (hx : X.map (·.1) = graphL A A.T.length) (h : Sat w0 w (G * opG p A X oa oc qa qc ba bc fa fc sa sc F)) : Sat w0 w (refR13 p A * (G * F)) := ROpen.shut ⟨hx, h.cast (by unfold opG rrest; ac_rfl)⟩
/-- the reference's heap with its places named -/
def refO (p : Nat) (A : AHeap) (X : List XObj) (oa : Option Addr) (oc : Nat) (qa : Option Addr) (qc : Nat) (ba : Option Addr) (bc : Nat) (fa : Option Addr) (fc : Nat) (sa : Option Addr) (sc : Nat) : HP := opG p A X oa oc qa qc ba bc fa fc sa sc 1
theorem refO_F (p : Nat) (A : AHeap) (X : List XObj) (oa : Option Addr) (oc : Nat) (qa : Option Addr) (qc : Nat) (ba : Option Addr) (bc : Nat) (fa : Option Addr) (fc : Nat) (sa : Option Addr) (sc : Nat) (F : HP) : opG p A X oa oc qa qc ba bc fa fc sa sc F = refO p A X oa oc qa qc ba bc fa fc sa sc * F := by
  unfold refO opG; rw [rrest_F]; ac_rfl
theorem ROpen.len (h : ROpen w0 w p A F X oa oc qa qc ba bc fa fc sa sc) : X.length = A.T.length := by
  have := congrArg List.length h.hx
  simpa [graphL] using this
theorem ROpen.at (h : ROpen w0 w p A F X oa oc qa qc ba bc fa fc sa sc) {k : Nat} (hk : k < A.T.length) : ∃ x, X[k]? = some x ∧ x.1 = A.obj ((k : Int) + 1) := by
  have hl := h.len
  refine ⟨X[k], List.getElem?_eq_getElem (by omega), ?_⟩
  have h1 : (X.map (·.1))[k]? = some (X[k]).1 := by rw [List.getElem?_map, List.getElem?_eq_getElem (by omega)]; rfl
  rw [h.hx] at h1
  unfold graphL at h1
  rw [List.getElem?_map, List.getElem?_range hk] at h1
  exact (Option.some.inj h1).symm
/-- the cells of the heap -/
theorem ROpen.c0 (h : ROpen w0 w p A F X oa oc qa qc ba bc fa fc sa sc) : w.cell? ⟨p, 0, none⟩ = some (.slice oa A.T.length oc) := h.hs.cell 0 rfl
theorem ROpen.c1 (h : ROpen w0 w p A F X oa oc qa qc ba bc fa fc sa sc) : w.cell? ⟨p, 1, none⟩ = some (.slice qa A.queue.length qc) := h.hs.cell 1 rfl
theorem ROpen.c2 (h : ROpen w0 w p A F X oa oc qa qc ba bc fa fc sa sc) : w.cell? ⟨p, 2, none⟩ = some (.slice ba A.buf.length bc) := h.hs.cell 2 rfl
theorem ROpen.c3 (h : ROpen w0 w p A F X oa oc qa qc ba bc fa fc sa sc) : w.cell? ⟨p, 3, none⟩ = some (.slice fa A.fins.length fc) := h.hs.cell 3 rfl
theorem ROpen.c4 (h : ROpen w0 w p A F X oa oc qa qc ba bc fa fc sa sc) : w.cell? ⟨p, 4, none⟩ = some (.int .i64 A.marks) := h.hs.cell 4 rfl
theorem ROpen.c5 (h : ROpen w0 w p A F X oa oc qa qc ba bc fa fc sa sc) : w.cell? ⟨p, 5, none⟩ = some (.slice sa A.watch.length sc) := h.hs.cell 5 rfl
theorem ROpen.c6 (h : ROpen w0 w p A F X oa oc qa qc ba bc fa fc sa sc) : w.cell? ⟨p, 6, none⟩ = some (.bool A.touched) := h.hs.cell 6 rfl
/-- an object's cells -/
theorem ROpen.obj (h : ROpen w0 w p A F X oa oc qa qc ba bc fa fc sa sc) {k : Nat} (hk : k < A.T.length) : ∃ g off xa xc, oa = some ⟨g, off, none⟩ ∧ X[k]? = some (A.obj ((k : Int) + 1), xa, xc) ∧
    w.cell? ⟨g, off + k * 5, none⟩ = some (.int .i64 (A.obj ((k : Int) + 1)).kind) ∧ w.cell? ⟨g, off + k * 5 + 1, none⟩ = some (.int .i64 (A.obj ((k : Int) + 1)).count) ∧ w.cell? ⟨g, off + k * 5 + 2, none⟩ = some (.slice xa (A.obj ((k : Int) + 1)).slots.length xc) ∧
    w.cell? ⟨g, off + k * 5 + 3, none⟩ = some (.string (A.obj ((k : Int) + 1)).text) ∧ w.cell? ⟨g, off + k * 5 + 4, none⟩ = some (.int .i64 (A.obj ((k : Int) + 1)).mark) := by
  obtain ⟨x, hx, e⟩ := h.at hk
  obtain ⟨g, off, ea, d0, d1, d2, d3, d4⟩ := objAtX h.hs.p2 hx
  obtain ⟨o, xa, xc⟩ := x
  dsimp only at e d0 d1 d2 d3 d4
  subst e
  exact ⟨g, off, xa, xc, ea, hx, d0, d1, d2, d3, d4⟩
theorem xscells_set {l : List XObj} {k : Nat} {x y : XObj} (hk : l[k]? = some x) {j : Nat} {v : Value} (hj : j < 5) (hv : xcells y = (xcells x).set j v) : xscells (l.set k y) = (xscells l).set (k * 5 + j) v := by
  induction l generalizing k with
  | nil => simp at hk
  | cons z l ih =>
    have l5 : ∀ z : XObj, (xcells z).length = 5 := fun _ => rfl
    have e : ∀ (z : XObj) (l : List XObj), xscells (z :: l) = xcells z ++ xscells l := fun _ _ => rfl
    cases k with
    | zero =>
      simp at hk; subst hk
      rw [List.set_cons_zero, e, e, hv, Nat.zero_mul, Nat.zero_add, List.set_append_left _ _ (by rw [l5]; omega)]
    | succ k =>
      rw [List.set_cons_succ, e, e, ih (by simpa using hk), List.set_append_right _ _ (by rw [l5]; omega), l5]
      congr 2
      omega
theorem xslotsR_set {l : List XObj} {k : Nat} {x y : XObj} (hk : l[k]? = some x) : ∃ R, xslotsR l = slc 28 2 x.2.1 x.1.slots.length x.2.2 (avcells x.1.slots) * R ∧ xslotsR (l.set k y) = slc 28 2 y.2.1 y.1.slots.length y.2.2 (avcells y.1.slots) * R := by
  induction l generalizing k with
  | nil => simp at hk
  | cons z l ih =>
    cases k with
    | zero => simp at hk; subst hk; exact ⟨xslotsR l, rfl, rfl⟩
    | succ k =>
      obtain ⟨R, e1, e2⟩ := ih (k := k) (by simpa using hk)
      refine ⟨slc 28 2 z.2.1 z.1.slots.length z.2.2 (avcells z.1.slots) * R, ?_, ?_⟩
      · rw [xslotsR, e1]; exact mul_left_comm _ _ _
      · rw [List.set_cons_succ, xslotsR, e2]; exact mul_left_comm _ _ _
theorem graphL_set {N k : Nat} (hk : k < N) {o : AObj} {y : Option Addr × Nat} (hx : X.map (·.1) = graphL A N) (h1 : A'.obj ((k : Int) + 1) = o) (h2 : ∀ n, n ≠ (k : Int) + 1 → A'.obj n = A.obj n) : (X.set k (o, y)).map (·.1) = graphL A' N := by
  have hxl : X.length = N := by have := congrArg List.length hx; simpa [graphL] using this
  apply List.ext_getElem?
  intro i
  rw [List.getElem?_map, List.getElem?_set]
  unfold graphL
  rw [List.getElem?_map]
  by_cases hi : i < N
  · rw [List.getElem?_range hi]
    by_cases e : k = i
    · subst e
      rw [if_pos rfl, if_pos (by omega)]
      simp [h1]
    · rw [if_neg e]
      have h3 : (X.map (·.1))[i]? = some (A.obj ((i : Int) + 1)) := by
        rw [hx]; unfold graphL; rw [List.getElem?_map, List.getElem?_range hi]; rfl
      rw [List.getElem?_map] at h3
      rw [h3]
      simp only [Option.map_some, Option.some.injEq]
      exact (h2 _ (by omega)).symm
  · rw [List.getElem?_eq_none (show (List.range N).length ≤ i by simp; omega)]
    by_cases e : k = i
    · omega
    · rw [if_neg e, List.getElem?_eq_none (by omega)]; rfl
theorem obj_in (H : HW A B) {n : Int} (h : (A.objs n).isSome = true) : 1 ≤ n ∧ n ≤ A.T.length := by
  rw [H.ht] at h
  have := tk_lt h
  omega
theorem obj_kind (H : HW A B) (n : Int) : ((A.obj n).kind != 0) = (A.objs n).isSome := by
  unfold AHeap.obj
  cases ho : A.objs n with
  | none => rfl
  | some o => have := H.c n o ho; simp; omega
end
end Go.Proofs.Ytkpcngcegipalaa.Tw
namespace Go.Proofs.Ytkpcngcegipalaa.Tw
set_option linter.unusedVariables false
set_option linter.unusedSimpArgs false
open Go Go.RowKit Go.MapKept

section
variable {w0 w : World} {p : Nat} {A : AHeap} {F : HP} {B : Int}
set_option maxHeartbeats 1000000 in
theorem r_There (H : HW A B) (hB : B ≤ 1000000) (h : Sat w0 w (refR13 p A * F)) (n : Int) {b : Bool} (hb : (A.objs n).isSome = b) :
    Calls Try.prog 114 #[.pointer (some ⟨p, 0, none⟩), .int .i64 n] w fun e w' => e = .returned (.bool b) ∧ w = w' := by
  obtain ⟨X, oa, oc, qa, qc, ba, bc, fa, fc, sa, sc, op⟩ := h.openR
  have c0 := op.c0
  have hT := H.t
  by_cases h1 : 1 ≤ n
  · by_cases h2 : n ≤ A.T.length
    · obtain ⟨k, rfl⟩ : ∃ k : Nat, n = (k : Int) + 1 := ⟨(n - 1).toNat, by omega⟩
      obtain ⟨g, off, xa, xc, rfl, _, d0, _, _, _, _⟩ := op.obj (k := k) (by omega)
      have hk := obj_kind H ((k : Int) + 1)
      rw [hb] at hk
      generalize (A.obj ((k : Int) + 1)).kind = kd at *
      generalize A.T.length = N at *
      have hj1 : (k : Int) + 1 - 1 = k := by omega
      have hj2 : (0 : Int) ≤ (k : Int) := by omega
      have hj3 : (k : Int) < (N : Int) := by omega
      have hj4 : IntKind.i64.wrap (k : Int) = k := IntWalk.i64_in _ (by omega)
      clear op h hb
      cases b
      all_goals
        go_enter Try.func114, Try.ntmps114
        go_wp2_with fail
        go_ret
        exact ⟨rfl, rfl⟩
    · have hf : b = false := by
        rw [← hb]
        cases e : (A.objs n).isSome with
        | false => rfl
        | true => have := obj_in H e; omega
      subst hf
      have q2 : decide (n ≤ (A.T.length : Int)) = false := by simp; omega
      generalize A.T.length = N at *
      clear op h hb h2
      go_enter Try.func114, Try.ntmps114
      go_wp2_with fail
      go_ret
      exact ⟨rfl, rfl⟩
  · have hf : b = false := by
      rw [← hb]
      cases e : (A.objs n).isSome with
      | false => rfl
      | true => have := obj_in H e; omega
    subst hf
    have q1 : decide (1 ≤ n) = false := by simp; omega
    clear op h hb h1
    go_enter Try.func114, Try.ntmps114
    go_wp2_with fail
    go_ret
    exact ⟨rfl, rfl⟩
set_option maxHeartbeats 1000000 in
theorem r_in {a : Option Addr} {c n : Nat} {l : List Int} (h : Sat w0 w (slc 3 1 a n c (l.map ival) * F)) (hl : l.length = n) (hn : n ≤ 1000000) (x : Int) {b : Bool} (hb : decide (x ∈ l) = b) :
    Calls Try.prog 132 #[.slice a n c, .int .i64 x] w fun e w' => e = .returned (.bool b) ∧ w = w' := by
  subst hb
  have HL := Lib.hid hl
  clear hl
  go_enter Try.func132, Try.ntmps132
  go_wp2_with fail
  go_loop [5] (fun iv => ∃ k : Nat, iv = .int .i64 k ∧ k ≤ n ∧ Hid (x ∉ l.take k)) (fun iv => n - (intOf iv).toNat)
  case atStart => exact ⟨0, rfl, by omega, Lib.hid (by simp)⟩
  case round =>
    obtain ⟨k, rfl, hk, hb⟩ := hrel
    by_cases hlt : k < n
    · have hl1 := HL.out
      have ex : l[k]? = some (l[k]'(by omega)) := List.getElem?_eq_getElem _
      obtain ⟨g, off, rfl, c1, _⟩ := intCells h ex
      generalize l[k]'(by omega) = y at *
      have HX := Lib.hid ex
      clear ex hl1
      by_cases hxy : y = x
      · subst hxy
        go_wp2_with fail
        go_ret
        exact ⟨by rw [decide_eq_true (List.mem_of_getElem? HX.out)]; rfl, rfl⟩
      · have hq : (y == x) = false := by simpa using hxy
        have HN := Lib.hid hxy
        clear hxy
        go_wp2_with fail
        go_round
        case rel =>
          refine ⟨k + 1, by go_num, by omega, Lib.hid ?_⟩
          rw [List.take_add_one, HX.out]
          intro hm
          rcases List.mem_append.1 hm with hm | hm
          · exact hb.out hm
          · simp at hm; exact HN.out hm.symm
        case measure => simp [intOf]; omega
    · have hkn : k = n := by omega
      subst hkn
      go_wp2_with fail
      go_ret
      have : x ∉ l := by
        have h1 := hb.out
        have hl1 := HL.out
        rwa [List.take_of_length_le (by omega)] at h1
      exact ⟨by rw [decide_eq_false this]; rfl, rfl⟩
/-- a list without a number -/
def wout (l : List Int) (x : Int) : List Int := l.filter fun y => !decide (x = y)
theorem wout_snoc (l : List Int) (x y : Int) : wout (l ++ [y]) x = wout l x ++ if x = y then [] else [y] := by
  unfold wout; rw [List.filter_append]; by_cases e : x = y <;> simp [e]
set_option maxHeartbeats 1000000 in
theorem r_without {a : Option Addr} {c n : Nat} {l : List Int} (h : Sat w0 w (slc 3 1 a n c (l.map ival) * F)) (hl : l.length = n) (hn : n ≤ 1000000) (x : Int) :
    Calls Try.prog 131 #[.slice a n c, .int .i64 x] w fun e w' => ∃ ra rc, e = .returned (.slice ra (wout l x).length rc) ∧ Sat w0 w' (slc 3 1 ra (wout l x).length rc ((wout l x).map ival) * (slc 3 1 a n c (l.map ival) * F)) := by
  have HL := Lib.hid hl
  clear hl
  go_enter Try.func131, Try.ntmps131
  go_wp2_with fail
  go_loopw [5, 6] (fun ov iv wr => ∃ (k m : Nat) (ra : Option Addr) (rc : Nat), iv = .int .i64 k ∧ k ≤ n ∧ ov = .slice ra m rc ∧ m ≤ k ∧ Hid ((wout (l.take k) x).length = m) ∧ Sat w0 wr (slc 3 1 ra m rc ((wout (l.take k) x).map ival) * (slc 3 1 a n c (l.map ival) * F))) (fun _ iv _ => n - (intOf iv).toNat)
  case atStart => exact ⟨0, 0, none, 0, rfl, by omega, rfl, by omega, Lib.hid rfl, h.nilSlc⟩
  case round =>
    obtain ⟨k, m, ra, rc, rfl, hk, rfl, hmk, hm, hs⟩ := hrel
    by_cases hlt : k < n
    · have hl1 := HL.out
      have ex : l[k]? = some (l[k]'(by omega)) := List.getElem?_eq_getElem _
      obtain ⟨g, off, rfl, c1, _⟩ := intCells hs.p2 ex
      generalize l[k]'(by omega) = y at *
      have htk : l.take (k + 1) = l.take k ++ [y] := by rw [List.take_add_one, ex]; rfl
      have hw := wout_snoc (l.take k) x y
      rw [← htk] at hw
      by_cases hxy : y = x
      · subst hxy
        have hq : (y != y) = false := by simp
        rw [if_pos rfl, List.append_nil] at hw
        have HWT := Lib.hid hw
        clear hw htk ex hl1
        go_wp2_with fail
        go_roundw
        case rel => exact ⟨k + 1, m, ra, rc, by go_num, by omega, rfl, by omega, Lib.hid (by rw [HWT.out]; exact hm.out), by rw [HWT.out]; exact hs⟩
        case measure => simp [intOf]; omega
      · have hq : (y != x) = true := by simpa using hxy
        rw [if_neg (fun e => hxy e.symm)] at hw
        have HWT := Lib.hid hw
        clear hw htk ex hl1 hxy
        have h1 := hs.alloc (.cells #[.int .i64 y] 3)
        have b0 : (wr.alloc (.cells #[.int .i64 y] 3)).cell? ⟨wr.heap.size, 0, none⟩ = some (.int .i64 y) := Sat.cell (T := 3) (cs := #[.int .i64 y]) h1 0 rfl
        go_wp2_with (at_builtin; refine wpList_push rfl _ _ rfl ra m rc (wout (l.take k) x) rfl h1.p2 wr.heap.size 1 y rfl b0 (by omega) ?_; intro a' c' w4 h4)
        go_roundw
        case rel => exact ⟨k + 1, m + 1, a', c', by go_num, by omega, rfl, by omega, Lib.hid (by rw [HWT.out, List.length_append, hm.out]; rfl), by rw [HWT.out]; exact h4.drop2⟩
        case measure => simp [intOf]; omega
    · have hkn : k = n := by omega
      subst hkn
      go_wp2_with fail
      go_ret
      have e : l.take k = l := List.take_of_length_le (by have := HL.out; omega)
      have hm := hm.out
      rw [e] at hs hm
      subst hm
      exact ⟨ra, rc, rfl, hs⟩
end
end Go.Proofs.Ytkpcngcegipalaa.Tw
