/- A region that draws its order, walked by text Grow: an operation whose law is a wp (append). No condition. -/
import Derived.Test.YtmngkodejlhalaaZRPaths17
namespace Go.Proofs.Ytmngkodejlhalaa.Tw
set_option linter.unusedVariables false
set_option linter.unusedSimpArgs false
open Go Go.RowKit

section
variable {X : Type} {P : Program} {w0 w : World} {B : List HP} {a0 : Act} {tbl : List (Ent X)} {e : Nat → X} {o : Oper} {K : Value → World → Prop}
theorem put_inj {a : Act} {d : Nat} {v v' : Value} (hd : d < a.tmps.size) (h : a.put (some d) v = a.put (some d) v') : v = v' := by
  have h1 : (a.put (some d) v).tmps[d]? = (a.put (some d) v').tmps[d]? := by rw [h]
  simpa [Act.put, hd] using h1
theorem valUpon_of_wp {a : Act} {d : Nat} (hd : o.dst = some d) (hb : d < a.tmps.size) (h : o.wp P a w (fun a' w' => a'.defers = a.defers ∧ ∃ v, a' = a.put o.dst v ∧ K v w') (fun _ _ _ => False)) : valUpon P K ((execOp a.eval o).run P w) := by
  unfold Oper.wp at h
  rw [hd] at h
  generalize (execOp a.eval o).run P w = r at *
  cases r with
  | ok n w' =>
    cases n <;> simp only [Oper.upon] at h <;> simp only [valUpon]
    case value u =>
      obtain ⟨_, v, e, hv⟩ := h
      rw [hd] at e
      rw [put_inj hb e]; exact hv
    case skip =>
      obtain ⟨_, v, e, hv⟩ := h
      rw [hd] at e
      rw [put_inj hb e]; exact hv
    case enter f args =>
      refine Calls.mono h fun e w'' he => ?_
      cases e with
      | returned u =>
        obtain ⟨_, v, e, hv⟩ := he
        rw [hd] at e
        rw [put_inj hb e]; exact ⟨_, rfl, hv⟩
      | panicked c => exact he.elim
      | outgrown => obtain ⟨_, _, q⟩ := he; exact q.elim
    case row row args =>
      refine Rows.mono h fun v w'' he => ?_
      obtain ⟨_, v', e, hv⟩ := he
      rw [hd] at e
      rw [put_inj hb e]; exact hv
    case defer dd =>
      have := h.1
      rw [hd] at this
      simp only [Act.put] at this
      have hl := congrArg List.length this
      simp at hl
  | halt x w' => cases x <;> simp only [Oper.upon] at h
theorem putL_size (e : Nat → X) : ∀ t : List (Ent X), (putL a0 e t).tmps.size = a0.tmps.size
  | [] => rfl
  | E :: t => by
    simp only [putL]
    cases E.dst with
    | none => exact putL_size e t
    | some x => simp only [Act.put, Array.size_setIfInBounds]; exact putL_size e t
theorem putL_get (e : Nat → X) (d : Nat) : ∀ t : List (Ent X), (∀ E, E ∈ t → ∀ d, E.dst = some d → d < a0.tmps.size) → (putL a0 e t).tmps.getD d undef = lkE e d t (base a0 d)
  | [], _ => rfl
  | E :: t, h => by
    simp only [putL, lkE]
    rw [Act.getD_put (fun d hd => by rw [putL_size]; exact h E List.mem_cons_self d hd), putL_get e d t fun E' hE => h E' (List.mem_cons_of_mem _ hE)]
/-- an operation whose law is a wp -/
theorem wp_look {d sz : Nat} (hd : o.dst = some d) (hs : a0.tmps.size = sz) (hb : d < sz) (hsz : (tbl.all fun E => match E.dst with | some d => decide (d < sz) | none => true) = true)
    (h : ∀ a : Act, (∀ x, a.eval x = lookE a0 tbl e x) → o.wp P a w (fun a' w' => a'.defers = a.defers ∧ ∃ v, a' = a.put o.dst v ∧ K v w') (fun _ _ _ => False)) : valUpon P K ((execOp (lookE a0 tbl e) o).run P w) := by
  have hin : ∀ E, E ∈ tbl → ∀ d, E.dst = some d → d < a0.tmps.size := fun E hE d hd => by
    have := List.all_eq_true.1 hsz E hE
    rw [hd] at this
    rw [hs]; simpa using this
  have ha : ∀ x, (putL a0 e tbl).eval x = lookE a0 tbl e x := fun x => by
    cases x with
    | tmp d => exact putL_get e d tbl hin
    | _ => rfl
  rw [← funext ha]
  exact valUpon_of_wp hd (by rw [putL_size, hs]; exact hb) (h _ ha)
end
section
variable {w0 w : World} {F : HP}
/-- a literal in memory -/
def lits (x : Option Addr) (T : TypeId) (cs : List Value) : HP := ex fun q => wh (x = some ⟨q, 0, none⟩) (pt q (.cells cs.toArray T (0, 0)))
theorem lits_open {x : Option Addr} {T : TypeId} {cs : List Value} (h : Sat w0 w (lits x T cs * F)) : ∃ q, x = some ⟨q, 0, none⟩ ∧ Sat w0 w (pt q (.cells cs.toArray T (0, 0)) * F) := by
  obtain ⟨q, h⟩ := Sat.elim_ex h
  exact ⟨q, h.elim_wh⟩
theorem lits_shut {x : Option Addr} {T : TypeId} {cs : List Value} {q : Nat} (e : x = some ⟨q, 0, none⟩) (h : Sat w0 w (pt q (.cells cs.toArray T (0, 0)) * F)) : Sat w0 w (lits x T cs * F) := Sat.intro_ex (P := fun q => wh (x = some ⟨q, 0, none⟩) (pt q (.cells cs.toArray T (0, 0)))) q (Sat.intro_wh e h)
theorem lits_mk {T : TypeId} {cs : List Value} {q : Nat} {A : HP} (h : Sat w0 w (A * (pt q (.cells cs.toArray T (0, 0)) * F))) : Sat w0 w (A * (lits (some ⟨q, 0, none⟩) T cs * F)) := Sat.cast (lits_shut rfl (h.cast (mul_left_comm _ _ _))) (mul_left_comm _ _ _)
theorem one_out {A : HP} (h : Sat w0 w (1 * (A * F))) : Sat w0 w (A * F) := h.cast (one_mul _)
theorem one_in {A : HP} (h : Sat w0 w (A * F)) : Sat w0 w (1 * (A * F)) := h.cast (one_mul _).symm
end
end Go.Proofs.Ytmngkodejlhalaa.Tw
