/- flow: Order's plain parts: the search, its measure, the stack of visits. No condition. -/
import Derived.Test.YtpeifcdfhhpdkaaFlow5
namespace Go.Proofs.Ytpeifcdfhhpdkaa.Tw
set_option linter.unusedVariables false
set_option linter.unusedSimpArgs false
open Go Go.RowKit Go.MapKept
attribute [local go_sem] Oper.semAt_some

open Classical in
/-- a loop with a number that no slot holds -/
theorem wp_loop_ghost {P : Program} {Q : Exit → Act → World → Prop} {c : Code} (I : Nat → Act → World → Prop) {f : Nat} {a : Act} {w : World} (h0 : I f a w)
    (round : ∀ f a w, I f a w → c.wp P (Exit.then (fun a' w' => ∃ f', f' < f ∧ I f' a' w') Q) a w) : (Code.loop c).wp P Q a w := by
  have least : ∀ a w, (∃ f, I f a w) → ∃ m, I m a w ∧ ∀ k, k < m → ¬ I k a w := by
    intro a w ⟨f, hf⟩
    induction f using Nat.strongRecOn with
    | _ f ih =>
      by_cases h : ∃ k, k < f ∧ I k a w
      · obtain ⟨k, hk, hI⟩ := h
        exact ih k hk hI
      · exact ⟨f, hf, fun k hk hI => h ⟨k, hk, hI⟩⟩
  refine wp_loop (fun a w => ∃ f, I f a w) (fun a w => if h : ∃ f, I f a w then (least a w h).choose else 0) ⟨f, h0⟩ ?_
  intro a w h
  have hm := (least a w h).choose_spec
  refine Code.wp_mono ?_ (round _ a w hm.1)
  intro e a' w' q
  cases e <;> try exact q
  obtain ⟨f', hlt, hI⟩ := q
  refine ⟨⟨f', hI⟩, ?_⟩
  have h' : ∃ f, I f a' w' := ⟨f', hI⟩
  have hm' := (least a' w' h').choose_spec
  show (if h : ∃ f, I f a' w' then (least a' w' h).choose else 0) < (if h : ∃ f, I f a w then (least a w h).choose else 0)
  rw [dif_pos h', dif_pos h]
  refine Nat.lt_of_le_of_lt ?_ hlt
  exact Nat.le_of_not_lt fun hlt2 => hm'.2 _ hlt2 hI

/-- the search: the stack's top comes first -/
def dfs (l : List AIn) : Nat → List (Int × List Int) → List Int → List Int → List Int
  | 0, _, _, done => done
  | _ + 1, [], _, done => done
  | f + 1, (pc, []) :: st, seen, done => dfs l f st seen (done ++ [pc])
  | f + 1, (pc, y :: ws) :: st, seen, done => if y ∈ seen then dfs l f ((pc, ws) :: st) seen done else dfs l f ((y, sortI (nextL l y)) :: (pc, ws) :: st) (seen ++ [y]) done
def weigh (n : Nat) (st : List (Int × List Int)) (seen : List Int) : Nat := 4 * (n - seen.length) + (st.map fun v => v.2.length + 1).sum
def orderL (l : List AIn) : List Int := if l.length = 0 then [] else (dfs l (4 * l.length) [(0, sortI (nextL l 0))] [0] []).reverse

structure Vis where
  pc : Int
  wa : Option Addr
  wc : Nat
  ws : List Int
def Vis.v (v : Vis) : List Value := [ival v.pc, .slice v.wa v.ws.length v.wc]
def Vis.p (v : Vis) : Int × List Int := (v.pc, v.ws)
/-- the open visits' cells: the top lies last -/
def visV (st : List Vis) : List Value := (st.reverse.map Vis.v).flatten
theorem visV_cons (v : Vis) (st : List Vis) : visV (v :: st) = visV st ++ v.v := by simp [visV]
theorem visV_length : ∀ st : List Vis, (visV st).length = st.length * 2
  | [] => rfl
  | v :: st => by
    rw [visV_cons, List.length_append, visV_length st]
    show _ + 2 = (st.length + 1) * 2
    omega
def waitsR (st : List Vis) : HP := st.foldr (fun v X => slc 3 1 v.wa v.ws.length v.wc (v.ws.map ival) * X) 1
theorem waitsR_cons (v : Vis) (st : List Vis) : waitsR (v :: st) = slc 3 1 v.wa v.ws.length v.wc (v.ws.map ival) * waitsR st := rfl

section
variable {w0 w : World} {F : HP} {T : TypeId} {n c g off : Nat} {x : Value} {xs : List Value}
theorem Sat.slcTail1 (h : Sat w0 w (slc T 1 (some ⟨g, off, none⟩) (n + 1) c (x :: xs) * F)) : Sat w0 w (slc T 1 (some ⟨g, if c = 1 then off else off + 1, none⟩) n (c - 1) xs * F) := by
  have hc := h.slcCap
  have hl := h.slcLen
  rcases h.openSlc with ⟨_, ⟨e, _⟩ | ⟨g', off', cur, e1, e2, e3, e4, e5, e6⟩⟩
  · cases e
  cases e1
  simp only [List.length_cons] at hl
  refine Sat.shutSlc e6 (by omega) (by omega) ?_ ?_
  · split <;> omega
  · have hd : ((cur.toList.drop (off + 1)).take n) = xs := by
      have h1 : ((cur.toList.drop off).take ((n + 1) * 1)).drop 1 = xs := by rw [e5]; rfl
      rw [← h1, List.drop_take, List.drop_drop]
      congr 1
      omega
    split
    · have hn : n = 0 := by omega
      subst hn
      have : xs = [] := List.eq_nil_of_length_eq_zero (by omega)
      subst this
      simp
    · rw [Nat.mul_one]; exact hd
end
end Go.Proofs.Ytpeifcdfhhpdkaa.Tw
