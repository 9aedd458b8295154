/- FlowLine's plain law: a line of instructions that do not jump. No condition. -/
import Derived.Test.YtpeifcdfhhpdkaaFlow10
namespace Go.Proofs.Ytpeifcdfhhpdkaa.Tw
set_option linter.unusedVariables false
set_option linter.unusedSimpArgs false
open Go Go.RowKit Go.MapKept

def lineL (op : Int) (N : Nat) : List AIn := (List.range N).map fun (i : Nat) => ⟨op, 0, (i : Int)⟩
def upto (m : Nat) : List Int := (List.range m).map fun (i : Nat) => (i : Int)
theorem lineL_length (op : Int) (N : Nat) : (lineL op N).length = N := by simp [lineL]
theorem upto_length (m : Nat) : (upto m).length = m := by simp [upto]
theorem upto_succ (m : Nat) : upto (m + 1) = upto m ++ [(m : Int)] := by simp [upto, List.range_succ]
theorem mem_upto {m : Nat} {x : Int} : x ∈ upto m ↔ 0 ≤ x ∧ x < m := by
  simp only [upto, List.mem_map, List.mem_range]
  constructor
  · rintro ⟨a, h, rfl⟩; omega
  · rintro ⟨h1, h2⟩; exact ⟨x.toNat, by omega, by omega⟩
theorem nextL_line {op : Int} {N k : Nat} (h0 : 0 ≤ op) (h19 : op < 19) (hk : k < N) : nextL (lineL op N) k = if k + 1 < N then [(k : Int) + 1] else [] := by
  unfold nextL
  rw [if_pos (by omega), Int.toNat_natCast]
  have : (lineL op N)[k]? = some ⟨op, 0, k⟩ := by simp [lineL, hk]
  rw [this, lineL_length]
  show (if op = 19 then [] else if op = 20 then _ else if isIf op then _ else wi N ((k : Int) + 1)) = _
  rw [if_neg (by omega), if_neg (by omega), if_neg (by unfold isIf; simp; omega)]
  unfold wi inr
  by_cases h : k + 1 < N
  · rw [if_pos (by simp; omega), if_pos h]
  · rw [if_neg (by simp; omega), if_neg h]
theorem bfs_line {op : Int} {N : Nat} (h0 : 0 ≤ op) (h19 : op < 19) : ∀ (f k : Nat), k < N → N ≤ f + k → bfs (lineL op N) f k (upto (k + 1)) = upto N
  | 0, k, hk, hf => by omega
  | f + 1, k, hk, hf => by
    have hx : (upto (k + 1))[k]? = some (k : Int) := by simp [upto]
    show (match (upto (k + 1))[k]? with | none => upto (k + 1) | some x => bfs (lineL op N) f (k + 1) (addAll (upto (k + 1)) (nextL (lineL op N) x))) = _
    rw [hx]
    show bfs (lineL op N) f (k + 1) (addAll (upto (k + 1)) (nextL (lineL op N) (k : Int))) = _
    rw [nextL_line h0 h19 hk]
    by_cases h : k + 1 < N
    · rw [if_pos h]
      show bfs (lineL op N) f (k + 1) (add1 (upto (k + 1)) ((k : Int) + 1)) = _
      rw [show add1 (upto (k + 1)) ((k : Int) + 1) = upto (k + 2) by
        unfold add1
        rw [if_neg (by rw [mem_upto]; omega), upto_succ (k + 1)]; rfl]
      exact bfs_line h0 h19 f (k + 1) h (by omega)
    · rw [if_neg h]
      have e : N = k + 1 := by omega
      subst e
      show bfs _ f (k + 1) (upto (k + 1)) = _
      cases f with
      | zero => rfl
      | succ f =>
        show (match (upto (k + 1))[k + 1]? with | none => upto (k + 1) | some x => _) = _
        rw [List.getElem?_eq_none (by rw [upto_length]; exact Nat.le_refl _)]
theorem dfs_pops (l : List AIn) : ∀ (L : List Int) (f : Nat) (seen done : List Int), L.length ≤ f → dfs l f (L.map fun x => (x, [])) seen done = done ++ L
  | [], f, seen, done, _ => by cases f <;> simp [dfs]
  | x :: L, 0, _, _, h => by simp at h
  | x :: L, f + 1, seen, done, h => by
    show dfs l f (L.map fun x => (x, [])) seen (done ++ [x]) = _
    rw [dfs_pops l L f seen (done ++ [x]) (by simp at h; exact h), List.append_assoc]; rfl
theorem dfs_line {op : Int} {N : Nat} (h0 : 0 ≤ op) (h19 : op < 19) : ∀ (f k : Nat), k < N → 2 * N ≤ f + k → dfs (lineL op N) f (((k : Int), sortI (nextL (lineL op N) k)) :: (upto k).reverse.map fun x => (x, [])) (upto (k + 1)) [] = (upto N).reverse
  | 0, k, hk, hf => by omega
  | f + 1, k, hk, hf => by
    rw [nextL_line h0 h19 hk]
    by_cases h : k + 1 < N
    · rw [if_pos h, sortI_of (List.Perm.refl _) (by simp)]
      show (if (k : Int) + 1 ∈ upto (k + 1) then _ else dfs (lineL op N) f ((((k : Int) + 1), sortI (nextL (lineL op N) ((k : Int) + 1))) :: ((k : Int), []) :: (upto k).reverse.map fun x => (x, [])) (upto (k + 1) ++ [(k : Int) + 1]) []) = _
      rw [if_neg (by rw [mem_upto]; omega)]
      have := dfs_line h0 h19 f (k + 1) h (by omega)
      rw [upto_succ (k + 1), upto_succ k] at this
      rw [upto_succ k]
      simpa using this
    · rw [if_neg h, sortI_of (List.Perm.refl _) (by simp)]
      have e : N = k + 1 := by omega
      subst e
      have := dfs_pops (lineL op (k + 1)) ((upto (k + 1)).reverse) (f + 1) (upto (k + 1)) [] (by simp [upto_length]; omega)
      rw [List.nil_append] at this
      rw [← this]
      conv => rhs; rw [upto_succ k]
      simp [upto_succ k]
theorem upto_sorted (m : Nat) : (upto m).Pairwise (· ≤ ·) := by
  induction m with
  | zero => exact List.Pairwise.nil
  | succ m ih =>
    rw [upto_succ]
    exact List.pairwise_append.2 ⟨ih, by simp, fun a ha b hb => by rw [mem_upto] at ha; simp at hb; omega⟩
theorem from_line {op : Int} {N : Nat} (h0 : 0 ≤ op) (h19 : op < 19) (hN : 0 < N) : fromL (lineL op N) 0 = upto N := by
  unfold fromL
  rw [lineL_length, if_pos (by unfold inr; simp; omega)]
  show sortI (bfs (lineL op N) N 0 (upto (0 + 1))) = _
  rw [bfs_line h0 h19 N 0 hN (by omega)]
  exact sortI_of (List.Perm.refl _) (upto_sorted N)
theorem order_line {op : Int} {N : Nat} (h0 : 0 ≤ op) (h19 : op < 19) (hN : 0 < N) : orderL (lineL op N) = upto N := by
  unfold orderL
  rw [lineL_length, if_neg (by omega)]
  have := dfs_line h0 h19 (4 * N) 0 hN (by omega)
  show (dfs (lineL op N) (4 * N) ((((0 : Nat) : Int), sortI (nextL (lineL op N) ((0 : Nat) : Int))) :: []) (upto (0 + 1)) []).reverse = _
  rw [show (((0 : Nat) : Int), sortI (nextL (lineL op N) ((0 : Nat) : Int))) :: ([] : List (Int × List Int)) = (((0 : Nat) : Int), sortI (nextL (lineL op N) ((0 : Nat) : Int))) :: (upto 0).reverse.map (fun x => (x, [])) from rfl, this, List.reverse_reverse]
end Go.Proofs.Ytpeifcdfhhpdkaa.Tw
