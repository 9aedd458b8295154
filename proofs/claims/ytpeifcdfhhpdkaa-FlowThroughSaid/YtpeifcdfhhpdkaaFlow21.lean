/- the document's through, plainly: it does the places in the order of the search. No condition. -/
import Derived.Test.YtpeifcdfhhpdkaaFlow19
namespace Go.Proofs.Ytpeifcdfhhpdkaa.Tw
set_option linter.unusedVariables false
set_option linter.unusedSimpArgs false
open Go Go.RowKit Go.MapKept

/-- through: a place, the marks, what is done -/
def thr (l : List AIn) : Nat → Int → List Bool → List Int → List Bool × List Int
  | 0, _, bs, done => (bs, done)
  | f + 1, pc, bs, done =>
    let r := (sortI (nextL l pc)).foldl (fun s y => if s.1[y.toNat]? = some true then s else thr l f y s.1 s.2) (bs.set pc.toNat true, done)
    (r.1, r.2 ++ [pc])
def thrStep (l : List AIn) (f : Nat) (s : List Bool × List Int) (y : Int) : List Bool × List Int := if s.1[y.toNat]? = some true then s else thr l f y s.1 s.2
theorem thr_succ (l : List AIn) (f : Nat) (pc : Int) (bs : List Bool) (done : List Int) :
    thr l (f + 1) pc bs done = (((sortI (nextL l pc)).foldl (thrStep l f) (bs.set pc.toNat true, done)).1, ((sortI (nextL l pc)).foldl (thrStep l f) (bs.set pc.toNat true, done)).2 ++ [pc]) := rfl
/-- more marks -/
def More (bs cs : List Bool) : Prop := cs.length = bs.length ∧ ∀ i : Nat, bs[i]? = some true → cs[i]? = some true
theorem More.rfl' (bs : List Bool) : More bs bs := ⟨rfl, fun _ h => h⟩
theorem More.trans {a b c : List Bool} (h : More a b) (g : More b c) : More a c := ⟨g.1.trans h.1, fun i e => g.2 i (h.2 i e)⟩
theorem More.set (bs : List Bool) (j : Nat) : More bs (bs.set j true) := by
  refine ⟨List.length_set, fun i h => ?_⟩
  rw [List.getElem?_set]
  split
  · rename_i e; rw [if_pos (by rw [e]; exact (List.getElem?_eq_some_iff.1 h).1)]
  · exact h
theorem More.fls : ∀ {bs cs : List Bool}, More bs cs → Tw.fls cs ≤ Tw.fls bs
  | [], [], _ => Nat.le_refl _
  | [], _ :: _, h => by have := h.1; simp at this
  | _ :: _, [], h => by have := h.1; simp at this
  | b :: bs, c :: cs, h => by
    have ih := More.fls (bs := bs) (cs := cs) ⟨by have := h.1; simpa using this, fun i e => by have := h.2 (i + 1); simpa using this (by simpa using e)⟩
    have h0 := h.2 0
    unfold Tw.fls at *
    cases b <;> cases c <;> simp_all
    omega
theorem foldl_more {l : List AIn} {f : Nat} (hf : ∀ y bs done, More bs (thr l f y bs done).1) : ∀ (ws : List Int) (s : List Bool × List Int), More s.1 (ws.foldl (thrStep l f) s).1
  | [], s => More.rfl' _
  | y :: ws, s => by
    refine More.trans ?_ (foldl_more hf ws (thrStep l f s y))
    unfold thrStep
    split
    · exact More.rfl' _
    · exact hf y s.1 s.2
theorem thr_more (l : List AIn) : ∀ (f : Nat) (y : Int) (bs : List Bool) (done : List Int), More bs (thr l f y bs done).1
  | 0, _, bs, _ => More.rfl' bs
  | f + 1, y, bs, done => by
    rw [thr_succ]
    exact (More.set bs y.toNat).trans (foldl_more (thr_more l f) _ (bs.set y.toNat true, done))
def SameM (n : Nat) (bs : List Bool) (seen : List Int) : Prop := bs.length = n ∧ ∀ x, inr n x = true → (bs[x.toNat]? = some true ↔ x ∈ seen)
theorem SameM.add {n : Nat} {bs : List Bool} {seen : List Int} {x : Int} (h : SameM n bs seen) (hx : inr n x = true) : SameM n (bs.set x.toNat true) (seen ++ [x]) := by
  refine ⟨by rw [List.length_set]; exact h.1, fun y hy => ?_⟩
  unfold inr at hx hy
  simp at hx hy
  rw [List.mem_append, ← h.2 y (by unfold inr; simp; exact hy)]
  by_cases e : y = x
  · subst e
    rw [List.getElem?_set_self (by rw [h.1]; omega)]
    simp
  · rw [List.getElem?_set_ne (by omega)]
    simp [e]
theorem wait_go {l : List AIn} {n f : Nat} (hn : l.length = n)
    (hA : ∀ (pc : Int) (bs : List Bool) (seen done : List Int) (st : List (Int × List Int)) (F : Nat), SameM n bs seen → Places n seen → inr n pc = true → pc ∉ seen → fls bs ≤ f → weigh n ((pc, sortI (nextL l pc)) :: st) (seen ++ [pc]) ≤ F →
      ∃ F' seen', SameM n (thr l f pc bs done).1 seen' ∧ Places n seen' ∧ weigh n st seen' ≤ F' ∧ dfs l F ((pc, sortI (nextL l pc)) :: st) (seen ++ [pc]) done = dfs l F' st seen' (thr l f pc bs done).2) :
    ∀ (ws : List Int) (pc : Int) (bs : List Bool) (seen done : List Int) (st : List (Int × List Int)) (F : Nat), SameM n bs seen → Places n seen → (∀ y ∈ ws, inr n y = true) → fls bs ≤ f → weigh n ((pc, ws) :: st) seen ≤ F →
      ∃ F' seen', SameM n (ws.foldl (thrStep l f) (bs, done)).1 seen' ∧ Places n seen' ∧ weigh n st seen' ≤ F' ∧ dfs l F ((pc, ws) :: st) seen done = dfs l F' st seen' ((ws.foldl (thrStep l f) (bs, done)).2 ++ [pc])
  | [], pc, bs, seen, done, st, F, hS, hP, _, _, hw => by
    obtain ⟨F, rfl⟩ : ∃ G, F = G + 1 := ⟨F - 1, by unfold weigh at hw; simp at hw; omega⟩
    exact ⟨F, seen, hS, hP, by unfold weigh at hw ⊢; simp at hw; omega, rfl⟩
  | y :: ws, pc, bs, seen, done, st, F, hS, hP, hr, hf, hw => by
    obtain ⟨F, rfl⟩ : ∃ G, F = G + 1 := ⟨F - 1, by unfold weigh at hw; simp at hw; omega⟩
    have hy := hr y (by simp)
    by_cases hm : y ∈ seen
    · have e1 : bs[y.toNat]? = some true := (hS.2 y hy).2 hm
      have e2 : thrStep l f (bs, done) y = (bs, done) := by unfold thrStep; rw [if_pos e1]
      show ∃ F' seen', SameM n (ws.foldl (thrStep l f) (thrStep l f (bs, done) y)).1 seen' ∧ Places n seen' ∧ weigh n st seen' ≤ F' ∧ (if y ∈ seen then dfs l F ((pc, ws) :: st) seen done else _) = dfs l F' st seen' ((ws.foldl (thrStep l f) (thrStep l f (bs, done) y)).2 ++ [pc])
      rw [e2, if_pos hm]
      exact wait_go hn hA ws pc bs seen done st F hS hP (fun z hz => hr z (by simp [hz])) hf (by unfold weigh at hw ⊢; simp at hw ⊢; omega)
    · have e1 : ¬ bs[y.toNat]? = some true := fun e => hm ((hS.2 y hy).1 e)
      have e2 : thrStep l f (bs, done) y = thr l f y bs done := by unfold thrStep; rw [if_neg e1]
      show ∃ F' seen', SameM n (ws.foldl (thrStep l f) (thrStep l f (bs, done) y)).1 seen' ∧ Places n seen' ∧ weigh n st seen' ≤ F' ∧ (if y ∈ seen then _ else dfs l F ((y, sortI (nextL l y)) :: (pc, ws) :: st) (seen ++ [y]) done) = dfs l F' st seen' ((ws.foldl (thrStep l f) (thrStep l f (bs, done) y)).2 ++ [pc])
      rw [e2, if_neg hm]
      have hP2 : Places n (seen ++ [y]) := by
        have := hP.add1 hy
        unfold add1 at this
        rw [if_neg hm] at this
        exact this
      have hle := hP2.le
      rw [List.length_append] at hle
      have hn2 := nextL_length l y
      have hsl := sortI_length (nextL l y)
      obtain ⟨F1, seen1, h1, h2, h3, h4⟩ := hA y bs seen done ((pc, ws) :: st) F hS hP hy hm hf (by
        simp only [List.length_cons, List.length_nil] at hle
        unfold weigh at hw ⊢
        simp only [List.map_cons, List.sum_cons, List.length_cons, List.length_append, List.length_nil] at hw ⊢
        omega)
      rw [h4]
      have hmore := thr_more l f y bs done
      obtain ⟨F2, seen2, g1, g2, g3, g4⟩ := wait_go hn hA ws pc _ seen1 (thr l f y bs done).2 st F1 h1 h2 (fun z hz => hr z (by simp [hz])) (Nat.le_trans hmore.fls hf) h3
      exact ⟨F2, seen2, g1, g2, g3, g4⟩
theorem fls_pos {bs : List Bool} {j : Nat} (h : bs[j]? = some false) : 0 < fls bs := by
  have := fls_set bs j h; omega
theorem node_go {l : List AIn} {n : Nat} (hn : l.length = n) : ∀ (f : Nat) (pc : Int) (bs : List Bool) (seen done : List Int) (st : List (Int × List Int)) (F : Nat), SameM n bs seen → Places n seen → inr n pc = true → pc ∉ seen → fls bs ≤ f → weigh n ((pc, sortI (nextL l pc)) :: st) (seen ++ [pc]) ≤ F →
      ∃ F' seen', SameM n (thr l f pc bs done).1 seen' ∧ Places n seen' ∧ weigh n st seen' ≤ F' ∧ dfs l F ((pc, sortI (nextL l pc)) :: st) (seen ++ [pc]) done = dfs l F' st seen' (thr l f pc bs done).2 := by
  intro f
  induction f with
  | zero =>
    intro pc bs seen done st F hS hP hr hm hf hw
    have hx : bs[pc.toNat]? = some false := by
      have hlt : pc.toNat < bs.length := by rw [hS.1]; unfold inr at hr; simp at hr; omega
      have e : bs[pc.toNat]? = some (bs[pc.toNat]) := List.getElem?_eq_getElem hlt
      cases hb : bs[pc.toNat] with
      | true => exact absurd ((hS.2 pc hr).1 (by rw [e, hb])) hm
      | false => rw [e, hb]
    have := fls_pos hx
    omega
  | succ f ih =>
    intro pc bs seen done st F hS hP hr hm hf hw
    have hx : bs[pc.toNat]? = some false := by
      have hlt : pc.toNat < bs.length := by rw [hS.1]; unfold inr at hr; simp at hr; omega
      have e : bs[pc.toNat]? = some (bs[pc.toNat]) := List.getElem?_eq_getElem hlt
      cases hb : bs[pc.toNat] with
      | true => exact absurd ((hS.2 pc hr).1 (by rw [e, hb])) hm
      | false => rw [e, hb]
    have hfs := fls_set bs pc.toNat hx
    have hP2 : Places n (seen ++ [pc]) := by
      have := hP.add1 hr
      unfold add1 at this
      rw [if_neg hm] at this
      exact this
    rw [thr_succ]
    exact wait_go hn ih (sortI (nextL l pc)) pc (bs.set pc.toNat true) (seen ++ [pc]) done st F (hS.add hr) hP2 (fun y hy => by have := nextL_inr (mem_sortI.1 hy); rw [hn] at this; exact this) (by omega) hw
theorem order_thr {l : List AIn} (h : 0 < l.length) : orderL l = (thr l l.length 0 (List.replicate l.length false) []).2.reverse := by
  have hn2 := nextL_length l 0
  have hsl := sortI_length (nextL l 0)
  obtain ⟨F, seen, _, _, _, h4⟩ := node_go (l := l) rfl l.length 0 (List.replicate l.length false) [] [] [] (4 * l.length)
    ⟨by simp, fun x hx => by rw [List.getElem?_replicate]; split <;> simp⟩ ⟨List.nodup_nil, fun x hx => by simp at hx⟩ (by unfold inr; simp; omega) (by simp) (by unfold fls; simp) (by unfold weigh; simp; omega)
  unfold orderL
  rw [if_neg (by omega)]
  have h5 : dfs l (4 * l.length) [(0, sortI (nextL l 0))] [0] [] = dfs l F [] seen (thr l l.length 0 (List.replicate l.length false) []).2 := h4
  rw [h5, dfs_nil]
end Go.Proofs.Ytpeifcdfhhpdkaa.Tw
