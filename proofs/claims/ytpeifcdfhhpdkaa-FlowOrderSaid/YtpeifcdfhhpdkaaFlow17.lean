/- what can be reached: the plain laws of From and Order. No condition. -/
import Derived.Test.YtpeifcdfhhpdkaaFlow13
namespace Go.Proofs.Ytpeifcdfhhpdkaa.Tw
set_option linter.unusedVariables false
set_option linter.unusedSimpArgs false
open Go Go.RowKit Go.MapKept

inductive Reach (l : List AIn) (a : Int) : Int → Prop
  | refl : Reach l a a
  | step {x y : Int} : Reach l a x → y ∈ nextL l x → Reach l a y
theorem Reach.head {l : List AIn} {a b c : Int} (h : b ∈ nextL l a) (r : Reach l b c) : Reach l a c := by
  induction r with
  | refl => exact .step .refl h
  | step _ h2 ih => exact .step ih h2
theorem Reach.closed {l : List AIn} {a b : Int} {S : Int → Prop} (h : Reach l a b) (ha : S a) (hS : ∀ x, S x → ∀ y ∈ nextL l x, S y) : S b := by
  induction h with
  | refl => exact ha
  | step _ h2 ih => exact hS _ ih _ h2
theorem mem_add1 {out : List Int} {x y : Int} : y ∈ add1 out x ↔ y ∈ out ∨ y = x := by
  unfold add1
  split
  · constructor
    · exact .inl
    · rintro (h | rfl) <;> assumption
  · simp
theorem mem_addAll : ∀ {ns out : List Int} {y : Int}, y ∈ addAll out ns ↔ y ∈ out ∨ y ∈ ns
  | [], out, y => by simp [addAll]
  | x :: ns, out, y => by
    show y ∈ addAll (add1 out x) ns ↔ _
    rw [mem_addAll, mem_add1]; simp [or_assoc]
theorem add1_get {out : List Int} {x y : Int} {j : Nat} (h : out[j]? = some y) : (add1 out x)[j]? = some y := by
  unfold add1
  split
  · exact h
  · rw [List.getElem?_append_left (List.getElem?_eq_some_iff.1 h).1]; exact h
theorem addAll_get : ∀ {ns out : List Int} {y : Int} {j : Nat}, out[j]? = some y → (addAll out ns)[j]? = some y
  | [], _, _, _, h => h
  | x :: ns, out, y, j, h => addAll_get (ns := ns) (add1_get h)
theorem bfs_spec (l : List AIn) (a : Int) : ∀ (f k : Nat) (out : List Int), Places l.length out → l.length ≤ f + k → (∀ j x, j < k → out[j]? = some x → ∀ y ∈ nextL l x, y ∈ out) → (∀ x ∈ out, Reach l a x) →
    Places l.length (bfs l f k out) ∧ (∀ x ∈ out, x ∈ bfs l f k out) ∧ (∀ x ∈ bfs l f k out, ∀ y ∈ nextL l x, y ∈ bfs l f k out) ∧ ∀ x ∈ bfs l f k out, Reach l a x
  | 0, k, out, hP, hf, hc, hr => by
    have hle := hP.le
    refine ⟨hP, fun _ h => h, fun x hx y hy => ?_, hr⟩
    have hx' : x ∈ out := hx
    obtain ⟨j, hj⟩ := List.mem_iff_getElem?.1 hx'
    exact hc j x (by have := (List.getElem?_eq_some_iff.1 hj).1; omega) hj y hy
  | f + 1, k, out, hP, hf, hc, hr => by
    unfold bfs
    cases e : out[k]? with
    | none =>
      have hk : out.length ≤ k := List.getElem?_eq_none_iff.1 e
      refine ⟨hP, fun _ h => h, fun x hx y hy => ?_, hr⟩
      have hx' : x ∈ out := hx
      obtain ⟨j, hj⟩ := List.mem_iff_getElem?.1 hx'
      exact hc j x (by have := (List.getElem?_eq_some_iff.1 hj).1; omega) hj y hy
    | some x =>
      have hxm : x ∈ out := List.mem_of_getElem? e
      obtain ⟨h1, h2, h3, h4⟩ := bfs_spec l a f (k + 1) (addAll out (nextL l x)) (hP.addAll fun y hy => nextL_inr hy) (by omega) (by
        intro j z hj hz y hy
        rw [mem_addAll]
        have hlt := (List.getElem?_eq_some_iff.1 e).1
        rcases Nat.lt_or_ge j k with h | h
        · have : out[j]? = some (out[j]'(by omega)) := List.getElem?_eq_getElem _
          have e2 := addAll_get (ns := nextL l x) this
          rw [e2] at hz
          cases hz
          exact .inl (hc j _ h this y hy)
        · obtain rfl : j = k := by omega
          have e2 := addAll_get (ns := nextL l x) e
          rw [e2] at hz
          cases hz
          exact .inr hy) (by
        intro z hz
        rcases mem_addAll.1 hz with h | h
        · exact hr z h
        · exact .step (hr x hxm) h)
      exact ⟨h1, fun z hz => h2 z (mem_addAll.2 (.inl hz)), h3, h4⟩
theorem fromL_out {l : List AIn} {pc : Int} (h : inr l.length pc = false) : fromL l pc = [] := by unfold fromL; rw [h]; rfl
theorem fromL_in {l : List AIn} {pc : Int} (h : inr l.length pc = true) : (fromL l pc).Pairwise (· < ·) ∧ (∀ x, x ∈ fromL l pc ↔ Reach l pc x) ∧ ∀ x ∈ fromL l pc, inr l.length x = true := by
  have hP : Places l.length [pc] := ⟨by simp, fun x hx => by simp at hx; subst hx; exact h⟩
  obtain ⟨h1, h2, h3, h4⟩ := bfs_spec l pc l.length 0 [pc] hP (by omega) (by intro j x hj; omega) (by intro x hx; simp at hx; subst hx; exact .refl)
  have e : fromL l pc = sortI (bfs l l.length 0 [pc]) := by unfold fromL; rw [h]; rfl
  rw [e]
  refine ⟨sortI_rising h1.1, fun x => ?_, fun x hx => h1.2 x (mem_sortI.1 hx)⟩
  rw [mem_sortI]
  exact ⟨h4 x, fun hr => hr.closed (h2 pc (by simp)) h3⟩
/-- where the search stands -/
structure DInv (l : List AIn) (st : List (Int × List Int)) (seen done : List Int) : Prop where
  nodup : (st.map (·.1) ++ done).Nodup
  perm : seen.Perm (st.map (·.1) ++ done)
  chain : ∀ i p q ws vs, st[i]? = some (p, ws) → st[i + 1]? = some (q, vs) → p ∈ nextL l q
  last : ∀ p ws, st.getLast? = some (p, ws) → p = 0
  fin : st = [] → done.getLast? = some 0
  wait : ∀ p ws, (p, ws) ∈ st → (∀ y ∈ nextL l p, y ∈ ws ∨ y ∈ seen) ∧ ∀ y ∈ ws, y ∈ nextL l p
  from0 : ∀ x ∈ seen, Reach l 0 x
  inrng : ∀ x ∈ seen, inr l.length x = true
  up : ∀ (i : Nat) (w : Int), done[i]? = some w → w = 0 ∨ ∃ u, w ∈ nextL l u ∧ (u ∈ st.map (·.1) ∨ ∃ j : Nat, i < j ∧ done[j]? = some u)
  down : ∀ (i : Nat) (u : Int), done[i]? = some u → ∀ y ∈ nextL l u, (∃ j : Nat, j < i ∧ done[j]? = some y) ∨ (Reach l y u ∧ y ∈ seen)

theorem DInv.mem {l : List AIn} {st : List (Int × List Int)} {seen done : List Int} (h : DInv l st seen done) (x : Int) : x ∈ seen ↔ x ∈ st.map (·.1) ++ done := h.perm.mem_iff
theorem DInv.above {l : List AIn} {st : List (Int × List Int)} {seen done : List Int} (h : DInv l st seen done) : ∀ (i : Nat) (p q : Int) (ws vs : List Int), st[0]? = some (p, ws) → st[i]? = some (q, vs) → Reach l q p
  | 0, p, q, ws, vs, h0, hi => by rw [h0] at hi; cases hi; exact .refl
  | i + 1, p, q, ws, vs, h0, hi => by
    have hlt := (List.getElem?_eq_some_iff.1 hi).1
    have e : st[i]? = some (st[i]'(by omega)) := List.getElem?_eq_getElem _
    have r := h.above i p _ ws _ h0 e
    exact Reach.head (h.chain i _ q _ vs e hi) r
theorem DInv.pop {l : List AIn} {p : Int} {st : List (Int × List Int)} {seen done : List Int} (h : DInv l ((p, []) :: st) seen done) : DInv l st seen (done ++ [p]) := by
  have hp : p ∈ seen := (h.mem p).2 (by simp)
  have hpm : (((p, []) :: st).map (·.1) ++ done).Perm (st.map (·.1) ++ (done ++ [p])) := by
    rw [← List.append_assoc]
    exact (List.perm_append_singleton p (st.map (·.1) ++ done)).symm
  refine ⟨hpm.nodup_iff.1 h.nodup, h.perm.trans hpm, ?_, ?_, ?_, ?_, h.from0, h.inrng, ?_, ?_⟩
  · intro i q r ws vs e1 e2
    exact h.chain (i + 1) q r ws vs (by simpa using e1) (by simpa using e2)
  · intro q ws e
    refine h.last q ws ?_
    cases st with
    | nil => cases e
    | cons s st => rw [List.getLast?_cons_cons]; exact e
  · intro e
    subst e
    have := h.last p [] rfl
    rw [List.getLast?_append]; simp [this]
  · intro q ws hq
    exact h.wait q ws (List.mem_cons_of_mem _ hq)
  · intro i w hw
    rcases Nat.lt_or_ge i done.length with hi | hi
    · rw [List.getElem?_append_left hi] at hw
      rcases h.up i w hw with e | ⟨u, hu, hu2⟩
      · exact .inl e
      · refine .inr ⟨u, hu, ?_⟩
        rcases hu2 with hu2 | ⟨j, hj, e⟩
        · rw [List.map_cons, List.mem_cons] at hu2
          rcases hu2 with rfl | hu2
          · exact .inr ⟨done.length, hi, by simp⟩
          · exact .inl hu2
        · exact .inr ⟨j, hj, by rw [List.getElem?_append_left (List.getElem?_eq_some_iff.1 e).1]; exact e⟩
    · rw [List.getElem?_append_right hi] at hw
      have hw' := (List.getElem?_eq_some_iff.1 hw)
      obtain ⟨h1, h2⟩ := hw'
      simp at h1 h2
      have hi2 : i = done.length := by omega
      subst hi2
      subst h2
      cases st with
      | nil => exact .inl (h.last p [] rfl)
      | cons s st => exact .inr ⟨s.1, h.chain 0 p s.1 [] s.2 rfl rfl, .inl (by simp)⟩
  · intro i u hu y hy
    rcases Nat.lt_or_ge i done.length with hi | hi
    · rw [List.getElem?_append_left hi] at hu
      rcases h.down i u hu y hy with ⟨j, hj, e⟩ | r
      · exact .inl ⟨j, hj, by rw [List.getElem?_append_left (List.getElem?_eq_some_iff.1 e).1]; exact e⟩
      · exact .inr r
    · rw [List.getElem?_append_right hi] at hu
      obtain ⟨h1, h2⟩ := List.getElem?_eq_some_iff.1 hu
      simp at h1 h2
      have hi2 : i = done.length := by omega
      subst hi2
      subst h2
      have hs : y ∈ seen := by
        rcases (h.wait p [] (by simp)).1 y hy with h3 | h3
        · cases h3
        · exact h3
      rcases List.mem_append.1 ((h.mem y).1 hs) with h3 | h3
      · refine .inr ⟨?_, hs⟩
        obtain ⟨⟨q, vs⟩, hq, e⟩ := List.mem_map.1 h3
        obtain ⟨k, hk⟩ := List.mem_iff_getElem?.1 hq
        simp at e; subst e
        exact h.above k p q [] vs rfl hk
      · obtain ⟨j, hj⟩ := List.mem_iff_getElem?.1 h3
        have := (List.getElem?_eq_some_iff.1 hj).1
        exact .inl ⟨j, this, by rw [List.getElem?_append_left this]; exact hj⟩
theorem DInv.skip {l : List AIn} {p y : Int} {ws : List Int} {st : List (Int × List Int)} {seen done : List Int} (h : DInv l ((p, y :: ws) :: st) seen done) (hy : y ∈ seen) : DInv l ((p, ws) :: st) seen done := by
  refine ⟨h.nodup, h.perm, ?_, ?_, by simp, ?_, h.from0, h.inrng, h.up, h.down⟩
  · intro i q r us vs e1 e2
    cases i with
    | zero => simp at e1; obtain ⟨rfl, rfl⟩ := e1; exact h.chain 0 p r (y :: ws) vs rfl (by simpa using e2)
    | succ i => exact h.chain (i + 1) q r us vs (by simpa using e1) (by simpa using e2)
  · intro q us e
    cases st with
    | nil => simp at e; obtain ⟨rfl, rfl⟩ := e; exact h.last p (y :: ws) rfl
    | cons s st => rw [List.getLast?_cons_cons] at e; exact h.last q us (by rw [List.getLast?_cons_cons]; exact e)
  · intro q us hq
    rcases List.mem_cons.1 hq with e | e
    · cases e
      have := h.wait p (y :: ws) (by simp)
      refine ⟨fun z hz => ?_, fun z hz => this.2 z (by simp [hz])⟩
      rcases this.1 z hz with h1 | h1
      · rcases List.mem_cons.1 h1 with rfl | h1
        · exact .inr hy
        · exact .inl h1
      · exact .inr h1
    · exact h.wait q us (List.mem_cons_of_mem _ e)
theorem DInv.push {l : List AIn} {p y : Int} {ws vs : List Int} {st : List (Int × List Int)} {seen done : List Int} (h : DInv l ((p, y :: ws) :: st) seen done) (hy : y ∉ seen) (hv : ∀ z, z ∈ vs ↔ z ∈ nextL l y) : DInv l ((y, vs) :: (p, ws) :: st) (seen ++ [y]) done := by
  have hyp : y ∈ nextL l p := (h.wait p (y :: ws) (by simp)).2 y (by simp)
  have hps : p ∈ seen := (h.mem p).2 (by simp)
  have hnew : y ∉ ((p, y :: ws) :: st).map (·.1) ++ done := fun h1 => hy ((h.mem y).2 h1)
  refine ⟨List.nodup_cons.2 ⟨hnew, h.nodup⟩, (List.perm_append_singleton y seen).trans (h.perm.cons y), ?_, ?_, by simp, ?_, ?_, ?_, ?_, ?_⟩
  · intro i q r us ts e1 e2
    match i with
    | 0 => simp at e1 e2; obtain ⟨rfl, rfl⟩ := e1; obtain ⟨rfl, rfl⟩ := e2; exact hyp
    | 1 => simp at e1; obtain ⟨rfl, rfl⟩ := e1; exact h.chain 0 p r (y :: ws) ts rfl (by simpa using e2)
    | i + 2 => exact h.chain (i + 1) q r us ts (by simpa using e1) (by simpa using e2)
  · intro q us e
    rw [List.getLast?_cons_cons] at e
    cases st with
    | nil => simp at e; obtain ⟨rfl, rfl⟩ := e; exact h.last p (y :: ws) rfl
    | cons s st => rw [List.getLast?_cons_cons] at e; exact h.last q us (by rw [List.getLast?_cons_cons]; exact e)
  · intro q us hq
    rcases List.mem_cons.1 hq with e | hq
    · cases e
      exact ⟨fun z hz => .inl ((hv z).2 hz), fun z hz => (hv z).1 hz⟩
    rcases List.mem_cons.1 hq with e | e
    · cases e
      have := h.wait p (y :: ws) (by simp)
      refine ⟨fun z hz => ?_, fun z hz => this.2 z (by simp [hz])⟩
      rcases this.1 z hz with h1 | h1
      · rcases List.mem_cons.1 h1 with rfl | h1
        · exact .inr (by simp)
        · exact .inl h1
      · exact .inr (by simp [h1])
    · have := h.wait q us (List.mem_cons_of_mem _ e)
      refine ⟨fun z hz => ?_, this.2⟩
      rcases this.1 z hz with h1 | h1
      · exact .inl h1
      · exact .inr (by simp [h1])
  · intro x hx
    rcases List.mem_append.1 hx with hx | hx
    · exact h.from0 x hx
    · simp at hx; subst hx; exact .step (h.from0 p hps) hyp
  · intro x hx
    rcases List.mem_append.1 hx with hx | hx
    · exact h.inrng x hx
    · simp at hx; subst hx; exact nextL_inr hyp
  · intro i w hw
    rcases h.up i w hw with e | ⟨u, hu, hu2⟩
    · exact .inl e
    · refine .inr ⟨u, hu, ?_⟩
      rcases hu2 with hu2 | hu2
      · left; exact List.mem_cons_of_mem _ hu2
      · exact .inr hu2
  · intro i u hu z hz
    rcases h.down i u hu z hz with h1 | ⟨h1, h2⟩
    · exact .inl h1
    · exact .inr ⟨h1, by simp [h2]⟩
theorem dfs_inv (l : List AIn) : ∀ (f : Nat) (st : List (Int × List Int)) (seen done : List Int), DInv l st seen done → weigh l.length st seen ≤ f → ∃ seen', DInv l [] seen' (dfs l f st seen done)
  | f, [], seen, done, h, _ => by rw [show dfs l f [] seen done = done by cases f <;> rfl]; exact ⟨seen, h⟩
  | 0, (p, ws) :: st, seen, done, h, hw => by unfold weigh at hw; simp at hw
  | f + 1, (p, []) :: st, seen, done, h, hw => by
    show ∃ seen', DInv l [] seen' (dfs l f st seen (done ++ [p]))
    refine dfs_inv l f st seen (done ++ [p]) h.pop ?_
    unfold weigh at hw ⊢; simp at hw; omega
  | f + 1, (p, y :: ws) :: st, seen, done, h, hw => by
    by_cases hy : y ∈ seen
    · show ∃ seen', DInv l [] seen' (if y ∈ seen then dfs l f ((p, ws) :: st) seen done else _)
      rw [if_pos hy]
      refine dfs_inv l f _ seen done (h.skip hy) ?_
      unfold weigh at hw ⊢; simp at hw ⊢; omega
    · show ∃ seen', DInv l [] seen' (if y ∈ seen then _ else dfs l f ((y, sortI (nextL l y)) :: (p, ws) :: st) (seen ++ [y]) done)
      rw [if_neg hy]
      have h2 := h.push hy (vs := sortI (nextL l y)) (fun z => mem_sortI)
      refine dfs_inv l f _ (seen ++ [y]) done h2 ?_
      have hP : Places l.length (seen ++ [y]) := by
        exact ⟨h2.perm.nodup_iff.2 h2.nodup, h2.inrng⟩
      have hle := hP.le
      rw [List.length_append] at hle
      have hn2 := nextL_length l y
      have hsl := sortI_length (nextL l y)
      simp only [List.length_cons, List.length_nil] at hle
      unfold weigh at hw ⊢
      simp only [List.map_cons, List.sum_cons, List.length_cons, List.length_append, List.length_nil] at hw ⊢
      omega
theorem orderL_spec {l : List AIn} (h : 0 < l.length) : ∃ D : List Int, orderL l = D.reverse ∧ D.Nodup ∧ (∀ x, x ∈ D ↔ Reach l 0 x) ∧ (∀ x ∈ D, inr l.length x = true) ∧ D.getLast? = some 0 ∧
    (∀ (i : Nat) (w : Int), D[i]? = some w → w = 0 ∨ ∃ u, w ∈ nextL l u ∧ ∃ j : Nat, i < j ∧ D[j]? = some u) ∧ (∀ (i : Nat) (u : Int), D[i]? = some u → ∀ y ∈ nextL l u, (∃ j : Nat, j < i ∧ D[j]? = some y) ∨ Reach l y u) := by
  have h0 : DInv l [(0, sortI (nextL l 0))] [0] [] := by
    refine ⟨by simp, by simp, ?_, ?_, by simp, ?_, ?_, ?_, ?_, ?_⟩
    · intro i p q ws vs e1 e2; simp at e2
    · intro p ws e; simp at e; exact e.1.symm
    · intro p ws hp; simp at hp; obtain ⟨rfl, rfl⟩ := hp
      exact ⟨fun y hy => .inl (mem_sortI.2 hy), fun y hy => mem_sortI.1 hy⟩
    · intro x hx; simp at hx; subst hx; exact .refl
    · intro x hx; simp at hx; subst hx; unfold inr; simp; omega
    · intro i w hw; simp at hw
    · intro i u hu; simp at hu
  have hn2 := nextL_length l 0
  have hsl := sortI_length (nextL l 0)
  obtain ⟨seen, hD⟩ := dfs_inv l (4 * l.length) _ _ _ h0 (by unfold weigh; simp; omega)
  refine ⟨_, by unfold orderL; rw [if_neg (by omega)], by simpa using hD.nodup, fun x => ?_, fun x hx => hD.inrng x ((hD.mem x).2 (by simpa using hx)), hD.fin rfl, fun i w hw => ?_, fun i u hu y hy => ?_⟩
  · constructor
    · intro hx; exact hD.from0 x ((hD.mem x).2 (by simpa using hx))
    · intro hr
      refine hr.closed (S := fun x => x ∈ dfs l (4 * l.length) [(0, sortI (nextL l 0))] [0] []) (List.mem_of_getLast? (hD.fin rfl)) fun x hx y hy => ?_
      obtain ⟨i, hi⟩ := List.mem_iff_getElem?.1 hx
      rcases hD.down i x hi y hy with ⟨j, _, hj⟩ | ⟨_, h2⟩
      · exact List.mem_of_getElem? hj
      · simpa using (hD.mem y).1 h2
  · rcases hD.up i w hw with e | ⟨u, h1, h2 | h2⟩
    · exact .inl e
    · simp at h2
    · exact .inr ⟨u, h1, h2⟩
  · rcases hD.down i u hu y hy with h1 | ⟨h1, _⟩
    · exact .inl h1
    · exact .inr h1
end Go.Proofs.Ytpeifcdfhhpdkaa.Tw
