/- A map that is gone through, and an entry that is taken out of it on the way; a map literal's entry. No condition. -/
import Derived.Test.YtmngkodejlhalaaIter
namespace Go.Proofs.Ytmngkodejlhalaa.Tw
set_option linter.unusedVariables false
set_option linter.unusedSimpArgs false
open Go Go.RowKit Go.MapKept

theorem filter_eraseIdx_not {α : Type} {p : α → Bool} : ∀ {l : List α} {j : Nat} {e : α}, l[j]? = some e → p e = false → (l.eraseIdx j).filter p = l.filter p
  | [], j, e, h, _ => by simp at h
  | a :: l, 0, e, h, hp => by
    simp at h; subst h
    simp [List.filter_cons, hp]
  | a :: l, j + 1, e, h, hp => by
    simp only [List.eraseIdx_cons_succ, List.filter_cons]
    rw [filter_eraseIdx_not (l := l) (by simpa using h) hp]
theorem nodup_get {α β : Type} {f : α → β} : ∀ {l : List α} {i j : Nat} {a b : α}, (l.map f).Nodup → l[i]? = some a → l[j]? = some b → f a = f b → i = j := by
  intro l i j a b hn hi hj he
  have h1 : (l.map f)[i]? = some (f a) := by rw [List.getElem?_map, hi]; rfl
  have h2 : (l.map f)[j]? = some (f b) := by rw [List.getElem?_map, hj]; rfl
  rw [← he] at h2
  have hi' := (List.getElem?_eq_some_iff.1 h1).1
  exact (List.getElem?_inj hi' hn).1 (h1.trans h2.symm)
section
variable {κ : Type} [DecidableEq κ] {d : TypeDesc} {kv : κ → Value}
variable {P : Program} {w0 w : World} {F : HP} {m it : Nat} {L R : List (κ × Value)} {cur : Option (κ × Value)}
theorem mget_mset (L : List (κ × Value)) (k x : κ) (v : Value) : mget (mset L k v) x = if x = k then some v else mget L x := by
  unfold mset
  split
  · rename_i hs
    induction L with
    | nil => simp [mget] at hs
    | cons e L ih =>
      unfold mget at *
      simp only [List.map_cons, List.find?_cons]
      by_cases h1 : e.1 = k
      · subst h1
        by_cases h2 : x = e.1
        · subst h2; simp
        · have h3 : ¬ e.1 = x := fun q => h2 q.symm
          simp only [if_true, h3, decide_false, h2, if_false]
          clear ih hs
          induction L with
          | nil => rfl
          | cons f L ih2 =>
            simp only [List.map_cons, List.find?_cons]
            by_cases h4 : f.1 = e.1
            · rw [if_pos h4]
              have h5 : ¬ f.1 = x := fun q => h3 (h4 ▸ q)
              simp only [h5, decide_false]
              exact ih2
            · rw [if_neg h4]
              by_cases h5 : f.1 = x
              · simp [h5]
              · simp only [h5, decide_false]; exact ih2
      · have hs' : (Option.map (·.2) (L.find? fun e => decide (e.1 = k))).isSome = true := by simpa [List.find?_cons, h1] using hs
        rw [if_neg h1]
        by_cases h2 : e.1 = x
        · subst h2
          simp [h1]
        · simp only [h2, decide_false]
          exact ih hs'
  · rename_i hs
    unfold mget at *
    rw [List.find?_append]
    by_cases h : x = k
    · subst h
      have : L.find? (fun e => decide (e.1 = x)) = none := by
        cases e : L.find? (fun e => decide (e.1 = x)) with
        | none => rfl
        | some y => rw [e] at hs; simp at hs
      simp [this]
    · have h' : ¬ k = x := fun q => h q.symm
      simp [h, h']
theorem mget_key {L : List (κ × Value)} {k : κ} : (mget L k).isSome = true ↔ k ∈ L.map (·.1) := by
  constructor
  · intro h
    rcases Classical.em (k ∈ L.map (·.1)) with h' | h'
    · exact h'
    · rw [mget_none.2 h'] at h; cases h
  · intro h
    cases e : mget L k with
    | none => exact absurd h (mget_none.1 e)
    | some v => rfl
theorem run_delete_iter (K : Keys d kv) {x : κ × Value} (h : Sat w0 w (iterR d kv m it L R (some x) * F)) {t kt et : TypeId} (ht : P.underlying t = some (.map kt et)) (hd : P.underlying kt = some d) (ty : TypeId) :
    ∃ w', (Builtin.delete_ #[t, kt] ty #[.map (some m), kv x.1]).run P w = .ok (.tuple #[]) w' ∧ Sat w0 w' (iterR d kv m it (mdel L x.1) R none * F) := by
  obtain ⟨hn, es, clock, seen, hs, hst, hl, hr, hc⟩ := h.openIter
  obtain ⟨e, he, hb, hk, hv⟩ := hc x rfl
  have hm := hs.blk
  have hseen : seen.contains e.born = true := by
    obtain ⟨ys, rfl⟩ := Array.back?_eq_some_iff.1 hb
    simp
  rcases findNow_mget K x.1 es.toList L 0 hl with ⟨a1, a2⟩ | ⟨j, u, a1, a2, ⟨e0, a3, a3'⟩, a4⟩
  · exfalso
    have : (e.key, e.val) ∈ L.map fun x => (kv x.1, x.2) := by rw [← hl]; exact List.mem_map_of_mem he
    obtain ⟨y, hy, q⟩ := List.mem_map.1 this
    have q1 := (Prod.mk.inj q).1
    rw [hk] at q1
    exact mget_none.1 a2 (K.inj _ _ q1 ▸ List.mem_map_of_mem hy)
  · have hj : es[j]? = some e0 := by simpa using a3
    have hjs : j < es.size := (Array.getElem?_eq_some_iff.1 hj).1
    obtain ⟨i, hi⟩ := List.mem_iff_getElem?.1 he
    have hij : i = j := nodup_get (f := fun y : MapEntry => y.key) hst.2.2 hi a3 (by rw [hk, a3'])
    subst hij
    rw [hi] at a3
    cases a3
    have e1 : (es.eraseIdxIfInBounds i).toList = es.toList.eraseIdx i := by simp [Array.eraseIdxIfInBounds, hjs]
    refine ⟨_, by simp [Builtin.delete_, run_underlying ht, MapKept.run_getObj_map hm, MapKept.run_checkKey hd (K.key x.1), MapKept.run_findKey hd a1, MapKept.run_setObj_map _ hm, Result.andThen]; rfl, ?_⟩
    refine Sat.shutIter (es := es.eraseIdxIfInBounds i) (clock := clock) (seen := seen) (hs.setObj _) (nodup_mdel hn) (stamped_erase hst _) ?_ ?_ (by simp)
    · rw [e1, map_eraseIdx', hl, ← map_eraseIdx']
      congr 1
      have hLj : ∃ y, L[i]? = some y ∧ y.1 = x.1 := by
        cases hq : L[i]? with
        | none => simp [hq] at a4
        | some y => exact ⟨y, rfl, by simpa [hq] using a4⟩
      obtain ⟨y, hy, hyx⟩ := hLj
      rw [← hyx]
      clear hl a1 a2 a4 hst hs hm h hj hjs e1 hi hk hv hc hr hb hseen a3' he hyx
      unfold mdel
      induction L generalizing i with
      | nil => simp at hy
      | cons z r ih =>
        simp only [List.map_cons, List.nodup_cons] at hn
        cases i with
        | zero =>
          simp at hy; subst hy
          simp only [List.eraseIdx_zero, List.tail_cons, decide_true, Bool.not_true, Bool.false_eq_true, not_false_eq_true, List.filter_cons_of_neg]
          refine (List.filter_eq_self.2 fun z2 hz => ?_).symm
          simp only [Bool.not_eq_true', decide_eq_false_iff_not]
          intro e
          exact hn.1 (e ▸ List.mem_map_of_mem hz)
        | succ i =>
          simp at hy
          have hne : z.1 ≠ y.1 := fun e => hn.1 (e ▸ List.mem_map_of_mem (List.mem_of_getElem? hy))
          simp only [List.eraseIdx_cons_succ, hne, decide_false, Bool.not_false, List.filter_cons_of_pos]
          rw [ih hn.2 i hy]
    · rw [e1, filter_eraseIdx_not hi (by simpa using hseen)]
      exact hr
variable {ops : Array Oper} {rest : List Oper} {o : Oper} {a : Act} {Q : Exit → Act → World → Prop}
theorem wpList_delete_iter (hg : o.guard = none) (y z : Operand) (t kt : TypeId) (hop : o.op = .call { callee := .builtin .delete, args := #[y, z], argTypes := #[t, kt] }) {et : TypeId} (K : Keys d kv) (ht : P.underlying t = some (.map kt et)) (hd : P.underlying kt = some d)
    (hm : a.eval y = .map (some m)) {k : κ} {v : Value} (h : Sat w0 w (iterR d kv m it L R (some (k, v)) * F)) (hx : a.eval z = kv k)
    (hK : ∀ w', Sat w0 w' (iterR d kv m it (mdel L k) R none * F) → wpList P ops Q rest (a.put o.dst (.tuple #[])) w') : wpList P ops Q (o :: rest) a w := by
  refine wpList_plain hg fun K' hK' => ?_
  obtain ⟨w', hr, hs⟩ := run_delete_iter K h ht hd o.type
  unfold Oper.wp
  simp only [execOp, hop, resolve, invoke, builtin, Sem.run_bind, Sem.run_pure, Result.andThen_ok, List.map_toArray, List.map_cons, List.map_nil, hm, hx, hr]
  exact hK' _ _ (hK w' hs)
theorem wpList_insert (hg : o.guard = none) (y z u : Operand) (t : TypeId) (hop : o.op = Op.insert t y z u) {kt et : TypeId} (Kd : Keys d kv) (ht : P.underlying t = some (.map kt et)) (hd : P.underlying kt = some d)
    (b : Nat) (L : List (κ × Value)) (hm : a.eval y = .map (some b)) (h : Sat w0 w (mapR d kv b L * F)) (k : κ) (hx : a.eval z = kv k) (val : Value) (hv : a.eval u = val)
    (hK : ∀ w', Sat w0 w' (mapR d kv b (mset L k val) * F) → wpList P ops Q rest (a.put o.dst undef) w') : wpList P ops Q (o :: rest) a w := by
  refine wpList_plain hg fun K' hK' => ?_
  obtain ⟨w', hr, hs⟩ := run_mapUpdate (v := val) Kd h ht hd k
  unfold Oper.wp
  simp [execOp, hop, hm, hx, hv, hr, Result.andThen]
  exact hK' _ _ (hK w' hs)
end
end Go.Proofs.Ytmngkodejlhalaa.Tw
