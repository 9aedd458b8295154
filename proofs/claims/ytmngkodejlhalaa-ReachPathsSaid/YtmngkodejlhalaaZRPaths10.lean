/- Going through a map: range, next, entry. No condition. -/
import Derived.Test.YtmngkodejlhalaaZRPaths3
import Derived.Maps.RangeWalk
namespace Go.Proofs.Ytmngkodejlhalaa.Tw
set_option linter.unusedVariables false
set_option linter.unusedSimpArgs false
open Go Go.RowKit Go.MapKept

section
variable {κ : Type} {d : TypeDesc} {kv : κ → Value}

/-- block it goes through the map m, which has the entries L; R are still to come, the last one was cur -/
def iterR (d : TypeDesc) (kv : κ → Value) (m it : Nat) (L R : List (κ × Value)) (cur : Option (κ × Value)) : HP := fun h =>
  (L.map (·.1)).Nodup ∧ ∃ es clock seen, (pt m (.map es clock) * pt it (.mapIter (some m) clock seen clock)) h ∧ Stamped es clock ∧ es.toList.map (fun e => (e.key, e.val)) = (L.map fun x => (kv x.1, x.2)) ∧
    (es.toList.filter fun e => !seen.contains e.born).map (fun e => (e.key, e.val)) = (R.map fun x => (kv x.1, x.2)) ∧
    ∀ c, cur = some c → ∃ e ∈ es.toList, seen.back? = some e.born ∧ e.key = kv c.1 ∧ e.val = c.2

variable {P : Program} {w0 w : World} {F : HP} {m it : Nat} {L R : List (κ × Value)} {cur : Option (κ × Value)}

theorem Sat.openIter (h : Sat w0 w (iterR d kv m it L R cur * F)) : (L.map (·.1)).Nodup ∧ ∃ es clock seen, Sat w0 w (pt m (.map es clock) * (pt it (.mapIter (some m) clock seen clock) * F)) ∧ Stamped es clock ∧ es.toList.map (fun e => (e.key, e.val)) = (L.map fun x => (kv x.1, x.2)) ∧
    (es.toList.filter fun e => !seen.contains e.born).map (fun e => (e.key, e.val)) = (R.map fun x => (kv x.1, x.2)) ∧
    ∀ c, cur = some c → ∃ e ∈ es.toList, seen.back? = some e.born ∧ e.key = kv c.1 ∧ e.val = c.2 := by
  obtain ⟨h1, x, ⟨a, c, dj, rfl, ⟨hn, es, clock, seen, hp, hs, hl, hr, hc⟩, q⟩, r⟩ := h
  exact ⟨hn, es, clock, seen, Sat.cast ⟨h1, _, ⟨a, c, dj, rfl, hp, q⟩, r⟩ (mul_assoc _ _ _), hs, hl, hr, hc⟩
theorem Sat.shutIter {es : Array MapEntry} {clock : Nat} {seen : Array Nat} (h : Sat w0 w (pt m (.map es clock) * (pt it (.mapIter (some m) clock seen clock) * F))) (hn : (L.map (·.1)).Nodup) (hs : Stamped es clock) (hl : es.toList.map (fun e => (e.key, e.val)) = L.map fun x => (kv x.1, x.2))
    (hr : (es.toList.filter fun e => !seen.contains e.born).map (fun e => (e.key, e.val)) = (R.map fun x => (kv x.1, x.2)))
    (hc : ∀ c, cur = some c → ∃ e ∈ es.toList, seen.back? = some e.born ∧ e.key = kv c.1 ∧ e.val = c.2) : Sat w0 w (iterR d kv m it L R cur * F) := by
  rw [← mul_assoc] at h
  exact h.mono_l fun _ p => ⟨hn, es, clock, seen, p, hs, hl, hr, hc⟩
/-- gone through: the map is there as it was -/
theorem Sat.iterMap (h : Sat w0 w (iterR d kv m it L R cur * F)) : Sat w0 w (mapR d kv m L * F) := by
  obtain ⟨hn, es, clock, seen, hs, h1, h2, _⟩ := h.openIter
  exact Sat.shutMap hs.drop2 hn h1 h2

theorem run_range (h : Sat w0 w (mapR d kv m L * F)) {t kt et : TypeId} (ht : P.underlying t = some (.map kt et)) :
    ∃ w', (Instr.range t (.map (some m))).run P w = .ok (.pointer (some ⟨w.heap.size, 0, none⟩)) w' ∧ Sat w0 w' (iterR d kv m w.heap.size L L none * F) := by
  obtain ⟨hn, es, clock, hs, hst, hl⟩ := h.openMap
  refine ⟨w.alloc (.mapIter (some m) clock #[] clock), by simp [Instr.range, run_underlying ht, MapKept.run_getObj_map hs.blk, Result.andThen], ?_⟩
  refine Sat.shutIter (es := es) (clock := clock) (seen := #[]) ((hs.alloc _).cast (mul_left_comm _ _ _)) hn hst hl ?_ (by simp)
  rw [← hl]; simp [List.filter_eq_self.2]

theorem run_next_end (h : Sat w0 w (iterR d kv m it L [] cur * F)) (ty : TypeId) : ∃ w', (Instr.next (.pointer (some ⟨it, 0, none⟩)) false ty).run P w = .ok (.tuple #[.bool false]) w' ∧ Sat w0 w' (iterR d kv m it L [] cur * F) := by
  obtain ⟨hn, es, clock, seen, hs, h1, h2, h3, h4⟩ := h.openIter
  refine ⟨w, ?_, h⟩
  have hm := hs.blk
  have hi := (hs.cast (mul_left_comm _ _ _)).blk
  have hgi : (getObj it).run P w = .ok (.mapIter (some m) clock seen clock) w := by simp [getObj, Sem.run, hi]
  have hall : (!seen.isEmpty && !es.isEmpty && es.all fun e => decide (e.born ≥ clock)) = false := by
    cases he : es.isEmpty
    · have : es.all (fun e => decide (e.born ≥ clock)) = false := by
        rw [Array.all_eq_false]
        have hpos : 0 < es.size := by
          have : es ≠ #[] := by intro q; rw [q] at he; simp at he
          exact Array.size_pos_iff.2 this
        refine ⟨0, hpos, ?_⟩
        have := h1.1 es[0] (by simp)
        simp; omega
      simp [this]
    · simp
  have hleft : (es.filter fun e => !seen.contains e.born) = #[] := by
    apply Array.toList_inj.1
    rw [Array.toList_filter]
    simpa using h3
  simp only [Instr.next, Sem.run_bind, hgi, Result.andThen, MapKept.run_getObj_map hm, hall, hleft]
  simp [choose, Sem.run, Question.forced, Result.andThen]

theorem filter_eraseIdx {es : List MapEntry} {p : MapEntry → Bool} {j : Nat} {e : MapEntry} (hn : (es.map (·.born)).Nodup) (hj : (es.filter p)[j]? = some e) :
    es.filter (fun x => p x && !(x.born == e.born)) = (es.filter p).eraseIdx j := by
  induction es generalizing j with
  | nil => simp at hj
  | cons a r ih =>
    simp only [List.map_cons, List.nodup_cons] at hn
    by_cases hp : p a = true
    · simp only [List.filter_cons, hp, if_true] at hj ⊢
      cases j with
      | zero =>
        simp at hj; subst hj
        simp only [beq_self_eq_true, Bool.not_true, Bool.and_false, Bool.false_eq_true, if_false, List.eraseIdx_zero, List.tail_cons]
        refine List.filter_congr fun x hx => ?_
        have : x.born ≠ a.born := fun q => hn.1 (q ▸ List.mem_map_of_mem hx)
        simp [this]
      | succ j =>
        simp at hj
        have he := List.mem_of_getElem? hj
        have : a.born ≠ e.born := fun q => hn.1 (q ▸ List.mem_map_of_mem (List.mem_filter.1 he).1)
        simp only [List.eraseIdx_cons_succ, Bool.true_and]
        rw [if_pos (by simpa using this), ih hn.2 hj]
    · simp only [List.filter_cons, hp, Bool.false_eq_true, if_false, Bool.false_and] at hj ⊢
      exact ih hn.2 hj

theorem run_choose_mapNext (w : World) (n : Nat) (hn : 0 < n) : ∃ j w', j < n ∧ (choose (.mapNext n)).run P w = .ok j w' ∧ (w' = w ∨ w' = w.drew) := by
  by_cases h1 : n ≤ 1
  · exact ⟨0, w, hn, by simp [choose, Sem.run, Question.forced, h1], .inl rfl⟩
  · exact ⟨_, _, Nat.mod_lt _ hn, by simp only [choose, Sem.run, Question.forced, h1, decide_false, Bool.false_eq_true, if_false]; rfl, .inr rfl⟩

theorem run_next_some (h : Sat w0 w (iterR d kv m it L R cur * F)) (hR : R ≠ []) (ty : TypeId) : ∃ j x w', R[j]? = some x ∧ (Instr.next (.pointer (some ⟨it, 0, none⟩)) false ty).run P w = .ok (.tuple #[.bool true, kv x.1, x.2]) w' ∧ Sat w0 w' (iterR d kv m it L (R.eraseIdx j) (some x) * F) := by
  obtain ⟨hn, es, clock, seen, hs, h1, h2, h3, h4⟩ := h.openIter
  have hm := hs.blk
  have hs' := hs.cast (mul_left_comm _ _ _)
  have hi := hs'.blk
  have hgi : (getObj it).run P w = .ok (.mapIter (some m) clock seen clock) w := by simp [getObj, Sem.run, hi]
  have hlen : (es.toList.filter fun e => !seen.contains e.born).length = R.length := by simpa using congrArg List.length h3
  have hRpos : 0 < R.length := List.length_pos_iff.2 hR
  have hes : es ≠ #[] := by
    rintro rfl
    simp at hlen; omega
  have hall : (!seen.isEmpty && !es.isEmpty && es.all fun e => decide (e.born ≥ clock)) = false := by
    have : es.all (fun e => decide (e.born ≥ clock)) = false := by
      rw [Array.all_eq_false]
      have hpos : 0 < es.size := Array.size_pos_iff.2 hes
      refine ⟨0, hpos, ?_⟩
      have := h1.1 es[0] (by simp)
      simp; omega
    simp [this]
  have hold : ((es.filter fun e => !seen.contains e.born).filter fun e => decide (e.born < clock)) = es.filter fun e => !seen.contains e.born := by
    rw [Array.filter_eq_self]
    intro e he
    have := (Array.mem_filter.1 he).1
    simpa using h1.1 e (Array.mem_toList_iff.2 this)
  have hnew : ((es.filter fun e => !seen.contains e.born).filter fun e => decide (e.born ≥ clock)) = #[] := by
    rw [Array.filter_eq_empty_iff]
    intro e he
    have := (Array.mem_filter.1 he).1
    have := h1.1 e (Array.mem_toList_iff.2 this)
    simp; omega
  have hsz : (es.filter fun e => !seen.contains e.born).size = R.length := by
    rw [← hlen, ← Array.toList_filter, Array.length_toList]
  have hne : (es.filter fun e => !seen.contains e.born).isEmpty = false := by
    rw [Array.isEmpty_eq_false_iff]
    rintro q
    rw [q] at hsz; simp at hsz; omega
  obtain ⟨j, w', hj, hch, hw⟩ := run_choose_mapNext (P := P) w R.length hRpos
  have hjl : j < (es.filter fun e => !seen.contains e.born).size := by omega
  obtain ⟨e, he⟩ : ∃ e, (es.filter fun e => !seen.contains e.born)[j]? = some e := ⟨_, Array.getElem?_eq_getElem hjl⟩
  have hel : (es.toList.filter fun e => !seen.contains e.born)[j]? = some e := by rw [← Array.toList_filter, Array.getElem?_toList]; exact he
  have hx : ∃ x, R[j]? = some x ∧ e.key = kv x.1 ∧ e.val = x.2 := by
    have := congrArg (fun l => l[j]?) h3
    simp only [List.getElem?_map, hel, Option.map_some] at this
    cases hq : R[j]? with
    | none => rw [hq] at this; cases this
    | some x =>
      rw [hq] at this
      simp only [Option.map_some, Option.some.injEq, Prod.mk.injEq] at this
      exact ⟨x, rfl, this.1, this.2⟩
  obtain ⟨x, hx, hx1, hx2⟩ := hx
  have hsw : Sat w0 w' (pt it (.mapIter (some m) clock seen clock) * (pt m (.map es clock) * F)) := by rcases hw with rfl | rfl <;> exact hs'
  have hhw : w'.heap = w.heap := by rcases hw with rfl | rfl <;> rfl
  refine ⟨j, x, { w' with heap := w'.heap.setIfInBounds it (.mapIter (some m) clock (seen.push e.born) clock) }, hx, ?_, ?_⟩
  · have hset : (setObj it (.mapIter (some m) clock (seen.push e.born) clock)).run P w' = .ok () { w' with heap := w'.heap.setIfInBounds it (.mapIter (some m) clock (seen.push e.born) clock) } := by
      simp [setObj, Sem.run, hsw.blk]
    have hcand : ((if (es.filter fun e => !seen.contains e.born).isEmpty = true then #[(none : Option MapEntry)] else #[]) ++ ((es.filter fun e => !seen.contains e.born) ++ (#[] : Array MapEntry)).map some) = (es.filter fun e => !seen.contains e.born).map some := by
      rw [hne]; simp
    simp only [Instr.next, Sem.run_bind, hgi, Result.andThen, MapKept.run_getObj_map hm, hall, Bool.false_eq_true, if_false, hold, hnew, hcand]
    rw [Array.size_map, hsz, hch]
    simp only [Array.getElem?_map, he, Option.map_some, Sem.run_bind, hset, Result.andThen, hx1, hx2]
    rfl
  · refine Sat.shutIter (es := es) (clock := clock) (seen := seen.push e.born) ((hsw.setObj _).cast (mul_left_comm _ _ _)) hn h1 h2 ?_ ?_
    · have := filter_eraseIdx (p := fun e => !seen.contains e.born) h1.2.1 hel
      have e1 : (es.toList.filter fun x => !(seen.push e.born).contains x.born) = es.toList.filter (fun x => (!seen.contains x.born) && !(x.born == e.born)) := by
        refine List.filter_congr fun y _ => ?_
        rw [Bool.eq_iff_iff]; simp
      rw [e1, this, map_eraseIdx', h3, ← map_eraseIdx']
    · intro c hc
      cases hc
      exact ⟨e, (List.mem_filter.1 (List.mem_of_getElem? hel)).1, by simp, hx1, hx2⟩

theorem run_entry {x : κ × Value} (h : Sat w0 w (iterR d kv m it L R (some x) * F)) : (Instr.entry (.pointer (some ⟨it, 0, none⟩))).run P w = .ok (.tuple #[kv x.1, x.2]) w := by
  obtain ⟨hn, es, clock, seen, hs, h1, h2, h3, h4⟩ := h.openIter
  obtain ⟨e, he, hb, hk, hv⟩ := h4 x rfl
  have hm := hs.blk
  have hi := (hs.cast (mul_left_comm _ _ _)).blk
  have hgi : (getObj it).run P w = .ok (.mapIter (some m) clock seen clock) w := by simp [getObj, Sem.run, hi]
  have hf : es.find? (fun x => x.born == e.born) = some e := by
    rw [← Array.find?_toList]
    have hnd := h1.2.1
    clear hm hs h1 h2 h3 h4
    generalize es.toList = l at he hnd
    induction l with
    | nil => simp at he
    | cons a r ih =>
      simp only [List.map_cons, List.nodup_cons] at hnd
      rcases List.mem_cons.1 he with rfl | he'
      · simp
      · have : a.born ≠ e.born := fun q => hnd.1 (q ▸ List.mem_map_of_mem he')
        rw [List.find?_cons, show (a.born == e.born) = false from by simpa using this]
        exact ih he' hnd.2
  simp [Instr.entry, hgi, hb, MapKept.run_getObj_map hm, hf, hk, hv, Result.andThen]

variable {ops : Array Oper} {rest : List Oper} {o : Oper} {a : Act} {Q : Exit → Act → World → Prop}
theorem wpList_range (hg : o.guard = none) (x : Operand) (t : TypeId) (hop : o.op = .range t x) {kt et : TypeId} (ht : P.underlying t = some (.map kt et)) (m : Nat) (hx : a.eval x = .map (some m)) (h : Sat w0 w (mapR d kv m L * F))
    (hK : ∀ it w', Sat w0 w' (iterR d kv m it L L none * F) → wpList P ops Q rest (a.put o.dst (.pointer (some ⟨it, 0, none⟩))) w') : wpList P ops Q (o :: rest) a w := by
  refine wpList_plain hg fun K' hK' => ?_
  obtain ⟨w', hr, hs⟩ := run_range (P := P) h ht
  unfold Oper.wp
  simp [execOp, hop, hx, hr, Result.andThen]
  exact hK' _ _ (hK _ w' hs)
theorem wpList_next_end (hg : o.guard = none) (x : Operand) (hop : o.op = .next x false) (it : Nat) (hx : a.eval x = .pointer (some ⟨it, 0, none⟩)) (h : Sat w0 w (iterR d kv m it L [] cur * F))
    (hK0 : ∀ w', Sat w0 w' (iterR d kv m it L [] cur * F) → wpList P ops Q rest (a.put o.dst (.tuple #[.bool false])) w') : wpList P ops Q (o :: rest) a w := by
  refine wpList_plain hg fun K' hK' => ?_
  obtain ⟨w', hr, hs⟩ := run_next_end (P := P) h o.type
  unfold Oper.wp
  simp [execOp, hop, hx, hr, Result.andThen]
  exact hK' _ _ (hK0 w' hs)
theorem wpList_next_some (hg : o.guard = none) (x : Operand) (hop : o.op = .next x false) (it : Nat) (hx : a.eval x = .pointer (some ⟨it, 0, none⟩)) (h : Sat w0 w (iterR d kv m it L R cur * F)) (hR : R ≠ [])
    (hK : ∀ j k v w', R[j]? = some (k, v) → Sat w0 w' (iterR d kv m it L (R.eraseIdx j) (some (k, v)) * F) → wpList P ops Q rest (a.put o.dst (.tuple #[.bool true, kv k, v])) w') : wpList P ops Q (o :: rest) a w := by
  refine wpList_plain hg fun K' hK' => ?_
  obtain ⟨j, y, w', hj, hr, hs⟩ := run_next_some (P := P) h hR o.type
  unfold Oper.wp
  simp [execOp, hop, hx, hr, Result.andThen]
  exact hK' _ _ (hK j y.1 y.2 w' hj hs)
theorem wpList_entry (hg : o.guard = none) (x : Operand) (hop : o.op = .entry x) (it : Nat) (hx : a.eval x = .pointer (some ⟨it, 0, none⟩)) {k : κ} {v : Value} (h : Sat w0 w (iterR d kv m it L R (some (k, v)) * F))
    (hK : wpList P ops Q rest (a.put o.dst (.tuple #[kv k, v])) w) : wpList P ops Q (o :: rest) a w := by
  refine wpList_plain hg fun K' hK' => ?_
  have hr := run_entry (P := P) h
  unfold Oper.wp
  simp [execOp, hop, hx, hr, Result.andThen]
  exact hK' _ _ hK
end
end Go.Proofs.Ytmngkodejlhalaa.Tw
namespace Go.Proofs.Ytmngkodejlhalaa.Tw
set_option linter.unusedVariables false
set_option linter.unusedSimpArgs false
open Go Go.RowKit Go.MapKept

theorem filter_eraseIdx_not {α : Type} {p : α → Bool} : ∀ {l : List α} {j : Nat} {e : α}, l[j]? = some e → p e = false → (l.eraseIdx j).filter p = l.filter p
  | [], j, e, h, _ => by simp at h
  | a :: l, 0, e, h, hp => by
    simp at h; subst h
    simp [List.filter_cons, hp]
  | a :: l, j + 1, e, h, hp => by
    simp only [List.eraseIdx_cons_succ, List.filter_cons]
    rw [filter_eraseIdx_not (l := l) (by simpa using h) hp]
theorem nodup_get {α β : Type} {f : α → β} : ∀ {l : List α} {i j : Nat} {a b : α}, (l.map f).Nodup → l[i]? = some a → l[j]? = some b → f a = f b → i = j := by
  intro l i j a b hn hi hj he
  have h1 : (l.map f)[i]? = some (f a) := by rw [List.getElem?_map, hi]; rfl
  have h2 : (l.map f)[j]? = some (f b) := by rw [List.getElem?_map, hj]; rfl
  rw [← he] at h2
  have hi' := (List.getElem?_eq_some_iff.1 h1).1
  exact (List.getElem?_inj hi' hn).1 (h1.trans h2.symm)
section
variable {κ : Type} [DecidableEq κ] {d : TypeDesc} {kv : κ → Value}
variable {P : Program} {w0 w : World} {F : HP} {m it : Nat} {L R : List (κ × Value)} {cur : Option (κ × Value)}
theorem mget_mset (L : List (κ × Value)) (k x : κ) (v : Value) : mget (mset L k v) x = if x = k then some v else mget L x := by
  unfold mset
  split
  · rename_i hs
    induction L with
    | nil => simp [mget] at hs
    | cons e L ih =>
      unfold mget at *
      simp only [List.map_cons, List.find?_cons]
      by_cases h1 : e.1 = k
      · subst h1
        by_cases h2 : x = e.1
        · subst h2; simp
        · have h3 : ¬ e.1 = x := fun q => h2 q.symm
          simp only [if_true, h3, decide_false, h2, if_false]
          clear ih hs
          induction L with
          | nil => rfl
          | cons f L ih2 =>
            simp only [List.map_cons, List.find?_cons]
            by_cases h4 : f.1 = e.1
            · rw [if_pos h4]
              have h5 : ¬ f.1 = x := fun q => h3 (h4 ▸ q)
              simp only [h5, decide_false]
              exact ih2
            · rw [if_neg h4]
              by_cases h5 : f.1 = x
              · simp [h5]
              · simp only [h5, decide_false]; exact ih2
      · have hs' : (Option.map (·.2) (L.find? fun e => decide (e.1 = k))).isSome = true := by simpa [List.find?_cons, h1] using hs
        rw [if_neg h1]
        by_cases h2 : e.1 = x
        · subst h2
          simp [h1]
        · simp only [h2, decide_false]
          exact ih hs'
  · rename_i hs
    unfold mget at *
    rw [List.find?_append]
    by_cases h : x = k
    · subst h
      have : L.find? (fun e => decide (e.1 = x)) = none := by
        cases e : L.find? (fun e => decide (e.1 = x)) with
        | none => rfl
        | some y => rw [e] at hs; simp at hs
      simp [this]
    · have h' : ¬ k = x := fun q => h q.symm
      simp [h, h']
theorem mget_key {L : List (κ × Value)} {k : κ} : (mget L k).isSome = true ↔ k ∈ L.map (·.1) := by
  constructor
  · intro h
    rcases Classical.em (k ∈ L.map (·.1)) with h' | h'
    · exact h'
    · rw [mget_none.2 h'] at h; cases h
  · intro h
    cases e : mget L k with
    | none => exact absurd h (mget_none.1 e)
    | some v => rfl
theorem run_delete_iter (K : Keys d kv) {x : κ × Value} (h : Sat w0 w (iterR d kv m it L R (some x) * F)) {t kt et : TypeId} (ht : P.underlying t = some (.map kt et)) (hd : P.underlying kt = some d) (ty : TypeId) :
    ∃ w', (Builtin.delete_ #[t, kt] ty #[.map (some m), kv x.1]).run P w = .ok (.tuple #[]) w' ∧ Sat w0 w' (iterR d kv m it (mdel L x.1) R none * F) := by
  obtain ⟨hn, es, clock, seen, hs, hst, hl, hr, hc⟩ := h.openIter
  obtain ⟨e, he, hb, hk, hv⟩ := hc x rfl
  have hm := hs.blk
  have hseen : seen.contains e.born = true := by
    obtain ⟨ys, rfl⟩ := Array.back?_eq_some_iff.1 hb
    simp
  rcases findNow_mget K x.1 es.toList L 0 hl with ⟨a1, a2⟩ | ⟨j, u, a1, a2, ⟨e0, a3, a3'⟩, a4⟩
  · exfalso
    have : (e.key, e.val) ∈ L.map fun x => (kv x.1, x.2) := by rw [← hl]; exact List.mem_map_of_mem he
    obtain ⟨y, hy, q⟩ := List.mem_map.1 this
    have q1 := (Prod.mk.inj q).1
    rw [hk] at q1
    exact mget_none.1 a2 (K.inj _ _ q1 ▸ List.mem_map_of_mem hy)
  · have hj : es[j]? = some e0 := by simpa using a3
    have hjs : j < es.size := (Array.getElem?_eq_some_iff.1 hj).1
    obtain ⟨i, hi⟩ := List.mem_iff_getElem?.1 he
    have hij : i = j := nodup_get (f := fun y : MapEntry => y.key) hst.2.2 hi a3 (by rw [hk, a3'])
    subst hij
    rw [hi] at a3
    cases a3
    have e1 : (es.eraseIdxIfInBounds i).toList = es.toList.eraseIdx i := by simp [Array.eraseIdxIfInBounds, hjs]
    refine ⟨_, by simp [Builtin.delete_, run_underlying ht, MapKept.run_getObj_map hm, MapKept.run_checkKey hd (K.key x.1), MapKept.run_findKey hd a1, MapKept.run_setObj_map _ hm, Result.andThen]; rfl, ?_⟩
    refine Sat.shutIter (es := es.eraseIdxIfInBounds i) (clock := clock) (seen := seen) (hs.setObj _) (nodup_mdel hn) (stamped_erase hst _) ?_ ?_ (by simp)
    · rw [e1, map_eraseIdx', hl, ← map_eraseIdx']
      congr 1
      have hLj : ∃ y, L[i]? = some y ∧ y.1 = x.1 := by
        cases hq : L[i]? with
        | none => simp [hq] at a4
        | some y => exact ⟨y, rfl, by simpa [hq] using a4⟩
      obtain ⟨y, hy, hyx⟩ := hLj
      rw [← hyx]
      clear hl a1 a2 a4 hst hs hm h hj hjs e1 hi hk hv hc hr hb hseen a3' he hyx
      unfold mdel
      induction L generalizing i with
      | nil => simp at hy
      | cons z r ih =>
        simp only [List.map_cons, List.nodup_cons] at hn
        cases i with
        | zero =>
          simp at hy; subst hy
          simp only [List.eraseIdx_zero, List.tail_cons, decide_true, Bool.not_true, Bool.false_eq_true, not_false_eq_true, List.filter_cons_of_neg]
          refine (List.filter_eq_self.2 fun z2 hz => ?_).symm
          simp only [Bool.not_eq_true', decide_eq_false_iff_not]
          intro e
          exact hn.1 (e ▸ List.mem_map_of_mem hz)
        | succ i =>
          simp at hy
          have hne : z.1 ≠ y.1 := fun e => hn.1 (e ▸ List.mem_map_of_mem (List.mem_of_getElem? hy))
          simp only [List.eraseIdx_cons_succ, hne, decide_false, Bool.not_false, List.filter_cons_of_pos]
          rw [ih hn.2 i hy]
    · rw [e1, filter_eraseIdx_not hi (by simpa using hseen)]
      exact hr
variable {ops : Array Oper} {rest : List Oper} {o : Oper} {a : Act} {Q : Exit → Act → World → Prop}
theorem wpList_delete_iter (hg : o.guard = none) (y z : Operand) (t kt : TypeId) (hop : o.op = .call { callee := .builtin .delete, args := #[y, z], argTypes := #[t, kt] }) {et : TypeId} (K : Keys d kv) (ht : P.underlying t = some (.map kt et)) (hd : P.underlying kt = some d)
    (hm : a.eval y = .map (some m)) {k : κ} {v : Value} (h : Sat w0 w (iterR d kv m it L R (some (k, v)) * F)) (hx : a.eval z = kv k)
    (hK : ∀ w', Sat w0 w' (iterR d kv m it (mdel L k) R none * F) → wpList P ops Q rest (a.put o.dst (.tuple #[])) w') : wpList P ops Q (o :: rest) a w := by
  refine wpList_plain hg fun K' hK' => ?_
  obtain ⟨w', hr, hs⟩ := run_delete_iter K h ht hd o.type
  unfold Oper.wp
  simp only [execOp, hop, resolve, invoke, builtin, Sem.run_bind, Sem.run_pure, Result.andThen_ok, List.map_toArray, List.map_cons, List.map_nil, hm, hx, hr]
  exact hK' _ _ (hK w' hs)
theorem wpList_insert (hg : o.guard = none) (y z u : Operand) (t : TypeId) (hop : o.op = Op.insert t y z u) {kt et : TypeId} (Kd : Keys d kv) (ht : P.underlying t = some (.map kt et)) (hd : P.underlying kt = some d)
    (b : Nat) (L : List (κ × Value)) (hm : a.eval y = .map (some b)) (h : Sat w0 w (mapR d kv b L * F)) (k : κ) (hx : a.eval z = kv k) (val : Value) (hv : a.eval u = val)
    (hK : ∀ w', Sat w0 w' (mapR d kv b (mset L k val) * F) → wpList P ops Q rest (a.put o.dst undef) w') : wpList P ops Q (o :: rest) a w := by
  refine wpList_plain hg fun K' hK' => ?_
  obtain ⟨w', hr, hs⟩ := run_mapUpdate (v := val) Kd h ht hd k
  unfold Oper.wp
  simp [execOp, hop, hm, hx, hv, hr, Result.andThen]
  exact hK' _ _ (hK w' hs)
end
end Go.Proofs.Ytmngkodejlhalaa.Tw
