/- Going through a map: range, next, entry. No condition. -/
import Derived.Test.YtkpcngcegipalaaZPIn2
import Derived.Maps.RangeWalk
import Derived.Test.YtkpcngcegipalaaZPIn5
import Derived.Deep.LoopGhost
import Derived.Deep.RegionHeld3
import Derived.Test.YtkpcngcegipalaaZPIn3
namespace Go.Proofs.Ytkpcngcegipalaa.Tw
set_option linter.unusedVariables false
set_option linter.unusedSimpArgs false
open Go Go.RowKit Go.MapKept

section
variable {κ : Type} {d : TypeDesc} {kv : κ → Value}

/-- block it goes through the map m, which has the entries L; R are still to come, the last one was cur -/
def iterR (d : TypeDesc) (kv : κ → Value) (m it : Nat) (L R : List (κ × Value)) (cur : Option (κ × Value)) : HP := fun h =>
  (L.map (·.1)).Nodup ∧ ∃ es clock seen, (pt m (.map es clock) * pt it (.mapIter (some m) clock seen clock)) h ∧ Stamped es clock ∧ es.toList.map (fun e => (e.key, e.val)) = (L.map fun x => (kv x.1, x.2)) ∧
    (es.toList.filter fun e => !seen.contains e.born).map (fun e => (e.key, e.val)) = (R.map fun x => (kv x.1, x.2)) ∧
    ∀ c, cur = some c → ∃ e ∈ es.toList, seen.back? = some e.born ∧ e.key = kv c.1 ∧ e.val = c.2

variable {P : Program} {w0 w : World} {F : HP} {m it : Nat} {L R : List (κ × Value)} {cur : Option (κ × Value)}

theorem Sat.openIter (h : Sat w0 w (iterR d kv m it L R cur * F)) : (L.map (·.1)).Nodup ∧ ∃ es clock seen, Sat w0 w (pt m (.map es clock) * (pt it (.mapIter (some m) clock seen clock) * F)) ∧ Stamped es clock ∧ es.toList.map (fun e => (e.key, e.val)) = (L.map fun x => (kv x.1, x.2)) ∧
    (es.toList.filter fun e => !seen.contains e.born).map (fun e => (e.key, e.val)) = (R.map fun x => (kv x.1, x.2)) ∧
    ∀ c, cur = some c → ∃ e ∈ es.toList, seen.back? = some e.born ∧ e.key = kv c.1 ∧ e.val = c.2 := by
  obtain ⟨h1, x, ⟨a, c, dj, rfl, ⟨hn, es, clock, seen, hp, hs, hl, hr, hc⟩, q⟩, r⟩ := h
  exact ⟨hn, es, clock, seen, Sat.cast ⟨h1, _, ⟨a, c, dj, rfl, hp, q⟩, r⟩ (mul_assoc _ _ _), hs, hl, hr, hc⟩
theorem Sat.shutIter {es : Array MapEntry} {clock : Nat} {seen : Array Nat} (h : Sat w0 w (pt m (.map es clock) * (pt it (.mapIter (some m) clock seen clock) * F))) (hn : (L.map (·.1)).Nodup) (hs : Stamped es clock) (hl : es.toList.map (fun e => (e.key, e.val)) = L.map fun x => (kv x.1, x.2))
    (hr : (es.toList.filter fun e => !seen.contains e.born).map (fun e => (e.key, e.val)) = (R.map fun x => (kv x.1, x.2)))
    (hc : ∀ c, cur = some c → ∃ e ∈ es.toList, seen.back? = some e.born ∧ e.key = kv c.1 ∧ e.val = c.2) : Sat w0 w (iterR d kv m it L R cur * F) := by
  rw [← mul_assoc] at h
  exact h.mono_l fun _ p => ⟨hn, es, clock, seen, p, hs, hl, hr, hc⟩
/-- gone through: the map is there as it was -/
theorem Sat.iterMap (h : Sat w0 w (iterR d kv m it L R cur * F)) : Sat w0 w (mapR d kv m L * F) := by
  obtain ⟨hn, es, clock, seen, hs, h1, h2, _⟩ := h.openIter
  exact Sat.shutMap hs.drop2 hn h1 h2

theorem run_range (h : Sat w0 w (mapR d kv m L * F)) {t kt et : TypeId} (ht : P.underlying t = some (.map kt et)) :
    ∃ w', (Instr.range t (.map (some m))).run P w = .ok (.pointer (some ⟨w.heap.size, 0, none⟩)) w' ∧ Sat w0 w' (iterR d kv m w.heap.size L L none * F) := by
  obtain ⟨hn, es, clock, hs, hst, hl⟩ := h.openMap
  refine ⟨w.alloc (.mapIter (some m) clock #[] clock), by simp [Instr.range, run_underlying ht, MapKept.run_getObj_map hs.blk, Result.andThen], ?_⟩
  refine Sat.shutIter (es := es) (clock := clock) (seen := #[]) ((hs.alloc _).cast (mul_left_comm _ _ _)) hn hst hl ?_ (by simp)
  rw [← hl]; simp [List.filter_eq_self.2]

theorem run_next_end (h : Sat w0 w (iterR d kv m it L [] cur * F)) (ty : TypeId) : ∃ w', (Instr.next (.pointer (some ⟨it, 0, none⟩)) false ty).run P w = .ok (.tuple #[.bool false]) w' ∧ Sat w0 w' (iterR d kv m it L [] cur * F) := by
  obtain ⟨hn, es, clock, seen, hs, h1, h2, h3, h4⟩ := h.openIter
  refine ⟨w, ?_, h⟩
  have hm := hs.blk
  have hi := (hs.cast (mul_left_comm _ _ _)).blk
  have hgi : (getObj it).run P w = .ok (.mapIter (some m) clock seen clock) w := by simp [getObj, Sem.run, hi]
  have hall : (!seen.isEmpty && !es.isEmpty && es.all fun e => decide (e.born ≥ clock)) = false := by
    cases he : es.isEmpty
    · have : es.all (fun e => decide (e.born ≥ clock)) = false := by
        rw [Array.all_eq_false]
        have hpos : 0 < es.size := by
          have : es ≠ #[] := by intro q; rw [q] at he; simp at he
          exact Array.size_pos_iff.2 this
        refine ⟨0, hpos, ?_⟩
        have := h1.1 es[0] (by simp)
        simp; omega
      simp [this]
    · simp
  have hleft : (es.filter fun e => !seen.contains e.born) = #[] := by
    apply Array.toList_inj.1
    rw [Array.toList_filter]
    simpa using h3
  simp only [Instr.next, Sem.run_bind, hgi, Result.andThen, MapKept.run_getObj_map hm, hall, hleft]
  simp [choose, Sem.run, Question.forced, Result.andThen]

theorem filter_eraseIdx {es : List MapEntry} {p : MapEntry → Bool} {j : Nat} {e : MapEntry} (hn : (es.map (·.born)).Nodup) (hj : (es.filter p)[j]? = some e) :
    es.filter (fun x => p x && !(x.born == e.born)) = (es.filter p).eraseIdx j := by
  induction es generalizing j with
  | nil => simp at hj
  | cons a r ih =>
    simp only [List.map_cons, List.nodup_cons] at hn
    by_cases hp : p a = true
    · simp only [List.filter_cons, hp, if_true] at hj ⊢
      cases j with
      | zero =>
        simp at hj; subst hj
        simp only [beq_self_eq_true, Bool.not_true, Bool.and_false, Bool.false_eq_true, if_false, List.eraseIdx_zero, List.tail_cons]
        refine List.filter_congr fun x hx => ?_
        have : x.born ≠ a.born := fun q => hn.1 (q ▸ List.mem_map_of_mem hx)
        simp [this]
      | succ j =>
        simp at hj
        have he := List.mem_of_getElem? hj
        have : a.born ≠ e.born := fun q => hn.1 (q ▸ List.mem_map_of_mem (List.mem_filter.1 he).1)
        simp only [List.eraseIdx_cons_succ, Bool.true_and]
        rw [if_pos (by simpa using this), ih hn.2 hj]
    · simp only [List.filter_cons, hp, Bool.false_eq_true, if_false, Bool.false_and] at hj ⊢
      exact ih hn.2 hj

theorem run_choose_mapNext (w : World) (n : Nat) (hn : 0 < n) : ∃ j w', j < n ∧ (choose (.mapNext n)).run P w = .ok j w' ∧ (w' = w ∨ w' = w.drew) := by
  by_cases h1 : n ≤ 1
  · exact ⟨0, w, hn, by simp [choose, Sem.run, Question.forced, h1], .inl rfl⟩
  · exact ⟨_, _, Nat.mod_lt _ hn, by simp only [choose, Sem.run, Question.forced, h1, decide_false, Bool.false_eq_true, if_false]; rfl, .inr rfl⟩

theorem run_next_some (h : Sat w0 w (iterR d kv m it L R cur * F)) (hR : R ≠ []) (ty : TypeId) : ∃ j x w', R[j]? = some x ∧ (Instr.next (.pointer (some ⟨it, 0, none⟩)) false ty).run P w = .ok (.tuple #[.bool true, kv x.1, x.2]) w' ∧ Sat w0 w' (iterR d kv m it L (R.eraseIdx j) (some x) * F) := by
  obtain ⟨hn, es, clock, seen, hs, h1, h2, h3, h4⟩ := h.openIter
  have hm := hs.blk
  have hs' := hs.cast (mul_left_comm _ _ _)
  have hi := hs'.blk
  have hgi : (getObj it).run P w = .ok (.mapIter (some m) clock seen clock) w := by simp [getObj, Sem.run, hi]
  have hlen : (es.toList.filter fun e => !seen.contains e.born).length = R.length := by simpa using congrArg List.length h3
  have hRpos : 0 < R.length := List.length_pos_iff.2 hR
  have hes : es ≠ #[] := by
    rintro rfl
    simp at hlen; omega
  have hall : (!seen.isEmpty && !es.isEmpty && es.all fun e => decide (e.born ≥ clock)) = false := by
    have : es.all (fun e => decide (e.born ≥ clock)) = false := by
      rw [Array.all_eq_false]
      have hpos : 0 < es.size := Array.size_pos_iff.2 hes
      refine ⟨0, hpos, ?_⟩
      have := h1.1 es[0] (by simp)
      simp; omega
    simp [this]
  have hold : ((es.filter fun e => !seen.contains e.born).filter fun e => decide (e.born < clock)) = es.filter fun e => !seen.contains e.born := by
    rw [Array.filter_eq_self]
    intro e he
    have := (Array.mem_filter.1 he).1
    simpa using h1.1 e (Array.mem_toList_iff.2 this)
  have hnew : ((es.filter fun e => !seen.contains e.born).filter fun e => decide (e.born ≥ clock)) = #[] := by
    rw [Array.filter_eq_empty_iff]
    intro e he
    have := (Array.mem_filter.1 he).1
    have := h1.1 e (Array.mem_toList_iff.2 this)
    simp; omega
  have hsz : (es.filter fun e => !seen.contains e.born).size = R.length := by
    rw [← hlen, ← Array.toList_filter, Array.length_toList]
  have hne : (es.filter fun e => !seen.contains e.born).isEmpty = false := by
    rw [Array.isEmpty_eq_false_iff]
    rintro q
    rw [q] at hsz; simp at hsz; omega
  obtain ⟨j, w', hj, hch, hw⟩ := run_choose_mapNext (P := P) w R.length hRpos
  have hjl : j < (es.filter fun e => !seen.contains e.born).size := by omega
  obtain ⟨e, he⟩ : ∃ e, (es.filter fun e => !seen.contains e.born)[j]? = some e := ⟨_, Array.getElem?_eq_getElem hjl⟩
  have hel : (es.toList.filter fun e => !seen.contains e.born)[j]? = some e := by rw [← Array.toList_filter, Array.getElem?_toList]; exact he
  have hx : ∃ x, R[j]? = some x ∧ e.key = kv x.1 ∧ e.val = x.2 := by
    have := congrArg (fun l => l[j]?) h3
    simp only [List.getElem?_map, hel, Option.map_some] at this
    cases hq : R[j]? with
    | none => rw [hq] at this; cases this
    | some x =>
      rw [hq] at this
      simp only [Option.map_some, Option.some.injEq, Prod.mk.injEq] at this
      exact ⟨x, rfl, this.1, this.2⟩
  obtain ⟨x, hx, hx1, hx2⟩ := hx
  have hsw : Sat w0 w' (pt it (.mapIter (some m) clock seen clock) * (pt m (.map es clock) * F)) := by rcases hw with rfl | rfl <;> exact hs'
  have hhw : w'.heap = w.heap := by rcases hw with rfl | rfl <;> rfl
  refine ⟨j, x, { w' with heap := w'.heap.setIfInBounds it (.mapIter (some m) clock (seen.push e.born) clock) }, hx, ?_, ?_⟩
  · have hset : (setObj it (.mapIter (some m) clock (seen.push e.born) clock)).run P w' = .ok () { w' with heap := w'.heap.setIfInBounds it (.mapIter (some m) clock (seen.push e.born) clock) } := by
      simp [setObj, Sem.run, hsw.blk]
    have hcand : ((if (es.filter fun e => !seen.contains e.born).isEmpty = true then #[(none : Option MapEntry)] else #[]) ++ ((es.filter fun e => !seen.contains e.born) ++ (#[] : Array MapEntry)).map some) = (es.filter fun e => !seen.contains e.born).map some := by
      rw [hne]; simp
    simp only [Instr.next, Sem.run_bind, hgi, Result.andThen, MapKept.run_getObj_map hm, hall, Bool.false_eq_true, if_false, hold, hnew, hcand]
    rw [Array.size_map, hsz, hch]
    simp only [Array.getElem?_map, he, Option.map_some, Sem.run_bind, hset, Result.andThen, hx1, hx2]
    rfl
  · refine Sat.shutIter (es := es) (clock := clock) (seen := seen.push e.born) ((hsw.setObj _).cast (mul_left_comm _ _ _)) hn h1 h2 ?_ ?_
    · have := filter_eraseIdx (p := fun e => !seen.contains e.born) h1.2.1 hel
      have e1 : (es.toList.filter fun x => !(seen.push e.born).contains x.born) = es.toList.filter (fun x => (!seen.contains x.born) && !(x.born == e.born)) := by
        refine List.filter_congr fun y _ => ?_
        rw [Bool.eq_iff_iff]; simp
      rw [e1, this, map_eraseIdx', h3, ← map_eraseIdx']
    · intro c hc
      cases hc
      exact ⟨e, (List.mem_filter.1 (List.mem_of_getElem? hel)).1, by simp, hx1, hx2⟩

theorem run_entry {x : κ × Value} (h : Sat w0 w (iterR d kv m it L R (some x) * F)) : (Instr.entry (.pointer (some ⟨it, 0, none⟩))).run P w = .ok (.tuple #[kv x.1, x.2]) w := by
  obtain ⟨hn, es, clock, seen, hs, h1, h2, h3, h4⟩ := h.openIter
  obtain ⟨e, he, hb, hk, hv⟩ := h4 x rfl
  have hm := hs.blk
  have hi := (hs.cast (mul_left_comm _ _ _)).blk
  have hgi : (getObj it).run P w = .ok (.mapIter (some m) clock seen clock) w := by simp [getObj, Sem.run, hi]
  have hf : es.find? (fun x => x.born == e.born) = some e := by
    rw [← Array.find?_toList]
    have hnd := h1.2.1
    clear hm hs h1 h2 h3 h4
    generalize es.toList = l at he hnd
    induction l with
    | nil => simp at he
    | cons a r ih =>
      simp only [List.map_cons, List.nodup_cons] at hnd
      rcases List.mem_cons.1 he with rfl | he'
      · simp
      · have : a.born ≠ e.born := fun q => hnd.1 (q ▸ List.mem_map_of_mem he')
        rw [List.find?_cons, show (a.born == e.born) = false from by simpa using this]
        exact ih he' hnd.2
  simp [Instr.entry, hgi, hb, MapKept.run_getObj_map hm, hf, hk, hv, Result.andThen]

variable {ops : Array Oper} {rest : List Oper} {o : Oper} {a : Act} {Q : Exit → Act → World → Prop}
theorem wpList_range (hg : o.guard = none) (x : Operand) (t : TypeId) (hop : o.op = .range t x) {kt et : TypeId} (ht : P.underlying t = some (.map kt et)) (m : Nat) (hx : a.eval x = .map (some m)) (h : Sat w0 w (mapR d kv m L * F))
    (hK : ∀ it w', Sat w0 w' (iterR d kv m it L L none * F) → wpList P ops Q rest (a.put o.dst (.pointer (some ⟨it, 0, none⟩))) w') : wpList P ops Q (o :: rest) a w := by
  refine wpList_plain hg fun K' hK' => ?_
  obtain ⟨w', hr, hs⟩ := run_range (P := P) h ht
  unfold Oper.wp
  simp [execOp, hop, hx, hr, Result.andThen]
  exact hK' _ _ (hK _ w' hs)
theorem wpList_next_end (hg : o.guard = none) (x : Operand) (hop : o.op = .next x false) (it : Nat) (hx : a.eval x = .pointer (some ⟨it, 0, none⟩)) (h : Sat w0 w (iterR d kv m it L [] cur * F))
    (hK0 : ∀ w', Sat w0 w' (iterR d kv m it L [] cur * F) → wpList P ops Q rest (a.put o.dst (.tuple #[.bool false])) w') : wpList P ops Q (o :: rest) a w := by
  refine wpList_plain hg fun K' hK' => ?_
  obtain ⟨w', hr, hs⟩ := run_next_end (P := P) h o.type
  unfold Oper.wp
  simp [execOp, hop, hx, hr, Result.andThen]
  exact hK' _ _ (hK0 w' hs)
theorem wpList_next_some (hg : o.guard = none) (x : Operand) (hop : o.op = .next x false) (it : Nat) (hx : a.eval x = .pointer (some ⟨it, 0, none⟩)) (h : Sat w0 w (iterR d kv m it L R cur * F)) (hR : R ≠ [])
    (hK : ∀ j k v w', R[j]? = some (k, v) → Sat w0 w' (iterR d kv m it L (R.eraseIdx j) (some (k, v)) * F) → wpList P ops Q rest (a.put o.dst (.tuple #[.bool true, kv k, v])) w') : wpList P ops Q (o :: rest) a w := by
  refine wpList_plain hg fun K' hK' => ?_
  obtain ⟨j, y, w', hj, hr, hs⟩ := run_next_some (P := P) h hR o.type
  unfold Oper.wp
  simp [execOp, hop, hx, hr, Result.andThen]
  exact hK' _ _ (hK j y.1 y.2 w' hj hs)
theorem wpList_entry (hg : o.guard = none) (x : Operand) (hop : o.op = .entry x) (it : Nat) (hx : a.eval x = .pointer (some ⟨it, 0, none⟩)) {k : κ} {v : Value} (h : Sat w0 w (iterR d kv m it L R (some (k, v)) * F))
    (hK : wpList P ops Q rest (a.put o.dst (.tuple #[kv k, v])) w) : wpList P ops Q (o :: rest) a w := by
  refine wpList_plain hg fun K' hK' => ?_
  have hr := run_entry (P := P) h
  unfold Oper.wp
  simp [execOp, hop, hx, hr, Result.andThen]
  exact hK' _ _ hK
end
end Go.Proofs.Ytkpcngcegipalaa.Tw
namespace Go.Proofs.Ytkpcngcegipalaa.Tw
set_option linter.unusedVariables false
set_option linter.unusedSimpArgs false
open Go Go.RowKit Go.MapKept

/-- the greatest of what has come so far -/
def seenMax (L R : List (Int × Value)) (k : Nat) : Prop := (∀ x ∈ L, x ∈ R ∨ x.1 ≤ k) ∧ (k = 0 ∨ ∃ x ∈ L, x.1 = k)
theorem seenMax_step {L R : List (Int × Value)} {k j : Nat} {y : Int × Value} (h : seenMax L R k) (hsub : ∀ x ∈ R, x ∈ L) (hy : R[j]? = some y) (hpos : 0 ≤ y.1) : seenMax L (R.eraseIdx j) (max k y.1.toNat) := by
  have hyR := List.mem_of_getElem? hy
  refine ⟨fun x hx => ?_, ?_⟩
  · rcases h.1 x hx with h1 | h1
    · rcases Classical.em (x = y) with rfl | hne
      · right; omega
      · left
        obtain ⟨i, hi, e⟩ := List.mem_iff_getElem.1 h1
        rw [List.mem_eraseIdx_iff_getElem]
        refine ⟨i, hi, ?_, e⟩
        rintro rfl
        rw [List.getElem?_eq_getElem hi] at hy
        exact hne (by rw [← e]; exact Option.some.inj hy)
    · right; omega
  · by_cases hk : (k : Int) ≤ y.1
    · right
      exact ⟨y, hsub y hyR, by omega⟩
    · rcases h.2 with h2 | ⟨x, hx, e⟩
      · omega
      · right; exact ⟨x, hx, by omega⟩
theorem seenMax_end {T : List Bool} {L : List (Int × Value)} {k : Nat} (h : seenMax L [] k) (hL : ∀ n, n ∈ L.map (·.1) ↔ tk T n = true) : k = lastT T := by
  have hle : lastT T ≤ k := by
    rcases Nat.eq_zero_or_pos (lastT T) with h0 | h0
    · omega
    · have := lastT_at T (by omega)
      have htk : tk T (lastT T) = true := by
        unfold tk
        rw [show ((lastT T : Int) - 1).toNat = lastT T - 1 from by omega, this]; simp; omega
      obtain ⟨x, hx, e⟩ := List.mem_map.1 ((hL _).2 htk)
      rcases h.1 x hx with h1 | h1
      · cases h1
      · rw [e] at h1; omega
  have hge : k ≤ lastT T := by
    rcases h.2 with h2 | ⟨x, hx, e⟩
    · omega
    · have := (hL x.1).1 (List.mem_map_of_mem hx)
      obtain ⟨h1, h2⟩ := tk_lt this
      have hb : T[(x.1 - 1).toNat]? = some true := by
        unfold tk at this
        rw [List.getElem?_eq_getElem h2] at this ⊢
        simp only [Bool.and_eq_true, Option.getD_some] at this
        rw [this.2]
      have := lastT_ge T _ hb
      omega
  omega

theorem mget_mem {κ : Type} [DecidableEq κ] {L : List (κ × Value)} {k : κ} : (mget L k).isSome = true ↔ k ∈ L.map (·.1) := by
  constructor
  · intro h
    rcases Classical.em (k ∈ L.map (·.1)) with h' | h'
    · exact h'
    · rw [mget_none.2 h'] at h; cases h
  · intro h
    cases e : mget L k with
    | none => exact absurd h (mget_none.1 e)
    | some v => rfl
theorem pool_Last {w0 w : World} {F : HP} {p : Nat} {T : List Bool} (h : Sat w0 w (poolR p T * F)) (hT : T.length < 1000000000) :
    Calls Try.prog 95 #[.pointer (some ⟨p, 0, none⟩)] w fun e w' => e = .returned (.int .i64 (lastT T)) ∧ Sat w0 w' (poolR p T * F) := by
  obtain ⟨m, L, a, c, hL, hs⟩ := h.openPool
  have c0 : w.cell? ⟨p, 0, none⟩ = some (.map (some m)) := hs.cell 0 rfl
  have hs' := hs.cast (mul_left_comm _ _ _)
  have HL := Lib.hid hL
  clear hL
  go_enter Try.func95, Try.ntmps95
  go_wp2_with (first
    | (go_at_call 125; refine (pool_none h).mono ?_; rintro e w' ⟨rfl, rfl⟩)
    | (at_range; refine wpList_range rfl _ 158 rfl Try.underlying158 m rfl hs' ?_; intro it w1 hs1))
  have hmem : ∀ n, n ∈ L.map (·.1) ↔ tk T n = true := by
    intro n
    rw [← mget_mem, HL.out]
    cases tk T n <;> simp
  have hpos : ∀ x ∈ L, 1 ≤ x.1 ∧ x.1 ≤ 1000000000 := by
    intro x hx
    have := tk_lt ((hmem x.1).1 (List.mem_map_of_mem hx))
    omega
  go_frame
  go_loopg [3] L.length (fun gk v wr => ∃ (k : Nat) (R : List (Int × Value)) (cur : Option (Int × Value)), v = .int .i64 k ∧ k ≤ 1000000000 ∧ R.length = gk ∧ (∀ x ∈ R, x ∈ L) ∧ seenMax L R k ∧
    Sat w0 wr (iterR (.int .i64) (Value.int .i64) m it L R cur * (row p 160 #[.map (some m), .slice a (freeOf T).length c, .int .i64 (T.length + 1)] * (slc 3 1 a (freeOf T).length c ((freeOf T).map ival) * F))))
  case atStart => exact ⟨0, L, none, rfl, by omega, rfl, fun x hx => hx, ⟨fun x hx => .inl hx, .inl rfl⟩, hs1⟩
  case round =>
    obtain ⟨k, R, cur, rfl, hk, hR, hsub, hmax, hsr⟩ := hrel
    have HM := Lib.hid hmax
    have HS := Lib.hid hsub
    by_cases hR0 : R = []
    · subst hR0
      clear hmax hR hsub
      go_wp2_with (at_next; refine wpList_next_end rfl _ rfl it rfl hsr ?_; intro w2 hs2)
      go_ret
      have e := seenMax_end HM.out hmem
      refine ⟨by rw [e]; rfl, Sat.shutPool HL.out ((hs2.iterMap).cast (mul_left_comm _ _ _))⟩
    · have HR := Lib.hid hR
      clear hmax hR hsub
      go_wp2_with (first
        | (at_next; refine wpList_next_some rfl _ rfl it rfl hsr hR0 ?_; intro j x v w2 hj hs2; have Hj := Lib.hid hj; have hxp := hpos _ (HS.out _ (List.mem_of_getElem? hj)); clear hj; obtain ⟨hx1, hx2⟩ := hxp; obtain ⟨y, rfl⟩ : ∃ y : Nat, x = y := ⟨x.toNat, by simp at hx1; omega⟩; simp at hx1 hx2)
        | (refine wpList_entry rfl _ rfl it rfl hs2 ?_))
      have hs2' := hs2
      all_goals
        go_roundg (R.length - 1)
        case measure => have := HR.out; have : 0 < R.length := List.length_pos_iff.2 hR0; omega
        case rel =>
          have hstep := seenMax_step HM.out HS.out Hj.out (by simp)
          have hlen : (R.eraseIdx j).length = R.length - 1 := by
            have := (List.getElem?_eq_some_iff.1 Hj.out).1
            rw [List.length_eraseIdx, if_pos this]
          refine ⟨max k y, R.eraseIdx j, _, ?_, by omega, hlen, fun z hz => HS.out z (List.mem_of_mem_eraseIdx hz), hstep, hs2⟩
          refine congrArg (Value.int .i64) ?_
          omega

theorem run_typeAssert_map {P : Program} (w : World) (t xT k e : TypeId) (v : Value) (h : P.underlying t = some (.map k e)) : (Instr.typeAssert (.iface t v) xT t false).run P w = .ok v w := by
  simp [Instr.typeAssert, run_underlying h, Result.andThen]
theorem maps_clone {w0 w : World} {F : HP} {m : Nat} {L : List (Int × Value)} (h : Sat w0 w (mapR (.int .i64) (Value.int .i64) m L * F)) :
    Calls Try.prog 126 #[.map (some m)] w fun e w' => ∃ m', e = .returned (.map (some m')) ∧ Sat w0 w' (mapR (.int .i64) (Value.int .i64) m' L * (mapR (.int .i64) (Value.int .i64) m L * F)) := by
  obtain ⟨hn, es, clock, hs, hst, hl⟩ := h.openMap
  have hm := eqm_nil
  have hc : (callFunc 127 #[.iface 158 (.map (some m))]).run Try.prog w = .ok (.value (.iface 158 (.map (some w.heap.size)))) (w.alloc (.map es clock)) := by
    rw [run_callFunc_extern Try.func127 (by kernel_rfl) (by kernel_rfl) (by kernel_rfl) (e := Extern.MapsClone.clone) (by kernel_rfl)]
    have e : Extern.MapsClone.clone #[.iface 158 (.map (some m))] = (getObj m >>= fun o => match o with
      | .map entries clock => (newObj (.map entries clock) >>= fun n => pure (.iface 158 (.map (some n))))
      | _ => stuck "maps.clone: a map expected") := rfl
    rw [e]
    simp [MapKept.run_getObj_map hs.blk, Result.andThen]
  have hta := fun w' => run_typeAssert_map w' 158 20 _ _ (.map (some w.heap.size)) Try.underlying158
  go_enter Try.func126, Try.ntmps126
  go_wp2
  go_ret
  exact ⟨_, rfl, Sat.shutMap (L := L) (h.alloc _) hn hst hl⟩
theorem emptySlc {w0 w : World} {F : HP} (h : Sat w0 w F) : Sat w0 (w.alloc (.cells #[] 3)) (slc 3 1 (some ⟨w.heap.size, 0, none⟩) 0 0 [] * F) :=
  Sat.shutSlc (g := w.heap.size) (off := 0) (cur := #[]) (h.alloc _) (Nat.le_refl _) (Nat.zero_le _) (by simp) (by simp)
theorem slices_clone {w0 w : World} {F : HP} {a : Option Addr} {n c : Nat} {xs : List Value} (h : Sat w0 w (slc 3 1 a n c xs * F)) (hn : n ≤ 2000000000) (h1 : ∀ v ∈ xs, v.oneCell' = true) :
    Calls Try.prog 84 #[.slice a n c] w fun e w' => ∃ a' c', e = .returned (.slice a' n c') ∧ (a' = none → a = none) ∧ Sat w0 w' (slc 3 1 a' n c' xs * (slc 3 1 a n c xs * F)) := by
  obtain ⟨i0, hi, hz0, hz1, hz2⟩ := info_parts info_int
  have hq : ∀ (w : World) (a : Option Addr) (n c : Nat), (binOp .eql 48 (.slice a n c) (.slice none 0 0)).run Try.prog w = .ok (.bool a.isNone) w := fun w a n c => Lib.run_eql_slice_nil w _ _ _ _ _ 0 0 Try.underlying48
  have hlx := h.slcLen
  cases a with
  | none =>
    rcases h.openSlc.2 with ⟨_, rfl, rfl, hF⟩ | ⟨g, off, cur, e, _⟩
    · have : xs = [] := List.eq_nil_of_length_eq_zero (by simpa using hlx)
      subst this
      go_enter Try.func84, Try.ntmps84
      go_wp2
      go_ret
      exact ⟨none, 0, rfl, h.nilSlc⟩
    · cases e
  | some ad =>
    have hcl := h.slcCells
    go_enter Try.func84, Try.ntmps84
    go_wp2_with (at_builtin; refine wpList_append rfl _ _ 48 rfl i0 (.int .i64 0) 8 Try.underlying48 hi hz0 hz1 hz2 rfl (some ⟨w.heap.size, 0, none⟩) 0 0 [] rfl (emptySlc h) ad n c xs rfl (by omega) (emptySlc h).slcCells2 h1 (by unfold maxLen; omega) (by omega) ?_; intro a' c' w1 hs1 hne)
    go_ret
    rw [Nat.zero_add, List.nil_append] at hs1
    refine ⟨a', c', ?_, ?_, hs1⟩
    · rfl
    · intro e; exact absurd (hne e).1 (by simp)
theorem pool_Copy_nil (w : World) : Calls Try.prog 83 #[.pointer none] w fun e w' => e = .returned (.pointer none) ∧ w = w' := by
  go_enter Try.func83, Try.ntmps83
  go_wp2_with (go_at_call 125; refine (pool_none_nil _).mono ?_; rintro e w' ⟨rfl, rfl⟩)
  go_ret
  exact ⟨rfl, rfl⟩
theorem pool_Copy_empty (w : World) (p : Nat) (c0 : w.cell? ⟨p, 0, none⟩ = some (.map none)) : Calls Try.prog 83 #[.pointer (some ⟨p, 0, none⟩)] w fun e w' => e = .returned (.pointer none) ∧ w = w' := by
  go_enter Try.func83, Try.ntmps83
  go_wp2_with (go_at_call 125; refine (pool_none_at _ p none c0).mono ?_; rintro e w' ⟨rfl, rfl⟩)
  go_ret
  exact ⟨rfl, rfl⟩
theorem cpA (A B C D F : HP) : A * (B * (C * (D * F))) = C * (A * (B * (D * F))) := by ac_rfl
theorem cpB (A B C D F : HP) : A * (B * (C * (D * F))) = D * (A * (B * (C * F))) := by ac_rfl
theorem cpC (E A B C D F : HP) : E * (D * (A * (B * (C * F)))) = C * (E * (D * (A * (B * F)))) := by ac_rfl
theorem cpD (N E A B C D F : HP) : N * (E * (D * (A * (B * (C * F))))) = C * (B * (D * (N * (A * (E * F))))) := by ac_rfl
theorem cpE (P A B C F : HP) : P * (A * (B * (C * F))) = A * (B * (C * (P * F))) := by ac_rfl
theorem pool_Copy {w0 w : World} {F : HP} {p : Nat} {T : List Bool} (h : Sat w0 w (poolR p T * F)) (hT : T.length < 1000000000) :
    Calls Try.prog 83 #[.pointer (some ⟨p, 0, none⟩)] w fun e w' => ∃ q, e = .returned (.pointer (some ⟨q, 0, none⟩)) ∧ Sat w0 w' (poolR q T * (poolR p T * F)) := by
  have hfl := freeOf_length T
  have hfl2 : (freeOf T).length ≤ 2000000000 := by omega
  go_enter Try.func83, Try.ntmps83
  go_wp2_with (go_at_call 125; refine (pool_none h).mono ?_; rintro e w' ⟨rfl, rfl⟩)
  obtain ⟨m, L, a, c, hL, hs⟩ := h.openPool
  have HL := Lib.hid hL
  clear hL
  have hs' := (hs.cast (mul_left_comm _ _ _)).drew
  generalize hw : w.drew = wd at *
  have c0 : wd.cell? ⟨p, 0, none⟩ = some (.map (some m)) := (hs'.cast (mul_left_comm _ _ _)).cell 0 rfl
  have c1 : wd.cell? ⟨p, 1, none⟩ = some (.slice a (freeOf T).length c) := (hs'.cast (mul_left_comm _ _ _)).cell 1 rfl
  have c2 : wd.cell? ⟨p, 2, none⟩ = some (.int .i64 (T.length + 1)) := (hs'.cast (mul_left_comm _ _ _)).cell 2 rfl
  go_region_held3 (fun w' => w'.cell? ⟨p, 0, none⟩ = some (.map (some m)) ∧ w'.cell? ⟨p, 1, none⟩ = some (.slice a (freeOf T).length c) ∧ w'.cell? ⟨p, 2, none⟩ = some (.int .i64 (T.length + 1)))
    (first | exact ⟨c0, c1, c2⟩ | exact ⟨d0, d1, d2⟩ | exact ⟨e0, e1, e2⟩ | go_keep)
    ((first
      | (go_at_call 126; refine (maps_clone hs').mono ?_; rintro e w1 ⟨m', rfl, hs1⟩; have d0 : w1.cell? ⟨p, 0, none⟩ = some (.map (some m)) := (hs1.cast (cpA _ _ _ _ _)).cell 0 rfl; have d1 : w1.cell? ⟨p, 1, none⟩ = some (.slice a (freeOf T).length c) := (hs1.cast (cpA _ _ _ _ _)).cell 1 rfl; have d2 : w1.cell? ⟨p, 2, none⟩ = some (.int .i64 (T.length + 1)) := (hs1.cast (cpA _ _ _ _ _)).cell 2 rfl)
      | (go_at_call 84; refine (slices_clone (hs1.cast (cpB _ _ _ _ _)) hfl2 (oneCell_ivals _)).mono ?_; rintro e w2 ⟨a', c', rfl, _, hs2⟩; have e0 : w2.cell? ⟨p, 0, none⟩ = some (.map (some m)) := (hs2.cast (cpC _ _ _ _ _ _)).cell 0 rfl; have e1 : w2.cell? ⟨p, 1, none⟩ = some (.slice a (freeOf T).length c) := (hs2.cast (cpC _ _ _ _ _ _)).cell 1 rfl; have e2 : w2.cell? ⟨p, 2, none⟩ = some (.int .i64 (T.length + 1)) := (hs2.cast (cpC _ _ _ _ _ _)).cell 2 rfl)))
  go_wp2
  go_ret
  refine ⟨w2.heap.size, rfl, ?_⟩
  refine Sat.shutPool (m := m') (L := L) (a := a') (c := c') HL.out ?_
  have h3 := (hs2.alloc (.cells #[.map (some m'), .slice a' (freeOf T).length c', .int .i64 (T.length + 1)] 160)).cast (cpD _ _ _ _ _ _ _)
  have h4 := Sat.shutPool (F := row w2.heap.size 160 #[.map (some m'), .slice a' (freeOf T).length c', .int .i64 (T.length + 1)] * (mapR (.int .i64) (Value.int .i64) m' L * (slc 3 1 a' (freeOf T).length c' ((freeOf T).map ival) * F))) HL.out h3
  exact h4.cast (cpE _ _ _ _ _)
end Go.Proofs.Ytkpcngcegipalaa.Tw
namespace Go.Proofs.Ytkpcngcegipalaa.Tw
set_option linter.unusedVariables false
set_option linter.unusedSimpArgs false
open Go Go.RowKit Go.MapKept

structure AHeap where
  T : List Bool
  objs : Int → Option AObj
  queue : List Int
  buf : List Int
  fins : List (Int × Int)
  marks : Int
  watch : List Int
  touched : Bool

def OL : Type := List (Int × Nat × AObj)
def oget (O : List (Int × Nat × AObj)) (n : Int) : Option (Nat × AObj) := (O.find? fun x => decide (x.1 = n)).map (·.2)
def omap (O : List (Int × Nat × AObj)) : List (Int × Value) := O.map fun x => (x.1, .pointer (some ⟨x.2.1, 0, none⟩))
/-- the object o at block b -/
def objR (b : Nat) (o : AObj) : HP := fun h => ∃ a c, (row b 39 #[.int .i64 o.kind, .int .i64 o.count, .slice a o.slots.length c, .string o.text, .int .i64 o.mark] * slc 28 2 a o.slots.length c (avcells o.slots)) h
def objsR : List (Int × Nat × AObj) → HP
  | [] => 1
  | x :: r => objR x.2.1 x.2.2 * objsR r
theorem objsR_append (l r : List (Int × Nat × AObj)) : objsR (l ++ r) = objsR l * objsR r := by
  induction l with
  | nil => rw [List.nil_append, objsR, one_mul]
  | cons x l ih => rw [List.cons_append, objsR, ih, objsR, mul_assoc]
theorem objsR_split (l r : List (Int × Nat × AObj)) (x : Int × Nat × AObj) : objsR (l ++ x :: r) = objR x.2.1 x.2.2 * objsR (l ++ r) := by
  rw [objsR_append, objsR, objsR_append, mul_left_comm]
theorem oget_split {O : List (Int × Nat × AObj)} {n : Int} {b : Nat} {o : AObj} (h : oget O n = some (b, o)) : ∃ l r, O = l ++ (n, b, o) :: r ∧ oget l n = none := by
  induction O with
  | nil => simp [oget] at h
  | cons x O ih =>
    by_cases e : x.1 = n
    · simp [oget, e] at h
      refine ⟨[], O, ?_, rfl⟩
      obtain ⟨x1, x2⟩ := x
      simp at e h
      simp [e, h]
    · have h' : oget O n = some (b, o) := by simpa [oget, e] using h
      obtain ⟨l, r, e1, e2⟩ := ih h'
      refine ⟨x :: l, r, by rw [e1]; rfl, ?_⟩
      simpa [oget, e] using e2
theorem mget_omap (O : List (Int × Nat × AObj)) (n : Int) : mget (omap O) n = (oget O n).map fun x => .pointer (some ⟨x.1, 0, none⟩) := by
  induction O with
  | nil => rfl
  | cons x O ih =>
    by_cases e : x.1 = n
    · simp [mget, omap, oget, e]
    · simpa [mget, omap, oget, e] using ih
theorem oget_set {l r : List (Int × Nat × AObj)} {n : Int} {b : Nat} {o o' : AObj} (hl : oget l n = none) (m : Int) :
    oget (l ++ (n, b, o') :: r) m = if m = n then some (b, o') else oget (l ++ (n, b, o) :: r) m := by
  unfold oget at hl ⊢
  rw [List.find?_append, List.find?_append]
  by_cases e : m = n
  · subst e
    rw [Option.map_eq_none_iff] at hl
    rw [hl]; simp
  · have : ¬ n = m := fun q => e q.symm
    simp [this, e]
theorem omap_set (l r : List (Int × Nat × AObj)) (n : Int) (b : Nat) (o o' : AObj) : omap (l ++ (n, b, o') :: r) = omap (l ++ (n, b, o) :: r) := by simp [omap]

/-- what is known of blocks that nobody writes any more -/
def Knows (m : Hp) (F : HP) : Prop := ∀ h, F h → ∀ k o, m k = some o → h k = some o
theorem Knows.none (F : HP) : Knows (fun _ => Option.none) F := fun _ _ _ _ e => by cases e
theorem Knows.left {m : Hp} {G F : HP} (h : Knows m F) : Knows m (G * F) := by
  rintro x ⟨a, b, d, rfl, p, q⟩ k o e
  have := h b q k o e
  unfold join
  rcases d k with e' | e'
  · rw [e']; exact this
  · rw [e'] at this; cases this
theorem Knows.right {m : Hp} {G F : HP} (h : Knows m G) : Knows m (G * F) := by rw [mul_comm]; exact h.left
theorem Knows.pt (b : Nat) (o : Obj) : Knows (fun k => if k = b then some o else Option.none) (pt b o) := by
  rintro h rfl k o' e
  exact e
theorem Knows.pt2 {b c : Nat} {o o' : Obj} : Knows (fun k => if k = b then some o else if k = c then some o' else Option.none) (Tw.pt b o * Tw.pt c o') := by
  rintro x ⟨a, d, dj, rfl, rfl, rfl⟩ k v e
  simp only [join] at *
  by_cases h1 : k = b
  · simp [h1] at e ⊢; exact e
  · simp [h1] at e ⊢; exact e
theorem Sat.knows {w0 w : World} {F : HP} {m : Hp} (h : Sat w0 w F) (K : Knows m F) {k : Nat} {o : Obj} (e : m k = some o) : w.heap[k]? = some o := by
  obtain ⟨_, x, p, r⟩ := h
  exact r k o (K x p k o e)

def finCells (l : List (Int × Int)) : List Value := l.flatMap fun x => [.int .i64 x.1, .int .i64 x.2]
/-- the function value that asks whether a number is watched -/
def watchOK (m : Hp) (fv : Value) (W : List Int) : Prop :=
  (fv = .func (.func 70) #[] #[] ∧ W = []) ∨ False
  ∨ ∃ wb g off c cur, fv = .func (.func 108) #[] #[.pointer (some ⟨wb, 0, none⟩)] ∧ ((W = [] ∧ m wb = some (.cells #[.slice none 0 0] 48 (0, 0))) ∨ (m wb = some (.cells #[.slice (some ⟨g, off, none⟩) W.length c] 48 (0, 0)) ∧ m g = some (.cells cur 3 (0, 0)) ∧ (cur.toList.drop off).take W.length = W.map ival ∧ W.length ≤ c ∧ c ≤ maxLen ∧ W.length ≤ 1000000000))

def heapCells (pb mb : Nat) (A : AHeap) (qa : Option Addr) (qc : Nat) (ba : Option Addr) (bc : Nat) (fa : Option Addr) (fc : Nat) (fv : Value) : Array Value :=
  #[.pointer (some ⟨pb, 0, none⟩), .map (some mb), .slice qa A.queue.length qc, .slice ba A.buf.length bc, .slice fa A.fins.length fc, .int .i64 A.marks, fv, .bool A.touched]
/-- the heap A at block p -/
def heapR (m : Hp) (p : Nat) (A : AHeap) : HP := fun h => ∃ pb mb O qa qc ba bc fa fc fv,
  ((∀ n, (oget O n).map (·.2) = A.objs n) ∧ (∀ n, (A.objs n).isSome = tk A.T n) ∧ watchOK m fv A.watch) ∧
  (row p 90 (heapCells pb mb A qa qc ba bc fa fc fv) * (poolR pb A.T * (mapR (.int .i64) (Value.int .i64) mb (omap O) * (objsR O * (slc 3 1 qa A.queue.length qc (A.queue.map ival) * (slc 3 1 ba A.buf.length bc (A.buf.map ival) * slc 135 2 fa A.fins.length fc (finCells A.fins))))))) h

structure Opened (w0 w : World) (m : Hp) (p : Nat) (A : AHeap) (F : HP) (pb mb : Nat) (O : List (Int × Nat × AObj)) (qa : Option Addr) (qc : Nat) (ba : Option Addr) (bc : Nat) (fa : Option Addr) (fc : Nat) (fv : Value) : Prop where
  ho : ∀ n, (oget O n).map (·.2) = A.objs n
  ht : ∀ n, (A.objs n).isSome = tk A.T n
  hw : watchOK m fv A.watch
  hs : Sat w0 w (row p 90 (heapCells pb mb A qa qc ba bc fa fc fv) * (poolR pb A.T * (mapR (.int .i64) (Value.int .i64) mb (omap O) * (objsR O * (slc 3 1 qa A.queue.length qc (A.queue.map ival) * (slc 3 1 ba A.buf.length bc (A.buf.map ival) * (slc 135 2 fa A.fins.length fc (finCells A.fins) * F)))))))

theorem star7 (A B C D E G I F : HP) : A * (B * (C * (D * (E * (G * I))))) * F = A * (B * (C * (D * (E * (G * (I * F)))))) := by simp only [mul_assoc]
theorem Sat.openHeap {w0 w : World} {m : Hp} {p : Nat} {A : AHeap} {F : HP} (h : Sat w0 w (heapR m p A * F)) : ∃ pb mb O qa qc ba bc fa fc fv, Opened w0 w m p A F pb mb O qa qc ba bc fa fc fv := by
  obtain ⟨h1, x, ⟨y, z, dj, rfl, ⟨pb, mb, O, qa, qc, ba, bc, fa, fc, fv, ⟨e1, e2, e3⟩, hp⟩, hq⟩, r⟩ := h
  exact ⟨pb, mb, O, qa, qc, ba, bc, fa, fc, fv, e1, e2, e3, Sat.cast ⟨h1, _, ⟨y, z, dj, rfl, hp, hq⟩, r⟩ (star7 _ _ _ _ _ _ _ _)⟩
theorem Opened.shut {w0 w : World} {m : Hp} {p : Nat} {A : AHeap} {F : HP} {pb mb : Nat} {O : List (Int × Nat × AObj)} {qa : Option Addr} {qc : Nat} {ba : Option Addr} {bc : Nat} {fa : Option Addr} {fc : Nat} {fv : Value}
    (h : Opened w0 w m p A F pb mb O qa qc ba bc fa fc fv) : Sat w0 w (heapR m p A * F) := by
  have := h.hs
  rw [← star7] at this
  exact this.mono_l fun _ q => ⟨pb, mb, O, qa, qc, ba, bc, fa, fc, fv, ⟨h.ho, h.ht, h.hw⟩, q⟩
/-- an object, taken out of the heap -/
theorem Sat.openObj {w0 w : World} {b : Nat} {o : AObj} {F : HP} (h : Sat w0 w (objR b o * F)) : ∃ a c, Sat w0 w (row b 39 #[.int .i64 o.kind, .int .i64 o.count, .slice a o.slots.length c, .string o.text, .int .i64 o.mark] * (slc 28 2 a o.slots.length c (avcells o.slots) * F)) := by
  obtain ⟨h1, x, ⟨y, z, dj, rfl, ⟨a, c, hp⟩, hq⟩, r⟩ := h
  exact ⟨a, c, Sat.cast ⟨h1, _, ⟨y, z, dj, rfl, hp, hq⟩, r⟩ (mul_assoc _ _ _)⟩
theorem Sat.shutObj {w0 w : World} {b : Nat} {o : AObj} {F : HP} {a : Option Addr} {c : Nat} (h : Sat w0 w (row b 39 #[.int .i64 o.kind, .int .i64 o.count, .slice a o.slots.length c, .string o.text, .int .i64 o.mark] * (slc 28 2 a o.slots.length c (avcells o.slots) * F))) : Sat w0 w (objR b o * F) := by
  rw [← mul_assoc] at h
  exact h.mono_l fun _ hq => ⟨a, c, hq⟩

/-- all sizes and numbers are at most B -/
structure Small (A : AHeap) (B : Int) : Prop where
  t : (A.T.length : Int) ≤ B
  q : (A.queue.length : Int) ≤ B
  b : (A.buf.length : Int) ≤ B
  f : (A.fins.length : Int) ≤ B
  m : 0 ≤ A.marks ∧ A.marks ≤ B
  c : ∀ n o, A.objs n = some o → 0 ≤ o.count ∧ o.count ≤ B ∧ (o.slots.length : Int) ≤ B
end Go.Proofs.Ytkpcngcegipalaa.Tw
