/- Maps and slices in the small separation logic: what each operation does to them. No condition. -/
import Derived.Test.YtmngkodejlhalaaZRPaths1
import Derived.MapKept
import Derived.Laws.IdiomCopy
import Derived.OwnWalk
import Derived.Maps.OwnSet
namespace Go.Proofs.Ytmngkodejlhalaa.Tw
set_option linter.unusedVariables false
set_option linter.unusedSimpArgs false
open Go Go.RowKit Go.MapKept

/-! ### maps -/
structure Keys {κ : Type} (d : TypeDesc) (kv : κ → Value) : Prop where
  inj : ∀ a b, kv a = kv b → a = b
  key : ∀ a, IsKey d (kv a)

theorem keys_int (k : IntKind) : Keys (.int k) (Value.int k) := ⟨fun a b h => by cases h; rfl, fun _ => rfl⟩
theorem keys_string : Keys .string Value.string := ⟨fun a b h => by cases h; rfl, fun _ => trivial⟩

variable {κ : Type} {d : TypeDesc} {kv : κ → Value}

/-- block b is a map with the entries L, each key once -/
def mapR (d : TypeDesc) (kv : κ → Value) (b : Nat) (L : List (κ × Value)) : HP := fun h =>
  (L.map (·.1)).Nodup ∧ ∃ es clock, pt b (.map es clock) h ∧ Stamped es clock ∧ es.toList.map (fun e => (e.key, e.val)) = L.map fun x => (kv x.1, x.2)

theorem Sat.openMap {w0 w : World} {F : HP} {b : Nat} {L : List (κ × Value)} (h : Sat w0 w (mapR d kv b L * F)) :
    (L.map (·.1)).Nodup ∧ ∃ es clock, Sat w0 w (pt b (.map es clock) * F) ∧ Stamped es clock ∧ es.toList.map (fun e => (e.key, e.val)) = L.map fun x => (kv x.1, x.2) := by
  obtain ⟨h1, x, ⟨a, c, dj, rfl, ⟨hn, es, clock, hp, hs, hl⟩, q⟩, r⟩ := h
  exact ⟨hn, es, clock, ⟨h1, _, ⟨a, c, dj, rfl, hp, q⟩, r⟩, hs, hl⟩
theorem Sat.shutMap {w0 w : World} {F : HP} {b : Nat} {L : List (κ × Value)} {es : Array MapEntry} {clock : Nat} (h : Sat w0 w (pt b (.map es clock) * F)) (hn : (L.map (·.1)).Nodup) (hs : Stamped es clock)
    (hl : es.toList.map (fun e => (e.key, e.val)) = L.map fun x => (kv x.1, x.2)) : Sat w0 w (mapR d kv b L * F) :=
  h.mono_l fun _ p => ⟨hn, es, clock, p, hs, hl⟩

theorem entries_key (K : Keys d kv) {es : List MapEntry} {L : List (κ × Value)} (hl : es.map (fun e => (e.key, e.val)) = L.map fun x => (kv x.1, x.2)) : ∀ x ∈ es, IsKey d x.key := by
  intro x hx
  have : (x.key, x.val) ∈ L.map fun x => (kv x.1, x.2) := by rw [← hl]; exact List.mem_map_of_mem hx
  obtain ⟨y, _, e⟩ := List.mem_map.1 this
  rw [← (Prod.mk.inj e).1]
  exact K.key _

variable [DecidableEq κ]
def mget (L : List (κ × Value)) (k : κ) : Option Value := (L.find? fun e => decide (e.1 = k)).map (·.2)
def mset (L : List (κ × Value)) (k : κ) (v : Value) : List (κ × Value) :=
  if (mget L k).isSome then L.map fun e => if e.1 = k then (e.1, v) else e else L ++ [(k, v)]
def mdel (L : List (κ × Value)) (k : κ) : List (κ × Value) := L.filter fun e => !decide (e.1 = k)

theorem findNow_mget (K : Keys d kv) (k : κ) : ∀ (es : List MapEntry) (L : List (κ × Value)) (i : Nat), es.map (fun e => (e.key, e.val)) = L.map (fun x => (kv x.1, x.2)) →
    (Instr.findNow d (kv k) es i = some none ∧ mget L k = none) ∨ ∃ j v, Instr.findNow d (kv k) es i = some (some (i + j, v)) ∧ mget L k = some v ∧ (∃ e, es[j]? = some e ∧ e.key = kv k) ∧ (L[j]?).map (·.1) = some k
  | [], [], _, _ => .inl ⟨rfl, rfl⟩
  | [], _ :: _, _, h => by simp at h
  | _ :: _, [], _, h => by simp at h
  | e :: es, x :: L, i, h => by
    simp only [List.map_cons, List.cons.injEq, Prod.mk.injEq] at h
    obtain ⟨⟨h1, h2⟩, h3⟩ := h
    obtain ⟨r, hr, hiff⟩ := sameNow_of_keys (K.key k) (h1 ▸ K.key x.1 : IsKey d e.key)
    cases r with
    | true =>
      have e1 : kv k = e.key := hiff.1 rfl
      have e2 : x.1 = k := K.inj _ _ (by rw [← h1, ← e1])
      exact .inr ⟨0, e.val, by simp [Instr.findNow, hr], by simp [mget, e2, h2], ⟨e, rfl, e1.symm⟩, by simp [e2]⟩
    | false =>
      have hne : x.1 ≠ k := fun q => by have := hiff.2 (by rw [h1, q]); cases this
      rcases findNow_mget K k es L (i + 1) h3 with ⟨a1, a2⟩ | ⟨j, v, a1, a2, ⟨e', a3, a3'⟩, a4⟩
      · exact .inl ⟨by simp [Instr.findNow, hr, a1], by simpa [mget, hne] using a2⟩
      · exact .inr ⟨j + 1, v, by simp [Instr.findNow, hr, a1]; omega, by simpa [mget, hne] using a2, ⟨e', by simpa using a3, a3'⟩, by simpa using a4⟩

section
variable {P : Program} {w0 w : World} {F : HP} {b : Nat} {L : List (κ × Value)} {t kt et : TypeId}

theorem run_lookup_ok (K : Keys d kv) (h : Sat w0 w (mapR d kv b L * F)) (ht : P.underlying t = some (.map kt et)) (hd : P.underlying kt = some d) {z : Value} (hz : (zeroValue et).run P w = .ok z w) (k : κ) :
    (Instr.lookup t (.map (some b)) (kv k) true).run P w = .ok (.tuple #[(mget L k).getD z, .bool (mget L k).isSome]) w := by
  obtain ⟨_, es, clock, hs, _, hl⟩ := h.openMap
  have hb := hs.blk
  rcases findNow_mget K k es.toList L 0 hl with ⟨a1, a2⟩ | ⟨j, v, a1, a2, _⟩
  · simp [Instr.lookup, run_underlying ht, MapKept.run_getObj_map hb, MapKept.run_checkKey hd (K.key k), MapKept.run_findKey hd a1, hz, a2, Result.andThen]
  · simp [Instr.lookup, run_underlying ht, MapKept.run_getObj_map hb, MapKept.run_checkKey hd (K.key k), MapKept.run_findKey hd a1, a2, Result.andThen]
theorem run_lookup (K : Keys d kv) (h : Sat w0 w (mapR d kv b L * F)) (ht : P.underlying t = some (.map kt et)) (hd : P.underlying kt = some d) {z : Value} (hz : (zeroValue et).run P w = .ok z w) (k : κ) :
    (Instr.lookup t (.map (some b)) (kv k) false).run P w = .ok ((mget L k).getD z) w := by
  obtain ⟨_, es, clock, hs, _, hl⟩ := h.openMap
  have hb := hs.blk
  rcases findNow_mget K k es.toList L 0 hl with ⟨a1, a2⟩ | ⟨j, v, a1, a2, _⟩
  · simp [Instr.lookup, run_underlying ht, MapKept.run_getObj_map hb, MapKept.run_checkKey hd (K.key k), MapKept.run_findKey hd a1, hz, a2, Result.andThen]
  · simp [Instr.lookup, run_underlying ht, MapKept.run_getObj_map hb, MapKept.run_checkKey hd (K.key k), MapKept.run_findKey hd a1, a2, Result.andThen]

theorem map_mset_keys {k : κ} {v : Value} (hs : (mget L k).isSome = true) : (mset L k v).map (·.1) = L.map (·.1) := by
  simp only [mset, hs, if_true, List.map_map]
  apply List.map_congr_left
  intro e _
  simp only [Function.comp]
  split <;> rfl
theorem mget_none {k : κ} : mget L k = none ↔ k ∉ L.map (·.1) := by
  simp only [mget, Option.map_eq_none_iff, List.find?_eq_none, decide_eq_true_eq, List.mem_map, not_exists, not_and]
theorem nodup_mset {k : κ} {v : Value} (hn : (L.map (·.1)).Nodup) : ((mset L k v).map (·.1)).Nodup := by
  cases hs : (mget L k).isSome with
  | true => rw [map_mset_keys hs]; exact hn
  | false =>
    have := mget_none.1 (by simpa using hs : mget L k = none)
    simp only [mset, hs, Bool.false_eq_true, if_false, List.map_append, List.map_cons, List.map_nil]
    exact List.nodup_append.2 ⟨hn, by simp, fun a ha b hb => by simp at hb; subst hb; rintro rfl; exact this ha⟩
theorem nodup_mdel {k : κ} (hn : (L.map (·.1)).Nodup) : ((mdel L k).map (·.1)).Nodup :=
  List.Nodup.sublist ((List.filter_sublist).map _) hn

theorem run_mapUpdate (K : Keys d kv) (h : Sat w0 w (mapR d kv b L * F)) (ht : P.underlying t = some (.map kt et)) (hd : P.underlying kt = some d) (k : κ) (v : Value) :
    ∃ w', (Instr.mapUpdate t (.map (some b)) (kv k) v).run P w = .ok () w' ∧ Sat w0 w' (mapR d kv b (mset L k v) * F) := by
  obtain ⟨hn, es, clock, hs, hst, hl⟩ := h.openMap
  have hb := hs.blk
  have hks := entries_key K hl
  rcases findNow_mget K k es.toList L 0 hl with ⟨a1, a2⟩ | ⟨j, u, a1, a2, ⟨e0, a3, a3'⟩, a4⟩
  · refine ⟨_, by simp [Instr.mapUpdate, run_underlying ht, MapKept.run_getObj_map hb, MapKept.run_checkKey hd (K.key k), MapKept.run_findKey hd a1, MapKept.run_setObj_map _ hb, Result.andThen]; rfl, ?_⟩
    refine Sat.shutMap (hs.setObj _) (nodup_mset hn) (stamped_push hst ?_) ?_
    · intro x hx he
      rcases findNow_spec (K.key k) es.toList 0 hks with ⟨_, c2⟩ | ⟨_, _, c1, _, _⟩
      · exact c2 x hx he
      · rw [a1] at c1; cases c1
    · simp [mset, a2, hl]
  · have hj : es[j]? = some e0 := by simpa using a3
    refine ⟨_, by simp [Instr.mapUpdate, run_underlying ht, MapKept.run_getObj_map hb, MapKept.run_checkKey hd (K.key k), MapKept.run_findKey hd a1, hj, a3', run_keyThatStays (K.key k), MapKept.run_setObj_map _ hb, Result.andThen]; rfl, ?_⟩
    have hkey : ∀ e', es[j]? = some e' → ({ e' with key := kv k, val := v } : MapEntry).key = e'.key := fun e' he' => by rw [hj] at he'; cases he'; exact a3'.symm
    refine Sat.shutMap (hs.setObj _) (nodup_mset hn) (stamped_modify hst _ _ (fun _ _ => rfl) (fun e' _ he' => hkey e' he')) ?_
    have hsome : (mget L k).isSome = true := by simp [a2]
    apply List.ext_getElem?
    intro i
    have hli : (es.toList.map fun e => (e.key, e.val))[i]? = (L.map fun x => (kv x.1, x.2))[i]? := by rw [hl]
    simp only [mset, hsome, if_true, List.getElem?_map, Array.getElem?_toList, Array.getElem?_modify, Option.map_map] at hli ⊢
    cases hLi : L[i]? with
    | none =>
      rw [hLi] at hli
      have : es[i]? = none := by simpa using hli
      split <;> simp [this]
    | some x =>
      rw [hLi] at hli
      simp only [Option.map_some] at hli
      cases hei : es[i]? with
      | none => rw [hei] at hli; cases hli
      | some ei =>
        rw [hei] at hli
        simp only [Option.map_some, Option.some.injEq, Prod.mk.injEq] at hli
        by_cases hij : j = i
        · subst hij
          rw [hLi] at a4
          simp only [Option.map_some, Option.some.injEq] at a4
          simp [a4]
        · have hne : x.1 ≠ k := by
            intro q
            have h1 : (L.map (·.1))[i]? = some k := by simp [hLi, q]
            have h2 : (L.map (·.1))[j]? = some k := by simpa using a4
            exact hij ((List.getElem?_inj (List.getElem?_eq_some_iff.1 h2).1 hn).1 (h2.trans h1.symm))
          simp [hij, hne, hli]

theorem map_eraseIdx' {α β : Type} (f : α → β) : ∀ (l : List α) (j : Nat), (l.eraseIdx j).map f = (l.map f).eraseIdx j
  | [], _ => rfl
  | _ :: _, 0 => rfl
  | x :: l, j + 1 => by simp [map_eraseIdx' f l j]
theorem run_delete (K : Keys d kv) (h : Sat w0 w (mapR d kv b L * F)) (ht : P.underlying t = some (.map kt et)) (hd : P.underlying kt = some d) (k : κ) (ty : TypeId) :
    ∃ w', (Builtin.delete_ #[t, kt] ty #[.map (some b), kv k]).run P w = .ok (.tuple #[]) w' ∧ Sat w0 w' (mapR d kv b (mdel L k) * F) := by
  obtain ⟨hn, es, clock, hs, hst, hl⟩ := h.openMap
  have hb := hs.blk
  rcases findNow_mget K k es.toList L 0 hl with ⟨a1, a2⟩ | ⟨j, u, a1, a2, ⟨e0, a3, a3'⟩, a4⟩
  · refine ⟨_, by simp [Builtin.delete_, run_underlying ht, MapKept.run_getObj_map hb, MapKept.run_checkKey hd (K.key k), MapKept.run_findKey hd a1, MapKept.run_setObj_map _ hb, Result.andThen]; rfl, ?_⟩
    refine Sat.shutMap (hs.setObj _) (nodup_mdel hn) hst ?_
    have : mdel L k = L := by
      unfold mdel
      refine List.filter_eq_self.2 fun x hx => ?_
      have := mget_none.1 a2
      simp only [Bool.not_eq_true', decide_eq_false_iff_not]
      rintro rfl
      exact this (List.mem_map_of_mem hx)
    rw [this]; exact hl
  · have hj : es[j]? = some e0 := by simpa using a3
    have hjs : j < es.size := (Array.getElem?_eq_some_iff.1 hj).1
    refine ⟨_, by simp [Builtin.delete_, run_underlying ht, MapKept.run_getObj_map hb, MapKept.run_checkKey hd (K.key k), MapKept.run_findKey hd a1, MapKept.run_setObj_map _ hb, Result.andThen]; rfl, ?_⟩
    refine Sat.shutMap (hs.setObj _) (nodup_mdel hn) (stamped_erase hst _) ?_
    have e1 : (es.eraseIdxIfInBounds j).toList = es.toList.eraseIdx j := by simp [Array.eraseIdxIfInBounds, hjs]
    rw [e1, map_eraseIdx', hl, ← map_eraseIdx']
    congr 1
    have hLj : ∃ x, L[j]? = some x ∧ x.1 = k := by
      cases hq : L[j]? with
      | none => simp [hq] at a4
      | some x => exact ⟨x, rfl, by simpa [hq] using a4⟩
    obtain ⟨x, hx, rfl⟩ := hLj
    clear hl a1 a2 a4 hst hs hb h a3 a3' hj hjs e1
    unfold mdel
    induction L generalizing j with
    | nil => simp at hx
    | cons y r ih =>
      simp only [List.map_cons, List.nodup_cons] at hn
      cases j with
      | zero =>
        simp at hx; subst hx
        simp only [List.eraseIdx_zero, List.tail_cons, decide_true, Bool.not_true, Bool.false_eq_true, not_false_eq_true, List.filter_cons_of_neg]
        refine (List.filter_eq_self.2 fun z hz => ?_).symm
        simp only [Bool.not_eq_true', decide_eq_false_iff_not]
        intro e
        exact hn.1 (e ▸ List.mem_map_of_mem hz)
      | succ j =>
        simp at hx
        have hne : y.1 ≠ x.1 := fun e => hn.1 (e ▸ List.mem_map_of_mem (List.mem_of_getElem? hx))
        simp only [List.eraseIdx_cons_succ, hne, decide_false, Bool.not_false, List.filter_cons_of_pos]
        rw [ih hn.2 j hx]

omit [DecidableEq κ] in
theorem run_len_map (h : Sat w0 w (mapR d kv b L * F)) (ht : P.underlying t = some (.map kt et)) (ty : TypeId) :
    (Builtin.len_ #[t] ty #[.map (some b)]).run P w = .ok (.int .i64 L.length) w := by
  obtain ⟨hn, es, clock, hs, hst, hl⟩ := h.openMap
  have hb := hs.blk
  have : es.size = L.length := by simpa using congrArg List.length hl
  simp [Builtin.len_, run_underlying ht, MapKept.run_getObj_map hb, Result.andThen, goInt, this]

omit [DecidableEq κ] in
theorem Sat.newMap (h : Sat w0 w F) : Sat w0 (w.alloc (.map #[] 0)) (mapR d kv w.heap.size ([] : List (κ × Value)) * F) :=
  Sat.shutMap (h.alloc _) (by simp) (stamped_empty 0) rfl
end

/-! ### slices -/
/-- an owned slice of n elements of sz cells each, with capacity c: its cells are xs -/
def slc (T : TypeId) (sz : Nat) (a : Option Addr) (n c : Nat) (xs : List Value) : HP := fun h =>
  xs.length = n * sz ∧ ((a = none ∧ n = 0 ∧ c = 0 ∧ emp h) ∨
    ∃ g off cur, a = some ⟨g, off, none⟩ ∧ n ≤ c ∧ c ≤ maxLen ∧ off + c * sz ≤ cur.size ∧ (cur.toList.drop off).take (n * sz) = xs ∧ row g T cur h)

section
variable {P : Program} {w0 w : World} {F : HP} {T : TypeId} {sz n c : Nat} {a : Option Addr} {xs : List Value}

theorem Sat.openSlc (h : Sat w0 w (slc T sz a n c xs * F)) : xs.length = n * sz ∧ ((a = none ∧ n = 0 ∧ c = 0 ∧ Sat w0 w F) ∨
    ∃ g off cur, a = some ⟨g, off, none⟩ ∧ n ≤ c ∧ c ≤ maxLen ∧ off + c * sz ≤ cur.size ∧ (cur.toList.drop off).take (n * sz) = xs ∧ Sat w0 w (row g T cur * F)) := by
  have hF := h.drop
  obtain ⟨h1, x, ⟨p, q, dj, rfl, ⟨hl, hp⟩, hq⟩, r⟩ := h
  refine ⟨hl, ?_⟩
  rcases hp with ⟨rfl, rfl, rfl, _⟩ | ⟨g, off, cur, e1, e2, e3, e4, e5, e6⟩
  · exact .inl ⟨rfl, rfl, rfl, hF⟩
  · exact .inr ⟨g, off, cur, e1, e2, e3, e4, e5, h1, _, ⟨p, q, dj, rfl, e6, hq⟩, r⟩
theorem Sat.shutSlc {g off : Nat} {cur : Array Value} (h : Sat w0 w (row g T cur * F)) (hn : n ≤ c) (hm : c ≤ maxLen) (hc : off + c * sz ≤ cur.size) (hx : (cur.toList.drop off).take (n * sz) = xs) :
    Sat w0 w (slc T sz (some ⟨g, off, none⟩) n c xs * F) := by
  refine h.mono_l fun _ p => ⟨?_, .inr ⟨g, off, cur, rfl, hn, hm, hc, hx, p⟩⟩
  rw [← hx, List.length_take, List.length_drop, Array.length_toList]
  have := Nat.mul_le_mul_right sz hn
  omega
theorem Sat.nilSlc (h : Sat w0 w F) : Sat w0 w (slc T sz none 0 0 [] * F) := by
  rw [← one_mul F] at h
  exact h.mono_l fun _ p => ⟨by simp, .inl ⟨rfl, rfl, rfl, p⟩⟩

theorem Sat.slcLen (h : Sat w0 w (slc T sz a n c xs * F)) : xs.length = n * sz := h.openSlc.1
theorem Sat.slcCap (h : Sat w0 w (slc T sz a n c xs * F)) : n ≤ c ∧ c ≤ maxLen := by
  rcases h.openSlc.2 with ⟨rfl, rfl, rfl, _⟩ | ⟨g, off, cur, e1, e2, e3, _⟩
  · exact ⟨Nat.le_refl _, Nat.zero_le _⟩
  · exact ⟨e2, e3⟩
theorem addr_add (g off j : Nat) : (⟨g, off, none⟩ : Addr).add j = ⟨g, off + j, none⟩ := by unfold Addr.add; split <;> simp_all
theorem take_drop_get {l : List Value} {off m j : Nat} {u : Value} (h : ((l.drop off).take m)[j]? = some u) : l[off + j]? = some u := by
  rw [List.getElem?_take] at h
  split at h
  · simpa using h
  · cases h
/-- a cell of an owned slice -/
theorem Sat.slcAt (h : Sat w0 w (slc T sz a n c xs * F)) {j : Nat} {u : Value} (hj : xs[j]? = some u) : ∃ g off, a = some ⟨g, off, none⟩ ∧ w.cell? ⟨g, off + j, none⟩ = some u ∧ w.frozen? ⟨g, off + j, none⟩ = false := by
  rcases h.openSlc with ⟨hl, ⟨rfl, rfl, rfl, _⟩ | ⟨g, off, cur, rfl, e2, e3, e4, e5, e6⟩⟩
  · simp at hl; subst hl; simp at hj
  · refine ⟨g, off, rfl, e6.cell _ ?_, e6.free _⟩
    rw [← e5] at hj
    simpa using take_drop_get hj
theorem Sat.slcCells {ad : Addr} (h : Sat w0 w (slc T sz (some ad) n c xs * F)) : ∀ j u, xs[j]? = some u → w.cell? (ad.add j) = some u := by
  intro j u hj
  obtain ⟨g, off, e, hc, _⟩ := h.slcAt hj
  cases e
  rw [addr_add]; exact hc
theorem Sat.slcCells2 {ad : Addr} {A : HP} (h : Sat w0 w (A * (slc T sz (some ad) n c xs * F))) : ∀ j u, xs[j]? = some u → w.cell? (ad.add j) = some u := (h.cast (mul_left_comm _ _ _)).slcCells
theorem Sat.slcCells3 {ad : Addr} {A B : HP} (h : Sat w0 w (A * (B * (slc T sz (some ad) n c xs * F)))) : ∀ j u, xs[j]? = some u → w.cell? (ad.add j) = some u :=
  (h.cast (by rw [mul_left_comm B, mul_left_comm A])).slcCells
/-- a slice whose cells are known has an address -/
theorem Sat.slcSome (h : Sat w0 w (slc T sz a n c xs * F)) (hn : 0 < c) : ∃ g off, a = some ⟨g, off, none⟩ := by
  rcases h.openSlc.2 with ⟨rfl, rfl, rfl, _⟩ | ⟨g, off, cur, rfl, _⟩
  · omega
  · exact ⟨g, off, rfl⟩

/-- the last element taken off -/
theorem Sat.slcPop {xs ys : List Value} (h : Sat w0 w (slc T sz a (n + 1) c (xs ++ ys) * F)) (hx : xs.length = n * sz) : Sat w0 w (slc T sz a n c xs * F) := by
  rcases h.openSlc.2 with ⟨_, e, _⟩ | ⟨g, off, cur, rfl, e2, e3, e4, e5, e6⟩
  · omega
  · refine Sat.shutSlc e6 (by omega) e3 e4 ?_
    have := congrArg (List.take (n * sz)) e5
    rw [List.take_take, ← hx, List.take_left, hx] at this
    rw [← this, Nat.min_eq_left (Nat.mul_le_mul_right _ (by omega))]

/-- a slice's first elements -/
theorem Sat.slcTake (h : Sat w0 w (slc T sz a n c xs * F)) {m : Nat} (hm : m ≤ n) : Sat w0 w (slc T sz a m c (xs.take (m * sz)) * F) := by
  rcases h.openSlc with ⟨hl, ⟨rfl, rfl, rfl, hF⟩ | ⟨g, off, cur, rfl, e2, e3, e4, e5, e6⟩⟩
  · obtain rfl : m = 0 := by omega
    have hx : xs = [] := List.eq_nil_of_length_eq_zero (by simpa using hl)
    subst hx
    simpa using hF.nilSlc (T := T) (sz := sz)
  · refine Sat.shutSlc e6 (by omega) e3 e4 ?_
    rw [← e5, List.take_take, Nat.min_eq_left (Nat.mul_le_mul_right _ hm)]
/-- what an owned slice gives as a source -/
theorem Sat.slcSrc (h : Sat w0 w (slc T sz a n c xs * F)) : (∀ ad, a = some ad → ∀ j u, xs[j]? = some u → w.cell? (ad.add j) = some u) ∧ (a = none → n = 0 ∧ c = 0) := by
  refine ⟨?_, ?_⟩
  · rintro ad rfl; exact h.slcCells
  · rintro rfl
    rcases h.openSlc.2 with ⟨_, e1, e2, _⟩ | ⟨g, off, cur, e, _⟩
    · exact ⟨e1, e2⟩
    · cases e
/-- a store into an owned slice -/
theorem Sat.slcStore {g off : Nat} (h : Sat w0 w (slc T sz (some ⟨g, off, none⟩) n c xs * F)) {j : Nat} (hj : j < n * sz) (v : Value) : Sat w0 (w.setCell ⟨g, off + j, none⟩ v) (slc T sz (some ⟨g, off, none⟩) n c (xs.set j v) * F) := by
  rcases h.openSlc.2 with ⟨e, _⟩ | ⟨g', off', cur, e, e2, e3, e4, e5, e6⟩
  · cases e
  · cases e
    refine Sat.shutSlc (e6.store v) e2 e3 (by simpa using e4) ?_
    rw [Array.toList_setIfInBounds, List.drop_set, if_neg (by omega), Nat.add_sub_cancel_left, List.take_set, e5]

/-- a whole row, written once more -/
theorem setRow_eq {w : World} {b : Nat} {cs : Array Value} {T : TypeId} {fz : Nat × Nat} (h : w.heap[b]? = some (.cells cs T fz)) (cs' : Array Value) :
    w.setRow b cs' = { w with heap := w.heap.setIfInBounds b (.cells cs' T fz) } := by
  unfold World.setRow
  congr 1
  apply Array.ext_getElem?
  intro k
  rw [Array.getElem?_modify]
  by_cases e : b = k
  · subst e
    obtain ⟨hb, h'⟩ := Array.getElem?_eq_some_iff.1 h
    simp [hb, h']
  · rw [if_neg e, Array.getElem?_setIfInBounds_ne e]
theorem Sat.setRow {b : Nat} {cs : Array Value} (h : Sat w0 w (row b T cs * F)) (cs' : Array Value) : Sat w0 (w.setRow b cs') (row b T cs' * F) := by
  rw [setRow_eq h.cells]; exact Sat.setObj h _

theorem run_append_room' (t ty e : TypeId) (i : TypeInfo) (ht : P.underlying t = some (.slice e)) (hi : P.info? e = some i)
    (g off sLen sCap : Nat) (cur : Array Value) (hg : w.heap[g]? = some (.cells cur e (0, 0)))
    (ad : Addr) (m c : Nat) (news : List Value) (hl : news.length = m * i.size) (hnews : ∀ j u, news[j]? = some u → w.cell? (ad.add j) = some u) (h1 : ∀ u ∈ news, u.oneCell' = true)
    (hroom : sLen + m ≤ sCap) (hfit : off + sLen * i.size + news.length ≤ cur.size) :
    (Builtin.append_ #[t, t] ty #[.slice (some ⟨g, off, none⟩) sLen sCap, .slice (some ad) m c]).run P w =
      .ok (.slice (some ⟨g, off, none⟩) (sLen + m) sCap) (w.setRow g (cur.toList.take (off + sLen * i.size) ++ news ++ cur.toList.drop (off + sLen * i.size + news.length)).toArray) := by
  have hf := run_firstCells_some (P := P) w i.size m ad m c news hl hnews
  have hst := run_storeCells_at P g (off + sLen * i.size) e news 0 cur w hg (by simpa using hfit) h1
  simp only [Nat.add_zero] at hst
  simp [Builtin.append_, run_underlying ht, sizeOf, typeInfo, hi, Builtin.lenOf, hroom, hf, addr_add, hst]

/-- append: the row after it, wherever it lies -/
theorem run_append_sep (t ty : TypeId) (i : TypeInfo) (z : Value) (by_ : Nat) (ht : P.underlying t = some (.slice T)) (hi : P.info? T = some i) (hz : i.zero = some z) (hsize : i.size = sz) (hby : i.bytes = by_) (hzs : z.cells.size = sz)
    (h : Sat w0 w (slc T sz a n c xs * F)) (ad : Addr) (m c' : Nat) (news : List Value) (hl : news.length = m * sz) (hnews : ∀ j u, news[j]? = some u → w.cell? (ad.add j) = some u) (h1 : ∀ u ∈ news, u.oneCell' = true)
    (h63 : n + m ≤ maxLen) (hbytes : (n + m) * by_ ≤ 140737488355328) :
    ∃ a' c'' w', (Builtin.append_ #[t, t] ty #[.slice a n c, .slice (some ad) m c']).run P w = .ok (.slice a' (n + m) c'') w' ∧ Sat w0 w' (slc T sz a' (n + m) c'' (xs ++ news) * F) ∧ (a' = none → a = none ∧ m = 0) := by
  subst hsize
  subst hby
  have hx := h.slcLen
  have hlen : (xs ++ news).length = (n + m) * i.size := by rw [List.length_append, hx, hl, Nat.add_mul]
  have grown : ∀ (old : Nat), old < n + m → Sat w0 w F →
      Sat w0 (w.drew.alloc (.cells (xs.toArray ++ news.toArray ++ Builtin.zeroCells z.cells (grownCap w (n + m) old T - (n + m))) T)) (slc T i.size (some ⟨w.heap.size, 0, none⟩) (n + m) (grownCap w (n + m) old T) (xs ++ news) * F) := by
    intro old ho hF
    have hge := grownCap_ge w (n + m) old T
    have hcm : grownCap w (n + m) old T ≤ maxLen := grownCap_le_maxLen w (n + m) old T h63
    refine Sat.shutSlc (g := w.heap.size) (off := 0) (hF.drew.alloc _) hge hcm ?_ ?_
    · simp only [Array.size_append, List.size_toArray, size_zeroCells, hzs, hx, hl, ← Nat.add_mul, Nat.zero_add]
      refine Nat.mul_le_mul_right _ ?_
      omega
    · simp only [Array.toList_append, List.append_assoc, List.drop_zero]
      rw [← List.append_assoc, ← hlen]
      exact List.take_left
  rcases h.openSlc.2 with ⟨rfl, rfl, rfl, hF⟩ | ⟨g, off, cur, rfl, e2, e3, e4, e5, e6⟩
  · have hx0 : xs = [] := List.eq_nil_of_length_eq_zero (by simpa using hx)
    subst hx0
    by_cases hm : m = 0
    · subst hm
      have hn : news = [] := List.eq_nil_of_length_eq_zero (by simpa using hl)
      subst hn
      refine ⟨none, 0, w, ?_, hF.nilSlc, fun _ => ⟨rfl, rfl⟩⟩
      simp [Builtin.append_, run_underlying ht, sizeOf, typeInfo, hi, Builtin.lenOf, Builtin.firstCells, loadCells, loadCellsFrom]
    · have hr := run_append_nil (P := P) w t ty T i z ht hi hz ad m c' news hl hnews (by omega) (by unfold maxLen at h63; omega) (by have hb := hbytes; simp only [Nat.zero_add] at hb; omega)
      have hgr := grown 0 (by omega) hF
      simp only [Nat.zero_add, List.nil_append, Array.empty_append] at hgr ⊢
      exact ⟨_, _, _, hr, hgr, by simp⟩
  · by_cases hroom : n + m ≤ c
    · have hmul : n * i.size + m * i.size ≤ c * i.size := by rw [← Nat.add_mul]; exact Nat.mul_le_mul_right _ hroom
      have hfit : off + n * i.size + news.length ≤ cur.size := by rw [hl]; omega
      have hr := run_append_room' (P := P) t ty T i ht hi g off n c cur e6.cells ad m c' news hl hnews h1 hroom hfit
      refine ⟨_, _, _, hr, Sat.shutSlc (e6.setRow _) hroom e3 ?_ ?_, by simp⟩
      · simp only [List.size_toArray, List.length_append, List.length_take, List.length_drop, Array.length_toList]
        omega
      · rw [← hlen, List.append_assoc, List.drop_append, ← e5]
        have hoff : off ≤ cur.size := by omega
        simp only [List.length_take, Array.length_toList]
        rw [List.drop_take, show off - min (off + n * i.size) cur.size = 0 from by omega, List.drop_zero, Nat.add_sub_cancel_left, ← List.append_assoc]
        rw [List.take_append_of_le_length (by simp), List.take_of_length_le (Nat.le_refl _)]
    · have holds := h.slcCells
      have hr := run_append_grow (P := P) w t ty T i z ht hi hz ⟨g, off, none⟩ n c xs hx holds ad m c' news hl hnews (by omega) (by unfold maxLen at h63; omega) (growslice_fits (by omega) hbytes)
      have hgr := grown c (by omega) e6.drop
      exact ⟨_, _, _, hr, hgr, by simp⟩
/-- .. of nothing -/
theorem run_append_sep_nil (t ty : TypeId) (i : TypeInfo) (ht : P.underlying t = some (.slice T)) (hi : P.info? T = some i) (hnc : n ≤ c) :
    (Builtin.append_ #[t, t] ty #[.slice a n c, .slice none 0 0]).run P w = .ok (.slice a n c) w := by
  cases a <;> simp [Builtin.append_, run_underlying ht, sizeOf, typeInfo, hi, Builtin.lenOf, Builtin.firstCells, hnc, storeCells]
end

end Go.Proofs.Ytmngkodejlhalaa.Tw
