/- flow: From; what it needs of maps and marks. No condition. -/
import Derived.Test.YtpeifcdfhhpdkaaFlow3
namespace Go.Proofs.Ytpeifcdfhhpdkaa.Tw
set_option linter.unusedVariables false
set_option linter.unusedSimpArgs false
open Go Go.RowKit Go.MapKept
attribute [local go_sem] Oper.semAt_some

section
variable {F' : Fence} {nn : Nat} {P : Program} {w0 w : World} {F : HP} {ops : Array Oper} {rest : List Oper} {o : Oper} {a : Act} {Q : Exit → Act → World → Prop}
variable {κ : Type} [DecidableEq κ] {d : TypeDesc} {kv : κ → Value}
theorem wpListIn_mapUpdate (hg : o.guard = none) (m x v : Operand) (t : TypeId) (hop : o.op = Op.mapUpdate t m x v ∨ o.op = Op.insert t m x v) {kt et : TypeId} (Kd : Keys d kv) (ht : P.underlying t = some (.map kt et)) (hd : P.underlying kt = some d)
    (b : Nat) (L : List (κ × Value)) (hm : a.eval m = .map (some b)) (h : Sat w0 w (mapR d kv b L * F)) (k : κ) (hx : a.eval x = kv k) (val : Value) (hv : a.eval v = val)
    (hK : ∀ w', Sat w0 w' (mapR d kv b (mset L k val) * F) → wpListIn F' nn P ops Q rest (a.put o.dst undef) w') : wpListIn F' nn P ops Q (o :: rest) a w := by
  obtain ⟨w', hr, hs⟩ := run_mapUpdate (v := val) Kd h ht hd k
  refine wpListIn_plain hg fun K hK' => ?_
  unfold Oper.wpIn
  rcases hop with hop | hop
  all_goals
    refine ⟨?_, ?_⟩
    · simp [Oper.about, hop, resolve, Target.leads, Sem.run_pure]
    · rw [Oper.semAt_plain F' _ _ (by rw [hop]; intro c hc'; cases hc')]
      simp [execOp, hop, hm, hx, hv, hr, Result.andThen]
      exact hK' _ _ (hK w' hs)
end
/-- the marks of a function that ranged over functions -/
def defsL (Ds : List Nat) : List Deferred := Ds.map fun D => { target := .collected D, args := #[] }
def defsR (Ds : List Nat) : HP := Ds.foldr (fun D X => pt D (.deferred (some [])) * X) 1
theorem leaves_defs {F' : Fence} {n : Nat} {P : Program} {fn : Func} {tmps : Array Value} {R : Ending → World → Prop} {w0 : World} {F : HP} :
    ∀ (Ds : List Nat) (w : World), Sat w0 w (defsR Ds * F) → (∀ w', Sat w0 w' F → LeavesIn F' n P fn tmps R [] .returning w') → LeavesInM F' n P fn tmps R (defsL Ds) .returning w
  | [], w, h, hk => hk w (h.drop)
  | D :: Ds, w, h, hk => by
    have h1 : Sat w0 w (pt D (.deferred (some [])) * (defsR Ds * F)) := h.assoc
    exact ⟨by simp, .inl ⟨D, _, rfl, run_takeDeferred h1.blk, leaves_defs Ds _ (h1.putObj (.deferred none)).drop hk⟩⟩

def seenL (L : List Int) : List (Int × Value) := L.map fun x => (x, ival 1)
theorem mget_seen (L : List Int) (x : Int) : mget (seenL L) x = if x ∈ L then some (ival 1) else none := by
  induction L with
  | nil => rfl
  | cons y L ih =>
    unfold mget seenL at *
    simp only [List.map_cons, List.find?_cons]
    by_cases h : y = x
    · subst h; simp
    · have h' : ¬ x = y := fun e => h e.symm
      simp only [h, decide_false, List.mem_cons, h', false_or]
      exact ih
theorem mset_seen {L : List Int} {x : Int} (h : x ∉ L) : mset (seenL L) x (ival 1) = seenL (L ++ [x]) := by
  unfold mset
  rw [mget_seen, if_neg h]
  simp [seenL]
def seenR (sb : Nat) (L : List Int) : HP := ex fun m : Nat => pt sb (.cells #[.map (some m)] 63 (0, 0)) * mapR (.int .i64) (Value.int .i64) m (seenL L)
def add1 (out : List Int) (x : Int) : List Int := if x ∈ out then out else out ++ [x]
def addAll (out ns : List Int) : List Int := ns.foldl add1 out
/-- the places met, from number 'at' on looked at -/
def bfs (l : List AIn) : Nat → Nat → List Int → List Int
  | 0, _, out => out
  | f + 1, k, out => match out[k]? with
    | none => out
    | some x => bfs l f (k + 1) (addAll out (nextL l x))
def fromL (l : List AIn) (pc : Int) : List Int := if inr l.length pc then sortI (bfs l l.length 0 [pc]) else []

theorem nodup_le : ∀ (n : Nat) (l : List Nat), l.Nodup → (∀ x ∈ l, x < n) → l.length ≤ n
  | 0, l, _, h => by
    cases l with
    | nil => simp
    | cons x l => exact absurd (h x (by simp)) (by omega)
  | n + 1, l, hn, h => by
    by_cases hm : n ∈ l
    · have h1 := nodup_le n (l.erase n) (hn.erase n) (fun x hx => by
        have h1 := (hn.mem_erase_iff).1 hx
        have h2 := h x h1.2
        have h3 := h1.1
        omega)
      rw [List.length_erase_of_mem hm] at h1
      omega
    · have h1 := nodup_le n l hn (fun x hx => by
        have := h x hx
        have : x ≠ n := fun e => hm (e ▸ hx)
        omega)
      omega
/-- places, each once -/
def Places (n : Nat) (out : List Int) : Prop := out.Nodup ∧ ∀ x ∈ out, inr n x = true
theorem Places.le {n : Nat} {out : List Int} (h : Places n out) : out.length ≤ n := by
  have := nodup_le n (out.map Int.toNat) ?_ ?_
  · simpa using this
  · refine List.pairwise_map.2 (List.Pairwise.imp_of_mem ?_ h.1)
    intro x y hx hy hne e
    have h1 := h.2 x hx
    have h2 := h.2 y hy
    unfold inr at h1 h2
    simp at h1 h2
    omega
  · intro x hx
    obtain ⟨y, hy, rfl⟩ := List.mem_map.1 hx
    have := h.2 y hy
    unfold inr at this
    simp at this
    omega
theorem wi_inr {n : Nat} {x y : Int} (h : y ∈ wi n x) : inr n y = true := by
  unfold wi at h
  split at h
  · simp at h; subst h; assumption
  · simp at h
theorem nextL_inr {l : List AIn} {pc y : Int} (h : y ∈ nextL l pc) : inr l.length y = true := by
  unfold nextL at h
  split at h
  · split at h
    · simp at h
    · split at h
      · simp at h
      · split at h
        · exact wi_inr h
        · split at h
          · rcases List.mem_append.1 h with h | h
            · exact wi_inr h
            · split at h
              · simp at h
              · exact wi_inr h
          · exact wi_inr h
  · simp at h
theorem Places.add1 {n : Nat} {out : List Int} {x : Int} (h : Places n out) (hx : inr n x = true) : Places n (add1 out x) := by
  unfold Tw.add1
  split
  · exact h
  · refine ⟨List.nodup_append.2 ⟨h.1, by simp, fun a ha b hb => by simp at hb; subst hb; rintro rfl; contradiction⟩, fun y hy => ?_⟩
    rcases List.mem_append.1 hy with hy | hy
    · exact h.2 y hy
    · simp at hy; subst hy; exact hx
theorem Places.addAll {n : Nat} : ∀ {ns : List Int} {out : List Int}, Places n out → (∀ x ∈ ns, inr n x = true) → Places n (addAll out ns)
  | [], _, h, _ => h
  | x :: ns, out, h, hx => Places.addAll (ns := ns) (h.add1 (hx x (by simp))) fun y hy => hx y (by simp [hy])
theorem addAll_snoc (out ns : List Int) (x : Int) : addAll out (ns ++ [x]) = add1 (addAll out ns) x := by simp [addAll]
end Go.Proofs.Ytpeifcdfhhpdkaa.Tw
