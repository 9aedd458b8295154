/- A region that draws its order: each operation has a contract over the items that it uses and those that it takes; one walk in the text's order serves all orders. No condition. -/
import Derived.Test.YtmngkodejlhalaaZRPaths6
namespace Go.Proofs.Ytmngkodejlhalaa.Tw
set_option linter.unusedVariables false
set_option linter.unusedSimpArgs false
open Go Go.RowKit

def starL : List HP → HP
  | [] => 1
  | P :: l => match l with
    | [] => P
    | _ :: _ => P * starL l
theorem starL_cons (P : HP) (l : List HP) : starL (P :: l) = P * starL l := by
  cases l with
  | nil => exact (mul_one P).symm
  | cons _ _ => rfl

def bigS : Nat → (Nat → HP) → HP
  | 0, _ => 1
  | n + 1, f => bigS n f * f n
theorem bigS_congr {f g : Nat → HP} : ∀ {n : Nat}, (∀ i, i < n → f i = g i) → bigS n f = bigS n g
  | 0, _ => rfl
  | n + 1, h => by rw [bigS, bigS, bigS_congr fun i hi => h i (by omega), h n (by omega)]
theorem bigS_mul (f g : Nat → HP) : ∀ n : Nat, bigS n (fun i => f i * g i) = bigS n f * bigS n g
  | 0 => (mul_one _).symm
  | n + 1 => by simp only [bigS]; rw [bigS_mul f g n]; ac_rfl
theorem bigS_one : ∀ n : Nat, bigS n (fun _ => 1) = 1
  | 0 => rfl
  | n + 1 => by simp only [bigS]; rw [bigS_one n, mul_one]
theorem bigS_single {u : Nat} (P : HP) : ∀ {n : Nat}, u < n → bigS n (fun i => if i = u then P else 1) = P
  | 0, h => by omega
  | n + 1, h => by
    simp only [bigS]
    by_cases e : n = u
    · subst e
      rw [if_pos rfl, bigS_congr (g := fun _ => 1) (fun i hi => if_neg (by omega)), bigS_one, one_mul]
    · rw [if_neg e, mul_one, bigS_single P (by omega)]
theorem starL_big (I : Nat → HP) (n : Nat) : ∀ us : List Nat, us.Nodup → (∀ u ∈ us, u < n) → starL (us.map I) = bigS n (fun i => if i ∈ us then I i else 1)
  | [], _, _ => by
    rw [bigS_congr (g := fun _ => 1) (fun i _ => if_neg (by simp)), bigS_one]; rfl
  | u :: us, hn, hb => by
    rw [List.nodup_cons] at hn
    rw [List.map_cons, starL_cons, starL_big I n us hn.2 (fun x hx => hb x (List.mem_cons_of_mem _ hx)), ← bigS_single (I u) (hb u List.mem_cons_self), ← bigS_mul]
    refine bigS_congr fun i _ => ?_
    by_cases e : i = u
    · subst e; rw [if_pos rfl, if_neg hn.1, if_pos List.mem_cons_self, mul_one]
    · rw [if_neg e, one_mul]
      by_cases h : i ∈ us
      · rw [if_pos h, if_pos (List.mem_cons_of_mem _ h)]
      · rw [if_neg h, if_neg (by simp [e, h])]

section
variable {X : Type}
/-- an operation's entry: its value, what it brings, the letters that both look at, the items used and taken, whether its guard lets it be -/
structure Ent (X : Type) where
  dst : Option Tmp
  V : (Nat → X) → Value
  R : (Nat → X) → HP
  ds : List Nat
  us : List Nat
  cs : List Nat
  on : Bool
def upd (e : Nat → X) (k : Nat) (x : X) : Nat → X := fun i => if i = k then x else e i
theorem upd_self (e : Nat → X) (k : Nat) (x : X) : upd e k x k = x := if_pos rfl
theorem upd_ne (e : Nat → X) {k i : Nat} (x : X) (h : i ≠ k) : upd e k x i = e i := if_neg h
theorem upd_id (e : Nat → X) (k : Nat) : upd e k (e k) = e := by funext i; unfold upd; split <;> simp_all
/-- the items: the given ones, and then an item for each operation -/
def item (B : List HP) (t : List (Ent X)) (e : Nat → X) (i : Nat) : HP :=
  if i < B.length then B.getD i 1 else match t.reverse[i - B.length]? with
    | some E => E.R e
    | none => 1
def base (a0 : Act) (d : Nat) : Value := a0.tmps.getD d undef
/-- what a slot holds behind these operations (the newest first) -/
def lkE (e : Nat → X) (d : Nat) : List (Ent X) → Value → Value
  | [], b => b
  | E :: t, b => if E.dst = some d then E.V e else lkE e d t b
def lookE (a0 : Act) (t : List (Ent X)) (e : Nat → X) : Operand → Value
  | .tmp d => lkE e d t (base a0 d)
  | x => a0.eval x
def asB : Value → Option Bool
  | .bool b => some b
  | _ => none
def wantE (ops : Array Oper) (a0 : Act) (t : List (Ent X)) (e : Nat → X) (o : Oper) : Bool :=
  Region.wanted o fun g => match (ops[g]?).bind (·.dst) with
    | some d => asB (lkE e d t (base a0 d))
    | none => none

def valUpon (P : Program) (K : Value → World → Prop) : Result Next → Prop
  | .ok (.value v) w' => K v w'
  | .ok .skip w' => K undef w'
  | .ok (.enter f args) w' => Calls P f args w' fun e w'' => ∃ v, e = .returned v ∧ K v w''
  | .ok (.row row args) w' => Rows P row args w' K
  | _ => False
variable {P : Program}
theorem valUpon_value (K : Value → World → Prop) (v : Value) (w : World) : valUpon P K (.ok (.value v) w) = K v w := rfl
theorem valUpon_skip (K : Value → World → Prop) (w : World) : valUpon P K (.ok .skip w) = K undef w := rfl
theorem valUpon_enter (K : Value → World → Prop) (f : FuncId) (args : Array Value) (w : World) : valUpon P K (.ok (.enter f args) w) = Calls P f args w fun e w'' => ∃ v, e = .returned v ∧ K v w'' := rfl
theorem wp_of_val {o : Oper} {a : Act} {w : World} {K : Value → World → Prop} {K' : Act → World → Prop} {Q : Exit → Act → World → Prop} (h : valUpon P K ((execOp a.eval o).run P w))
    (hk : ∀ v w', K v w' → K' (a.put o.dst v) w') : o.wp P a w K' Q := by
  unfold Oper.wp
  generalize (execOp a.eval o).run P w = r at *
  cases r with
  | ok n w' =>
    cases n <;> simp only [valUpon] at h <;> simp only [Oper.upon]
    case value u => exact hk _ _ h
    case skip => exact hk _ _ h
    case enter f args => exact h.mono fun e w'' ⟨v, he, hv⟩ => by subst he; exact hk _ _ hv
    case row row args => exact h.mono fun v w'' hv => hk _ _ hv
  | halt x w' => simp only [valUpon] at h

variable {ops : Array Oper} {w0 : World} {B : List HP} {a0 : Act}
/-- what is shown of an operation -/
structure Obl (P : Program) (ops : Array Oper) (w0 : World) (B : List HP) (a0 : Act) (t : List (Ent X)) (o : Oper) (E : Ent X) : Prop where
  dst : E.dst = o.dst
  on : ∀ e, wantE ops a0 t e o = E.on
  loc : ∀ e e' : Nat → X, (∀ i, i ∈ E.ds → e i = e' i) → E.V e = E.V e' ∧ E.R e = E.R e'
  off : E.on = false → (∀ e, E.V e = undef) ∧ (∀ e, E.R e = 1) ∧ E.us = [] ∧ E.cs = []
  run : E.on = true → ∀ (e : Nat → X) (w : World) (F : HP) (K : Value → World → Prop), Sat w0 w (starL (E.us.map (item B t e)) * (starL (E.cs.map (item B t e)) * F)) →
    (∀ x w', Sat w0 w' (starL (E.us.map (item B t e)) * (E.R (upd e t.length x) * F)) → K (E.V (upd e t.length x)) w') → valUpon P K ((execOp (lookE a0 t e) o).run P w)

def Good (P : Program) (ops : Array Oper) (w0 : World) (B : List HP) (a0 : Act) : List (Ent X) → Prop
  | [] => True
  | E :: t => (∃ o, ops[t.length]? = some o ∧ Obl P ops w0 B a0 t o E) ∧ Good P ops w0 B a0 t

theorem good_at {T : Nat → Ent X} : ∀ {tbl : List (Ent X)}, (∀ i, i < tbl.length → tbl.reverse[i]? = some (T i)) → Good P ops w0 B a0 tbl →
    ∀ k, k < tbl.length → ∃ o t, ops[k]? = some o ∧ t.length = k ∧ (∀ i, i < k → t.reverse[i]? = some (T i)) ∧ Obl P ops w0 B a0 t o (T k)
  | [], _, _, k, hk => by simp at hk
  | E :: t, hT, ⟨⟨o, ho, hO⟩, hg⟩, k, hk => by
    have h1 : ∀ i, i < t.length → t.reverse[i]? = some (T i) := fun i hi => by
      have := hT i (by simp; omega)
      rwa [List.reverse_cons, List.getElem?_append_left (by simpa using hi)] at this
    by_cases e : k = t.length
    · subst e
      have h2 := hT t.length (by simp)
      rw [List.reverse_cons, List.getElem?_append_right (by simp)] at h2
      simp at h2
      subst h2
      exact ⟨o, t, ho, rfl, h1, hO⟩
    · exact good_at h1 hg k (by simp at hk; omega)

/-- what slot d holds when those of S among the first n operations have come up -/
def lkT (T : Nat → Ent X) (S : Nat → Bool) (e : Nat → X) (d : Nat) (b : Value) : Nat → Value
  | 0 => b
  | k + 1 => if S k = true ∧ (T k).dst = some d then (T k).V e else lkT T S e d b k
theorem lkE_lkT {T : Nat → Ent X} {e : Nat → X} {d : Nat} {b : Value} : ∀ {t : List (Ent X)}, (∀ i, i < t.length → t.reverse[i]? = some (T i)) → lkE e d t b = lkT T (fun _ => true) e d b t.length
  | [], _ => rfl
  | E :: t, hT => by
    have h1 : ∀ i, i < t.length → t.reverse[i]? = some (T i) := fun i hi => by
      have := hT i (by simp; omega)
      rwa [List.reverse_cons, List.getElem?_append_left (by simpa using hi)] at this
    have h2 := hT t.length (by simp)
    rw [List.reverse_cons, List.getElem?_append_right (by simp)] at h2
    simp at h2
    simp only [lkE, List.length_cons, lkT, ← h2, lkE_lkT h1, true_and]
theorem lkT_congr {T : Nat → Ent X} {S S' : Nat → Bool} {e e' : Nat → X} {d : Nat} {b : Value} : ∀ {n : Nat}, (∀ i, i < n → (T i).dst = some d → S i = S' i ∧ (S i = true → (T i).V e = (T i).V e')) → lkT T S e d b n = lkT T S' e' d b n
  | 0, _ => rfl
  | n + 1, h => by
    have ih := lkT_congr (b := b) (n := n) fun i hi => h i (by omega)
    simp only [lkT]
    by_cases hd : (T n).dst = some d
    · obtain ⟨h1, h2⟩ := h n (by omega) hd
      by_cases hs : S n = true
      · rw [if_pos ⟨hs, hd⟩, if_pos ⟨h1 ▸ hs, hd⟩, h2 hs]
      · rw [if_neg (fun c => hs c.1), if_neg (fun c => hs (h1 ▸ c.1)), ih]
    · rw [if_neg (fun c => hd c.2), if_neg (fun c => hd c.2), ih]
theorem lkT_cut {T : Nat → Ent X} {S : Nat → Bool} {e : Nat → X} {d k : Nat} {b : Value} : ∀ {n : Nat}, k ≤ n → (∀ i, k ≤ i → i < n → S i = true → (T i).dst ≠ some d) → lkT T S e d b n = lkT T S e d b k
  | 0, hk, _ => by rw [show k = 0 by omega]
  | n + 1, hk, h => by
    by_cases e : k = n + 1
    · rw [e]
    · simp only [lkT]
      rw [if_neg (fun c => h n (by omega) (by omega) c.1 c.2)]
      exact lkT_cut (by omega) fun i h1 h2 => h i h1 (by omega)
theorem lkT_hit {T : Nat → Ent X} {S : Nat → Bool} {e : Nat → X} {d j : Nat} {b : Value} {n : Nat} (hj : j < n) (hS : S j = true) (hd : (T j).dst = some d) (hu : ∀ i, i < n → i ≠ j → (T i).dst ≠ some d) : lkT T S e d b n = (T j).V e := by
  rw [lkT_cut (k := j + 1) (by omega) (fun i h1 h2 _ => hu i h2 (by omega))]
  simp only [lkT]
  rw [if_pos ⟨hS, hd⟩]

/-- the Bool: the masks are right, each operation looks only at what surely came ahead, slots differ, items are used and taken in an order that is sure -/
def chkGrow (ops : Array Oper) (nb : Nat) (tb : List (List Nat × List Nat × List Nat)) (ms : List Nat) : Bool :=
  Region.noSelect ops && (List.range ops.size).all fun k => match ops[k]?, tb[k]? with
    | some o, some (ds, us, cs) =>
      ((List.range ops.size).all fun i => !(ms.getD k 0).testBit i || o.after.any fun ed => Region.binds .any ed && decide (ed.on < k) && (ed.on == i || (ms.getD ed.on 0).testBit i)) &&
      ((o.after.all fun ed => !Region.binds .any ed || decide (ed.on < k)) &&
      (((List.range ops.size).all fun i => match (ops[i]?).bind (·.dst) with
          | some d => (!(o.looksAt ops).contains d || (ms.getD k 0).testBit i) && (i == k || o.dst != some d)
          | none => true) &&
      ((ds.all fun i => i == k || (ms.getD k 0).testBit i) &&
      (((us ++ cs).all fun i => decide (i < nb + ops.size) && (decide (i < nb) || (ms.getD k 0).testBit (i - nb))) &&
      (decide (us ++ cs).Nodup &&
      ((List.range k).all fun j => match tb[j]? with
          | some (_, us', cs') => ((us ++ cs).all fun i => !cs'.contains i) && (cs.all fun i => !us'.contains i || (ms.getD k 0).testBit j)
          | none => true))))))
    | _, _ => false
/-- the masks themselves -/
def masks (ops : Array Oper) : List Nat :=
  ops.toList.foldl (fun acc o => acc ++ [o.after.foldl (fun m ed => if Region.binds .any ed then m ||| (1 <<< ed.on) ||| acc.getD ed.on 0 else m) 0]) []

structure Chk (ops : Array Oper) (nb : Nat) (T : Nat → Ent X) (M : Nat → Nat → Bool) (k : Nat) (o : Oper) : Prop where
  mask : ∀ i, i < ops.size → M k i = true → ∃ ed, ed ∈ o.after ∧ Region.binds .any ed = true ∧ ed.on < k ∧ (ed.on = i ∨ M ed.on i = true)
  low : ∀ ed, ed ∈ o.after → Region.binds .any ed = true → ed.on < k
  looks : ∀ (i : Nat) (oi : Oper) (d : Nat), ops[i]? = some oi → oi.dst = some d → d ∈ o.looksAt ops → M k i = true
  slots : ∀ (i : Nat) (oi : Oper) (d : Nat), ops[i]? = some oi → oi.dst = some d → i ≠ k → o.dst ≠ some d
  ds : ∀ i, i ∈ (T k).ds → i = k ∨ M k i = true
  its : ∀ i, i ∈ (T k).us ++ (T k).cs → i < nb + ops.size ∧ (i < nb ∨ M k (i - nb) = true)
  nodup : ((T k).us ++ (T k).cs).Nodup
  prev : ∀ j, j < k → (∀ i, i ∈ (T k).us ++ (T k).cs → i ∉ (T j).cs) ∧ (∀ i, i ∈ (T k).cs → i ∈ (T j).us → M k j = true)

theorem chk_spec {nb : Nat} {T : Nat → Ent X} {tb : List (List Nat × List Nat × List Nat)} {ms : List Nat} (htb : ∀ i, i < ops.size → tb[i]? = some ((T i).ds, (T i).us, (T i).cs)) (h : chkGrow ops nb tb ms = true) :
    Region.noSelect ops = true ∧ ∀ k o, ops[k]? = some o → Chk ops nb T (fun k i => (ms.getD k 0).testBit i) k o := by
  unfold chkGrow at h
  rw [Bool.and_eq_true] at h
  refine ⟨h.1, fun k o ho => ?_⟩
  have hk : k < ops.size := (Array.getElem?_eq_some_iff.1 ho).1
  have h2 := List.all_eq_true.1 h.2 k (List.mem_range.2 hk)
  rw [ho, htb k hk] at h2
  simp only [Bool.and_eq_true] at h2
  obtain ⟨g1, g2, g3, g4, g5, g6, g7⟩ := h2
  refine ⟨?_, ?_, ?_, ?_, ?_, ?_, ?_, ?_⟩
  · intro i hi hm
    have := List.all_eq_true.1 g1 i (List.mem_range.2 hi)
    rw [hm] at this
    simp only [Bool.not_true, Bool.false_or, Array.any_eq_true'] at this
    obtain ⟨ed, he, hb⟩ := this
    simp only [Bool.and_eq_true, decide_eq_true_eq, Bool.or_eq_true, beq_iff_eq] at hb
    exact ⟨ed, he, hb.1.1, hb.1.2, hb.2⟩
  · intro ed he hb
    have := Array.all_eq_true_iff_forall_mem.1 g2 ed he
    rw [hb] at this
    simpa using this
  · intro i oi d hoi hd hl
    have := List.all_eq_true.1 g3 i (List.mem_range.2 (Array.getElem?_eq_some_iff.1 hoi).1)
    rw [hoi] at this
    simp only [Option.bind_some, hd, Bool.and_eq_true] at this
    have h3 := this.1
    rw [show (o.looksAt ops).contains d = true by simpa using hl] at h3
    simpa using h3
  · intro i oi d hoi hd hne
    have := List.all_eq_true.1 g3 i (List.mem_range.2 (Array.getElem?_eq_some_iff.1 hoi).1)
    rw [hoi] at this
    simp only [Option.bind_some, hd, Bool.and_eq_true, Bool.or_eq_true, beq_iff_eq, bne_iff_ne] at this
    exact this.2.resolve_left hne
  · intro i hi
    have := List.all_eq_true.1 g4 i hi
    simpa only [Bool.or_eq_true, beq_iff_eq] using this
  · intro i hi
    have := List.all_eq_true.1 g5 i hi
    simpa only [Bool.and_eq_true, Bool.or_eq_true, decide_eq_true_eq] using this
  · simpa using g6
  · intro j hj
    have := List.all_eq_true.1 g7 j (List.mem_range.2 hj)
    rw [htb j (by omega)] at this
    simp only [Bool.and_eq_true] at this
    refine ⟨fun i hi => ?_, fun i hi hu => ?_⟩
    · have h3 := List.all_eq_true.1 this.1 i hi
      simpa using h3
    · have h3 := List.all_eq_true.1 this.2 i hi
      rw [show (T j).us.contains i = true by simpa using hu] at h3
      simpa using h3

/-- the operations that have come up -/
def inS (listed : Array Bool) (i : Nat) : Bool := listed.getD i true
def Closed (ops : Array Oper) (S : Nat → Bool) : Prop := ∀ k o, ops[k]? = some o → S k = true → ∀ ed, ed ∈ o.after → Region.binds .any ed = true → S ed.on = true

theorem mask_in {nb : Nat} {T : Nat → Ent X} {M : Nat → Nat → Bool} (hc : ∀ k o, ops[k]? = some o → Chk ops nb T M k o) {S : Nat → Bool} (hS : Closed ops S) :
    ∀ (k : Nat) (o : Oper), ops[k]? = some o → (∀ ed, ed ∈ o.after → Region.binds .any ed = true → S ed.on = true) → ∀ i, i < ops.size → M k i = true → S i = true := by
  intro k
  induction k using Nat.strongRecOn with
  | _ k ih =>
    intro o ho hb i hi hm
    obtain ⟨ed, he, hbd, hlt, h⟩ := (hc k o ho).mask i hi hm
    have hs := hb ed he hbd
    rcases h with rfl | h
    · exact hs
    · have hlt' : ed.on < ops.size := by have := (Array.getElem?_eq_some_iff.1 ho).1; omega
      exact ih ed.on hlt _ (Array.getElem?_eq_getElem hlt') (hS _ _ (Array.getElem?_eq_getElem hlt') hs) i hi h

def aliveS (n nb : Nat) (T : Nat → Ent X) (S : Nat → Bool) (i : Nat) : Prop := (i < nb ∨ S (i - nb) = true) ∧ ∀ j, j < n → S j = true → i ∉ (T j).cs
def itemT (B : List HP) (T : Nat → Ent X) (e : Nat → X) (i : Nat) : HP := if i < B.length then B.getD i 1 else (T (i - B.length)).R e
theorem item_T {T : Nat → Ent X} {e : Nat → X} {t : List (Ent X)} (hT : ∀ i, i < t.length → t.reverse[i]? = some (T i)) {i : Nat} (hi : i < B.length + t.length) : item B t e i = itemT B T e i := by
  unfold item itemT
  by_cases h : i < B.length
  · rw [if_pos h, if_pos h]
  · rw [if_neg h, if_neg h, hT (i - B.length) (by omega)]

open Classical in
noncomputable def resS (n : Nat) (B : List HP) (T : Nat → Ent X) (S : Nat → Bool) (e : Nat → X) : HP :=
  bigS (B.length + n) fun i => if aliveS n B.length T S i then itemT B T e i else 1

structure Agree (n : Nat) (a0 : Act) (T : Nat → Ent X) (S : Nat → Bool) (e : Nat → X) (a : Act) : Prop where
  defers : a.defers = a0.defers
  size : a.tmps.size = a0.tmps.size
  get : ∀ d, a.tmps.getD d undef = lkT T S e d (base a0 d) n

def unl (n : Nat) (listed : Array Bool) : Nat := (List.range n).countP fun i => !inS listed i
theorem countP_lt {p q : Nat → Bool} {j : Nat} : ∀ {l : List Nat}, j ∈ l → p j = true → q j = false → (∀ i, q i = true → p i = true) → l.countP q < l.countP p
  | [], h, _, _, _ => by cases h
  | x :: l, h, hp, hq, hi => by
    have hle : l.countP q ≤ l.countP p := List.countP_mono_left fun i _ => hi i
    rw [List.countP_cons, List.countP_cons]
    rcases List.mem_cons.1 h with rfl | h
    · rw [hp, hq]; simp; omega
    · have ih := countP_lt h hp hq hi
      by_cases hx : q x = true
      · rw [hx, hi x hx]; simp; exact ih
      · rw [show q x = false by simpa using hx]
        simp only [Bool.false_eq_true, if_false]
        omega

theorem unl_set {n j : Nat} {listed : Array Bool} (hj : j < n) (hs : listed.size = n) (h : inS listed j = false) : unl n (listed.setIfInBounds j true) < unl n listed := by
  refine countP_lt (j := j) (List.mem_range.2 hj) (by rw [h]; rfl) ?_ ?_
  · simp [inS, hs, hj]
  · intro i hi
    by_cases e : j = i
    · subst e; rw [h]; rfl
    · unfold inS at *; rw [getD_set_ne true e] at hi; exact hi
theorem inS_set {n j i : Nat} {listed : Array Bool} (hj : j < n) (hs : listed.size = n) : inS (listed.setIfInBounds j true) i = (decide (i = j) || inS listed i) := by
  by_cases e : j = i
  · subst e; simp [inS, hs, hj]
  · unfold inS; rw [getD_set_ne true e]; simp [Ne.symm e]

theorem Act.getD_put {a : Act} {x : Option Tmp} {v : Value} {d : Nat} (hb : ∀ d, x = some d → d < a.tmps.size) : (a.put x v).tmps.getD d undef = if x = some d then v else a.tmps.getD d undef := by
  cases x with
  | none => simp [Act.put]
  | some t =>
    have ht := hb t rfl
    by_cases e : t = d
    · subst e; simp [Act.put, ht]
    · rw [if_neg (by simpa using e)]
      simp [Act.put, Array.getElem?_setIfInBounds_ne e]

section core
variable {id : Nat} {Q : Exit → Act → World → Prop} {T : Nat → Ent X} {M : Nat → Nat → Bool} {n : Nat}

theorem look_eq {t : List (Ent X)} {e : Nat → X} {S : Nat → Bool} {a : Act} {k : Nat} {o : Oper} (hn : n = ops.size) (hT : ∀ i, i < t.length → t.reverse[i]? = some (T i)) (hk : t.length = k) (ho : ops[k]? = some o)
    (hc : Chk ops B.length T M k o) (hm : ∀ i, i < ops.size → M k i = true → i < k ∧ S i = true) (hd : ∀ i oi, ops[i]? = some oi → (T i).dst = oi.dst) (ha : Agree n a0 T S e a) :
    ∀ d, d ∈ o.looksAt ops → a.tmps.getD d undef = lkE e d t (base a0 d) := by
  intro d hl
  have hkn : k < n := by rw [hn]; exact (Array.getElem?_eq_some_iff.1 ho).1
  rw [ha.get d, lkE_lkT hT, hk]
  have key : ∀ i, i < n → (T i).dst = some d → M k i = true := fun i hi h => by
    have hi' : i < ops.size := hn ▸ hi
    exact hc.looks i _ d (Array.getElem?_eq_getElem hi') ((hd i _ (Array.getElem?_eq_getElem hi')) ▸ h) hl
  rw [lkT_cut (k := k) (by omega) (fun i h1 h2 _ h3 => by have := (hm i (hn ▸ h2) (key i h2 h3)).1; omega)]
  exact lkT_congr fun i hi h => ⟨(hm i (hn ▸ (by omega : i < n)) (key i (by omega) h)).2, fun _ => rfl⟩

theorem core_step (hn : n = ops.size) (hsel : Region.noSelect ops = true) (hc : ∀ k o, ops[k]? = some o → Chk ops B.length T M k o) (hO : ∀ k, k < n → ∃ o t, ops[k]? = some o ∧ t.length = k ∧ (∀ i, i < k → t.reverse[i]? = some (T i)) ∧ Obl P ops w0 B a0 t o (T k))
    (hsz : ∀ k, k < n → ∀ d, (T k).dst = some d → d < a0.tmps.size)
    {listed : Array Bool} {a : Act} {w : World} {e : Nat → X} (hls : listed.size = n) (hcl : Closed ops (inS listed)) (ha : Agree n a0 T (inS listed) e a) (hw : Sat w0 w (resS n B T (inS listed) e)) {j : Nat} (hj : j ∈ Region.ready .any ops listed)
    {K : Act → World → Prop} (hK : ∀ a' w' e', Agree n a0 T (inS (listed.setIfInBounds j true)) e' a' → Sat w0 w' (resS n B T (inS (listed.setIfInBounds j true)) e') → K a' w') : wpOp P ops Q j K a w := by
  obtain ⟨hjun, oj, hoj, hall⟩ := mem_ready.1 hj
  have hjn : j < n := by rw [hn]; exact (Array.getElem?_eq_some_iff.1 hoj).1
  obtain ⟨o, t, ho, ht, hTt, hob⟩ := hO j hjn
  rw [hoj] at ho
  cases ho
  have hcj := hc j oj hoj
  have hjS : inS listed j = false := hjun
  have hin : ∀ i, i < ops.size → M j i = true → inS listed i = true := mask_in hc hcl j oj hoj (fun ed he hb => by
    have h1 := hall ed he hb
    unfold inS
    rcases Nat.lt_or_ge ed.on listed.size with h' | h'
    · simp [h'] at h1 ⊢; exact h1
    · simp [Array.getElem?_eq_none h'])
  have hlt : ∀ k o, ops[k]? = some o → ∀ i, i < ops.size → M k i = true → i < k := by
    intro k
    induction k using Nat.strongRecOn with
    | _ k ih =>
      intro o ho i hi hm
      obtain ⟨ed, he, hbd, hlt, h⟩ := (hc k o ho).mask i hi hm
      rcases h with rfl | h
      · exact hlt
      · have hlt' : ed.on < ops.size := by have := (Array.getElem?_eq_some_iff.1 ho).1; omega
        have := ih ed.on hlt _ (Array.getElem?_eq_getElem hlt') i hi h
        omega
  have hself : M j j = false := by
    cases h : M j j with
    | false => rfl
    | true => have := hlt j oj hoj j (hn ▸ hjn) h; omega
  have hTdst : ∀ i oi, ops[i]? = some oi → (T i).dst = oi.dst := fun i oi hoi => by
    have hi : i < n := by rw [hn]; exact (Array.getElem?_eq_some_iff.1 hoi).1
    obtain ⟨o', t', ho', _, _, hb'⟩ := hO i hi
    rw [hoi] at ho'; cases ho'
    exact hb'.dst
  have hTt' : ∀ i, i < t.length → t.reverse[i]? = some (T i) := fun i hi => hTt i (by omega)
  have hlook := look_eq (M := M) (B := B) hn hTt' ht hoj hcj (fun i hi hm => ⟨hlt j oj hoj i hi hm, hin i hi hm⟩) hTdst ha
  have hrun : execOp a.eval oj = execOp (lookE a0 t e) oj := by
    refine execOp_congr oj (fun cs b => Region.noSelect_spec hsel j oj cs b hoj) fun x hx => ?_
    cases x with
    | tmp d =>
      have : d ∈ oj.looksAt ops := List.mem_append_left _ (List.mem_filterMap.2 ⟨.tmp d, by simpa using hx, rfl⟩)
      exact hlook d this
    | _ => rfl
  have hwant : Region.wanted oj (yielded ops a.tmps) = (T j).on := by
    rw [← hob.on e]
    unfold wantE Region.wanted
    cases hg : oj.guard with
    | none => rfl
    | some gw =>
      obtain ⟨g, want⟩ := gw
      have : yielded ops a.tmps g = match (ops[g]?).bind (·.dst) with
          | some d => asB (lkE e d t (base a0 d))
          | none => none := by
        unfold yielded
        cases hb : (ops[g]?).bind (·.dst) with
        | none => rfl
        | some d =>
          have hd : d ∈ oj.looksAt ops := by simp [Oper.looksAt, hg, hb]
          have h1 := hlook d hd
          show (match a.tmps[d]? with | some (.bool b) => some b | _ => none) = asB _
          rw [← h1]
          cases hv : a.tmps[d]? with
          | none => simp [hv]; rfl
          | some v => simp [hv]; cases v <;> rfl
      simp only [this]
  have hloc : ∀ (x : X) (i : Nat), i < n → inS listed i = true → (T i).V (upd e j x) = (T i).V e ∧ (T i).R (upd e j x) = (T i).R e := fun x i hi hs => by
    obtain ⟨o', t', ho', _, _, hb'⟩ := hO i hi
    refine hb'.loc _ _ fun l hl => upd_ne _ _ ?_
    rintro rfl
    rcases (hc i o' ho').ds _ hl with rfl | h
    · rw [hjS] at hs; cases hs
    · have := mask_in hc hcl i o' ho' (fun ed he hb => hcl i o' ho' hs ed he hb) _ (hn ▸ hjn) h
      rw [hjS] at this; cases this
  have hset : ∀ i, inS (listed.setIfInBounds j true) i = (decide (i = j) || inS listed i) := fun i => inS_set hjn hls
  have hagree : ∀ x, Agree n a0 T (inS (listed.setIfInBounds j true)) (upd e j x) (a.put oj.dst ((T j).V (upd e j x))) := fun x => by
    have hb : ∀ d, oj.dst = some d → d < a.tmps.size := fun d h => by rw [ha.size]; exact hsz j hjn d (by rw [hTdst j oj hoj]; exact h)
    refine ⟨?_, ?_, fun d => ?_⟩
    · cases oj.dst <;> exact ha.defers
    · cases oj.dst with
      | none => exact ha.size
      | some t => simp only [Act.put, Array.size_setIfInBounds]; exact ha.size
    · rw [Act.getD_put hb]
      by_cases h : oj.dst = some d
      · rw [if_pos h]
        refine (lkT_hit hjn (by rw [hset]; simp) (by rw [hTdst j oj hoj]; exact h) fun i hi hne hdi => ?_).symm
        have hi' : i < ops.size := hn ▸ hi
        exact hcj.slots i _ d (Array.getElem?_eq_getElem hi') ((hTdst i _ (Array.getElem?_eq_getElem hi')) ▸ hdi) hne h
      · rw [if_neg h, ha.get d]
        refine lkT_congr fun i hi hdi => ?_
        have hne : i ≠ j := by rintro rfl; rw [hTdst _ oj hoj] at hdi; exact h hdi
        rw [hset]
        exact ⟨by simp [hne], fun hs => (hloc x i hi hs).1.symm⟩
  have hone : ∀ i, i < n → inS listed i = true → ∀ x, itemT B T (upd e j x) (B.length + i) = itemT B T e (B.length + i) := fun i hi hs x => by
    unfold itemT
    rw [if_neg (by omega), if_neg (by omega), show B.length + i - B.length = i by omega]
    exact (hloc x i hi hs).2
  unfold wpOp
  rw [hoj]
  simp only [hwant]
  by_cases hon : (T j).on = true
  · rw [if_pos hon]
    refine .inl ?_
    -- the items
    have hus : ∀ i, i ∈ (T j).us ++ (T j).cs → aliveS n B.length T (inS listed) i ∧ i < B.length + n ∧ i ≠ B.length + j ∧ i < B.length + j := fun i hi => by
      obtain ⟨h1, h2⟩ := hcj.its i hi
      have h3 : i < B.length + j := by
        rcases h2 with h2 | h2
        · omega
        · by_cases hb : i < B.length
          · omega
          · have := hlt j oj hoj (i - B.length) (by omega) h2; omega
      refine ⟨⟨?_, fun j' hj' hs hmem => ?_⟩, by omega, by omega, h3⟩
      · rcases h2 with h2 | h2
        · exact .inl h2
        · by_cases hb : i < B.length
          · exact .inl hb
          · exact .inr (hin _ (by omega) h2)
      · have hne : j' ≠ j := by rintro rfl; rw [hjS] at hs; cases hs
        rcases Nat.lt_or_ge j' j with hl | hl
        · exact (hcj.prev j' hl).1 i hi hmem
        · have hl : j < j' := by omega
          obtain ⟨o', t', ho', _⟩ := hO j' hj'
          have hp := (hc j' o' ho').prev j hl
          rcases List.mem_append.1 hi with hu | hcs
          · have hM := hp.2 i hmem hu
            have := mask_in hc hcl j' o' ho' (fun ed he hb => hcl j' o' ho' hs ed he hb) j (hn ▸ hjn) hM
            rw [hjS] at this; cases this
          · exact hp.1 i (List.mem_append_right _ hmem) hcs
    have hnd := List.nodup_append.1 hcj.nodup
    have hitem : ∀ i, i ∈ (T j).us ++ (T j).cs → item B t e i = itemT B T e i := fun i hi => item_T hTt' (by have := (hus i hi).2.2.2; omega)
    have eus : starL ((T j).us.map (item B t e)) = bigS (B.length + n) fun i => if i ∈ (T j).us then itemT B T e i else 1 := by
      rw [← starL_big _ _ _ hnd.1 fun i hi => (hus i (List.mem_append_left _ hi)).2.1]
      congr 1
      exact List.map_congr_left fun i hi => hitem i (List.mem_append_left _ hi)
    have ecs : starL ((T j).cs.map (item B t e)) = bigS (B.length + n) fun i => if i ∈ (T j).cs then itemT B T e i else 1 := by
      rw [← starL_big _ _ _ hnd.2.1 fun i hi => (hus i (List.mem_append_right _ hi)).2.1]
      congr 1
      exact List.map_congr_left fun i hi => hitem i (List.mem_append_right _ hi)
    classical
    let G : Nat → HP := fun i => if aliveS n B.length T (inS listed) i ∧ i ∉ (T j).us ∧ i ∉ (T j).cs then itemT B T e i else 1
    have hsplit : resS n B T (inS listed) e = starL ((T j).us.map (item B t e)) * (starL ((T j).cs.map (item B t e)) * bigS (B.length + n) G) := by
      rw [eus, ecs, ← bigS_mul, ← bigS_mul]
      unfold resS
      refine bigS_congr fun i hi => ?_
      by_cases hu : i ∈ (T j).us
      · have hnc : i ∉ (T j).cs := fun h => hnd.2.2 _ hu _ h rfl
        rw [if_pos (hus i (List.mem_append_left _ hu)).1, if_pos hu, if_neg hnc]
        simp only [G]
        rw [if_neg (fun c => c.2.1 hu), mul_one, mul_one]
      · rw [if_neg hu, one_mul]
        by_cases hcs : i ∈ (T j).cs
        · rw [if_pos (hus i (List.mem_append_right _ hcs)).1, if_pos hcs]
          simp only [G]
          rw [if_neg (fun c => c.2.2 hcs), mul_one]
        · rw [if_neg hcs, one_mul]
          simp only [G]
          by_cases hal : aliveS n B.length T (inS listed) i
          · rw [if_pos hal, if_pos ⟨hal, hu, hcs⟩]
          · rw [if_neg hal, if_neg (fun c => hal c.1)]
    have hafter : ∀ x, starL ((T j).us.map (item B t e)) * ((T j).R (upd e j x) * bigS (B.length + n) G) = resS n B T (inS (listed.setIfInBounds j true)) (upd e j x) := fun x => by
      rw [eus, ← bigS_single (u := B.length + j) (n := B.length + n) ((T j).R (upd e j x)) (by omega), ← bigS_mul, ← bigS_mul]
      unfold resS
      refine bigS_congr fun i hi => ?_
      by_cases hi0 : i = B.length + j
      · subst hi0
        have hnu : B.length + j ∉ (T j).us := fun h => (hus _ (List.mem_append_left _ h)).2.2.1 rfl
        have hal : ¬ aliveS n B.length T (inS listed) (B.length + j) := fun c => by
          rcases c.1 with c | c
          · omega
          · rw [show B.length + j - B.length = j by omega, hjS] at c; cases c
        have hal' : aliveS n B.length T (inS (listed.setIfInBounds j true)) (B.length + j) := by
          refine ⟨.inr (by rw [show B.length + j - B.length = j by omega, hset]; simp), fun j' hj' hs hmem => ?_⟩
          obtain ⟨o', t', ho', _⟩ := hO j' hj'
          have h1 := (hc j' o' ho').its _ (List.mem_append_right _ hmem)
          have h2 : M j' j = true := by
            rcases h1.2 with h | h
            · omega
            · rwa [show B.length + j - B.length = j by omega] at h
          by_cases hjj : j' = j
          · subst hjj; rw [hself] at h2; cases h2
          · rw [hset] at hs
            simp only [hjj, decide_false, Bool.false_or] at hs
            have := mask_in hc hcl j' o' ho' (fun ed he hb => hcl j' o' ho' hs ed he hb) j (hn ▸ hjn) h2
            rw [hjS] at this; cases this
        rw [if_neg hnu, if_pos rfl, one_mul, if_pos hal']
        simp only [G]
        rw [if_neg (fun c => hal c.1), mul_one]
        unfold itemT
        rw [if_neg (by omega), show B.length + j - B.length = j by omega]
      · rw [if_neg hi0, one_mul]
        have hit : aliveS n B.length T (inS listed) i → itemT B T (upd e j x) i = itemT B T e i := fun c => by
          by_cases hb : i < B.length
          · unfold itemT; rw [if_pos hb, if_pos hb]
          · rw [show i = B.length + (i - B.length) by omega]
            exact hone _ (by omega) (c.1.resolve_left hb) x
        by_cases hu : i ∈ (T j).us
        · have h1 := (hus i (List.mem_append_left _ hu)).1
          have hnc : i ∉ (T j).cs := fun h => hnd.2.2 _ hu _ h rfl
          have hal' : aliveS n B.length T (inS (listed.setIfInBounds j true)) i := by
            refine ⟨h1.1.imp id fun h => by rw [hset, h, Bool.or_true], fun j' hj' hs hmem => ?_⟩
            by_cases hjj : j' = j
            · subst hjj; exact hnc hmem
            · rw [hset] at hs
              simp only [hjj, decide_false, Bool.false_or] at hs
              exact h1.2 j' hj' hs hmem
          rw [if_pos hu, if_pos hal', hit h1]
          simp only [G]
          rw [if_neg (fun c => c.2.1 hu), mul_one]
        · rw [if_neg hu, one_mul]
          by_cases hcs : i ∈ (T j).cs
          · have hal' : ¬ aliveS n B.length T (inS (listed.setIfInBounds j true)) i := fun c => c.2 j hjn (by rw [hset]; simp) hcs
            rw [if_neg hal']
            simp only [G]
            rw [if_neg (fun c => c.2.2 hcs)]
          · by_cases hal : aliveS n B.length T (inS listed) i
            · have hal' : aliveS n B.length T (inS (listed.setIfInBounds j true)) i := by
                refine ⟨hal.1.imp id fun h => by rw [hset, h, Bool.or_true], fun j' hj' hs hmem => ?_⟩
                by_cases hjj : j' = j
                · subst hjj; exact hcs hmem
                · rw [hset] at hs
                  simp only [hjj, decide_false, Bool.false_or] at hs
                  exact hal.2 j' hj' hs hmem
              rw [if_pos hal', hit hal]
              simp only [G]
              rw [if_pos ⟨hal, hu, hcs⟩]
            · have hal' : ¬ aliveS n B.length T (inS (listed.setIfInBounds j true)) i := fun c => hal ⟨by
                rcases c.1 with c1 | c1
                · exact .inl c1
                · rw [hset] at c1
                  by_cases hb : i < B.length
                  · exact .inl hb
                  · have : i - B.length ≠ j := by omega
                    simp only [this, decide_false, Bool.false_or] at c1
                    exact .inr c1, fun j' hj' hs => c.2 j' hj' (by rw [hset, hs, Bool.or_true])⟩
              rw [if_neg hal']
              simp only [G]
              rw [if_neg (fun c => hal c.1)]
    have hr := hob.run hon e w (bigS (B.length + n) G) (fun v w' => K (a.put oj.dst v) w') (hsplit ▸ hw) (fun x w' hx => by
      rw [ht] at hx ⊢
      exact hK _ _ _ (hagree x) (hafter x ▸ hx))
    rw [← hrun] at hr
    exact wp_of_val hr fun v w' h => h
  · rw [if_neg hon]
    have hoff := hob.off (by simpa using hon)
    have hu := hoff.1 (upd e j (e j))
    have hag := hagree (e j)
    rw [hu] at hag
    refine hK _ _ _ hag ?_
    rw [upd_id]
    refine hw.cast ?_
    unfold resS
    refine bigS_congr fun i hi => ?_
    by_cases hi0 : i = B.length + j
    · subst hi0
      have h1 : itemT B T e (B.length + j) = 1 := by
        unfold itemT; rw [if_neg (by omega), show B.length + j - B.length = j by omega]; exact hoff.2.1 e
      rw [h1]; split <;> split <;> rfl
    · have : aliveS n B.length T (inS listed) i ↔ aliveS n B.length T (inS (listed.setIfInBounds j true)) i := by
        constructor
        · intro c
          refine ⟨c.1.imp id fun h => by rw [hset, h, Bool.or_true], fun j' hj' hs hmem => ?_⟩
          by_cases hjj : j' = j
          · subst hjj; rw [hoff.2.2.2] at hmem; cases hmem
          · rw [hset] at hs
            simp only [hjj, decide_false, Bool.false_or] at hs
            exact c.2 j' hj' hs hmem
        · intro c
          refine ⟨?_, fun j' hj' hs => c.2 j' hj' (by rw [hset, hs, Bool.or_true])⟩
          rcases c.1 with c1 | c1
          · exact .inl c1
          · rw [hset] at c1
            by_cases hb : i < B.length
            · exact .inl hb
            · have : i - B.length ≠ j := by omega
              simp only [this, decide_false, Bool.false_or] at c1
              exact .inr c1
      by_cases hal : aliveS n B.length T (inS listed) i
      · rw [if_pos hal, if_pos (this.1 hal)]
      · rw [if_neg hal, if_neg (fun c => hal (this.2 c))]

theorem core_any (hn : n = ops.size) (hsel : Region.noSelect ops = true) (hc : ∀ k o, ops[k]? = some o → Chk ops B.length T M k o) (hO : ∀ k, k < n → ∃ o t, ops[k]? = some o ∧ t.length = k ∧ (∀ i, i < k → t.reverse[i]? = some (T i)) ∧ Obl P ops w0 B a0 t o (T k))
    (hsz : ∀ k, k < n → ∀ d, (T k).dst = some d → d < a0.tmps.size)
    (hend : ∀ a w e, Agree n a0 T (fun _ => true) e a → Sat w0 w (resS n B T (fun _ => true) e) → Q .normal a w) :
    ∀ (fuel : Nat) (listed : Array Bool) (a : Act) (w : World), unl n listed ≤ fuel → listed.size = n → Closed ops (inS listed) → (∃ e, Agree n a0 T (inS listed) e a ∧ Sat w0 w (resS n B T (inS listed) e)) → wpAny P .any ops Q fuel listed a w := by
  have hfull : ∀ (listed : Array Bool) (a : Act) (w : World), listed.size = n → Closed ops (inS listed) → (∃ e, Agree n a0 T (inS listed) e a ∧ Sat w0 w (resS n B T (inS listed) e)) → Region.ready .any ops listed = [] → Q .normal a w := by
    intro listed a w hls hcl ⟨e, ha, hw⟩ hr
    have hall : ∀ i, i < n → inS listed i = true := by
      intro i
      induction i using Nat.strongRecOn with
      | _ i ih =>
        intro hi
        cases hs : inS listed i with
        | true => rfl
        | false =>
          have hi' : i < ops.size := hn ▸ hi
          have : i ∈ Region.ready .any ops listed := mem_ready.2 ⟨hs, _, Array.getElem?_eq_getElem hi', fun ed he hb => by
            have hl := (hc i _ (Array.getElem?_eq_getElem hi')).low ed he hb
            have h1 := ih ed.on hl (by omega)
            unfold inS at h1
            have h2 : ed.on < listed.size := by omega
            simp [h2] at h1 ⊢; exact h1⟩
          rw [hr] at this; cases this
    have hS : inS listed = fun _ => true := by
      funext i
      by_cases hi : i < n
      · exact hall i hi
      · unfold inS; simp [Array.getElem?_eq_none (show listed.size ≤ i by omega)]
    rw [hS] at ha hw
    exact hend a w e ha hw
  intro fuel
  induction fuel with
  | zero =>
    intro listed a w hf hls hcl hI
    have h0 : Region.ready .any ops listed = [] := by
      cases hr : Region.ready .any ops listed with
      | nil => rfl
      | cons j l =>
        have hj : j ∈ Region.ready .any ops listed := by rw [hr]; exact List.mem_cons_self
        obtain ⟨hjun, oj, hoj, _⟩ := mem_ready.1 hj
        have hjn : j < n := by rw [hn]; exact (Array.getElem?_eq_some_iff.1 hoj).1
        have := unl_set hjn hls hjun
        omega
    exact ⟨h0, hfull listed a w hls hcl hI h0⟩
  | succ fuel ih =>
    intro listed a w hf hls hcl hI
    refine ⟨hfull listed a w hls hcl hI, fun j hj => ?_⟩
    obtain ⟨e, ha, hw⟩ := hI
    obtain ⟨hjun, oj, hoj, hall⟩ := mem_ready.1 hj
    have hjn : j < n := by rw [hn]; exact (Array.getElem?_eq_some_iff.1 hoj).1
    refine core_step hn hsel hc hO hsz hls hcl ha hw hj fun a' w' e' ha' hw' => ?_
    refine ih _ _ _ (by have := unl_set hjn hls hjun; omega) (by simp [hls]) ?_ ⟨e', ha', hw'⟩
    intro k o ho hs ed he hb
    rw [inS_set hjn hls] at hs ⊢
    by_cases hk : k = j
    · subst hk
      rw [hoj] at ho; cases ho
      have h1 := hall ed he hb
      have h2 : inS listed ed.on = true := by
        unfold inS
        rcases Nat.lt_or_ge ed.on listed.size with h' | h'
        · simp [h'] at h1 ⊢; exact h1
        · simp [Array.getElem?_eq_none h']
      rw [h2, Bool.or_true]
    · simp only [hk, decide_false, Bool.false_or] at hs
      rw [hcl k o ho hs ed he hb, Bool.or_true]
end core

/-! ### the walk -/
def putL (a0 : Act) (e : Nat → X) : List (Ent X) → Act
  | [] => a0
  | E :: t => (putL a0 e t).put E.dst (E.V e)
theorem putL_agree {T : Nat → Ent X} {e : Nat → X} : ∀ {t : List (Ent X)}, (∀ i, i < t.length → t.reverse[i]? = some (T i)) → (∀ k, k < t.length → ∀ d, (T k).dst = some d → d < a0.tmps.size) →
    Agree t.length a0 T (fun _ => true) e (putL a0 e t)
  | [], _, _ => ⟨rfl, rfl, fun d => rfl⟩
  | E :: t, hT, hsz => by
    have h1 : ∀ i, i < t.length → t.reverse[i]? = some (T i) := fun i hi => by
      have := hT i (by simp; omega)
      rwa [List.reverse_cons, List.getElem?_append_left (by simpa using hi)] at this
    have h2 := hT t.length (by simp)
    rw [List.reverse_cons, List.getElem?_append_right (by simp)] at h2
    simp at h2
    have ih := putL_agree (e := e) h1 fun k hk => hsz k (by simp; omega)
    have hb : ∀ d, E.dst = some d → d < (putL a0 e t).tmps.size := fun d hd => by rw [ih.size]; exact hsz t.length (by simp) d (h2 ▸ hd)
    refine ⟨?_, ?_, fun d => ?_⟩
    · simp only [putL]; cases E.dst <;> exact ih.defers
    · simp only [putL]; cases E.dst with
      | none => exact ih.size
      | some x => simp only [Act.put, Array.size_setIfInBounds]; exact ih.size
    · simp only [putL, List.length_cons, lkT, true_and]
      rw [Act.getD_put hb, ← h2, ih.get d]
theorem act_ext {a b : Act} (hd : a.defers = b.defers) (hs : a.tmps.size = b.tmps.size) (hg : ∀ d, a.tmps.getD d undef = b.tmps.getD d undef) : a = b := by
  obtain ⟨t, d⟩ := a; obtain ⟨t', d'⟩ := b
  dsimp only at *
  subst hd
  congr 1
  refine Array.ext hs fun i h1 h2 => ?_
  have := hg i
  simpa [h1, h2] using this

structure GW (P : Program) (ops : Array Oper) (w0 : World) (B : List HP) (a0 : Act) (l : List Oper) (tbl : List (Ent X)) (G : Prop) : Prop where
  out : ops.toList.drop tbl.length = l → Good P ops w0 B a0 tbl → G
variable {l : List Oper} {tbl : List (Ent X)} {G : Prop} {o : Oper}
theorem GW.start {l : List Oper} {id : Nat} {Q : Exit → Act → World → Prop} {w : World} (h : GW (X := X) P l.toArray w0 B a0 l [] ((Code.region id l.toArray true).wp P Q a0 w)) : (Code.region id l.toArray true).wp P Q a0 w := h.out rfl trivial
theorem wp_gen {P : Program} {c : Code} {Q : Exit → Act → World → Prop} {a : Act} {w : World} (h : ∀ a0, a0 = a → Code.wp P c Q a0 w) : Code.wp P c Q a w := h a rfl
theorem GW.step (E : Ent X) (h : Obl P ops w0 B a0 tbl o E) (next : GW P ops w0 B a0 l (E :: tbl) G) : GW P ops w0 B a0 (o :: l) tbl G := by
  refine ⟨fun hd hg => next.out ?_ ⟨⟨o, ?_, h⟩, hg⟩⟩
  · rw [List.length_cons, ← List.drop_drop, hd]; rfl
  · have : (ops.toList.drop tbl.length)[0]? = some o := by rw [hd]; rfl
    rw [List.getElem?_drop] at this
    simpa using this
theorem valUpon_mono {K K' : Value → World → Prop} {r : Result Next} (hr : valUpon P K r) (h : ∀ v w', K v w' → K' v w') : valUpon P K' r := by
  cases r with
  | ok n w' =>
    cases n <;> simp only [valUpon] at hr ⊢
    case value u => exact h _ _ hr
    case skip => exact h _ _ hr
    case enter f args => exact hr.mono fun e w'' ⟨v, he, hv⟩ => ⟨v, he, h _ _ hv⟩
    case row row args => exact hr.mono fun v w'' hv => h _ _ hv
  | halt x w' => simp only [valUpon] at hr
/-- its guard says no -/
theorem GW.skip {d : Option Tmp} (hd : d = o.dst) (on : ∀ e, wantE ops a0 tbl e o = false) (next : GW P ops w0 B a0 l (⟨d, fun _ => undef, fun _ => 1, [], [], [], false⟩ :: tbl) G) : GW P ops w0 B a0 (o :: l) tbl G :=
  GW.step _ ⟨hd, on, fun _ _ _ => ⟨rfl, rfl⟩, fun _ => ⟨fun _ => rfl, fun _ => rfl, rfl, rfl⟩, fun h => by cases h⟩ next
/-- it leaves the world alone, and its value is known -/
theorem GW.det {d : Option Tmp} (us ds : List Nat) (hd : d = o.dst) (on : ∀ e, wantE ops a0 tbl e o = true)
    (h : ∃ V : (Nat → X) → Value, (∀ (e : Nat → X) (w : World) (F : HP), Sat w0 w (starL (us.map (item B tbl e)) * F) → valUpon P (fun v w' => w' = w ∧ v = V e) ((execOp (lookE a0 tbl e) o).run P w)) ∧
      (∀ e e' : Nat → X, (∀ i, i ∈ ds → e i = e' i) → V e = V e') ∧ GW P ops w0 B a0 l (⟨d, V, fun _ => 1, ds, us, [], true⟩ :: tbl) G) : GW P ops w0 B a0 (o :: l) tbl G :=
  let ⟨V, run, loc, next⟩ := h
  GW.step _ ⟨hd, on, fun e e' h => ⟨loc e e' h, rfl⟩, (fun h => by cases h), fun _ e w F K hw hK => valUpon_mono (run e w _ hw) fun v w' ⟨h1, h2⟩ => by
    have := hK (e tbl.length) w (hw.cast (by simp [starL]))
    rw [upd_id] at this
    subst h1 h2; exact this⟩ next
/-- it keeps what it uses, and its value is known -/
theorem GW.keep {d : Option Tmp} (V : (Nat → X) → Value) (us ds : List Nat) (hd : d = o.dst) (on : ∀ e, wantE ops a0 tbl e o = true)
    (loc : ∀ e e' : Nat → X, (∀ i, i ∈ ds → e i = e' i) → V e = V e')
    (run : ∀ (e : Nat → X) (w : World) (F : HP) (K : Value → World → Prop), Sat w0 w (starL (us.map (item B tbl e)) * F) → (∀ w', Sat w0 w' (starL (us.map (item B tbl e)) * F) → K (V e) w') → valUpon P K ((execOp (lookE a0 tbl e) o).run P w))
    (next : GW P ops w0 B a0 l (⟨d, V, fun _ => 1, ds, us, [], true⟩ :: tbl) G) : GW P ops w0 B a0 (o :: l) tbl G :=
  GW.step _ ⟨hd, on, fun e e' h => ⟨loc e e' h, rfl⟩, (fun h => by cases h), fun _ e w F K hw hK => run e w F K (hw.cast (by simp [starL, one_mul])) fun w' hw' => by
    have := hK (e tbl.length) w' (hw'.cast (by simp [one_mul]))
    rwa [upd_id] at this⟩ next
/-- it brings something new: a letter of its own -/
theorem GW.new {d : Option Tmp} (k : Nat) (V : X → Value) (R : X → HP) (us : List Nat) (hk : k = tbl.length) (hd : d = o.dst) (on : ∀ e, wantE ops a0 tbl e o = true)
    (run : ∀ (e : Nat → X) (w : World) (F : HP) (K : Value → World → Prop), Sat w0 w (starL (us.map (item B tbl e)) * F) → (∀ x w', Sat w0 w' (starL (us.map (item B tbl e)) * (R x * F)) → K (V x) w') → valUpon P K ((execOp (lookE a0 tbl e) o).run P w))
    (next : GW P ops w0 B a0 l (⟨d, fun e => V (e k), fun e => R (e k), [k], us, [], true⟩ :: tbl) G) : GW P ops w0 B a0 (o :: l) tbl G := by
  subst hk
  refine GW.step _ ⟨hd, on, fun e e' h => ?_, (fun h => by cases h), fun _ e w F K hw hK => run e w F K (hw.cast (by simp [starL, one_mul])) fun x w' hw' => ?_⟩ next
  · dsimp only; rw [h _ List.mem_cons_self]; exact ⟨rfl, rfl⟩
  · have := hK x w' (by dsimp only; rw [upd_self]; exact hw')
    dsimp only at this
    rwa [upd_self] at this
/-- it takes items and brings one -/
theorem GW.take {d : Option Tmp} (k : Nat) (V : (Nat → X) → Value) (R : (Nat → X) → HP) (us cs ds : List Nat) (hk : k = tbl.length) (hd : d = o.dst) (on : ∀ e, wantE ops a0 tbl e o = true)
    (loc : ∀ e e' : Nat → X, (∀ i, i ∈ ds → e i = e' i) → V e = V e' ∧ R e = R e')
    (run : ∀ (e : Nat → X) (w : World) (F : HP) (K : Value → World → Prop), Sat w0 w (starL (us.map (item B tbl e)) * (starL (cs.map (item B tbl e)) * F)) → (∀ x w', Sat w0 w' (starL (us.map (item B tbl e)) * (R (upd e k x) * F)) → K (V (upd e k x)) w') → valUpon P K ((execOp (lookE a0 tbl e) o).run P w))
    (next : GW P ops w0 B a0 l (⟨d, V, R, ds, us, cs, true⟩ :: tbl) G) : GW P ops w0 B a0 (o :: l) tbl G := by
  subst hk
  exact GW.step _ ⟨hd, on, loc, (fun h => by cases h), fun _ => run⟩ next

/-- the end: what is left of the items that are named -/
theorem GW.done [Inhabited X] {id : Nat} {Q : Exit → Act → World → Prop} {w : World} {sz : Nat} (fin : List Nat) (hm : P.follows .mixedOrders = true)
    (hchk : chkGrow ops B.length (tbl.reverse.map fun E => (E.ds, E.us, E.cs)) (masks ops) = true)
    (hs : a0.tmps.size = sz) (hsz : (tbl.all fun E => match E.dst with | some d => decide (d < sz) | none => true) = true)
    (h0 : Sat w0 w (starL B)) (hfin : (decide fin.Nodup && fin.all fun i => decide (i < B.length + tbl.length) && tbl.all fun E => !E.cs.contains i) = true)
    (hend : ∀ (e : Nat → X) (w' : World), Sat w0 w' (starL (fin.map (item B tbl e))) → Q .normal (putL a0 e tbl) w') : GW P ops w0 B a0 [] tbl ((Code.region id ops true).wp P Q a0 w) := by
  refine ⟨fun hd hg => ?_⟩
  obtain ⟨T, hT⟩ : ∃ T : Nat → Ent X, ∀ i, i < tbl.length → tbl.reverse[i]? = some (T i) :=
    ⟨fun i => (tbl.reverse[i]?).getD ⟨none, fun _ => undef, fun _ => 1, [], [], [], true⟩, fun i hi => by
      have : i < tbl.reverse.length := by simpa using hi
      simp [List.getElem?_eq_getElem this]⟩
  have hO := good_at hT hg
  have hlen : tbl.length = ops.size := by
    have h1 : ops.size ≤ tbl.length := by simpa using hd
    rcases Nat.lt_or_ge ops.size tbl.length with h | h
    · obtain ⟨o, t, ho, _⟩ := hO ops.size h
      simp at ho
    · omega
  obtain ⟨hsel, hc⟩ := chk_spec (T := T) (tb := tbl.reverse.map fun E => (E.ds, E.us, E.cs)) (fun i hi => by rw [List.getElem?_map, hT i (by omega)]; rfl) hchk
  have hmem : ∀ k, k < tbl.length → T k ∈ tbl := fun k hk => List.mem_reverse.1 (List.mem_of_getElem? (hT k hk))
  have hsz' : ∀ k, k < tbl.length → ∀ d, (T k).dst = some d → d < a0.tmps.size := fun k hk d hd => by
    have := List.all_eq_true.1 hsz _ (hmem k hk)
    rw [hd] at this
    rw [hs]; simpa using this
  refine wp_region_any hm ?_
  refine core_any (n := tbl.length) (T := T) (B := B) hlen hsel hc hO hsz' ?_ ops.size _ a0 _ ?_ (by simp [hlen]) ?_ ?_
  · intro a w e ha hw
    have hag := putL_agree (e := e) hT hsz'
    have : a = putL a0 e tbl := act_ext (ha.defers.trans hag.defers.symm) (ha.size.trans hag.size.symm) fun d => (ha.get d).trans (hag.get d).symm
    subst this
    refine hend e w ?_
    rw [Bool.and_eq_true] at hfin
    have hnd : fin.Nodup := by simpa using hfin.1
    have hf : ∀ i, i ∈ fin → i < B.length + tbl.length ∧ ∀ E, E ∈ tbl → i ∉ E.cs := fun i hi => by
      have := List.all_eq_true.1 hfin.2 i hi
      simp only [Bool.and_eq_true, decide_eq_true_eq] at this
      exact ⟨this.1, fun E hE => by simpa using List.all_eq_true.1 this.2 E hE⟩
    have e1 : fin.map (item B tbl e) = fin.map (itemT B T e) := List.map_congr_left fun i hi => item_T hT (hf i hi).1
    rw [e1, starL_big _ (B.length + tbl.length) _ hnd fun i hi => (hf i hi).1]
    classical
    have e2 : resS tbl.length B T (fun _ => true) e = (bigS (B.length + tbl.length) fun i => if i ∈ fin then itemT B T e i else 1) * bigS (B.length + tbl.length) fun i => if i ∉ fin ∧ aliveS tbl.length B.length T (fun _ => true) i then itemT B T e i else 1 := by
      rw [← bigS_mul]
      unfold resS
      refine bigS_congr fun i hi => ?_
      by_cases h : i ∈ fin
      · have hal : aliveS tbl.length B.length T (fun _ => true) i := ⟨.inr rfl, fun j hj _ => (hf i h).2 _ (hmem j hj)⟩
        rw [if_pos hal, if_pos h, if_neg (fun c => c.1 h), mul_one]
      · rw [if_neg h, one_mul]
        by_cases hal : aliveS tbl.length B.length T (fun _ => true) i
        · rw [if_pos hal, if_pos ⟨h, hal⟩]
        · rw [if_neg hal, if_neg (fun c => hal c.2)]
    exact (hw.cast e2).drop_r
  · unfold unl
    refine Nat.le_trans List.countP_le_length (by simp [hlen])
  · intro k o ho hs' ed he hb
    have hk : k < ops.size := (Array.getElem?_eq_some_iff.1 ho).1
    unfold inS at hs'
    simp [hk] at hs'
  · refine ⟨fun _ => default, ⟨rfl, rfl, fun d => ?_⟩, ?_⟩
    · have h1 : lkT T (inS (Array.replicate ops.size false)) (fun _ => default) d (base a0 d) tbl.length = lkT T (fun _ => false) (fun _ => default) d (base a0 d) tbl.length := lkT_congr fun i hi _ => ⟨by unfold inS; simp [show i < ops.size by omega], fun h => by unfold inS at h; simp [show i < ops.size by omega] at h⟩
      have h2 : ∀ n, lkT T (fun _ => false) (fun _ => default) d (base a0 d) n = base a0 d := fun n => by
        induction n with
        | zero => rfl
        | succ n ih => simp only [lkT, Bool.false_eq_true, false_and, if_false]; exact ih
      rw [h1, h2]; rfl
    · have e0 : starL B = starL ((List.range B.length).map fun i => B.getD i 1) := by
        congr 1
        apply List.ext_getElem
        · simp
        · intro i h1 h2; simp [h1]
      have h0' : Sat w0 { w with drawn := w.drawn + 1 } (starL B) := h0
      rw [e0, starL_big _ (B.length + tbl.length) _ List.nodup_range fun i hi => by have := List.mem_range.1 hi; omega] at h0'
      refine h0'.cast ?_
      unfold resS
      refine bigS_congr fun i hi => ?_
      by_cases hb : i < B.length
      · have hal : aliveS tbl.length B.length T (inS (Array.replicate ops.size false)) i := ⟨.inl hb, fun j hj hs' => by unfold inS at hs'; simp [show j < ops.size by omega] at hs'⟩
        rw [if_pos (List.mem_range.2 hb), if_pos hal]
        unfold itemT; rw [if_pos hb]
      · have hal : ¬ aliveS tbl.length B.length T (inS (Array.replicate ops.size false)) i := fun c => by
          rcases c.1 with c1 | c1
          · exact hb c1
          · unfold inS at c1; simp [show i - B.length < ops.size by omega] at c1
        rw [if_neg (fun c => hb (List.mem_range.1 c)), if_neg hal]
end
end Go.Proofs.Ytmngkodejlhalaa.Tw
