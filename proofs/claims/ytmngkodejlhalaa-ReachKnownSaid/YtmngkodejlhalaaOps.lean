/- The operations on maps and slices, as the walk meets them. No condition. -/
import Derived.Test.YtmngkodejlhalaaMem
namespace Go.Proofs.Ytmngkodejlhalaa.Tw
set_option linter.unusedVariables false
set_option linter.unusedSimpArgs false
open Go Go.RowKit Go.MapKept

def ival (n : Int) : Value := .int .i64 n

section
variable {P : Program} {w0 w : World} {F : HP} {ops : Array Oper} {rest : List Oper} {o : Oper} {a : Act} {Q : Exit → Act → World → Prop} {K : Act → World → Prop}
variable {κ : Type} [DecidableEq κ] {d : TypeDesc} {kv : κ → Value}

theorem wp_mapUpdate (m x v : Operand) (t : TypeId) (hop : o.op = Op.mapUpdate t m x v) {kt et : TypeId} (Kd : Keys d kv) (ht : P.underlying t = some (.map kt et)) (hd : P.underlying kt = some d)
    (b : Nat) (L : List (κ × Value)) (hm : a.eval m = .map (some b)) (h : Sat w0 w (mapR d kv b L * F)) (k : κ) (hx : a.eval x = kv k) (val : Value) (hv : a.eval v = val)
    (hK : ∀ w', Sat w0 w' (mapR d kv b (mset L k val) * F) → K (a.put o.dst undef) w') : o.wp P a w K Q := by
  obtain ⟨w', hr, hs⟩ := run_mapUpdate (v := val) Kd h ht hd k
  unfold Oper.wp
  simp [execOp, hop, hm, hx, hv, hr, Result.andThen]
  exact hK w' hs
theorem wpList_mapUpdate (hg : o.guard = none) (m x v : Operand) (t : TypeId) (hop : o.op = Op.mapUpdate t m x v) {kt et : TypeId} (Kd : Keys d kv) (ht : P.underlying t = some (.map kt et)) (hd : P.underlying kt = some d)
    (b : Nat) (L : List (κ × Value)) (hm : a.eval m = .map (some b)) (h : Sat w0 w (mapR d kv b L * F)) (k : κ) (hx : a.eval x = kv k) (val : Value) (hv : a.eval v = val)
    (hK : ∀ w', Sat w0 w' (mapR d kv b (mset L k val) * F) → wpList P ops Q rest (a.put o.dst undef) w') : wpList P ops Q (o :: rest) a w :=
  wpList_plain hg fun _ hK' => wp_mapUpdate m x v t hop Kd ht hd b L hm h k hx val hv fun w' hs => hK' _ _ (hK w' hs)

theorem wp_delete (m x : Operand) (t kt : TypeId) (hop : o.op = .call { callee := .builtin .delete, args := #[m, x], argTypes := #[t, kt] }) {et : TypeId} (Kd : Keys d kv) (ht : P.underlying t = some (.map kt et)) (hd : P.underlying kt = some d)
    (b : Nat) (L : List (κ × Value)) (hm : a.eval m = .map (some b)) (h : Sat w0 w (mapR d kv b L * F)) (k : κ) (hx : a.eval x = kv k)
    (hK : ∀ w', Sat w0 w' (mapR d kv b (mdel L k) * F) → K (a.put o.dst (.tuple #[])) w') : o.wp P a w K Q := by
  obtain ⟨w', hr, hs⟩ := run_delete Kd h ht hd k o.type
  unfold Oper.wp
  simp only [execOp, hop, resolve, invoke, builtin, Sem.run_bind, Sem.run_pure, Result.andThen_ok, List.map_toArray, List.map_cons, List.map_nil, hm, hx, hr]
  exact hK w' hs
theorem wpList_delete (hg : o.guard = none) (m x : Operand) (t kt : TypeId) (hop : o.op = .call { callee := .builtin .delete, args := #[m, x], argTypes := #[t, kt] }) {et : TypeId} (Kd : Keys d kv) (ht : P.underlying t = some (.map kt et)) (hd : P.underlying kt = some d)
    (b : Nat) (L : List (κ × Value)) (hm : a.eval m = .map (some b)) (h : Sat w0 w (mapR d kv b L * F)) (k : κ) (hx : a.eval x = kv k)
    (hK : ∀ w', Sat w0 w' (mapR d kv b (mdel L k) * F) → wpList P ops Q rest (a.put o.dst (.tuple #[])) w') : wpList P ops Q (o :: rest) a w :=
  wpList_plain hg fun _ hK' => wp_delete m x t kt hop Kd ht hd b L hm h k hx fun w' hs => hK' _ _ (hK w' hs)
end

section
variable {P : Program} {w0 w : World} {F : HP} {ops : Array Oper} {rest : List Oper} {o : Oper} {a : Act} {Q : Exit → Act → World → Prop} {K : Act → World → Prop}

theorem wp_append (s x : Operand) (t : TypeId) (hop : o.op = .call { callee := .builtin .append, args := #[s, x], argTypes := #[t, t] })
    {T : TypeId} {sz : Nat} (i : TypeInfo) (z : Value) (by_ : Nat) (ht : P.underlying t = some (.slice T)) (hi : P.info? T = some i) (hz : i.zero = some z) (hsize : i.size = sz) (hby : i.bytes = by_) (hzs : z.cells.size = sz)
    (sa : Option Addr) (n c : Nat) (xs : List Value) (hs : a.eval s = .slice sa n c) (h : Sat w0 w (slc T sz sa n c xs * F)) (ad : Addr) (m c' : Nat) (news : List Value) (hx : a.eval x = .slice (some ad) m c')
    (hl : news.length = m * sz) (hnews : ∀ j u, news[j]? = some u → w.cell? (ad.add j) = some u) (h1 : ∀ u ∈ news, u.oneCell' = true) (h63 : n + m ≤ maxLen) (hbytes : (n + m) * by_ ≤ 140737488355328)
    (hK : ∀ a' c'' w', Sat w0 w' (slc T sz a' (n + m) c'' (xs ++ news) * F) → (a' = none → sa = none ∧ m = 0) → K (a.put o.dst (.slice a' (n + m) c'')) w') : o.wp P a w K Q := by
  obtain ⟨a', c'', w', hr, h2, h3⟩ := run_append_sep t o.type i z by_ ht hi hz hsize hby hzs h ad m c' news hl hnews h1 h63 hbytes
  unfold Oper.wp execOp
  simp only [hop, resolve, invoke, builtin, Sem.run_bind, Sem.run_pure, Result.andThen_ok, List.map_toArray, List.map_cons, List.map_nil, hs, hx, hr]
  exact hK a' c'' w' h2 h3
theorem wpList_append (hg : o.guard = none) (s x : Operand) (t : TypeId) (hop : o.op = .call { callee := .builtin .append, args := #[s, x], argTypes := #[t, t] })
    {T : TypeId} {sz : Nat} (i : TypeInfo) (z : Value) (by_ : Nat) (ht : P.underlying t = some (.slice T)) (hi : P.info? T = some i) (hz : i.zero = some z) (hsize : i.size = sz) (hby : i.bytes = by_) (hzs : z.cells.size = sz)
    (sa : Option Addr) (n c : Nat) (xs : List Value) (hs : a.eval s = .slice sa n c) (h : Sat w0 w (slc T sz sa n c xs * F)) (ad : Addr) (m c' : Nat) (news : List Value) (hx : a.eval x = .slice (some ad) m c')
    (hl : news.length = m * sz) (hnews : ∀ j u, news[j]? = some u → w.cell? (ad.add j) = some u) (h1 : ∀ u ∈ news, u.oneCell' = true) (h63 : n + m ≤ maxLen) (hbytes : (n + m) * by_ ≤ 140737488355328)
    (hK : ∀ a' c'' w', Sat w0 w' (slc T sz a' (n + m) c'' (xs ++ news) * F) → (a' = none → sa = none ∧ m = 0) → wpList P ops Q rest (a.put o.dst (.slice a' (n + m) c'')) w') : wpList P ops Q (o :: rest) a w :=
  wpList_plain hg fun _ hK' => wp_append s x t hop i z by_ ht hi hz hsize hby hzs sa n c xs hs h ad m c' news hx hl hnews h1 h63 hbytes fun a' c'' w' h2 h3 => hK' _ _ (hK a' c'' w' h2 h3)
/-- append of whatever slice, nil or not -/
theorem wp_append_any (s x : Operand) (t : TypeId) (hop : o.op = .call { callee := .builtin .append, args := #[s, x], argTypes := #[t, t] })
    {T : TypeId} {sz : Nat} (i : TypeInfo) (z : Value) (by_ : Nat) (ht : P.underlying t = some (.slice T)) (hi : P.info? T = some i) (hz : i.zero = some z) (hsize : i.size = sz) (hby : i.bytes = by_) (hzs : z.cells.size = sz)
    (sa : Option Addr) (n c : Nat) (xs : List Value) (hs : a.eval s = .slice sa n c) (h : Sat w0 w (slc T sz sa n c xs * F)) (xa : Option Addr) (m c' : Nat) (news : List Value) (hx : a.eval x = .slice xa m c')
    (hl : news.length = m * sz) (hsrc : (∀ ad, xa = some ad → ∀ j u, news[j]? = some u → w.cell? (ad.add j) = some u) ∧ (xa = none → m = 0 ∧ c' = 0)) (h1 : ∀ u ∈ news, u.oneCell' = true) (h63 : n + m ≤ maxLen) (hbytes : (n + m) * by_ ≤ 140737488355328)
    (hK : ∀ a' c'' w', Sat w0 w' (slc T sz a' (n + m) c'' (xs ++ news) * F) → (a' = none → sa = none ∧ m = 0) → K (a.put o.dst (.slice a' (n + m) c'')) w') : o.wp P a w K Q := by
  cases xa with
  | some ad => exact wp_append s x t hop i z by_ ht hi hz hsize hby hzs sa n c xs hs h ad m c' news hx hl (hsrc.1 ad rfl) h1 h63 hbytes hK
  | none =>
    obtain ⟨rfl, rfl⟩ := hsrc.2 rfl
    have hn : news = [] := List.eq_nil_of_length_eq_zero (by simpa using hl)
    subst hn
    have hr := run_append_sep_nil (P := P) (w := w) (a := sa) t o.type i ht hi h.slcCap.1
    unfold Oper.wp execOp
    simp only [hop, resolve, invoke, builtin, Sem.run_bind, Sem.run_pure, Result.andThen_ok, List.map_toArray, List.map_cons, List.map_nil, hs, hx, hr]
    exact hK sa c w (by rw [Nat.add_zero, List.append_nil]; exact h) fun e => ⟨e, rfl⟩
theorem wpList_append_any (hg : o.guard = none) (s x : Operand) (t : TypeId) (hop : o.op = .call { callee := .builtin .append, args := #[s, x], argTypes := #[t, t] })
    {T : TypeId} {sz : Nat} (i : TypeInfo) (z : Value) (by_ : Nat) (ht : P.underlying t = some (.slice T)) (hi : P.info? T = some i) (hz : i.zero = some z) (hsize : i.size = sz) (hby : i.bytes = by_) (hzs : z.cells.size = sz)
    (sa : Option Addr) (n c : Nat) (xs : List Value) (hs : a.eval s = .slice sa n c) (h : Sat w0 w (slc T sz sa n c xs * F)) (xa : Option Addr) (m c' : Nat) (news : List Value) (hx : a.eval x = .slice xa m c')
    (hl : news.length = m * sz) (hsrc : (∀ ad, xa = some ad → ∀ j u, news[j]? = some u → w.cell? (ad.add j) = some u) ∧ (xa = none → m = 0 ∧ c' = 0)) (h1 : ∀ u ∈ news, u.oneCell' = true) (h63 : n + m ≤ maxLen) (hbytes : (n + m) * by_ ≤ 140737488355328)
    (hK : ∀ a' c'' w', Sat w0 w' (slc T sz a' (n + m) c'' (xs ++ news) * F) → (a' = none → sa = none ∧ m = 0) → wpList P ops Q rest (a.put o.dst (.slice a' (n + m) c'')) w') : wpList P ops Q (o :: rest) a w :=
  wpList_plain hg fun _ hK' => wp_append_any s x t hop i z by_ ht hi hz hsize hby hzs sa n c xs hs h xa m c' news hx hl hsrc h1 h63 hbytes fun a' c'' w' h2 h3 => hK' _ _ (hK a' c'' w' h2 h3)
/-- a law at one step of a region that draws its order -/
theorem step_of {E : Prop} (hg : o.guard = none) (h : o.wp P a w K Q) : if Region.wanted o (yielded ops a.tmps) = true then Oper.wp P o a w K Q else E := by
  rw [if_pos (by simp [Region.wanted, hg])]; exact h
end
end Go.Proofs.Ytmngkodejlhalaa.Tw
