/- The operations on maps and slices, as the walk meets them. No condition. -/
import Derived.Test.YtmngkodejlhalaaZRPaths2
namespace Go.Proofs.Ytmngkodejlhalaa.Tw
set_option linter.unusedVariables false
set_option linter.unusedSimpArgs false
open Go Go.RowKit Go.MapKept

def ival (n : Int) : Value := .int .i64 n

section
variable {P : Program} {w0 w : World} {F : HP} {ops : Array Oper} {rest : List Oper} {o : Oper} {a : Act} {Q : Exit → Act → World → Prop} {K : Act → World → Prop}
variable {κ : Type} [DecidableEq κ] {d : TypeDesc} {kv : κ → Value}

theorem wp_mapUpdate (m x v : Operand) (t : TypeId) (hop : o.op = Op.mapUpdate t m x v) {kt et : TypeId} (Kd : Keys d kv) (ht : P.underlying t = some (.map kt et)) (hd : P.underlying kt = some d)
    (b : Nat) (L : List (κ × Value)) (hm : a.eval m = .map (some b)) (h : Sat w0 w (mapR d kv b L * F)) (k : κ) (hx : a.eval x = kv k) (val : Value) (hv : a.eval v = val)
    (hK : ∀ w', Sat w0 w' (mapR d kv b (mset L k val) * F) → K (a.put o.dst undef) w') : o.wp P a w K Q := by
  obtain ⟨w', hr, hs⟩ := run_mapUpdate (v := val) Kd h ht hd k
  unfold Oper.wp
  simp [execOp, hop, hm, hx, hv, hr, Result.andThen]
  exact hK w' hs
theorem wpList_mapUpdate (hg : o.guard = none) (m x v : Operand) (t : TypeId) (hop : o.op = Op.mapUpdate t m x v) {kt et : TypeId} (Kd : Keys d kv) (ht : P.underlying t = some (.map kt et)) (hd : P.underlying kt = some d)
    (b : Nat) (L : List (κ × Value)) (hm : a.eval m = .map (some b)) (h : Sat w0 w (mapR d kv b L * F)) (k : κ) (hx : a.eval x = kv k) (val : Value) (hv : a.eval v = val)
    (hK : ∀ w', Sat w0 w' (mapR d kv b (mset L k val) * F) → wpList P ops Q rest (a.put o.dst undef) w') : wpList P ops Q (o :: rest) a w :=
  wpList_plain hg fun _ hK' => wp_mapUpdate m x v t hop Kd ht hd b L hm h k hx val hv fun w' hs => hK' _ _ (hK w' hs)

theorem wp_delete (m x : Operand) (t kt : TypeId) (hop : o.op = .call { callee := .builtin .delete, args := #[m, x], argTypes := #[t, kt] }) {et : TypeId} (Kd : Keys d kv) (ht : P.underlying t = some (.map kt et)) (hd : P.underlying kt = some d)
    (b : Nat) (L : List (κ × Value)) (hm : a.eval m = .map (some b)) (h : Sat w0 w (mapR d kv b L * F)) (k : κ) (hx : a.eval x = kv k)
    (hK : ∀ w', Sat w0 w' (mapR d kv b (mdel L k) * F) → K (a.put o.dst (.tuple #[])) w') : o.wp P a w K Q := by
  obtain ⟨w', hr, hs⟩ := run_delete Kd h ht hd k o.type
  unfold Oper.wp
  simp only [execOp, hop, resolve, invoke, builtin, Sem.run_bind, Sem.run_pure, Result.andThen_ok, List.map_toArray, List.map_cons, List.map_nil, hm, hx, hr]
  exact hK w' hs
theorem wpList_delete (hg : o.guard = none) (m x : Operand) (t kt : TypeId) (hop : o.op = .call { callee := .builtin .delete, args := #[m, x], argTypes := #[t, kt] }) {et : TypeId} (Kd : Keys d kv) (ht : P.underlying t = some (.map kt et)) (hd : P.underlying kt = some d)
    (b : Nat) (L : List (κ × Value)) (hm : a.eval m = .map (some b)) (h : Sat w0 w (mapR d kv b L * F)) (k : κ) (hx : a.eval x = kv k)
    (hK : ∀ w', Sat w0 w' (mapR d kv b (mdel L k) * F) → wpList P ops Q rest (a.put o.dst (.tuple #[])) w') : wpList P ops Q (o :: rest) a w :=
  wpList_plain hg fun _ hK' => wp_delete m x t kt hop Kd ht hd b L hm h k hx fun w' hs => hK' _ _ (hK w' hs)
end

section
variable {P : Program} {w0 w : World} {F : HP} {ops : Array Oper} {rest : List Oper} {o : Oper} {a : Act} {Q : Exit → Act → World → Prop} {K : Act → World → Prop}

theorem wp_append (s x : Operand) (t : TypeId) (hop : o.op = .call { callee := .builtin .append, args := #[s, x], argTypes := #[t, t] })
    {T : TypeId} {sz : Nat} (i : TypeInfo) (z : Value) (by_ : Nat) (ht : P.underlying t = some (.slice T)) (hi : P.info? T = some i) (hz : i.zero = some z) (hsize : i.size = sz) (hby : i.bytes = by_) (hzs : z.cells.size = sz)
    (sa : Option Addr) (n c : Nat) (xs : List Value) (hs : a.eval s = .slice sa n c) (h : Sat w0 w (slc T sz sa n c xs * F)) (ad : Addr) (m c' : Nat) (news : List Value) (hx : a.eval x = .slice (some ad) m c')
    (hl : news.length = m * sz) (hnews : ∀ j u, news[j]? = some u → w.cell? (ad.add j) = some u) (h1 : ∀ u ∈ news, u.oneCell' = true) (h63 : n + m ≤ maxLen) (hbytes : (n + m) * by_ ≤ 140737488355328)
    (hK : ∀ a' c'' w', Sat w0 w' (slc T sz a' (n + m) c'' (xs ++ news) * F) → (a' = none → sa = none ∧ m = 0) → K (a.put o.dst (.slice a' (n + m) c'')) w') : o.wp P a w K Q := by
  obtain ⟨a', c'', w', hr, h2, h3⟩ := run_append_sep t o.type i z by_ ht hi hz hsize hby hzs h ad m c' news hl hnews h1 h63 hbytes
  unfold Oper.wp execOp
  simp only [hop, resolve, invoke, builtin, Sem.run_bind, Sem.run_pure, Result.andThen_ok, List.map_toArray, List.map_cons, List.map_nil, hs, hx, hr]
  exact hK a' c'' w' h2 h3
theorem wpList_append (hg : o.guard = none) (s x : Operand) (t : TypeId) (hop : o.op = .call { callee := .builtin .append, args := #[s, x], argTypes := #[t, t] })
    {T : TypeId} {sz : Nat} (i : TypeInfo) (z : Value) (by_ : Nat) (ht : P.underlying t = some (.slice T)) (hi : P.info? T = some i) (hz : i.zero = some z) (hsize : i.size = sz) (hby : i.bytes = by_) (hzs : z.cells.size = sz)
    (sa : Option Addr) (n c : Nat) (xs : List Value) (hs : a.eval s = .slice sa n c) (h : Sat w0 w (slc T sz sa n c xs * F)) (ad : Addr) (m c' : Nat) (news : List Value) (hx : a.eval x = .slice (some ad) m c')
    (hl : news.length = m * sz) (hnews : ∀ j u, news[j]? = some u → w.cell? (ad.add j) = some u) (h1 : ∀ u ∈ news, u.oneCell' = true) (h63 : n + m ≤ maxLen) (hbytes : (n + m) * by_ ≤ 140737488355328)
    (hK : ∀ a' c'' w', Sat w0 w' (slc T sz a' (n + m) c'' (xs ++ news) * F) → (a' = none → sa = none ∧ m = 0) → wpList P ops Q rest (a.put o.dst (.slice a' (n + m) c'')) w') : wpList P ops Q (o :: rest) a w :=
  wpList_plain hg fun _ hK' => wp_append s x t hop i z by_ ht hi hz hsize hby hzs sa n c xs hs h ad m c' news hx hl hnews h1 h63 hbytes fun a' c'' w' h2 h3 => hK' _ _ (hK a' c'' w' h2 h3)
/-- append of whatever slice, nil or not -/
theorem wp_append_any (s x : Operand) (t : TypeId) (hop : o.op = .call { callee := .builtin .append, args := #[s, x], argTypes := #[t, t] })
    {T : TypeId} {sz : Nat} (i : TypeInfo) (z : Value) (by_ : Nat) (ht : P.underlying t = some (.slice T)) (hi : P.info? T = some i) (hz : i.zero = some z) (hsize : i.size = sz) (hby : i.bytes = by_) (hzs : z.cells.size = sz)
    (sa : Option Addr) (n c : Nat) (xs : List Value) (hs : a.eval s = .slice sa n c) (h : Sat w0 w (slc T sz sa n c xs * F)) (xa : Option Addr) (m c' : Nat) (news : List Value) (hx : a.eval x = .slice xa m c')
    (hl : news.length = m * sz) (hsrc : (∀ ad, xa = some ad → ∀ j u, news[j]? = some u → w.cell? (ad.add j) = some u) ∧ (xa = none → m = 0 ∧ c' = 0)) (h1 : ∀ u ∈ news, u.oneCell' = true) (h63 : n + m ≤ maxLen) (hbytes : (n + m) * by_ ≤ 140737488355328)
    (hK : ∀ a' c'' w', Sat w0 w' (slc T sz a' (n + m) c'' (xs ++ news) * F) → (a' = none → sa = none ∧ m = 0) → K (a.put o.dst (.slice a' (n + m) c'')) w') : o.wp P a w K Q := by
  cases xa with
  | some ad => exact wp_append s x t hop i z by_ ht hi hz hsize hby hzs sa n c xs hs h ad m c' news hx hl (hsrc.1 ad rfl) h1 h63 hbytes hK
  | none =>
    obtain ⟨rfl, rfl⟩ := hsrc.2 rfl
    have hn : news = [] := List.eq_nil_of_length_eq_zero (by simpa using hl)
    subst hn
    have hr := run_append_sep_nil (P := P) (w := w) (a := sa) t o.type i ht hi h.slcCap.1
    unfold Oper.wp execOp
    simp only [hop, resolve, invoke, builtin, Sem.run_bind, Sem.run_pure, Result.andThen_ok, List.map_toArray, List.map_cons, List.map_nil, hs, hx, hr]
    exact hK sa c w (by rw [Nat.add_zero, List.append_nil]; exact h) fun e => ⟨e, rfl⟩
theorem wpList_append_any (hg : o.guard = none) (s x : Operand) (t : TypeId) (hop : o.op = .call { callee := .builtin .append, args := #[s, x], argTypes := #[t, t] })
    {T : TypeId} {sz : Nat} (i : TypeInfo) (z : Value) (by_ : Nat) (ht : P.underlying t = some (.slice T)) (hi : P.info? T = some i) (hz : i.zero = some z) (hsize : i.size = sz) (hby : i.bytes = by_) (hzs : z.cells.size = sz)
    (sa : Option Addr) (n c : Nat) (xs : List Value) (hs : a.eval s = .slice sa n c) (h : Sat w0 w (slc T sz sa n c xs * F)) (xa : Option Addr) (m c' : Nat) (news : List Value) (hx : a.eval x = .slice xa m c')
    (hl : news.length = m * sz) (hsrc : (∀ ad, xa = some ad → ∀ j u, news[j]? = some u → w.cell? (ad.add j) = some u) ∧ (xa = none → m = 0 ∧ c' = 0)) (h1 : ∀ u ∈ news, u.oneCell' = true) (h63 : n + m ≤ maxLen) (hbytes : (n + m) * by_ ≤ 140737488355328)
    (hK : ∀ a' c'' w', Sat w0 w' (slc T sz a' (n + m) c'' (xs ++ news) * F) → (a' = none → sa = none ∧ m = 0) → wpList P ops Q rest (a.put o.dst (.slice a' (n + m) c'')) w') : wpList P ops Q (o :: rest) a w :=
  wpList_plain hg fun _ hK' => wp_append_any s x t hop i z by_ ht hi hz hsize hby hzs sa n c xs hs h xa m c' news hx hl hsrc h1 h63 hbytes fun a' c'' w' h2 h3 => hK' _ _ (hK a' c'' w' h2 h3)
/-- a law at one step of a region that draws its order -/
theorem step_of {E : Prop} (hg : o.guard = none) (h : o.wp P a w K Q) : if Region.wanted o (yielded ops a.tmps) = true then Oper.wp P o a w K Q else E := by
  rw [if_pos (by simp [Region.wanted, hg])]; exact h
end
end Go.Proofs.Ytmngkodejlhalaa.Tw
namespace Go.Proofs.Ytmngkodejlhalaa.Tw
set_option linter.unusedVariables false
set_option linter.unusedSimpArgs false
open Go Go.RowKit Go.MapKept

/-- a value of the program -/
structure AVal where
  kind : Int
  n : Int
  deriving DecidableEq
def AVal.v (x : AVal) : Value := .agg #[.int .i64 x.kind, .int .i64 x.n]
def AVal.cells (x : AVal) : List Value := [.int .i64 x.kind, .int .i64 x.n]
def within (x : AVal) (lo hi : Int) : Bool := decide (lo ≤ x.n) && decide (x.n ≤ hi)
def mayV (x : AVal) : Bool :=
  if x.kind = 0 ∨ x.kind = 1 then within x 0 0 else if x.kind = 2 then within x 0 1 else if x.kind = 3 then true else if x.kind = 4 then within x 0 12
  else decide (5 ≤ x.kind) && decide (x.kind ≤ 9) && within x 1 2147483647
def refV (x : AVal) : Bool := decide (5 ≤ x.kind) && mayV x

theorem may_in {w0 w : World} {F : HP} (b : Nat) (k n lo hi : Int) (c1 : w.cell? ⟨b, 1, none⟩ = some (.int .i64 n)) (h : Sat w0 w F) :
    Calls Try.prog 108 #[.int .i64 lo, .int .i64 hi, .pointer (some ⟨b, 0, none⟩)] w fun e w' => e = .returned (.bool (decide (lo ≤ n) && decide (n ≤ hi))) ∧ w = w' := by
  by_cases h1 : lo ≤ n
  · by_cases h2 : n ≤ hi
    · go_enter Try.func108, Try.ntmps108
      go_wp2
      go_ret
      exact ⟨by simp [h1, h2], rfl⟩
    · go_enter Try.func108, Try.ntmps108
      go_wp2
      go_ret
      exact ⟨by simp [h1, h2], rfl⟩
  · go_enter Try.func108, Try.ntmps108
    go_wp2
    go_ret
    exact ⟨by simp; omega, rfl⟩

theorem val_May {w0 w : World} {F : HP} (x : AVal) (h : Sat w0 w F) :
    Calls Try.prog 86 #[.agg #[.int .i64 x.kind, .int .i64 x.n]] w fun e w' => e = .returned (.bool (mayV x)) ∧ Sat w0 w' F := by
  obtain ⟨k, n⟩ := x
  have hb := h.alloc (.cells #[.int .i64 k, .int .i64 n] 33)
  have c1 : ∀ {w' G}, Sat w0 w' (pt w.heap.size (.cells #[.int .i64 k, .int .i64 n] 33) * G) → w'.cell? ⟨w.heap.size, 1, none⟩ = some (.int .i64 n) := fun hh => Sat.cell (T := 33) (cs := #[.int .i64 k, .int .i64 n]) hh 1 rfl
  have d1 := c1 hb
  have hF := hb.drop
  by_cases k0 : k = 0
  · subst k0
    go_enter Try.func86, Try.ntmps86
    go_wp2_with (go_at_call 108; refine (may_in _ 0 n 0 0 d1 hF).mono ?_; rintro e w' ⟨rfl, rfl⟩)
    go_ret
    exact ⟨rfl, hF⟩
  by_cases k1 : k = 1
  · subst k1
    go_enter Try.func86, Try.ntmps86
    go_wp2_with (go_at_call 108; refine (may_in _ 0 n 0 0 d1 hF).mono ?_; rintro e w' ⟨rfl, rfl⟩)
    go_ret
    exact ⟨rfl, hF⟩
  by_cases k2 : k = 2
  · subst k2
    go_enter Try.func86, Try.ntmps86
    go_wp2_with (go_at_call 108; refine (may_in _ 0 n 0 1 d1 hF).mono ?_; rintro e w' ⟨rfl, rfl⟩)
    go_ret
    exact ⟨rfl, hF⟩
  by_cases k3 : k = 3
  · subst k3
    go_enter Try.func86, Try.ntmps86
    go_wp2
    go_ret
    exact ⟨rfl, hF⟩
  by_cases k4 : k = 4
  · subst k4
    go_enter Try.func86, Try.ntmps86
    go_wp2_with (go_at_call 108; refine (may_in _ 0 n 0 12 d1 hF).mono ?_; rintro e w' ⟨rfl, rfl⟩)
    go_ret
    exact ⟨rfl, hF⟩
  have e0 : (k == 0) = false := by simp; omega
  have e1 : (k == 1) = false := by simp; omega
  have e2 : (k == 2) = false := by simp; omega
  have e3 : (k == 3) = false := by simp; omega
  have e4 : (k == 4) = false := by simp; omega
  have em : mayV ⟨k, n⟩ = (decide (5 ≤ k) && decide (k ≤ 9) && within ⟨k, n⟩ 1 2147483647) := by
    unfold mayV; simp only
    rw [if_neg (by omega), if_neg k2, if_neg k3, if_neg k4]
  have EM := Lib.hid em
  clear em k0 k1 k2 k3 k4
  by_cases h5 : 5 ≤ k
  · by_cases h9 : k ≤ 9
    · go_enter Try.func86, Try.ntmps86
      go_wp2_with (go_at_call 108; refine (may_in _ 0 n 1 2147483647 d1 hF).mono ?_; rintro e w' ⟨rfl, rfl⟩)
      go_ret
      refine ⟨?_, hF⟩
      rw [EM.out]; simp [h5, h9, within]
    · go_enter Try.func86, Try.ntmps86
      go_wp2
      go_ret
      refine ⟨?_, hF⟩
      rw [EM.out]; simp; intros; omega
  · go_enter Try.func86, Try.ntmps86
    go_wp2
    go_ret
    refine ⟨?_, hF⟩
    rw [EM.out]; simp; intros; omega
theorem val_Ref {w0 w : World} {F : HP} (x : AVal) (h : Sat w0 w F) :
    Calls Try.prog 49 #[.agg #[.int .i64 x.kind, .int .i64 x.n]] w fun e w' => e = .returned (.bool (refV x)) ∧ Sat w0 w' F := by
  obtain ⟨k, n⟩ := x
  have hb := h.alloc (.cells #[.int .i64 k, .int .i64 n] 33)
  have hF := hb.drop
  by_cases h5 : 5 ≤ k
  · go_enter Try.func49, Try.ntmps49
    go_wp2_with (go_at_call 86; refine (val_May ⟨k, n⟩ hF).mono ?_; rintro e w' ⟨rfl, hF'⟩)
    go_ret
    exact ⟨by simp [refV, h5], hF'⟩
  · go_enter Try.func49, Try.ntmps49
    go_wp2
    go_ret
    exact ⟨by simp [refV]; intros; omega, hF⟩
end Go.Proofs.Ytmngkodejlhalaa.Tw
