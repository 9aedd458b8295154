/- The pool: what holds of it in memory, and none, In, Len. No condition. -/
import Derived.Test.YtkpcngcegipalaaOps
import Derived.Test.YtkpcngcegipalaaPoolM
namespace Go.Proofs.Ytkpcngcegipalaa.Tw
set_option linter.unusedVariables false
set_option linter.unusedSimpArgs false
open Go Go.RowKit Go.MapKept

def unit_ : Value := .agg #[]
/-- the pool at block p holds the numbers T -/
def poolR (p : Nat) (T : List Bool) : HP := fun h => ∃ m L a c, (∀ n, mget L n = if tk T n then some unit_ else none) ∧
  (row p 160 #[.map (some m), .slice a (freeOf T).length c, .int .i64 (T.length + 1)] * (mapR (.int .i64) (Value.int .i64) m L * slc 3 1 a (freeOf T).length c ((freeOf T).map ival))) h

theorem Sat.openPool {w0 w : World} {F : HP} {p : Nat} {T : List Bool} (h : Sat w0 w (poolR p T * F)) : ∃ m L a c, (∀ n, mget L n = if tk T n then some unit_ else none) ∧
    Sat w0 w (row p 160 #[.map (some m), .slice a (freeOf T).length c, .int .i64 (T.length + 1)] * (mapR (.int .i64) (Value.int .i64) m L * (slc 3 1 a (freeOf T).length c ((freeOf T).map ival) * F))) := by
  obtain ⟨h1, x, ⟨y, z, dj, rfl, ⟨m, L, a, c, hL, hp⟩, q⟩, r⟩ := h
  refine ⟨m, L, a, c, hL, ?_⟩
  rw [← mul_assoc, ← mul_assoc, mul_assoc (row _ _ _)]
  exact ⟨h1, _, ⟨y, z, dj, rfl, hp, q⟩, r⟩
theorem Sat.shutPool {w0 w : World} {F : HP} {p : Nat} {T : List Bool} {m : Nat} {L : List (Int × Value)} {a : Option Addr} {c : Nat} (hL : ∀ n, mget L n = if tk T n then some unit_ else none)
    (h : Sat w0 w (row p 160 #[.map (some m), .slice a (freeOf T).length c, .int .i64 (T.length + 1)] * (mapR (.int .i64) (Value.int .i64) m L * (slc 3 1 a (freeOf T).length c ((freeOf T).map ival) * F)))) : Sat w0 w (poolR p T * F) := by
  rw [← mul_assoc, ← mul_assoc, mul_assoc (row _ _ _)] at h
  exact h.mono_l fun _ q => ⟨m, L, a, c, hL, q⟩

theorem eqm_nil : ∀ (w : World) (r : Option Nat), (binOp .eql 158 (.map r) (.map none)).run Try.prog w = .ok (.bool r.isNone) w := fun w r => run_eql_map_nil w _ _ _ r Try.underlying158

theorem pool_none_nil (w : World) : Calls Try.prog 125 #[.pointer none] w fun e w' => e = .returned (.bool true) ∧ w = w' := by
  go_enter Try.func125, Try.ntmps125
  go_wp2
  go_ret
  exact ⟨rfl, rfl⟩
theorem pool_none_at (w : World) (p : Nat) (m : Option Nat) (c0 : w.cell? ⟨p, 0, none⟩ = some (.map m)) : Calls Try.prog 125 #[.pointer (some ⟨p, 0, none⟩)] w fun e w' => e = .returned (.bool m.isNone) ∧ w = w' := by
  have hm := eqm_nil
  go_enter Try.func125, Try.ntmps125
  go_wp2
  go_ret
  exact ⟨rfl, rfl⟩
theorem pool_none {w0 w : World} {F : HP} {p : Nat} {T : List Bool} (h : Sat w0 w (poolR p T * F)) : Calls Try.prog 125 #[.pointer (some ⟨p, 0, none⟩)] w fun e w' => e = .returned (.bool false) ∧ w = w' := by
  obtain ⟨m, L, a, c, hL, hs⟩ := h.openPool
  exact pool_none_at w p (some m) (hs.cell 0 rfl)

theorem zero_unit (w : World) : (zeroValue 167).run Try.prog w = .ok unit_ w := by kernel_rfl

theorem pool_In_nil (w : World) (n : Int) : Calls Try.prog 121 #[.pointer none, .int .i64 n] w fun e w' => e = .returned (.bool false) ∧ w = w' := by
  go_enter Try.func121, Try.ntmps121
  go_wp2_with (go_at_call 125; refine (pool_none_nil _).mono ?_; rintro e w' ⟨rfl, rfl⟩)
  go_ret
  exact ⟨rfl, rfl⟩
theorem pool_In_empty (w : World) (p : Nat) (n : Int) (c0 : w.cell? ⟨p, 0, none⟩ = some (.map none)) : Calls Try.prog 121 #[.pointer (some ⟨p, 0, none⟩), .int .i64 n] w fun e w' => e = .returned (.bool false) ∧ w = w' := by
  go_enter Try.func121, Try.ntmps121
  go_wp2_with (go_at_call 125; refine (pool_none_at _ p none c0).mono ?_; rintro e w' ⟨rfl, rfl⟩)
  go_ret
  exact ⟨rfl, rfl⟩
theorem pool_In {w0 w : World} {F : HP} {p : Nat} {T : List Bool} (h : Sat w0 w (poolR p T * F)) (n : Int) : Calls Try.prog 121 #[.pointer (some ⟨p, 0, none⟩), .int .i64 n] w fun e w' => e = .returned (.bool (tk T n)) ∧ Sat w0 w' (poolR p T * F) := by
  obtain ⟨m, L, a, c, hL, hs⟩ := h.openPool
  have c0 : w.cell? ⟨p, 0, none⟩ = some (.map (some m)) := hs.cell 0 rfl
  have hl : (Instr.lookup 158 (.map (some m)) (.int .i64 n) true).run Try.prog w = .ok (.tuple #[.agg #[], .bool (tk T n)]) w := by
    have := run_lookup_ok (keys_int .i64) (hs.cast (mul_left_comm _ _ _)) Try.underlying158 Try.underlying3 (zero_unit w) n
    rw [hL] at this
    rw [this]
    cases tk T n <;> rfl
  clear hL
  go_enter Try.func121, Try.ntmps121
  go_wp2_with (go_at_call 125; refine (pool_none h).mono ?_; rintro e w' ⟨rfl, rfl⟩)
  go_ret
  exact ⟨rfl, h.alloc _ |>.drop⟩

end Go.Proofs.Ytkpcngcegipalaa.Tw
