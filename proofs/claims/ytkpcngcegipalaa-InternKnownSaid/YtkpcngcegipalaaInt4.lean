/- intern: Copy. No condition. -/
import Derived.Test.YtkpcngcegipalaaITo
import Derived.Test.YtkpcngcegipalaaCell16
namespace Go.Proofs.Ytkpcngcegipalaa.Tw
set_option linter.unusedVariables false
set_option linter.unusedSimpArgs false
open Go Go.RowKit Go.MapKept

theorem eqs_nil : ∀ (w : World) (r : Option Nat), (binOp .eql 121 (.map r) (.map none)).run Try.prog w = .ok (.bool r.isNone) w := by intro w r; cases r <;> kernel_rfl
theorem maps_cloneS {w0 w : World} {F : HP} {m : Nat} {L : List (ByteArray × Value)} (h : Sat w0 w (mapR .string Value.string m L * F)) :
    Calls Try.prog 86 #[.map (some m)] w fun e w' => ∃ m', e = .returned (.map (some m')) ∧ Sat w0 w' (mapR .string Value.string m' L * (mapR .string Value.string m L * F)) := by
  obtain ⟨hn, es, clock, hs, hst, hl⟩ := h.openMap
  have hm := eqs_nil
  have hc : (callFunc 127 #[.iface 121 (.map (some m))]).run Try.prog w = .ok (.value (.iface 121 (.map (some w.heap.size)))) (w.alloc (.map es clock)) := by
    rw [run_callFunc_extern Try.func127 (by kernel_rfl) (by kernel_rfl) (by kernel_rfl) (e := Extern.MapsClone.clone) (by kernel_rfl)]
    have e : Extern.MapsClone.clone #[.iface 121 (.map (some m))] = (getObj m >>= fun o => match o with
      | .map entries clock => (newObj (.map entries clock) >>= fun n => pure (.iface 121 (.map (some n))))
      | _ => stuck "maps.clone: a map expected") := rfl
    rw [e]
    simp [MapKept.run_getObj_map hs.blk, Result.andThen]
  have hta := fun w' => run_typeAssert_map w' 121 20 _ _ (.map (some w.heap.size)) Try.underlying121
  go_enter Try.func86, Try.ntmps86
  go_wp2
  go_ret
  exact ⟨_, rfl, Sat.shutMap (L := L) (h.alloc _) hn hst hl⟩
theorem str_Copy {w0 w : World} {F : HP} {s p : Nat} {M : ByteArray → Option Int} (h : Sat w0 w (strR s p M * F)) (q : Nat) :
    Calls Try.prog 27 #[.pointer (some ⟨s, 0, none⟩), .pointer (some ⟨q, 0, none⟩)] w fun e w' => ∃ s', e = .returned (.pointer (some ⟨s', 0, none⟩)) ∧ Sat w0 w' (strR s' q M * (strR s p M * F)) := by
  obtain ⟨mb, L, hL, hs⟩ := h.openStr
  have c1 : w.cell? ⟨s, 1, none⟩ = some (.map (some mb)) := hs.cell 1 rfl
  have HC := Lib.hid (maps_cloneS hs.p2)
  have HL := Lib.hid hL
  clear hL
  go_enter Try.func27, Try.ntmps27
  go_wp2_with fail
  refine HC.out.mono ?_
  rintro e w1 ⟨m', rfl, h1⟩
  have h2 := h1.alloc (.cells #[.pointer (some ⟨q, 0, none⟩), .map (some m')] 123)
  go_wp2_with fail
  go_ret
  refine ⟨w1.heap.size, rfl, ?_⟩
  have h3 := Sat.shutStr (s := s) (p := p) HL.out (h2.p3.p4)
  exact Sat.shutStr HL.out h3.q3
theorem str_Copy_nil (w : World) (q : Option Addr) : Calls Try.prog 27 #[.pointer none, .pointer q] w fun e w' => e = .returned (.pointer none) ∧ w = w' := by
  go_enter Try.func27, Try.ntmps27
  go_wp2
  go_ret
  exact ⟨rfl, rfl⟩
theorem str_Copy_none (w : World) (s : Nat) : Calls Try.prog 27 #[.pointer (some ⟨s, 0, none⟩), .pointer none] w fun e w' => e = .returned (.pointer none) ∧ w = w' := by
  go_enter Try.func27, Try.ntmps27
  go_wp2
  go_ret
  exact ⟨rfl, rfl⟩
theorem str_string_nil (w : World) (v : AVal) {w0 : World} {F : HP} (h : Sat w0 w F) :
    Calls Try.prog 74 #[.pointer none, .agg #[.int .i64 v.kind, .int .i64 v.n]] w fun e w' => e = .returned (.tuple #[objV AObj.none none 0, .bool false]) ∧ Sat w0 w' F := by
  have h1 := (h.alloc (.cells #[.int .i64 v.kind, .int .i64 v.n] 28)).drop.alloc (.cells #[.int .i64 0, .int .i64 0, .slice none 0 0, .string (ByteArray.mk #[]), .int .i64 0] 39)
  rw [size_alloc] at h1
  go_enter Try.func74, Try.ntmps74
  go_wp2
  refine bodyPost_cell_tmp rfl rfl rfl (load_obj h1) rfl ?_
  exact ⟨rfl, h1.drop⟩
theorem str_Text_nil (w : World) (v : AVal) {w0 : World} {F : HP} (h : Sat w0 w F) :
    Calls Try.prog 22 #[.pointer none, .agg #[.int .i64 v.kind, .int .i64 v.n]] w fun e w' => e = .returned (.tuple #[.string (ByteArray.mk #[]), .bool false]) ∧ Sat w0 w' F := by
  have h1 := (h.alloc (.cells #[.int .i64 v.kind, .int .i64 v.n] 28)).drop
  have HS := Lib.hid (str_string_nil _ v h1)
  unfold objV AObj.none at HS
  go_enter Try.func22, Try.ntmps22
  go_wp2_with fail
  refine HS.out.mono ?_
  rintro e w1 ⟨rfl, h2⟩
  have h3 := (h2.alloc (.cells #[.int .i64 0, .int .i64 0, .slice none 0 0, .string (ByteArray.mk #[]), .int .i64 0] 39)).drop
  go_wp2_with fail
  go_ret2
  exact ⟨rfl, h3⟩
theorem str_Of_nil (w : World) (t : ByteArray) {w0 : World} {F : HP} (h : Sat w0 w F) :
    Calls Try.prog 18 #[.pointer none, .string t] w fun e w' => e = .returned (.agg #[.int .i64 0, .int .i64 0]) ∧ Sat w0 w' F := by
  have h1 := h.alloc (.cells #[.int .i64 0, .int .i64 0] 28)
  go_enter Try.func18, Try.ntmps18
  go_wp2
  exact bodyPost_cell rfl rfl (load_val h1) rfl ⟨rfl, h1.drop⟩
end Go.Proofs.Ytkpcngcegipalaa.Tw
