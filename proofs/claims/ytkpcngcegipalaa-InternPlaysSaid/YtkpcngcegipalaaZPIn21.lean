/- The heap's methods at known answers. No condition. -/
import Derived.Test.YtkpcngcegipalaaZPIn14
import Derived.Test.YtkpcngcegipalaaZPIn20
import Derived.Test.YtkpcngcegipalaaZPIn15
namespace Go.Proofs.Ytkpcngcegipalaa.Tw
set_option linter.unusedVariables false
set_option linter.unusedSimpArgs false
open Go Go.RowKit Go.MapKept

section
variable {w0 w : World} {m : Hp} {p : Nat} {A : AHeap} {F : HP} {B : Int}
theorem x_Make (H : HW A B) (hB : B ≤ 1000000) (h : Sat w0 w (heapR m p A * F)) (k : Int) (tx : ByteArray) {v : AVal} (hv : A.makeV k tx = v) :
    Calls Try.prog 25 #[.pointer (some ⟨p, 0, none⟩), .int .i64 k, .string tx] w fun e w' => e = .returned (.agg #[.int .i64 v.kind, .int .i64 v.n]) ∧ Sat w0 w' (heapR m p (A.makeF k tx) * F) := hv ▸ t_Make H hB h k tx
theorem x_Keep (H : HW A B) (hB : B ≤ 1000000) (K : Knows m F) (h : Sat w0 w (heapR m p A * F)) (k n : Int) {e0 : Int} (he : cntE A ⟨k, n⟩ = e0) :
    Calls Try.prog 59 #[.pointer (some ⟨p, 0, none⟩), .agg #[.int .i64 k, .int .i64 n]] w fun e w' => e = .returned (.int .i64 e0) ∧ Sat w0 w' (heapR m p (A.keep ⟨k, n⟩) * F) := by
  subst he; exact t_Keep H hB K h ⟨k, n⟩
theorem x_Drop (H : HW A B) (hB : B ≤ 1000000) (K : Knows m F) (h : Sat w0 w (heapR m p A * F)) (k n : Int) {e0 : Int} (he : cntE A ⟨k, n⟩ = e0) :
    Calls Try.prog 19 #[.pointer (some ⟨p, 0, none⟩), .agg #[.int .i64 k, .int .i64 n]] w fun e w' => e = .returned (.int .i64 e0) ∧ Sat w0 w' (heapR m p (A.drop ⟨k, n⟩) * F) := by
  subst he; exact t_Drop H hB K h ⟨k, n⟩
theorem x_Free (H : HW A B) (hB : B ≤ 1000000) (K : Knows m F) (h : Sat w0 w (heapR m p A * F)) (n : Int) {e0 : Int} (he : A.freeE n = e0) :
    Calls Try.prog 21 #[.pointer (some ⟨p, 0, none⟩), .int .i64 n] w fun e w' => e = .returned (.int .i64 e0) ∧ Sat w0 w' (heapR m p (A.freeF n) * F) := by
  subst he; exact t_Free H hB K h n
theorem x_Mark (H : HW A B) (hB : B ≤ 1000000) (K : Knows m F) (h : Sat w0 w (heapR m p A * F)) (n : Int) {e0 : Int} (he : A.markN n = e0) :
    Calls Try.prog 62 #[.pointer (some ⟨p, 0, none⟩), .int .i64 n] w fun e w' => e = .returned (.int .i64 e0) ∧ Sat w0 w' (heapR m p (A.mark n) * F) := by
  subst he; exact t_Mark H hB K h n
theorem x_Fin (H : HW A B) (hB : B ≤ 1000000) (K : Knows m F) (h : Sat w0 w (heapR m p A * F)) (n : Int) {e0 : Int} (he : A.finE n = e0) :
    Calls Try.prog 63 #[.pointer (some ⟨p, 0, none⟩), .int .i64 n] w fun e w' => e = .returned (.int .i64 e0) ∧ Sat w0 w' (heapR m p (A.finF n) * F) := by
  subst he; exact t_Fin H hB K h n
theorem x_Next (H : HW A B) (hB : B ≤ 1000000) (h : Sat w0 w (heapR m p A * F)) {k n mk : Int} {b : Bool} (hv : A.nextV = ⟨k, n⟩) (hk : A.nextM = mk) (hb : (!A.fins.isEmpty) = b) :
    Calls Try.prog 42 #[.pointer (some ⟨p, 0, none⟩)] w fun e w' => e = .returned (.tuple #[.agg #[.int .i64 k, .int .i64 n], .int .i64 mk, .bool b]) ∧ Sat w0 w' (heapR m p A.nextF * F) := by
  subst hk hb
  have := t_Next H hB h
  rw [hv] at this
  exact this
theorem x_Susp (H : HW A B) (hB : B ≤ 1000000) (h : Sat w0 w (heapR m p A * F)) (n : Int) {e0 : Int} (he : (if suspB A n then (0 : Int) else 2) = e0) :
    Calls Try.prog 64 #[.pointer (some ⟨p, 0, none⟩), .int .i64 n] w fun e w' => e = .returned (.int .i64 e0) ∧ Sat w0 w' (heapR m p (A.suspF n) * F) := by
  subst he; exact t_Susp H hB h n
theorem x_Push (H : HW A B) (hB : B ≤ 1000000) (K : Knows m F) (h : Sat w0 w (heapR m p A * F)) (n k x : Int) {e0 : Int} (he : A.pushE n ⟨k, x⟩ = e0) :
    Calls Try.prog 33 #[.pointer (some ⟨p, 0, none⟩), .int .i64 n, .agg #[.int .i64 k, .int .i64 x]] w fun e w' => e = .returned (.int .i64 e0) ∧ Sat w0 w' (heapR m p (A.pushF n ⟨k, x⟩) * F) := by
  subst he; exact t_Push H hB K h n ⟨k, x⟩
theorem x_Pop (H : HW A B) (hB : B ≤ 1000000) (K : Knows m F) (h : Sat w0 w (heapR m p A * F)) (n : Int) {k x e0 : Int} (hv : A.popV n = ⟨k, x⟩) (he : A.popE n = e0) :
    Calls Try.prog 61 #[.pointer (some ⟨p, 0, none⟩), .int .i64 n] w fun e w' => e = .returned (.tuple #[.agg #[.int .i64 k, .int .i64 x], .int .i64 e0]) ∧ Sat w0 w' (heapR m p (A.popF n) * F) := by
  subst he
  have := t_Pop H hB K h n
  rw [hv] at this
  exact this
theorem x_At (H : HW A B) (hB : B ≤ 1000000) (h : Sat w0 w (heapR m p A * F)) (n i : Int) {k x e0 : Int} (hv : A.atVV n i = ⟨k, x⟩) (he : A.atE n i = e0) :
    Calls Try.prog 68 #[.pointer (some ⟨p, 0, none⟩), .int .i64 n, .int .i64 i] w fun e w' => e = .returned (.tuple #[.agg #[.int .i64 k, .int .i64 x], .int .i64 e0]) ∧ Sat w0 w' (heapR m p A * F) := by
  subst he
  have := t_At H hB h n i
  rw [hv] at this
  exact this
theorem x_Swap (H : HW A B) (hB : B ≤ 1000000) (K : Knows m F) (h : Sat w0 w (heapR m p A * F)) (n i k x : Int) {k2 x2 e0 : Int} (hv : A.swapV n i ⟨k, x⟩ = ⟨k2, x2⟩) (he : A.swapE n i ⟨k, x⟩ = e0) :
    Calls Try.prog 67 #[.pointer (some ⟨p, 0, none⟩), .int .i64 n, .int .i64 i, .agg #[.int .i64 k, .int .i64 x]] w fun e w' => e = .returned (.tuple #[.agg #[.int .i64 k2, .int .i64 x2], .int .i64 e0]) ∧ Sat w0 w' (heapR m p (A.swapF n i ⟨k, x⟩) * F) := by
  subst he
  have := t_Swap H hB K h n i ⟨k, x⟩
  rw [hv] at this
  exact this
theorem x_Lay {SR : HP} (H : HW A B) (hB : B ≤ 1000000) (K : Knows m F) (n : Int) {a : Option Addr} {sn c : Nat} {s : List AVal} (h : Sat w0 w (heapR m p A * (SR * F))) (hS : SrcV w0 SR a sn c s) (hn : sn ≤ 1000000) {e0 : Int} (he : A.layE n s = e0) :
    Calls Try.prog 66 #[.pointer (some ⟨p, 0, none⟩), .int .i64 n, .slice a sn c] w fun e w' => e = .returned (.int .i64 e0) ∧ Sat w0 w' (heapR m p (A.layF n s) * (SR * F)) := by
  subst he; exact t_Lay H hB K n h hS hn
theorem x_Obj (H : HW A B) (hB : B ≤ 1000000) (h : Sat w0 w (heapR m p A * F)) (n : Int) {k c mk : Int} {sl : List AVal} {tx : ByteArray} {sn : Nat} (ho : A.obj n = ⟨k, c, sl, tx, mk⟩) (hsn : sl.length = sn) :
    Calls Try.prog 23 #[.pointer (some ⟨p, 0, none⟩), .int .i64 n] w fun e w' => ∃ a cc, e = .returned (.agg #[.int .i64 k, .int .i64 c, .slice a sn cc, .string tx, .int .i64 mk]) ∧ Sat w0 w' (slc 28 2 a sn cc (avcells sl) * (heapR m p A * F)) := by
  have hs : (A.obj n).slots.length ≤ 1000000 := by
    unfold AHeap.obj
    cases hh : A.objs n with
    | none => simp [AObj.none]
    | some o => have := H.c n o hh; show o.slots.length ≤ _; omega
  have hO := heap_Obj h n (by omega)
  rw [ho] at hO
  subst hsn
  refine hO.mono ?_
  rintro e w' ⟨a, c2, rfl, h2⟩
  exact ⟨a, c2, rfl, h2.p2⟩
theorem x_Queue (H : HW A B) (hB : B ≤ 1000000) (h : Sat w0 w (heapR m p A * F)) {L : List Int} {n : Nat} (hL : A.queue = L) (hn : L.length = n) :
    Calls Try.prog 35 #[.pointer (some ⟨p, 0, none⟩)] w fun e w' => ∃ a c, e = .returned (.slice a n c) ∧ Sat w0 w' (slc 3 1 a n c (L.map ival) * (heapR m p A * F)) := by
  have hq := H.ql
  subst hL hn
  exact heap_Queue h (by omega)
theorem x_Buf (H : HW A B) (hB : B ≤ 1000000) (h : Sat w0 w (heapR m p A * F)) {L : List Int} {n : Nat} (hL : A.buf = L) (hn : L.length = n) :
    Calls Try.prog 51 #[.pointer (some ⟨p, 0, none⟩)] w fun e w' => ∃ a c, e = .returned (.slice a n c) ∧ Sat w0 w' (slc 3 1 a n c (L.map ival) * (heapR m p A * F)) := by
  have hq := H.bl
  subst hL hn
  exact heap_Buffer h (by omega)
theorem x_Take (H : HW A B) (hB : B ≤ 1000000) (h : Sat w0 w (heapR m p A * F)) {L : List Int} {n : Nat} (hL : A.buf = L) (hn : L.length = n) :
    Calls Try.prog 65 #[.pointer (some ⟨p, 0, none⟩)] w fun e w' => ∃ a c, e = .returned (.slice a n c) ∧ Sat w0 w' (slc 3 1 a n c (L.map ival) * (heapR m p { A with buf := [] } * F)) := by
  have hq := H.bl
  subst hn hL
  exact heap_TakeBuffer h (by omega)
theorem x_Fins (H : HW A B) (hB : B ≤ 1000000) (h : Sat w0 w (heapR m p A * F)) {L : List Int} {n : Nat} (hL : A.fins.map (·.1) = L) (hn : L.length = n) :
    Calls Try.prog 40 #[.pointer (some ⟨p, 0, none⟩)] w fun e w' => ∃ a c, e = .returned (.slice a n c) ∧ Sat w0 w' (slc 3 1 a n c (L.map ival) * (heapR m p A * F)) := by
  have hfl := H.fl
  have e2 : A.fins.length = n := by rw [← hn, ← hL, List.length_map]
  refine (heap_Fins h (by omega)).mono ?_
  rintro e w' ⟨a, c, rfl, h2⟩
  rw [hL, e2] at h2
  exact ⟨a, c, by rw [e2], h2⟩
theorem x_Graph (H : HW A B) (hB : B ≤ 1000000) (h : Sat w0 w (heapR m p A * F)) {N : Nat} {L : List AObj} (hN : lastT A.T = N) (hL : graphL A N = L) :
    Calls Try.prog 30 #[.pointer (some ⟨p, 0, none⟩)] w fun e w' => ∃ ga gc, e = .returned (.agg #[.slice ga N gc]) ∧ Sat w0 w' (objsV ga N gc L * (heapR m p A * F)) := by
  subst hN hL
  have hT := H.t
  exact heap_Graph h (by omega) fun n o ho => by have := H.c n o ho; omega
theorem x_Touched (h : Sat w0 w (heapR m p A * F)) {b : Bool} (hb : A.touched = b) :
    Calls Try.prog 48 #[.pointer (some ⟨p, 0, none⟩)] w fun e w' => e = .returned (.bool b) ∧ Sat w0 w' (heapR m p A * F) := by
  subst hb
  refine (heap_Touched h).mono ?_
  rintro e w' ⟨rfl, rfl⟩
  exact ⟨rfl, h⟩
theorem x_Copy (H : HW A B) (hB : B ≤ 1000000) (h : Sat w0 w (heapR m p A * F)) :
    Calls Try.prog 26 #[.pointer (some ⟨p, 0, none⟩)] w fun e w' => ∃ q, e = .returned (.pointer (some ⟨q, 0, none⟩)) ∧ Sat w0 w' (heapR m q A * (heapR m p A * F)) := by
  have hT := H.t
  have hq := H.ql
  have hb := H.bl
  have hf := H.fl
  exact heap_Copy h (by omega) (fun n o ho => by have := H.c n o ho; omega) (by omega) (by omega) (by omega)
end
/-! cells of two, kept through an alloc -/
theorem cell_alloc {w : World} {a : Addr} {v : Value} {o : Obj} (h : w.cell? a = some v) : (w.alloc o).cell? a = some v := by
  have hb := World.block_lt_of_cell? w a h
  refine (World.cell?_of_block ?_).trans h
  show (w.heap.push o)[a.block]? = _
  rw [Array.getElem?_push, if_neg (by omega)]
theorem two_alloc {w : World} {a a2 : Addr} {v v2 : Value} {o : Obj} (h : w.cell? a = some v ∧ w.cell? a2 = some v2) : (w.alloc o).cell? a = some v ∧ (w.alloc o).cell? a2 = some v2 := ⟨cell_alloc h.1, cell_alloc h.2⟩
end Go.Proofs.Ytkpcngcegipalaa.Tw
namespace Go.Proofs.Ytkpcngcegipalaa.Tw
set_option linter.unusedVariables false
set_option linter.unusedSimpArgs false
open Go Go.RowKit Go.MapKept

section
variable {w0 w : World} {F : HP}
/-- two lists of numbers, as far as k -/
theorem law_ints13 {a b : Option Addr} {c c' n m : Nat} {l r : List Int} (h : Sat w0 w (slc 3 1 a n c (l.map ival) * (slc 3 1 b m c' (r.map ival) * F))) (hl : l.length = n) (hr : r.length = m) (hn : n ≤ 1000000000) (hm : m ≤ 1000000000) :
    Calls Try.prog 60 #[.slice a n c, .slice b m c'] w fun e w' => e = .returned (.bool (decide (l = r))) ∧ Sat w0 w' (slc 3 1 a n c (l.map ival) * (slc 3 1 b m c' (r.map ival) * F)) := by
  by_cases hnm : n = m
  · subst hnm
    have HL := Lib.hid (And.intro hl hr)
    clear hl hr
    go_enter Try.func60, Try.ntmps60
    go_wp2
    go_loopw [5] (fun iv wr => ∃ k : Nat, iv = .int .i64 k ∧ k ≤ n ∧ Hid (l.take k = r.take k) ∧ Sat w0 wr (slc 3 1 a n c (l.map ival) * (slc 3 1 b n c' (r.map ival) * F))) (fun iv _ => n - (intOf iv).toNat)
    case atStart => exact ⟨0, rfl, by omega, Lib.hid rfl, h⟩
    case round =>
      obtain ⟨k, rfl, hk, hb, hs⟩ := hrel
      by_cases hlt : k < n
      · have hl1 := HL.out
        have ex : l[k]? = some (l[k]'(by omega)) := List.getElem?_eq_getElem _
        have ey : r[k]? = some (r[k]'(by omega)) := List.getElem?_eq_getElem _
        obtain ⟨g, off, rfl, c1, _⟩ := intCells hs ex
        obtain ⟨g2, off2, rfl, c2, _⟩ := intCells hs.p2 ey
        generalize l[k]'(by omega) = x at *
        generalize r[k]'(by omega) = y at *
        have HX := Lib.hid (And.intro ex ey)
        clear ex ey hl1
        by_cases hxy : x = y
        · subst hxy
          go_wp2
          go_region
          go_wp2
          go_round
          case rel =>
            refine ⟨k + 1, by go_num, by omega, Lib.hid ?_, hs⟩
            rw [List.take_add_one, List.take_add_one, hb.out, HX.out.1, HX.out.2]
          case measure => simp [intOf]; omega
        · have hq : (x != y) = true := by simpa using hxy
          go_wp2
          go_region
          go_wp2
          go_ret
          have hne : l ≠ r := fun e => hxy (by have h1 := HX.out.1; rw [e, HX.out.2] at h1; exact (Option.some.inj h1).symm)
          exact ⟨by rw [decide_eq_false hne]; rfl, hs⟩
      · have hkn : k = n := by omega
        subst hkn
        go_wp2
        go_ret
        refine ⟨?_, hs⟩
        have e : l = r := by
          have := hb.out
          have hl1 := HL.out
          rwa [List.take_of_length_le (by omega), List.take_of_length_le (by omega)] at this
        rw [decide_eq_true e]; rfl
  · have hq : ((n : Int) != (m : Int)) = true := by simp; omega
    have hne : l ≠ r := fun e => hnm (by rw [← hl, ← hr, e])
    go_enter Try.func60, Try.ntmps60
    go_wp2
    go_ret
    exact ⟨by rw [decide_eq_false hne]; rfl, h⟩
theorem ints_same13 {a b : Option Addr} {c c' n : Nat} {L : List Int} (h : Sat w0 w (slc 3 1 b n c' (L.map ival) * (slc 3 1 a n c (L.map ival) * F))) (hl : L.length = n) (hn : n ≤ 1000000) :
    Calls Try.prog 60 #[.slice a n c, .slice b n c'] w fun e w' => e = .returned (.bool true) ∧ Sat w0 w' F := by
  refine (law_ints13 h.p2 hl hl (by omega) (by omega)).mono ?_
  rintro e w' ⟨rfl, h2⟩
  exact ⟨by rw [decide_eq_true rfl], h2.drop.drop⟩
theorem law_of13 (h : Sat w0 w F) (k n : Int) :
    Calls Try.prog 58 #[.int .i64 k, .int .i64 n] w fun e w' => e = .returned (.agg #[.int .i64 k, .int .i64 n]) ∧ Sat w0 w' F := by
  have h1 := h.alloc (.cells #[.int .i64 k, .int .i64 n] 28)
  have h2 := h.alloc (.cells #[.int .i64 0, .int .i64 0] 28)
  have y0 := (val2' h2).1
  have y1 := (val2' h2).2.1
  have yf0 := (val2' h2).2.2.1
  have yf1 := (val2' h2).2.2.2
  go_enter Try.func58, Try.ntmps58
  go_wp2_with fail
  first
    | exact bodyPost_cell rfl rfl (load_val h1) rfl ⟨rfl, h1.drop⟩
    | exact bodyPost_cell rfl rfl (load_val ((h2.store (i := 0) (.int .i64 k)).store (i := 1) (.int .i64 n))) rfl ⟨rfl, ((h2.store (i := 0) (.int .i64 k)).store (i := 1) (.int .i64 n)).drop⟩
theorem law_has {a : Option Addr} {c n : Nat} {l : List Int} (h : Sat w0 w (slc 3 1 a n c (l.map ival) * F)) (hl : l.length = n) (hn : n ≤ 1000000000) (x : Int) :
    Calls Try.prog 53 #[.slice a n c, .int .i64 x] w fun e w' => e = .returned (.bool (decide (x ∈ l))) ∧ Sat w0 w' (slc 3 1 a n c (l.map ival) * F) := by
  have HL := Lib.hid hl
  clear hl
  go_enter Try.func53, Try.ntmps53
  go_wp2
  go_loopw [5] (fun iv wr => ∃ k : Nat, iv = .int .i64 k ∧ k ≤ n ∧ Hid (x ∉ l.take k) ∧ Sat w0 wr (slc 3 1 a n c (l.map ival) * F)) (fun iv _ => n - (intOf iv).toNat)
  case atStart => exact ⟨0, rfl, by omega, Lib.hid (by simp), h⟩
  case round =>
    obtain ⟨k, rfl, hk, hb, hs⟩ := hrel
    by_cases hlt : k < n
    · have hl1 := HL.out
      have ex : l[k]? = some (l[k]'(by omega)) := List.getElem?_eq_getElem _
      obtain ⟨g, off, rfl, c1, _⟩ := intCells hs ex
      generalize l[k]'(by omega) = y at *
      have HX := Lib.hid ex
      clear ex hl1
      by_cases hxy : y = x
      · subst hxy
        go_wp2
        go_ret
        exact ⟨by rw [decide_eq_true (List.mem_of_getElem? HX.out)]; rfl, hs⟩
      · have hq : (y == x) = false := by simpa using hxy
        go_wp2
        go_round
        case rel =>
          refine ⟨k + 1, by go_num, by omega, Lib.hid ?_, hs⟩
          rw [List.take_add_one, HX.out]
          intro hm
          rcases List.mem_append.1 hm with h1 | h1
          · exact hb.out h1
          · simp at h1; exact hxy h1.symm
        case measure => simp [intOf]; omega
    · have hkn : k = n := by omega
      subst hkn
      go_wp2
      go_ret
      have e := hb.out
      rw [List.take_of_length_le (by have := HL.out; omega)] at e
      exact ⟨by rw [decide_eq_false e]; rfl, hs⟩
theorem law_once {a : Option Addr} {c n : Nat} {l : List Int} (h : Sat w0 w (slc 3 1 a n c (l.map ival) * F)) (hl : l.length = n) (hn : n ≤ 1000000000) (hd : l.Nodup) :
    Calls Try.prog 52 #[.slice a n c] w fun e w' => e = .returned (.bool true) ∧ Sat w0 w' (slc 3 1 a n c (l.map ival) * F) := by
  have HL := Lib.hid (And.intro hl hd)
  clear hl hd
  go_enter Try.func52, Try.ntmps52
  go_wp2
  go_loopw [3] (fun iv wr => ∃ k : Nat, iv = .int .i64 k ∧ k ≤ n ∧ Sat w0 wr (slc 3 1 a n c (l.map ival) * F)) (fun iv _ => n - (intOf iv).toNat)
  case atStart => exact ⟨0, rfl, by omega, h⟩
  case round =>
    obtain ⟨k, rfl, hk, hs⟩ := hrel
    by_cases hlt : k < n
    · have hw1 : IntKind.i64.wrap ((k : Int) + 1) = (k : Int) + 1 := IntWalk.i64_in _ (by omega)
      go_wp2
      go_loopw [4] (fun jv wr2 => ∃ j : Nat, jv = .int .i64 j ∧ k < j ∧ j ≤ n ∧ Sat w0 wr2 (slc 3 1 a n c (l.map ival) * F)) (fun jv _ => n - (intOf jv).toNat)
      case atStart => exact ⟨k + 1, by go_num, by omega, by omega, hs⟩
      case round =>
        obtain ⟨j, rfl, hj1, hj2, hs2⟩ := hrel
        by_cases hlt2 : j < n
        · have hl1 := HL.out.1
          have ex : l[k]? = some (l[k]'(by omega)) := List.getElem?_eq_getElem _
          have ey : l[j]? = some (l[j]'(by omega)) := List.getElem?_eq_getElem _
          obtain ⟨g, off, rfl, c1, _⟩ := intCells hs2 ex
          obtain ⟨g2, off2, q2, c2, _⟩ := intCells hs2 ey
          cases q2
          have hne : l[k]'(by omega) ≠ l[j]'(by omega) := List.pairwise_iff_getElem.1 HL.out.2 k j (by omega) (by omega) hj1
          generalize l[k]'(by omega) = x at *
          generalize l[j]'(by omega) = y at *
          have hq : (x == y) = false := by simpa using hne
          clear ex ey hl1 hne
          go_wp2
          go_region
          go_wp2
          go_round
          case rel => exact ⟨j + 1, by go_num, by omega, by omega, hs2⟩
          case measure => simp [intOf]; omega
        · have hjn : j = n := by omega
          subst hjn
          go_wp2
          go_round
          case rel => exact ⟨k + 1, by go_num, by omega, hs2⟩
          case measure => simp [intOf]; omega
    · have hkn : k = n := by omega
      subst hkn
      go_wp2
      go_ret
      exact ⟨rfl, hs⟩
end
end Go.Proofs.Ytkpcngcegipalaa.Tw
namespace Go.Proofs.Ytkpcngcegipalaa.Tw
set_option linter.unusedVariables false
set_option linter.unusedSimpArgs false
open Go Go.RowKit Go.MapKept

namespace CW
def mI : Hp := fun _ => none
theorem kI (F : HP) : Knows mI F := Knows.none F
def tE : ByteArray := ByteArray.mk #[]
def E : AHeap := AHeap.empty
def A1 : AHeap := E.makeF 6 tE
def A2 : AHeap := A1.keep ⟨6, 1⟩
def A3 : AHeap := A2.drop ⟨6, 1⟩
def A4 : AHeap := A3.drop ⟨6, 1⟩
theorem hE : HW E 1 := HW.empty.mono (by omega)
theorem h1 : HW A1 2 := hE.make (by omega) _ _
theorem h2 : HW A2 3 := h1.keep _
theorem h3 : HW A3 3 := h2.drop _
theorem h4 : HW A4 3 := h3.drop _
theorem o3 : ∃ k tx mk, A3.obj 1 = ⟨k, 1, [], tx, mk⟩ := ⟨(A3.obj 1).kind, (A3.obj 1).text, (A3.obj 1).mark, by
  have h2 : (A3.obj 1).count = 1 := by decide +kernel
  have h3 : (A3.obj 1).slots = [] := by decide +kernel
  generalize A3.obj 1 = o at *
  obtain ⟨a, b, c, d, e⟩ := o
  subst h2 h3; rfl⟩
end CW
theorem run_count13 (w : World) (v0 v1 v2 v3 v4 : Value) : (Instr.field 39 (.agg #[v0, v1, v2, v3, v4]) 1).run Try.prog w = .ok v1 w := by kernel_rfl
section
variable {w0 w : World} {F : HP}
set_option maxRecDepth 100000 in
set_option maxHeartbeats 4000000 in
theorem law_works13 (h : Sat w0 w F) : Calls Try.prog 49 #[] w fun e w' => e = .returned (.bool true) ∧ Sat w0 w' F := by
  obtain ⟨k3, t3, m3, ho3⟩ := CW.o3
  have HO := Lib.hid ho3
  clear ho3
  go_enter Try.func49, Try.ntmps49
  go_wp2_with fail
  refine (heap_New h).mono ?_
  rintro e w1 ⟨p, rfl, h1⟩
  go_wp2_with fail
  refine (x_Make CW.hE (by omega) (h1 CW.mI) 6 CW.tE (v := ⟨6, 1⟩) (by decide +kernel)).mono ?_
  rintro e w2 ⟨rfl, h2⟩
  have h3 := h2.alloc (.cells #[.int .i64 6, .int .i64 1] 28)
  generalize hvb : w2.heap.size = vb at *
  have sA := And.intro (val2' h3).1 (val2' h3).2.1
  clear h1 h2
  have h3 := h3.p2
  go_wp2_with fail
  have hfc := fun (w : World) (a : Option Addr) (c : Nat) => run_count13 w (.int .i64 k3) (.int .i64 1) (.slice a 0 c) (.string t3) (.int .i64 m3)
  go_region_held3 (fun w' => w'.cell? ⟨vb, 0, none⟩ = some (.int .i64 6) ∧ w'.cell? ⟨vb, 1, none⟩ = some (.int .i64 1)) (first | assumption | exact sA) (first
    | (go_at_call 59; refine (x_Keep CW.h1 (by omega) (CW.kI _) h3.drew 6 1 (e0 := 0) (by decide +kernel)).mono ?_; rintro e w4 ⟨rfl, h4⟩; have s4 := And.intro (val2' h4.p2).1 (val2' h4.p2).2.1)
    | (go_at_call 19; refine (x_Drop CW.h2 (by omega) (CW.kI _) h4 6 1 (e0 := 0) (by decide +kernel)).mono ?_; rintro e w5 ⟨rfl, h5⟩; have s5 := And.intro (val2' h5.p2).1 (val2' h5.p2).2.1)
    | (go_at_call 23; refine (x_Obj CW.h3 (by omega) h5 1 HO.out (sn := 0) rfl).mono ?_; rintro e w6 ⟨oa, oc, rfl, h6⟩; have s6 := And.intro (val2' h6.p3).1 (val2' h6.p3).2.1))
  clear h3 h4 h5 s4 s5 hfc
  have h7 := h6.drop
  clear h6
  go_wp2_with fail
  go_region_held3 (fun w' => w'.cell? ⟨vb, 0, none⟩ = some (.int .i64 6) ∧ w'.cell? ⟨vb, 1, none⟩ = some (.int .i64 1)) (repeat (first | assumption | refine two_alloc ?_)) (first
    | (go_at_call 58; with_reducible refine (law_of13 h7.drew 6 1).mono ?_; rintro e w8 ⟨rfl, h8⟩; have s8 := And.intro (val2' h8.p2).1 (val2' h8.p2).2.1)
    | (go_at_call 51; with_reducible refine (x_Buf CW.h3 (by omega) h8 (L := [1]) (n := 1) (by decide +kernel) rfl).mono ?_; rintro e w9 ⟨a9, c9, rfl, h9⟩; have s9 := And.intro (val2' h9.p3).1 (val2' h9.p3).2.1; have i9 := Sat.litI (L := [1]) (n := 1) (h9.alloc (.cells #[.int .i64 1] 3)) rfl (by decide))
    | (go_at_call 51; with_reducible refine (x_Buf CW.h3 (by omega) (h8.alloc (.cells #[.int .i64 1] 3)).p2 (L := [1]) (n := 1) (by decide +kernel) rfl).mono ?_; rintro e w9 ⟨a9, c9, rfl, h9⟩; have s9 := And.intro (val2' h9.p4).1 (val2' h9.p4).2.1; have i9 := Sat.litI (L := [1]) (n := 1) h9.p3 rfl (by decide))
    | (go_at_call 60; with_reducible refine (ints_same13 i9 rfl (by decide)).mono ?_; rintro e w10 ⟨rfl, h10⟩; have s10 := And.intro (val2' h10.p2).1 (val2' h10.p2).2.1)
    | (go_at_call 19; with_reducible refine (x_Drop CW.h3 (by omega) (CW.kI _) h10 6 1 (e0 := 0) (by decide +kernel)).mono ?_; rintro e w11 ⟨rfl, h11⟩; have s11 := And.intro (val2' h11.p2).1 (val2' h11.p2).2.1)
    | (go_at_call 35; with_reducible refine (x_Queue CW.h4 (by omega) h11 (L := [1]) (n := 1) (by decide +kernel) rfl).mono ?_; rintro e w12 ⟨a12, c12, rfl, h12⟩; have s12 := And.intro (val2' h12.p3).1 (val2' h12.p3).2.1; have i12 := Sat.litI (L := [1]) (n := 1) (h12.alloc (.cells #[.int .i64 1] 3)) rfl (by decide))
    | (go_at_call 35; with_reducible refine (x_Queue CW.h4 (by omega) (h11.alloc (.cells #[.int .i64 1] 3)).p2 (L := [1]) (n := 1) (by decide +kernel) rfl).mono ?_; rintro e w12 ⟨a12, c12, rfl, h12⟩; have s12 := And.intro (val2' h12.p4).1 (val2' h12.p4).2.1; have i12 := Sat.litI (L := [1]) (n := 1) h12.p3 rfl (by decide))
    | (go_at_call 60; with_reducible refine (ints_same13 i12 rfl (by decide)).mono ?_; rintro e w13 ⟨rfl, h13⟩; have s13 := And.intro (val2' h13.p2).1 (val2' h13.p2).2.1)
    | (go_at_call 51; with_reducible refine (x_Buf CW.h4 (by omega) h13 (L := []) (n := 0) (by decide +kernel) rfl).mono ?_; rintro e w14 ⟨a14, c14, rfl, h14⟩; have s14 := And.intro (val2' h14.p3).1 (val2' h14.p3).2.1; have j14 : Sat w0 w14 (slc 3 1 none 0 0 (([] : List Int).map ival) * _) := h14.nilSlc)
    | (go_at_call 60; with_reducible refine (ints_same13 (L := []) (n := 0) j14 rfl (by decide)).mono ?_; rintro e w15 ⟨rfl, h15⟩; have s15 := And.intro (val2' h15.p2).1 (val2' h15.p2).2.1))
  all_goals
    go_wp2_with fail
    go_ret
    exact ⟨rfl, h15.drop.drop⟩
end
end Go.Proofs.Ytkpcngcegipalaa.Tw
namespace Go.Proofs.Ytkpcngcegipalaa.Tw
set_option linter.unusedVariables false
set_option linter.unusedSimpArgs false
open Go Go.RowKit Go.MapKept

section
variable {w0 w : World} {F : HP}
theorem oboxC {ob : Nat} {ok oc om : Int} {sa : Option Addr} {sn sc : Nat} {tx : ByteArray} (h : Sat w0 w (pt ob (.cells #[.int .i64 ok, .int .i64 oc, .slice sa sn sc, .string tx, .int .i64 om] 39 (0, 0)) * F)) :
    w.cell? ⟨ob, 0, none⟩ = some (.int .i64 ok) ∧ w.cell? ⟨ob, 1, none⟩ = some (.int .i64 oc) ∧ w.cell? ⟨ob, 2, none⟩ = some (.slice sa sn sc) ∧ w.cell? ⟨ob, 4, none⟩ = some (.int .i64 om) :=
  have c := fun i v hv => Sat.cell (T := 39) (cs := #[.int .i64 ok, .int .i64 oc, .slice sa sn sc, .string tx, .int .i64 om]) h i (v := v) hv
  ⟨c 0 _ rfl, c 1 _ rfl, c 2 _ rfl, c 4 _ rfl⟩
theorem valC {a : Option Addr} {n c k : Nat} {l : List AVal} {x : AVal} (h : Sat w0 w (slc 28 2 a n c (avcells l) * F)) (hx : l[k]? = some x) : ∃ g off, a = some ⟨g, off, none⟩ ∧ w.cell? ⟨g, off + k * 2, none⟩ = some (.int .i64 x.kind) ∧ w.cell? ⟨g, off + k * 2 + 1, none⟩ = some (.int .i64 x.n) := by
  obtain ⟨e0, e1⟩ := avcells_get l k x hx
  obtain ⟨g, off, ea, c0, _⟩ := h.slcAt e0
  obtain ⟨g1, off1, ea1, c1, _⟩ := h.slcAt e1
  rw [ea] at ea1; cases ea1
  exact ⟨g, off, ea, c0, by rw [Nat.add_assoc]; exact c1⟩
set_option maxHeartbeats 1000000 in
theorem law_alike {k1 c1 m1 k2 c2 m2 : Int} {t1 t2 : ByteArray} {l1 l2 : List AVal} {a1 a2 : Option Addr} {n1 n2 d1 d2 : Nat} (h : Sat w0 w (slc 28 2 a1 n1 d1 (avcells l1) * (slc 28 2 a2 n2 d2 (avcells l2) * F))) (hl1 : l1.length = n1) (hl2 : l2.length = n2) (hn1 : n1 ≤ 1000000) (hn2 : n2 ≤ 1000000) :
    Calls Try.prog 50 #[.agg #[.int .i64 k1, .int .i64 c1, .slice a1 n1 d1, .string t1, .int .i64 m1], .agg #[.int .i64 k2, .int .i64 c2, .slice a2 n2 d2, .string t2, .int .i64 m2]] w fun e w' =>
      e = .returned (.bool (decide (AlikeO ⟨k1, c1, l1, t1, m1⟩ ⟨k2, c2, l2, t2, m2⟩))) ∧ Sat w0 w' (slc 28 2 a1 n1 d1 (avcells l1) * (slc 28 2 a2 n2 d2 (avcells l2) * F)) := by
  have HL := Lib.hid (And.intro hl1 hl2)
  clear hl1 hl2
  have hb := (h.alloc (.cells #[.int .i64 k1, .int .i64 c1, .slice a1 n1 d1, .string t1, .int .i64 m1] 39)).alloc (.cells #[.int .i64 k2, .int .i64 c2, .slice a2 n2 d2, .string t2, .int .i64 m2] 39)
  rw [size_alloc] at hb
  have ⟨y0, y1, y2, y4⟩ := oboxC hb
  have ⟨x0, x1, x2, x4⟩ := oboxC hb.p2
  have hfin := hb.drop.drop
  by_cases q1 : k1 = k2
  · subst q1
    by_cases q2 : c1 = c2
    · subst q2
      by_cases q3 : m1 = m2
      · subst q3
        by_cases q4 : n1 = n2
        · subst q4
          have HB := Lib.hid hb
          generalize hB1 : w.heap.size = B1 at *
          have HO := Lib.hid (fun (w' : World) (hx : Sat w0 w' (pt (B1 + 1) (.cells #[.int .i64 k1, .int .i64 c1, .slice a2 n1 d2, .string t2, .int .i64 m1] 39 (0, 0)) * (pt B1 (.cells #[.int .i64 k1, .int .i64 c1, .slice a1 n1 d1, .string t1, .int .i64 m1] 39 (0, 0)) * (slc 28 2 a1 n1 d1 (avcells l1) * (slc 28 2 a2 n1 d2 (avcells l2) * F))))) => And.intro (oboxC hx) (oboxC hx.p2))
          clear hfin hb h
          go_enter Try.func50, Try.ntmps50
          go_wp2_with fail
          go_loopw [5] (fun iv wr => ∃ k : Nat, iv = .int .i64 k ∧ k ≤ n1 ∧ Hid (l1.take k = l2.take k) ∧ Sat w0 wr (pt (B1 + 1) (.cells #[.int .i64 k1, .int .i64 c1, .slice a2 n1 d2, .string t2, .int .i64 m1] 39 (0, 0)) * (pt B1 (.cells #[.int .i64 k1, .int .i64 c1, .slice a1 n1 d1, .string t1, .int .i64 m1] 39 (0, 0)) * (slc 28 2 a1 n1 d1 (avcells l1) * (slc 28 2 a2 n1 d2 (avcells l2) * F))))) (fun iv _ => n1 - (intOf iv).toNat)
          case atStart => exact ⟨0, rfl, by omega, Lib.hid rfl, HB.out⟩
          case round =>
            clear x0 x1 x2 x4 y0 y1 y2 y4
            obtain ⟨k, rfl, hk, hb, hs⟩ := hrel
            have x2 := (HO.out _ hs).2.2.2.1
            have hal : l1 = l2 ↔ AlikeO ⟨k1, c1, l1, t1, m1⟩ ⟨k1, c1, l2, t2, m1⟩ := ⟨fun e => ⟨rfl, rfl, rfl, e⟩, fun e => e.2.2.2⟩
            have HA := Lib.hid hal
            clear hal
            by_cases hlt : k < n1
            · have hlen := HL.out
              have ex : l1[k]? = some (l1[k]'(by omega)) := List.getElem?_eq_getElem _
              have ey : l2[k]? = some (l2[k]'(by omega)) := List.getElem?_eq_getElem _
              generalize l1[k]'(by omega) = x at *
              generalize l2[k]'(by omega) = y at *
              obtain ⟨g, off, rfl, _, _⟩ := valC hs.p3 ex
              obtain ⟨g2, off2, rfl, _, _⟩ := valC hs.p4 ey
              have HC := Lib.hid (fun (w' : World) hx => And.intro (HO.out w' hx) (And.intro (valC hx.p3 ex) (valC hx.p4 ey)))
              have HX := Lib.hid (And.intro ex ey)
              have hkn : (k : Int) < (n1 : Int) := by omega
              have hk0 : (0 : Int) ≤ (k : Int) := by omega
              clear ex ey hlen
              obtain ⟨xk, xn⟩ := x
              obtain ⟨yk, yn⟩ := y
              by_cases hxy : xk = yk ∧ xn = yn
              · obtain ⟨rfl, rfl⟩ := hxy
                go_wp2_with fail
                refine wp_region_qq (fun w' => Sat w0 w' (pt (B1 + 1) (.cells #[.int .i64 k1, .int .i64 c1, .slice (some ⟨g2, off2, none⟩) n1 d2, .string t2, .int .i64 m1] 39 (0, 0)) * (pt B1 (.cells #[.int .i64 k1, .int .i64 c1, .slice (some ⟨g, off, none⟩) n1 d1, .string t1, .int .i64 m1] 39 (0, 0)) * (slc 28 2 (some ⟨g, off, none⟩) n1 d1 (avcells l1) * (slc 28 2 (some ⟨g2, off2, none⟩) n1 d2 (avcells l2) * F))))) (by kernel_rfl) (by kernel_rfl) hs ?_
                iterate 11 (first
                  | (refine QQ.skip (by rfl) ?_; simp only [Act.put, List.setIfInBounds_toArray, List.set_cons_zero, List.set_cons_succ])
                  | (refine QQ.want (by rfl) ?_
                     apply Exists.intro
                     refine ⟨?_, ?_⟩
                     · intro w hw
                       have ⟨⟨⟨_, _, z0, _⟩, ⟨_, _, z1, _⟩⟩, ⟨_, _, q0, q1, q2⟩, ⟨_, _, r0, r1, r2⟩⟩ := HC.out w hw; cases q0; cases r0
                       first
                         | (go_simp; done)
                         | (go_simp; rfl)
                         | (go_simp; fail)
                     simp only [Act.put, List.setIfInBounds_toArray, List.set_cons_zero, List.set_cons_succ]))
                refine QQ.nil ?_
                intro w9 h9
                go_wp2_with fail
                go_roundw
                case rel =>
                  refine ⟨k + 1, by go_num, by omega, Lib.hid ?_, h9⟩
                  rw [List.take_add_one, List.take_add_one, hb.out, HX.out.1, HX.out.2]
                case measure => simp [intOf]; omega
              · have hne : ¬ AlikeO ⟨k1, c1, l1, t1, m1⟩ ⟨k1, c1, l2, t2, m1⟩ := fun e => hxy (by
                  have h1 := HX.out.1
                  rw [HA.out.2 e, HX.out.2] at h1
                  have h2 := Option.some.inj h1
                  injection h2 with h3 h4
                  exact ⟨h3.symm, h4.symm⟩)
                have HNE := Lib.hid hne
                clear hne
                have fin : ∀ w', Sat w0 w' (pt (B1 + 1) (.cells #[.int .i64 k1, .int .i64 c1, .slice (some ⟨g2, off2, none⟩) n1 d2, .string t2, .int .i64 m1] 39 (0, 0)) * (pt B1 (.cells #[.int .i64 k1, .int .i64 c1, .slice (some ⟨g, off, none⟩) n1 d1, .string t1, .int .i64 m1] 39 (0, 0)) * (slc 28 2 (some ⟨g, off, none⟩) n1 d1 (avcells l1) * (slc 28 2 (some ⟨g2, off2, none⟩) n1 d2 (avcells l2) * F)))) → Sat w0 w' (slc 28 2 (some ⟨g, off, none⟩) n1 d1 (avcells l1) * (slc 28 2 (some ⟨g2, off2, none⟩) n1 d2 (avcells l2) * F)) := fun w' h => h.drop.drop
                have hcs : (xk = yk ∧ ¬ xn = yn) ∨ ¬ xk = yk := by
                  by_cases e : xk = yk
                  · exact .inl ⟨e, fun e2 => hxy ⟨e, e2⟩⟩
                  · exact .inr e
                clear hxy
                rcases hcs with ⟨rfl, hxy⟩ | hxy
                all_goals
                  go_wp2_with fail
                  refine wp_region_qq (fun w' => Sat w0 w' (pt (B1 + 1) (.cells #[.int .i64 k1, .int .i64 c1, .slice (some ⟨g2, off2, none⟩) n1 d2, .string t2, .int .i64 m1] 39 (0, 0)) * (pt B1 (.cells #[.int .i64 k1, .int .i64 c1, .slice (some ⟨g, off, none⟩) n1 d1, .string t1, .int .i64 m1] 39 (0, 0)) * (slc 28 2 (some ⟨g, off, none⟩) n1 d1 (avcells l1) * (slc 28 2 (some ⟨g2, off2, none⟩) n1 d2 (avcells l2) * F))))) (by kernel_rfl) (by kernel_rfl) hs ?_
                  iterate 11 (first
                    | (refine QQ.skip (by rfl) ?_; simp only [Act.put, List.setIfInBounds_toArray, List.set_cons_zero, List.set_cons_succ])
                    | (refine QQ.want (by rfl) ?_
                       apply Exists.intro
                       refine ⟨?_, ?_⟩
                       · intro w hw
                         have ⟨⟨⟨_, _, z0, _⟩, ⟨_, _, z1, _⟩⟩, ⟨_, _, q0, q1, q2⟩, ⟨_, _, r0, r1, r2⟩⟩ := HC.out w hw; cases q0; cases r0
                         first
                           | (go_simp; done)
                           | (go_simp; rfl)
                           | (go_simp; fail)
                       simp only [Act.put, List.setIfInBounds_toArray, List.set_cons_zero, List.set_cons_succ]))
                  refine QQ.nil ?_
                  intro w9 h9
                  go_wp2_with fail
                  go_ret
                  exact ⟨by rw [decide_eq_false HNE.out]; rfl, fin _ h9⟩
            · have hkn : k = n1 := by omega
              subst hkn
              go_wp2_with fail
              go_ret
              have e : l1 = l2 := by
                have := hb.out
                have hl1 := HL.out
                rwa [List.take_of_length_le (by omega), List.take_of_length_le (by omega)] at this
              exact ⟨by rw [decide_eq_true (HA.out.1 e)]; rfl, hs.drop.drop⟩
        · have f4 : ((n1 : Int) != (n2 : Int)) = true := by simp; omega
          have hne : ¬ AlikeO ⟨k1, c1, l1, t1, m1⟩ ⟨k1, c1, l2, t2, m1⟩ := fun e => q4 (by rw [← HL.out.1, ← HL.out.2, show l1 = l2 from e.2.2.2])
          rw [decide_eq_false hne]
          clear hne hb h q4
          go_enter Try.func50, Try.ntmps50
          go_wp2_with fail
          go_ret
          exact ⟨rfl, hfin⟩
      · have f4 : (m1 != m2) = true := by simp [q3]
        have hne : ¬ AlikeO ⟨k1, c1, l1, t1, m1⟩ ⟨k1, c1, l2, t2, m2⟩ := fun e => q3 e.2.2.1
        rw [decide_eq_false hne]
        clear hne hb h q3
        go_enter Try.func50, Try.ntmps50
        go_wp2_with fail
        go_ret
        exact ⟨rfl, hfin⟩
    · have f4 : (c1 != c2) = true := by simp [q2]
      have hne : ¬ AlikeO ⟨k1, c1, l1, t1, m1⟩ ⟨k1, c2, l2, t2, m2⟩ := fun e => q2 e.2.1
      rw [decide_eq_false hne]
      clear hne hb h q2
      go_enter Try.func50, Try.ntmps50
      go_wp2_with fail
      go_ret
      exact ⟨rfl, hfin⟩
  · have f4 : (k1 != k2) = true := by simp [q1]
    have hne : ¬ AlikeO ⟨k1, c1, l1, t1, m1⟩ ⟨k2, c2, l2, t2, m2⟩ := fun e => q1 e.1
    rw [decide_eq_false hne]
    clear hne hb h q1
    go_enter Try.func50, Try.ntmps50
    go_wp2_with fail
    go_ret
    exact ⟨rfl, hfin⟩
end
end Go.Proofs.Ytkpcngcegipalaa.Tw
