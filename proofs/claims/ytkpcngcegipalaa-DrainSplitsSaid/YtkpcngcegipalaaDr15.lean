/- the honest hand of drain's laws: a move, a play. No condition. -/
import Derived.Test.YtkpcngcegipalaaDr11
import Derived.Test.YtkpcngcegipalaaDr12
import Derived.Test.YtkpcngcegipalaaDr13
import Derived.Test.YtkpcngcegipalaaDr14
import Derived.Test.YtkpcngcegipalaaArg
namespace Go.Proofs.Ytkpcngcegipalaa.Tw
set_option linter.unusedVariables false
set_option linter.unusedSimpArgs false
open Go Go.RowKit Go.MapKept

section
variable {w0 w : World} {b p : Nat} {l : List AVal} {A : AHeap} {B : Int} {F : HP}
theorem hd_do (H : HW A B) (hB : B ≤ 1000000) (h : Sat w0 w (heapR mN p A * (handL b p l * F))) (hl : l.length ≤ 1000000) (K a c : Nat) (hK : K < 256) (ha : a < 256) (hc : c < 256) :
    Calls Try.prog 98 #[.pointer (some ⟨b, 0, none⟩), .agg #[.int .u8 K, .int .u8 a, .int .u8 c]] w fun e w' => e = .returned (.tuple #[]) ∧ Sat w0 w' (heapR mN p (moveA A l K a c) * (handL b p (moveL A l K a c) * F)) := by
  have h7 : K % 7 < 7 := Nat.mod_lt _ (by omega)
  obtain h0 | h0 | h0 | h0 | h0 | h0 | h0 : K % 7 = 0 ∨ K % 7 = 1 ∨ K % 7 = 2 ∨ K % 7 = 3 ∨ K % 7 = 4 ∨ K % 7 = 5 ∨ K % 7 = 6 := by omega
  all_goals
    unfold moveA moveL
    simp only [h0]
  · exact hd_do0 H hB h hl K a c hK ha hc h0
  · exact hd_do1 H hB h hl K a c hK ha hc h0
  · exact hd_do2 H hB h hl K a c hK ha hc h0
  · exact hd_do3 H hB h hl K a c hK ha hc h0
  · exact hd_do4 H hB h hl K a c hK ha hc h0
  · exact hd_do5 H hB h hl K a c hK ha hc h0
  · exact hd_do6 H hB h hl K a c hK ha hc h0
end
abbrev Mv := Nat × Nat × Nat
def mvcells (ms : List Mv) : List Value := ms.flatMap fun x => [.int .u8 x.1, .int .u8 x.2.1, .int .u8 x.2.2]
theorem mvcells_get : ∀ {ms : List Mv} {k : Nat} {x : Mv}, ms[k]? = some x → (mvcells ms)[k * 3]? = some (.int .u8 x.1) ∧ (mvcells ms)[k * 3 + 1]? = some (.int .u8 x.2.1) ∧ (mvcells ms)[k * 3 + 2]? = some (.int .u8 x.2.2)
  | [], k, x, h => by simp at h
  | y :: ms, 0, x, h => by simp at h; subst h; exact ⟨rfl, rfl, rfl⟩
  | y :: ms, k + 1, x, h => by
    simp at h
    have := mvcells_get h
    have e : mvcells (y :: ms) = [.int .u8 y.1, .int .u8 y.2.1, .int .u8 y.2.2] ++ mvcells ms := rfl
    rw [e, List.getElem?_append_right (by simp; omega), List.getElem?_append_right (by simp; omega), List.getElem?_append_right (by simp; omega)]
    simp only [List.length_cons, List.length_nil]
    rw [show (k + 1) * 3 - (0 + 1 + 1 + 1) = k * 3 by omega, show (k + 1) * 3 + 1 - (0 + 1 + 1 + 1) = k * 3 + 1 by omega, show (k + 1) * 3 + 2 - (0 + 1 + 1 + 1) = k * 3 + 2 by omega]
    exact this
def stepM (s : AHeap × List AVal) (x : Mv) : AHeap × List AVal := (moveA s.1 s.2 x.1 x.2.1 x.2.2, moveL s.1 s.2 x.1 x.2.1 x.2.2)
def playK (ms : List Mv) (k : Nat) : AHeap × List AVal := (ms.take k).foldl stepM (AHeap.empty, [])
def playM (ms : List Mv) : AHeap × List AVal := playK ms 60
theorem playK_succ {ms : List Mv} {k : Nat} {x : Mv} (h : ms[k]? = some x) : playK ms (k + 1) = stepM (playK ms k) x := by
  unfold playK
  rw [List.take_add_one, h, List.foldl_append]; rfl
theorem playK_hw (ms : List Mv) : ∀ k, HW (playK ms k).1 (k + 1) ∧ (playK ms k).2.length ≤ k
  | 0 => ⟨HW.empty.mono (by omega), by simp [playK]⟩
  | k + 1 => by
    obtain ⟨h1, h2⟩ := playK_hw ms k
    cases h : ms[k]? with
    | none =>
      have e : playK ms (k + 1) = playK ms k := by unfold playK; rw [List.take_add_one, h]; simp
      rw [e]
      exact ⟨h1.mono (by omega), by omega⟩
    | some x =>
      rw [playK_succ h]
      refine ⟨?_, ?_⟩
      · exact (h1.move (by omega) _ _ _ _).mono (by omega)
      · have := moveL_le (playK ms k).1 (playK ms k).2 x.1 x.2.1 x.2.2
        show (moveL _ _ _ _ _).length ≤ _
        omega
section
variable {w0 w : World} {F CR : HP}
set_option maxRecDepth 100000 in
set_option maxHeartbeats 2000000 in
theorem hd_play {a : Option Addr} {n c : Nat} {ms : List Mv} (hm : ms.length = n) (hn : n ≤ 9223372036854775807) (hms : ∀ x ∈ ms, x.1 < 256 ∧ x.2.1 < 256 ∧ x.2.2 < 256) (hA : ArgAt w0 CR a (mvcells ms)) (h : Sat w0 w (CR * F)) :
    Calls Try.prog 36 #[.slice a n c] w fun e w' => ∃ b p, e = .returned (.pointer (some ⟨b, 0, none⟩)) ∧ Sat w0 w' (heapR mN p (playM ms).1 * (handL b p (playM ms).2 * (CR * F))) := by
  have HM := Lib.hid (And.intro hm hms)
  have HAA := Lib.hid hA
  clear hm hms hA
  go_enter Try.func36, Try.ntmps36
  go_wp2_with fail
  refine (heap_New h).mono ?_
  rintro e w1 ⟨p, rfl, h1⟩
  have h2 := (h1 mN).nilSlc (T := 28) (sz := 2)
  have h3 := h2.alloc (.cells #[.pointer (some ⟨p, 0, none⟩), .slice none 0 0] 77)
  have h4 : Sat w0 _ (heapR mN p (playK ms 0).1 * (handL w1.heap.size p (playK ms 0).2 * (CR * F))) := (Sat.shutHand (l := []) h3 rfl).p2
  have H4 := Lib.hid h4
  clear h1 h2 h3 h4 h
  generalize hb : w1.heap.size = b at *
  go_wp2
  go_loopw [4] (fun iv wr => ∃ k : Nat, iv = .int .i64 k ∧ k ≤ n ∧ k ≤ 60 ∧ Sat w0 wr (heapR mN p (playK ms k).1 * (handL b p (playK ms k).2 * (CR * F)))) (fun iv _ => n - (intOf iv).toNat)
  case atStart => exact ⟨0, rfl, by omega, by omega, H4.out⟩
  case round =>
    obtain ⟨k, rfl, hk, hk6, hs⟩ := hrel
    by_cases hlt : k < n
    · by_cases hl6 : k < 60
      · have hx : ms[k]? = some (ms[k]'(by rw [HM.out.1]; exact hlt)) := List.getElem?_eq_getElem _
        generalize ms[k]'(by rw [HM.out.1]; exact hlt) = x at hx
        have hxb := HM.out.2 x (List.mem_of_getElem? hx)
        obtain ⟨e0, e1, e2⟩ := mvcells_get hx
        obtain ⟨g, off, rfl, d0⟩ := HAA.out _ _ _ _ hs.p3 e0
        obtain ⟨g1, off1, q1, d1⟩ := HAA.out _ _ _ _ hs.p3 e1
        cases q1
        obtain ⟨g2, off2, q2, d2⟩ := HAA.out _ _ _ _ hs.p3 e2
        cases q2
        rw [← Nat.add_assoc] at d1 d2
        obtain ⟨i1, i2⟩ := playK_hw ms k
        have HD := Lib.hid (hd_do i1 (by omega) hs (by omega) x.1 x.2.1 x.2.2 hxb.1 hxb.2.1 hxb.2.2)
        have HS := Lib.hid (playK_succ hx)
        obtain ⟨xk, xa, xb⟩ := x
        dsimp only at *
        clear hs hx e0 e1 e2 i1 i2 hxb
        go_wp2_with fail
        refine HD.out.mono ?_
        rintro e w5 ⟨rfl, h5⟩
        go_wp2_with fail
        go_roundw
        case rel => exact ⟨k + 1, by go_num, by omega, by omega, by rw [HS.out]; exact h5⟩
        case measure => simp [intOf]; omega
      · have hk60 : k = 60 := by omega
        subst hk60
        go_wp2
        go_ret
        exact ⟨b, p, rfl, hs⟩
    · have hkn : k = n := by omega
      subst hkn
      have he : playK ms k = playM ms := by
        unfold playM playK
        rw [List.take_of_length_le (by have := HM.out.1; omega), List.take_of_length_le (by have := HM.out.1; omega)]
      rw [he] at hs
      go_wp2
      go_ret
      exact ⟨b, p, rfl, hs⟩
end
end Go.Proofs.Ytkpcngcegipalaa.Tw
