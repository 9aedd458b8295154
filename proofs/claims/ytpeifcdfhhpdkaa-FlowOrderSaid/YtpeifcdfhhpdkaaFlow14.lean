/- the document's Next: its walk; Ints of layer 2. No condition. -/
import Derived.Test.YtpeifcdfhhpdkaaFlow13
namespace Go.Proofs.Ytpeifcdfhhpdkaa.Tw
set_option linter.unusedVariables false
set_option linter.unusedSimpArgs false
open Go Go.RowKit Go.MapKept
section
variable {w0 w : World} {CR F : HP} {sa : Option Addr} {n c : Nat} {l : List AIn}
set_option maxRecDepth 100000 in
set_option maxHeartbeats 4000000 in
theorem ref_next_in (hC : CodeAt w0 CR sa n l) (hcap : n ≤ c) (hn : n ≤ 1000000000) (p : Nat) (hp : p < n) (x : AIn) (hx : l[p]? = some x) (h : Sat w0 w (CR * F)) :
    Calls Try.prog 14 #[.slice sa n c, .int .i64 p] w fun e w' => ∃ a c', e = .returned (.slice a (hitsL (bhB x.op) (jpB x.op) p x.b n).length c') ∧ Sat w0 w' (slc 3 1 a (hitsL (bhB x.op) (jpB x.op) p x.b n).length c' ((hitsL (bhB x.op) (jpB x.op) p x.b n).map ival) * (CR * F)) := by
  have hcell : ∀ W G, Sat w0 W (CR * G) → ∃ g off, sa = some ⟨g, off, none⟩ ∧ W.cell? ⟨g, off + p * 3, none⟩ = some (.int .i64 x.op) ∧ W.cell? ⟨g, off + p * 3 + 2, none⟩ = some (.int .i64 x.b) := fun W G hh => by
    obtain ⟨g, off, e, c0, _, c2⟩ := hC.2 W G hh p x hx
    exact ⟨g, off, e, c0, c2⟩
  obtain ⟨g, off, rfl, c0, c2⟩ := hcell w F h
  obtain ⟨op, ia, b⟩ := x
  have HC := Lib.hid hcell
  have hp1 : (p : Int) < (n : Int) := by omega
  have hp0 : (0 : Int) ≤ (p : Int) := by omega
  have hno := h.nilSlc (T := 3) (sz := 1)
  clear hcell hx hC
  show Calls Try.prog 14 #[.slice (some ⟨g, off, none⟩) n c, .int .i64 p] w fun e w' => ∃ a c', e = .returned (.slice a (hitsL (bhB op) (jpB op) p b n).length c') ∧ Sat w0 w' (slc 3 1 a (hitsL (bhB op) (jpB op) p b n).length c' ((hitsL (bhB op) (jpB op) p b n).map ival) * (CR * F))
  have hops : op = 19 ∨ op = 20 ∨ (op = 21 ∨ op = 22 ∨ op = 23 ∨ op = 24 ∨ op = 33 ∨ op = 34 ∨ op = 35) ∨ (bhB op = true ∧ jpB op = false ∧ (op == 19) = false ∧ (op == 20) = false ∧ (op == 21) = false ∧ (op == 22) = false ∧ (op == 23) = false ∧ (op == 24) = false ∧ (op == 33) = false ∧ (op == 34) = false ∧ (op == 35) = false) := by
    by_cases h1 : op = 19
    · exact .inl h1
    by_cases h2 : op = 20
    · exact .inr (.inl h2)
    by_cases h3 : op = 21 ∨ op = 22 ∨ op = 23 ∨ op = 24 ∨ op = 33 ∨ op = 34 ∨ op = 35
    · exact .inr (.inr (.inl h3))
    · refine .inr (.inr (.inr ?_))
      simp only [not_or] at h3
      obtain ⟨a1, a2, a3, a4, a5, a6, a7⟩ := h3
      unfold bhB jpB isIf
      simp [h1, h2, a1, a2, a3, a4, a5, a6, a7]
  have hB : ∃ bh jp, bhB op = bh ∧ jpB op = jp := ⟨_, _, rfl, rfl⟩
  rcases hops with rfl | rfl | (rfl | rfl | rfl | rfl | rfl | rfl | rfl) | ⟨q1, q2, b1, b2, b3, b4, b5, b6, b7, b8, b9⟩
  case inr.inr.inr =>
    rw [q1, q2]
    clear q1 q2 hB
    go_enter Try.func14, Try.ntmps14
    go_wp2
    go_loopw [7, 8] (fun ov iv wr => ∃ (a : Option Addr) (m k c : Nat), ov = .slice a m c ∧ iv = .int .i64 k ∧ k ≤ n ∧ Hid ((hitsL true false p b k).length = m) ∧ Sat w0 wr (slc 3 1 a m c ((hitsL true false p b k).map ival) * (CR * F))) (fun _ iv _ => n - (intOf iv).toNat)
    case atStart => exact ⟨none, 0, 0, 0, rfl, rfl, by omega, Lib.hid rfl, hno⟩
    case round =>
      obtain ⟨a, m, k, cc, rfl, rfl, hk, hm, hs⟩ := hrel
      by_cases hlt : k < n
      · obtain ⟨_, _, e0, d0, d2⟩ := HC.out _ _ hs.p2
        cases e0
        have hml : m ≤ n := by have := hitsL_le true false p b k; have := hm.out; omega
        by_cases e1 : (k : Int) = (p : Int) + 1
        · by_cases e2 : (k : Int) = b
          · have f1 : ((k : Int) == (p : Int) + 1) = true := decide_eq_true e1
            have f2 : ((k : Int) == b) = true := decide_eq_true e2
            have HY : Hid (hitsL true false p b (k + 1) = hitsL true false p b k ++ [(k : Int)]) := Lib.hid (hitsL_yes (by unfold hitB; rw [decide_eq_true e1, decide_eq_true e2]; rfl))
            clear e1 e2
            have h5 := hs.alloc (.cells #[.int .i64 k] 3)
            have b0 : (wr.alloc (.cells #[.int .i64 k] 3)).cell? ⟨wr.heap.size, 0, none⟩ = some (.int .i64 k) := Sat.cell (T := 3) (cs := #[.int .i64 k]) h5 0 rfl
            have HS := Lib.hid h5.p2
            clear h5
            go_wp2_with (at_builtin; refine wpList_push' rfl _ _ rfl a m cc (hitsL true false p b k) rfl HS.out wr.heap.size 1 k rfl b0 (by omega) ?_; intro a2 c2 w4 h6)
            go_round
            case rel => exact ⟨a2, m + 1, k + 1, c2, rfl, by go_num, by omega, Lib.hid (by rw [HY.out, List.length_append, hm.out]; rfl), by rw [HY.out]; exact h6.p2.drop⟩
            case measure => simp [intOf]; omega
          · have f1 : ((k : Int) == (p : Int) + 1) = true := decide_eq_true e1
            have f2 : ((k : Int) == b) = false := decide_eq_false e2
            have HY : Hid (hitsL true false p b (k + 1) = hitsL true false p b k ++ [(k : Int)]) := Lib.hid (hitsL_yes (by unfold hitB; rw [decide_eq_true e1, decide_eq_false e2]; rfl))
            clear e1 e2
            have h5 := hs.alloc (.cells #[.int .i64 k] 3)
            have b0 : (wr.alloc (.cells #[.int .i64 k] 3)).cell? ⟨wr.heap.size, 0, none⟩ = some (.int .i64 k) := Sat.cell (T := 3) (cs := #[.int .i64 k]) h5 0 rfl
            have HS := Lib.hid h5.p2
            clear h5
            go_wp2_with (at_builtin; refine wpList_push' rfl _ _ rfl a m cc (hitsL true false p b k) rfl HS.out wr.heap.size 1 k rfl b0 (by omega) ?_; intro a2 c2 w4 h6)
            go_round
            case rel => exact ⟨a2, m + 1, k + 1, c2, rfl, by go_num, by omega, Lib.hid (by rw [HY.out, List.length_append, hm.out]; rfl), by rw [HY.out]; exact h6.p2.drop⟩
            case measure => simp [intOf]; omega
        · by_cases e2 : (k : Int) = b
          · have f1 : ((k : Int) == (p : Int) + 1) = false := decide_eq_false e1
            have f2 : ((k : Int) == b) = true := decide_eq_true e2
            have HY : Hid (hitsL true false p b (k + 1) = hitsL true false p b k) := Lib.hid (hitsL_no (by unfold hitB; rw [decide_eq_false e1, decide_eq_true e2]; rfl))
            clear e1 e2
            go_wp2
            go_round
            case rel => exact ⟨a, m, k + 1, cc, rfl, by go_num, by omega, Lib.hid (by rw [HY.out, hm.out]), by rw [HY.out]; exact hs⟩
            case measure => simp [intOf]; omega
          · have f1 : ((k : Int) == (p : Int) + 1) = false := decide_eq_false e1
            have f2 : ((k : Int) == b) = false := decide_eq_false e2
            have HY : Hid (hitsL true false p b (k + 1) = hitsL true false p b k) := Lib.hid (hitsL_no (by unfold hitB; rw [decide_eq_false e1, decide_eq_false e2]; rfl))
            clear e1 e2
            go_wp2
            go_round
            case rel => exact ⟨a, m, k + 1, cc, rfl, by go_num, by omega, Lib.hid (by rw [HY.out, hm.out]), by rw [HY.out]; exact hs⟩
            case measure => simp [intOf]; omega
      · have hkn : k = n := by omega
        subst hkn
        go_wp2
        go_ret
        have := hm.out
        subst this
        exact ⟨a, cc, rfl, hs⟩
  case inl =>
    rw [show bhB 19 = false by decide, show jpB 19 = false by decide]
    clear hB
    go_enter Try.func14, Try.ntmps14
    go_wp2
    go_loopw [7, 8] (fun ov iv wr => ∃ (a : Option Addr) (m k c : Nat), ov = .slice a m c ∧ iv = .int .i64 k ∧ k ≤ n ∧ Hid ((hitsL false false p b k).length = m) ∧ Sat w0 wr (slc 3 1 a m c ((hitsL false false p b k).map ival) * (CR * F))) (fun _ iv _ => n - (intOf iv).toNat)
    case atStart => exact ⟨none, 0, 0, 0, rfl, rfl, by omega, Lib.hid rfl, hno⟩
    case round =>
      obtain ⟨a, m, k, cc, rfl, rfl, hk, hm, hs⟩ := hrel
      by_cases hlt : k < n
      · obtain ⟨_, _, e0, d0, d2⟩ := HC.out _ _ hs.p2
        cases e0
        have hml : m ≤ n := by have := hitsL_le false false p b k; have := hm.out; omega
        by_cases e1 : (k : Int) = (p : Int) + 1
        · by_cases e2 : (k : Int) = b
          · have f1 : ((k : Int) == (p : Int) + 1) = true := decide_eq_true e1
            have f2 : ((k : Int) == b) = true := decide_eq_true e2
            have HY : Hid (hitsL false false p b (k + 1) = hitsL false false p b k) := Lib.hid (hitsL_no (by unfold hitB; rw [decide_eq_true e1, decide_eq_true e2]; rfl))
            clear e1 e2
            go_wp2
            go_round
            case rel => exact ⟨a, m, k + 1, cc, rfl, by go_num, by omega, Lib.hid (by rw [HY.out, hm.out]), by rw [HY.out]; exact hs⟩
            case measure => simp [intOf]; omega
          · have f1 : ((k : Int) == (p : Int) + 1) = true := decide_eq_true e1
            have f2 : ((k : Int) == b) = false := decide_eq_false e2
            have HY : Hid (hitsL false false p b (k + 1) = hitsL false false p b k) := Lib.hid (hitsL_no (by unfold hitB; rw [decide_eq_true e1, decide_eq_false e2]; rfl))
            clear e1 e2
            go_wp2
            go_round
            case rel => exact ⟨a, m, k + 1, cc, rfl, by go_num, by omega, Lib.hid (by rw [HY.out, hm.out]), by rw [HY.out]; exact hs⟩
            case measure => simp [intOf]; omega
        · by_cases e2 : (k : Int) = b
          · have f1 : ((k : Int) == (p : Int) + 1) = false := decide_eq_false e1
            have f2 : ((k : Int) == b) = true := decide_eq_true e2
            have HY : Hid (hitsL false false p b (k + 1) = hitsL false false p b k) := Lib.hid (hitsL_no (by unfold hitB; rw [decide_eq_false e1, decide_eq_true e2]; rfl))
            clear e1 e2
            go_wp2
            go_round
            case rel => exact ⟨a, m, k + 1, cc, rfl, by go_num, by omega, Lib.hid (by rw [HY.out, hm.out]), by rw [HY.out]; exact hs⟩
            case measure => simp [intOf]; omega
          · have f1 : ((k : Int) == (p : Int) + 1) = false := decide_eq_false e1
            have f2 : ((k : Int) == b) = false := decide_eq_false e2
            have HY : Hid (hitsL false false p b (k + 1) = hitsL false false p b k) := Lib.hid (hitsL_no (by unfold hitB; rw [decide_eq_false e1, decide_eq_false e2]; rfl))
            clear e1 e2
            go_wp2
            go_round
            case rel => exact ⟨a, m, k + 1, cc, rfl, by go_num, by omega, Lib.hid (by rw [HY.out, hm.out]), by rw [HY.out]; exact hs⟩
            case measure => simp [intOf]; omega
      · have hkn : k = n := by omega
        subst hkn
        go_wp2
        go_ret
        have := hm.out
        subst this
        exact ⟨a, cc, rfl, hs⟩
  case inr.inl =>
    rw [show bhB 20 = false by decide, show jpB 20 = true by decide]
    clear hB
    go_enter Try.func14, Try.ntmps14
    go_wp2
    go_loopw [7, 8] (fun ov iv wr => ∃ (a : Option Addr) (m k c : Nat), ov = .slice a m c ∧ iv = .int .i64 k ∧ k ≤ n ∧ Hid ((hitsL false true p b k).length = m) ∧ Sat w0 wr (slc 3 1 a m c ((hitsL false true p b k).map ival) * (CR * F))) (fun _ iv _ => n - (intOf iv).toNat)
    case atStart => exact ⟨none, 0, 0, 0, rfl, rfl, by omega, Lib.hid rfl, hno⟩
    case round =>
      obtain ⟨a, m, k, cc, rfl, rfl, hk, hm, hs⟩ := hrel
      by_cases hlt : k < n
      · obtain ⟨_, _, e0, d0, d2⟩ := HC.out _ _ hs.p2
        cases e0
        have hml : m ≤ n := by have := hitsL_le false true p b k; have := hm.out; omega
        by_cases e1 : (k : Int) = (p : Int) + 1
        · by_cases e2 : (k : Int) = b
          · have f1 : ((k : Int) == (p : Int) + 1) = true := decide_eq_true e1
            have f2 : ((k : Int) == b) = true := decide_eq_true e2
            have HY : Hid (hitsL false true p b (k + 1) = hitsL false true p b k ++ [(k : Int)]) := Lib.hid (hitsL_yes (by unfold hitB; rw [decide_eq_true e1, decide_eq_true e2]; rfl))
            clear e1 e2
            have h5 := hs.alloc (.cells #[.int .i64 k] 3)
            have b0 : (wr.alloc (.cells #[.int .i64 k] 3)).cell? ⟨wr.heap.size, 0, none⟩ = some (.int .i64 k) := Sat.cell (T := 3) (cs := #[.int .i64 k]) h5 0 rfl
            have HS := Lib.hid h5.p2
            clear h5
            go_wp2_with (at_builtin; refine wpList_push' rfl _ _ rfl a m cc (hitsL false true p b k) rfl HS.out wr.heap.size 1 k rfl b0 (by omega) ?_; intro a2 c2 w4 h6)
            go_round
            case rel => exact ⟨a2, m + 1, k + 1, c2, rfl, by go_num, by omega, Lib.hid (by rw [HY.out, List.length_append, hm.out]; rfl), by rw [HY.out]; exact h6.p2.drop⟩
            case measure => simp [intOf]; omega
          · have f1 : ((k : Int) == (p : Int) + 1) = true := decide_eq_true e1
            have f2 : ((k : Int) == b) = false := decide_eq_false e2
            have HY : Hid (hitsL false true p b (k + 1) = hitsL false true p b k) := Lib.hid (hitsL_no (by unfold hitB; rw [decide_eq_true e1, decide_eq_false e2]; rfl))
            clear e1 e2
            go_wp2
            go_round
            case rel => exact ⟨a, m, k + 1, cc, rfl, by go_num, by omega, Lib.hid (by rw [HY.out, hm.out]), by rw [HY.out]; exact hs⟩
            case measure => simp [intOf]; omega
        · by_cases e2 : (k : Int) = b
          · have f1 : ((k : Int) == (p : Int) + 1) = false := decide_eq_false e1
            have f2 : ((k : Int) == b) = true := decide_eq_true e2
            have HY : Hid (hitsL false true p b (k + 1) = hitsL false true p b k ++ [(k : Int)]) := Lib.hid (hitsL_yes (by unfold hitB; rw [decide_eq_false e1, decide_eq_true e2]; rfl))
            clear e1 e2
            have h5 := hs.alloc (.cells #[.int .i64 k] 3)
            have b0 : (wr.alloc (.cells #[.int .i64 k] 3)).cell? ⟨wr.heap.size, 0, none⟩ = some (.int .i64 k) := Sat.cell (T := 3) (cs := #[.int .i64 k]) h5 0 rfl
            have HS := Lib.hid h5.p2
            clear h5
            go_wp2_with (at_builtin; refine wpList_push' rfl _ _ rfl a m cc (hitsL false true p b k) rfl HS.out wr.heap.size 1 k rfl b0 (by omega) ?_; intro a2 c2 w4 h6)
            go_round
            case rel => exact ⟨a2, m + 1, k + 1, c2, rfl, by go_num, by omega, Lib.hid (by rw [HY.out, List.length_append, hm.out]; rfl), by rw [HY.out]; exact h6.p2.drop⟩
            case measure => simp [intOf]; omega
          · have f1 : ((k : Int) == (p : Int) + 1) = false := decide_eq_false e1
            have f2 : ((k : Int) == b) = false := decide_eq_false e2
            have HY : Hid (hitsL false true p b (k + 1) = hitsL false true p b k) := Lib.hid (hitsL_no (by unfold hitB; rw [decide_eq_false e1, decide_eq_false e2]; rfl))
            clear e1 e2
            go_wp2
            go_round
            case rel => exact ⟨a, m, k + 1, cc, rfl, by go_num, by omega, Lib.hid (by rw [HY.out, hm.out]), by rw [HY.out]; exact hs⟩
            case measure => simp [intOf]; omega
      · have hkn : k = n := by omega
        subst hkn
        go_wp2
        go_ret
        have := hm.out
        subst this
        exact ⟨a, cc, rfl, hs⟩
  all_goals
    obtain ⟨bh, jp, e1, e2⟩ := hB
    have q1 : bh = true := e1.symm
    have q2 : jp = true := e2.symm
    rw [q1] at e1
    rw [q2] at e2
    rw [e1, e2]
    clear q1 q2 e1 e2
    go_enter Try.func14, Try.ntmps14
    go_wp2
    go_loopw [7, 8] (fun ov iv wr => ∃ (a : Option Addr) (m k c : Nat), ov = .slice a m c ∧ iv = .int .i64 k ∧ k ≤ n ∧ Hid ((hitsL true true p b k).length = m) ∧ Sat w0 wr (slc 3 1 a m c ((hitsL true true p b k).map ival) * (CR * F))) (fun _ iv _ => n - (intOf iv).toNat)
    case atStart => exact ⟨none, 0, 0, 0, rfl, rfl, by omega, Lib.hid rfl, hno⟩
    case round =>
      obtain ⟨a, m, k, cc, rfl, rfl, hk, hm, hs⟩ := hrel
      by_cases hlt : k < n
      · obtain ⟨_, _, e0, d0, d2⟩ := HC.out _ _ hs.p2
        cases e0
        have hml : m ≤ n := by have := hitsL_le true true p b k; have := hm.out; omega
        by_cases e1 : (k : Int) = (p : Int) + 1
        · by_cases e2 : (k : Int) = b
          · have f1 : ((k : Int) == (p : Int) + 1) = true := decide_eq_true e1
            have f2 : ((k : Int) == b) = true := decide_eq_true e2
            have HY : Hid (hitsL true true p b (k + 1) = hitsL true true p b k ++ [(k : Int)]) := Lib.hid (hitsL_yes (by unfold hitB; rw [decide_eq_true e1, decide_eq_true e2]; rfl))
            clear e1 e2
            have h5 := hs.alloc (.cells #[.int .i64 k] 3)
            have b0 : (wr.alloc (.cells #[.int .i64 k] 3)).cell? ⟨wr.heap.size, 0, none⟩ = some (.int .i64 k) := Sat.cell (T := 3) (cs := #[.int .i64 k]) h5 0 rfl
            have HS := Lib.hid h5.p2
            clear h5
            go_wp2_with (at_builtin; refine wpList_push' rfl _ _ rfl a m cc (hitsL true true p b k) rfl HS.out wr.heap.size 1 k rfl b0 (by omega) ?_; intro a2 c2 w4 h6)
            go_round
            case rel => exact ⟨a2, m + 1, k + 1, c2, rfl, by go_num, by omega, Lib.hid (by rw [HY.out, List.length_append, hm.out]; rfl), by rw [HY.out]; exact h6.p2.drop⟩
            case measure => simp [intOf]; omega
          · have f1 : ((k : Int) == (p : Int) + 1) = true := decide_eq_true e1
            have f2 : ((k : Int) == b) = false := decide_eq_false e2
            have HY : Hid (hitsL true true p b (k + 1) = hitsL true true p b k ++ [(k : Int)]) := Lib.hid (hitsL_yes (by unfold hitB; rw [decide_eq_true e1, decide_eq_false e2]; rfl))
            clear e1 e2
            have h5 := hs.alloc (.cells #[.int .i64 k] 3)
            have b0 : (wr.alloc (.cells #[.int .i64 k] 3)).cell? ⟨wr.heap.size, 0, none⟩ = some (.int .i64 k) := Sat.cell (T := 3) (cs := #[.int .i64 k]) h5 0 rfl
            have HS := Lib.hid h5.p2
            clear h5
            go_wp2_with (at_builtin; refine wpList_push' rfl _ _ rfl a m cc (hitsL true true p b k) rfl HS.out wr.heap.size 1 k rfl b0 (by omega) ?_; intro a2 c2 w4 h6)
            go_round
            case rel => exact ⟨a2, m + 1, k + 1, c2, rfl, by go_num, by omega, Lib.hid (by rw [HY.out, List.length_append, hm.out]; rfl), by rw [HY.out]; exact h6.p2.drop⟩
            case measure => simp [intOf]; omega
        · by_cases e2 : (k : Int) = b
          · have f1 : ((k : Int) == (p : Int) + 1) = false := decide_eq_false e1
            have f2 : ((k : Int) == b) = true := decide_eq_true e2
            have HY : Hid (hitsL true true p b (k + 1) = hitsL true true p b k ++ [(k : Int)]) := Lib.hid (hitsL_yes (by unfold hitB; rw [decide_eq_false e1, decide_eq_true e2]; rfl))
            clear e1 e2
            have h5 := hs.alloc (.cells #[.int .i64 k] 3)
            have b0 : (wr.alloc (.cells #[.int .i64 k] 3)).cell? ⟨wr.heap.size, 0, none⟩ = some (.int .i64 k) := Sat.cell (T := 3) (cs := #[.int .i64 k]) h5 0 rfl
            have HS := Lib.hid h5.p2
            clear h5
            go_wp2_with (at_builtin; refine wpList_push' rfl _ _ rfl a m cc (hitsL true true p b k) rfl HS.out wr.heap.size 1 k rfl b0 (by omega) ?_; intro a2 c2 w4 h6)
            go_round
            case rel => exact ⟨a2, m + 1, k + 1, c2, rfl, by go_num, by omega, Lib.hid (by rw [HY.out, List.length_append, hm.out]; rfl), by rw [HY.out]; exact h6.p2.drop⟩
            case measure => simp [intOf]; omega
          · have f1 : ((k : Int) == (p : Int) + 1) = false := decide_eq_false e1
            have f2 : ((k : Int) == b) = false := decide_eq_false e2
            have HY : Hid (hitsL true true p b (k + 1) = hitsL true true p b k) := Lib.hid (hitsL_no (by unfold hitB; rw [decide_eq_false e1, decide_eq_false e2]; rfl))
            clear e1 e2
            go_wp2
            go_round
            case rel => exact ⟨a, m, k + 1, cc, rfl, by go_num, by omega, Lib.hid (by rw [HY.out, hm.out]), by rw [HY.out]; exact hs⟩
            case measure => simp [intOf]; omega
      · have hkn : k = n := by omega
        subst hkn
        go_wp2
        go_ret
        have := hm.out
        subst this
        exact ⟨a, cc, rfl, hs⟩
end
end Go.Proofs.Ytpeifcdfhhpdkaa.Tw
