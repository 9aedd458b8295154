/- ReachKnown: the chapter's examples, and graphs that may not be: a closed statement, proved without a condition. -/
import Derived.Test.YtmngkodejlhalaaRl4
import Derived.Test.YtmngkodejlhalaaRp1
import Derived.Test.YtmngkodejlhalaaGrow
import Derived.ProofKit
import Derived.OpenShut
import Derived.ChangeOld
namespace Go.Proofs.Ytmngkodejlhalaa.RKnown
set_option linter.unusedVariables false
set_option linter.unusedSimpArgs false
open Go Go.RowKit Go.MapKept Go.Proofs.Ytmngkodejlhalaa.Tw
open Go.ChangeShapes Go.WideShapes Go.ChangeAt

section
variable {w0 w : World} {SR F : HP}
theorem i_same {a : Option Addr} {c b : Nat} {l : List Int} {n : Nat} (h : Sat w0 w (pt b (.cells (l.map ival).toArray 3 (0, 0)) * (slc 3 1 a n c (l.map ival) * F))) (hl : l.length = n) (hn : n ≤ 1000000000) :
    Calls Try.prog 29 #[.slice a n c, .slice (some ⟨b, 0, none⟩) n n] w fun e w' => e = .returned (.bool true) ∧ Sat w0 w' F := by
  refine (ints_lit h hl hl hn hn).mono ?_
  rintro e w' ⟨rfl, h2⟩
  exact ⟨by rw [decide_eq_true rfl], h2⟩
theorem i_nil {a : Option Addr} {c : Nat} (h : Sat w0 w (slc 3 1 a 0 c [] * F)) :
    Calls Try.prog 29 #[.slice a 0 c, .slice none 0 0] w fun e w' => e = .returned (.bool true) ∧ Sat w0 w' F := by
  have h2 : Sat w0 w (slc 3 1 none 0 0 (([] : List Int).map ival) * (slc 3 1 a 0 c (([] : List Int).map ival) * F)) := h.nilSlc
  refine (law_ints11 (l := []) (r := []) h2.p2 rfl rfl (by omega) (by omega)).mono ?_
  rintro e w' ⟨rfl, h3⟩
  exact ⟨rfl, h3.drop.drop⟩
/-- a literal of values is a source -/
theorem srcV {b : Nat} {vs : List (Int × Int)} {n : Nat} (hn : vs.length = n) (hm : n ≤ 1000 := by decide) : SrcV w0 (pt b (.cells (vs.flatMap fun v => [.int .i64 v.1, .int .i64 v.2]).toArray 33 (0, 0))) (some ⟨b, 0, none⟩) n n (vs.map fun v => ⟨v.1, v.2⟩) := by
  subst hn
  refine ⟨fun w' G h k x hx => ⟨b, 0, rfl, ?_⟩, by simp, by simp, Nat.le_refl _, ?_⟩
  · have hk : k < vs.length := by have := (List.getElem?_eq_some_iff.1 hx).1; simpa using this
    have key : ∀ (vs : List (Int × Int)) (k : Nat) (x : AVal), (vs.map fun v => (⟨v.1, v.2⟩ : AVal))[k]? = some x → (vs.flatMap fun v => [Value.int .i64 v.1, Value.int .i64 v.2])[k * 2]? = some (.int .i64 x.kind) ∧ (vs.flatMap fun v => [Value.int .i64 v.1, Value.int .i64 v.2])[k * 2 + 1]? = some (.int .i64 x.n) := by
      intro vs
      induction vs with
      | nil => intro k x h; simp at h
      | cons v vs ih =>
        intro k x h
        cases k with
        | zero => simp at h; subst h; simp
        | succ k =>
          have := ih k x (by simpa using h)
          rw [List.flatMap_cons]
          rw [List.getElem?_append_right (by simp; omega), List.getElem?_append_right (by simp; omega)]
          simp only [List.length_cons, List.length_nil]
          rw [show (k + 1) * 2 - (0 + 1 + 1) = k * 2 by omega, show (k + 1) * 2 + 1 - (0 + 1 + 1) = k * 2 + 1 by omega]
          exact this
    obtain ⟨e0, e1⟩ := key vs k x hx
    exact ⟨by rw [Nat.zero_add]; exact Sat.cell (T := 33) h (k * 2) (by simpa using e0), by rw [Nat.zero_add]; exact Sat.cell (T := 33) h (k * 2 + 1) (by simpa using e1)⟩
  · unfold maxLen; omega
/-- a literal in memory -/
def lits (x : Option Addr) (T : TypeId) (cs : List Value) : HP := ex fun q => wh (x = some ⟨q, 0, none⟩) (pt q (.cells cs.toArray T (0, 0)))
theorem lits_open {x : Option Addr} {T : TypeId} {cs : List Value} (h : Sat w0 w (lits x T cs * F)) : ∃ q, x = some ⟨q, 0, none⟩ ∧ Sat w0 w (pt q (.cells cs.toArray T (0, 0)) * F) := by
  obtain ⟨q, h⟩ := Sat.elim_ex h
  exact ⟨q, h.elim_wh⟩
theorem lits_shut {x : Option Addr} {T : TypeId} {cs : List Value} {q : Nat} (e : x = some ⟨q, 0, none⟩) (h : Sat w0 w (pt q (.cells cs.toArray T (0, 0)) * F)) : Sat w0 w (lits x T cs * F) := Sat.intro_ex (P := fun q => wh (x = some ⟨q, 0, none⟩) (pt q (.cells cs.toArray T (0, 0)))) q (Sat.intro_wh e h)
theorem lits_mk {T : TypeId} {cs : List Value} {q : Nat} {A : HP} (h : Sat w0 w (A * (pt q (.cells cs.toArray T (0, 0)) * F))) : Sat w0 w (A * (lits (some ⟨q, 0, none⟩) T cs * F)) := (lits_shut rfl h.p2).p2
theorem one_out {A : HP} (h : Sat w0 w (1 * (A * F))) : Sat w0 w (A * F) := h.cast (one_mul _)
theorem one_in (h : Sat w0 w F) : Sat w0 w (1 * (1 * F)) := h.cast (by rw [one_mul, one_mul])
end
def fiveL : List AObj := [[2, 5], [3], [4], [], [4]].map tabObj
def wrongL : List AObj := [[3], []].map tabObj
theorem five_small : smallG fiveL := by
  have : ∀ o ∈ fiveL, o.slots.length ≤ 1000000 := by decide +kernel
  exact this
theorem wrong_small : smallG wrongL := by
  have : ∀ o ∈ wrongL, o.slots.length ≤ 1000000 := by decide +kernel
  exact this
def Y5 (b : Nat) : List (List Int × Option Nat) := [([2, 5], some b), ([3], some (b + 1)), ([4], some (b + 1 + 1)), ([], none), ([4], some (b + 1 + 1 + 1))]
def Y2 (b : Nat) : List (List Int × Option Nat) := [([3], some b), ([], none)]
attribute [local go_sem] lookE lkE valUpon
theorem r1 : thoseG sevenL (refsV []) true = [] := by decide +kernel
theorem r2 : thoseG sevenL (refsV [⟨6, 7⟩, ⟨6, 6⟩, ⟨6, 9⟩, ⟨3, 1⟩, ⟨9, 5⟩]) true = [1, 2, 3, 4, 5, 7] := by decide +kernel
theorem r3 : thoseG sevenL (refsV [⟨6, 7⟩, ⟨6, 6⟩, ⟨6, 9⟩]) true = [7] := by decide +kernel
theorem r4 : thoseG sevenL (refsV [⟨6, 5⟩]) false = [7] := by decide +kernel
theorem r5 : thoseG sevenL (refsV []) false = [1, 2, 3, 4, 5, 7] := by decide +kernel
theorem r6 : pathG sevenL ⟨6, 5⟩ (3) = [5, 4, 1, 3] := by rw [pathG_eq]; decide +kernel
theorem r7 : pathG sevenL ⟨6, 7⟩ (7) = [7] := by rw [pathG_eq]; decide +kernel
theorem r8 : pathG sevenL ⟨6, 1⟩ (1) = [1] := by rw [pathG_eq]; decide +kernel
theorem r9 : pathG sevenL ⟨6, 1⟩ (5) = [] := by rw [pathG_eq]; decide +kernel
theorem r10 : pathG sevenL ⟨6, 6⟩ (1) = [] := by rw [pathG_eq]; decide +kernel
theorem r11 : pathG sevenL ⟨6, 1⟩ (6) = [] := by rw [pathG_eq]; decide +kernel
theorem r12 : pathG sevenL ⟨6, 1⟩ (8) = [] := by rw [pathG_eq]; decide +kernel
theorem r13 : pathG sevenL ⟨6, 1⟩ (0) = [] := by rw [pathG_eq]; decide +kernel
theorem r14 : pathG sevenL ⟨6, 1⟩ (-1) = [] := by rw [pathG_eq]; decide +kernel
theorem r15 : pathG sevenL ⟨3, 1⟩ (1) = [] := by rw [pathG_eq]; decide +kernel
theorem r16 : pathG fiveL ⟨6, 1⟩ (4) = [1, 5, 4] := by rw [pathG_eq]; decide +kernel
theorem r17 : thoseG wrongL (refsV [⟨6, 1⟩]) true = [] := by decide +kernel
theorem r18 : thoseG wrongL (refsV []) false = [] := by decide +kernel
theorem r19 : pathG wrongL ⟨6, 1⟩ (1) = [] := by rw [pathG_eq]; decide +kernel
set_option maxRecDepth 100000 in
set_option maxHeartbeats 8000000 in
theorem walk (w : World) : Calls Try.prog 8 #[] w fun e w' => e = .returned (.bool true) ∧ Below w.heap.size w w' := by
  have H0 := Lib.hid (law_seven (Sat.refl w))
  go_enter Try.func8, Try.ntmps8
  go_wp2_with fail
  refine H0.out.mono ?_
  rintro e w1 ⟨oa, oc, rfl, hs⟩
  have hs2 := hs.alloc (.cells #[.slice oa 7 oc] 24)
  generalize hgb : w1.heap.size = gb at *
  clear H0 hs
  go_wp2_with fail
  try rw [hgb]
  refine wp_gen fun a0 ha => ?_
  have hb1 : base a0 1 = .pointer (some ⟨gb, 0, none⟩) := by rw [ha]; rfl
  have hsz0 : a0.tmps.size = 155 := by rw [ha]; rfl
  have HA0 := Lib.hid (And.intro hsz0 ha)
  clear ha hsz0
  refine GW.start (X := Option Addr × Nat) (w0 := w) (B := [pt gb (.cells #[.slice oa 7 oc] 24 (0, 0)), objsV oa 7 oc sevenL, Old w]) (a0 := a0) ?_
  refine GW.det (d := (some 5)) [0] [] rfl (fun e => by rfl) ?_; apply Exists.intro; refine ⟨fun e w' F hs => ?_, ?_, ?_⟩
  · have y0 := boxG (show Sat w w' (pt gb (.cells #[.slice oa 7 oc] 24 (0, 0)) * F) from hs); first | (go_simp; done) | (go_simp; rfl)
  · exact (fun _ _ _ => rfl)
  refine GW.new (d := (some 6)) 1 (fun x => .slice x.1 0 x.2) (fun x => slc 3 1 x.1 0 x.2 (([] : List Int).map ival)) [1] rfl rfl (fun e => by rfl) (fun e w' F K hs hK => ?_) ?_
  · go_simp; go_at_call 17; refine (c_From (SR := 1) (show Sat w w' (objsV oa 7 oc sevenL * (1 * F)) from hs.cast (by rw [one_mul]; rfl)) (by omega) seven_small srcV0 (by simp) r1).mono ?_; rintro e1 w1 ⟨ra, rc, rfl, hv⟩; exact ⟨_, rfl, hK (ra, rc) _ (show Sat w w1 (objsV oa 7 oc sevenL * (slc 3 1 ra 0 rc (([] : List Int).map ival) * F)) from hv.cast (by rw [one_mul]; ac_rfl))⟩
  refine GW.take (d := (some 7)) 2 (fun e => .bool true) (fun e => 1) [] [4] [1] rfl rfl (fun e => by rfl) (fun e e' hl => by simp only [hl 1 (by decide)]; exact ⟨trivial, trivial⟩) (fun e w' F K hs hK => ?_) ?_
  · have hs := one_out hs; go_simp; go_at_call 29; refine (i_nil hs).mono ?_; rintro e1 w1 ⟨rfl, hv⟩; exact ⟨_, rfl, hK (none, 0) _ (one_in hv)⟩
  refine GW.det (d := (some 8)) [] [1] rfl (fun e => by rfl) ?_; apply Exists.intro; refine ⟨fun e w' F hs => ?_, ?_, ?_⟩
  · first | (go_simp; done) | (go_simp; rfl)
  · exact (fun e e' hl => by first | rfl | simp only [hl 1 (by decide)])
  refine GW.det (d := (some 9)) [] [1] rfl (fun e => by rfl) ?_; apply Exists.intro; refine ⟨fun e w' F hs => ?_, ?_, ?_⟩
  · first | (go_simp; done) | (go_simp; rfl)
  · exact (fun e e' hl => by first | rfl | simp only [hl 1 (by decide)])
  refine GW.det (d := (some 10)) [0] [] rfl (fun e => by rfl) ?_; apply Exists.intro; refine ⟨fun e w' F hs => ?_, ?_, ?_⟩
  · have y0 := boxG (show Sat w w' (pt gb (.cells #[.slice oa 7 oc] 24 (0, 0)) * F) from hs); first | (go_simp; done) | (go_simp; rfl)
  · exact (fun _ _ _ => rfl)
  refine GW.keep (d := (some 11)) (fun e => .agg #[.int .i64 6, .int .i64 7]) [] [] rfl (fun e => by rfl) (fun _ _ _ => rfl) (fun e w' F K hs hK => ?_) ?_
  · go_simp; go_at_call 31; refine (law_tab11 hs 7).mono ?_; rintro e1 w1 ⟨rfl, hx⟩; exact ⟨_, rfl, hK _ hx⟩
  refine GW.keep (d := (some 12)) (fun e => .agg #[.int .i64 6, .int .i64 6]) [] [] rfl (fun e => by rfl) (fun _ _ _ => rfl) (fun e w' F K hs hK => ?_) ?_
  · go_simp; go_at_call 31; refine (law_tab11 hs 6).mono ?_; rintro e1 w1 ⟨rfl, hx⟩; exact ⟨_, rfl, hK _ hx⟩
  refine GW.keep (d := (some 13)) (fun e => .agg #[.int .i64 6, .int .i64 9]) [] [] rfl (fun e => by rfl) (fun _ _ _ => rfl) (fun e w' F K hs hK => ?_) ?_
  · go_simp; go_at_call 31; refine (law_tab11 hs 9).mono ?_; rintro e1 w1 ⟨rfl, hx⟩; exact ⟨_, rfl, hK _ hx⟩
  refine GW.det (d := (some 14)) [] [] rfl (fun e => by rfl) ?_; apply Exists.intro; refine ⟨fun e w' F hs => ?_, ?_, ?_⟩
  · first | (go_simp; done) | (go_simp; rfl)
  · exact (fun _ _ _ => rfl)
  refine GW.det (d := (some 15)) [] [] rfl (fun e => by rfl) ?_; apply Exists.intro; refine ⟨fun e w' F hs => ?_, ?_, ?_⟩
  · first | (go_simp; done) | (go_simp; rfl)
  · exact (fun _ _ _ => rfl)
  refine GW.new (d := (some 16)) 11 (fun x => .slice x.1 5 5) (fun x => lits x.1 33 [.int .i64 6, .int .i64 7, .int .i64 6, .int .i64 6, .int .i64 6, .int .i64 9, .int .i64 3, .int .i64 1, .int .i64 9, .int .i64 5]) [] rfl rfl (fun e => by rfl) (fun e w' F K hs hK => ?_) ?_
  · go_simp; exact hK (some ⟨_, 0, none⟩, 0) _ (lits_mk ((hs.alloc (.cells #[.int .i64 6, .int .i64 7, .int .i64 6, .int .i64 6, .int .i64 6, .int .i64 9, .int .i64 3, .int .i64 1, .int .i64 9, .int .i64 5] 33)).cast (mul_left_comm _ _ _)))
  refine GW.new (d := (some 17)) 12 (fun x => .slice x.1 6 x.2) (fun x => slc 3 1 x.1 6 x.2 (([1, 2, 3, 4, 5, 7] : List Int).map ival)) [1, 14] rfl rfl (fun e => by rfl) (fun e w' F K hs hK => ?_) ?_
  · have hs := show Sat w w' (objsV oa 7 oc sevenL * (lits (e 11).1 33 [.int .i64 6, .int .i64 7, .int .i64 6, .int .i64 6, .int .i64 6, .int .i64 9, .int .i64 3, .int .i64 1, .int .i64 9, .int .i64 5] * F)) from hs.cast (mul_assoc _ _ _); obtain ⟨q, hq, hs⟩ := lits_open hs.p2; go_simp; go_at_call 17; refine (c_From (SR := pt q (.cells [.int .i64 6, .int .i64 7, .int .i64 6, .int .i64 6, .int .i64 6, .int .i64 9, .int .i64 3, .int .i64 1, .int .i64 9, .int .i64 5].toArray 33 (0, 0))) (a := some ⟨q, 0, none⟩) (cl := 5) hs.p2 (by omega) seven_small (srcV (vs := [(6, 7), (6, 6), (6, 9), (3, 1), (9, 5)]) rfl) (by simp) r2).mono ?_; rintro e1 w1 ⟨ra, rc, rfl, hv⟩; exact ⟨_, rfl, hK (ra, rc) _ (show Sat w w1 ((objsV oa 7 oc sevenL * lits (e 11).1 33 [.int .i64 6, .int .i64 7, .int .i64 6, .int .i64 6, .int .i64 6, .int .i64 9, .int .i64 3, .int .i64 1, .int .i64 9, .int .i64 5]) * (slc 3 1 ra 6 rc (([1, 2, 3, 4, 5, 7] : List Int).map ival) * F)) from (lits_shut hq hv.p3).cast (by ac_rfl))⟩
  refine GW.new (d := (some 18)) 13 (fun x => .slice x.1 6 6) (fun x => lits x.1 3 [.int .i64 1, .int .i64 2, .int .i64 3, .int .i64 4, .int .i64 5, .int .i64 7]) [] rfl rfl (fun e => by rfl) (fun e w' F K hs hK => ?_) ?_
  · go_simp; exact hK (some ⟨_, 0, none⟩, 0) _ (lits_mk ((hs.alloc (.cells #[.int .i64 1, .int .i64 2, .int .i64 3, .int .i64 4, .int .i64 5, .int .i64 7] 3)).cast (mul_left_comm _ _ _)))
  refine GW.take (d := (some 19)) 14 (fun e => .bool true) (fun e => 1) [] [15, 16] [1] rfl rfl (fun e => by rfl) (fun e e' hl => by simp only [hl 1 (by decide)]; exact ⟨trivial, trivial⟩) (fun e w' F K hs hK => ?_) ?_
  · have hs := show Sat w w' (slc 3 1 (e 12).1 6 (e 12).2 (([1, 2, 3, 4, 5, 7] : List Int).map ival) * (lits (e 13).1 3 [.int .i64 1, .int .i64 2, .int .i64 3, .int .i64 4, .int .i64 5, .int .i64 7] * F)) from (one_out hs).cast (mul_assoc _ _ _); obtain ⟨q, hq, hs⟩ := lits_open hs.p2; go_simp; go_at_call 29; refine (i_same (l := [1, 2, 3, 4, 5, 7]) hs rfl (by decide)).mono ?_; rintro e1 w1 ⟨rfl, hv⟩; exact ⟨_, rfl, hK (none, 0) _ (one_in hv)⟩
  refine GW.det (d := (some 20)) [] [1] rfl (fun e => by rfl) ?_; apply Exists.intro; refine ⟨fun e w' F hs => ?_, ?_, ?_⟩
  · first | (go_simp; done) | (go_simp; rfl)
  · exact (fun e e' hl => by first | rfl | simp only [hl 1 (by decide)])
  refine GW.det (d := (some 21)) [] [1] rfl (fun e => by rfl) ?_; apply Exists.intro; refine ⟨fun e w' F hs => ?_, ?_, ?_⟩
  · first | (go_simp; done) | (go_simp; rfl)
  · exact (fun e e' hl => by first | rfl | simp only [hl 1 (by decide)])
  refine GW.det (d := (some 22)) [] [1] rfl (fun e => by rfl) ?_; apply Exists.intro; refine ⟨fun e w' F hs => ?_, ?_, ?_⟩
  · first | (go_simp; done) | (go_simp; rfl)
  · exact (fun e e' hl => by first | rfl | simp only [hl 1 (by decide)])
  refine GW.det (d := (some 23)) [0] [] rfl (fun e => by rfl) ?_; apply Exists.intro; refine ⟨fun e w' F hs => ?_, ?_, ?_⟩
  · have y0 := boxG (show Sat w w' (pt gb (.cells #[.slice oa 7 oc] 24 (0, 0)) * F) from hs); first | (go_simp; done) | (go_simp; rfl)
  · exact (fun _ _ _ => rfl)
  refine GW.keep (d := (some 24)) (fun e => .agg #[.int .i64 6, .int .i64 7]) [] [] rfl (fun e => by rfl) (fun _ _ _ => rfl) (fun e w' F K hs hK => ?_) ?_
  · go_simp; go_at_call 31; refine (law_tab11 hs 7).mono ?_; rintro e1 w1 ⟨rfl, hx⟩; exact ⟨_, rfl, hK _ hx⟩
  refine GW.keep (d := (some 25)) (fun e => .agg #[.int .i64 6, .int .i64 6]) [] [] rfl (fun e => by rfl) (fun _ _ _ => rfl) (fun e w' F K hs hK => ?_) ?_
  · go_simp; go_at_call 31; refine (law_tab11 hs 6).mono ?_; rintro e1 w1 ⟨rfl, hx⟩; exact ⟨_, rfl, hK _ hx⟩
  refine GW.keep (d := (some 26)) (fun e => .agg #[.int .i64 6, .int .i64 9]) [] [] rfl (fun e => by rfl) (fun _ _ _ => rfl) (fun e w' F K hs hK => ?_) ?_
  · go_simp; go_at_call 31; refine (law_tab11 hs 9).mono ?_; rintro e1 w1 ⟨rfl, hx⟩; exact ⟨_, rfl, hK _ hx⟩
  refine GW.new (d := (some 27)) 22 (fun x => .slice x.1 3 3) (fun x => lits x.1 33 [.int .i64 6, .int .i64 7, .int .i64 6, .int .i64 6, .int .i64 6, .int .i64 9]) [] rfl rfl (fun e => by rfl) (fun e w' F K hs hK => ?_) ?_
  · go_simp; exact hK (some ⟨_, 0, none⟩, 0) _ (lits_mk ((hs.alloc (.cells #[.int .i64 6, .int .i64 7, .int .i64 6, .int .i64 6, .int .i64 6, .int .i64 9] 33)).cast (mul_left_comm _ _ _)))
  refine GW.new (d := (some 28)) 23 (fun x => .slice x.1 1 x.2) (fun x => slc 3 1 x.1 1 x.2 (([7] : List Int).map ival)) [1, 25] rfl rfl (fun e => by rfl) (fun e w' F K hs hK => ?_) ?_
  · have hs := show Sat w w' (objsV oa 7 oc sevenL * (lits (e 22).1 33 [.int .i64 6, .int .i64 7, .int .i64 6, .int .i64 6, .int .i64 6, .int .i64 9] * F)) from hs.cast (mul_assoc _ _ _); obtain ⟨q, hq, hs⟩ := lits_open hs.p2; go_simp; go_at_call 17; refine (c_From (SR := pt q (.cells [.int .i64 6, .int .i64 7, .int .i64 6, .int .i64 6, .int .i64 6, .int .i64 9].toArray 33 (0, 0))) (a := some ⟨q, 0, none⟩) (cl := 3) hs.p2 (by omega) seven_small (srcV (vs := [(6, 7), (6, 6), (6, 9)]) rfl) (by simp) r3).mono ?_; rintro e1 w1 ⟨ra, rc, rfl, hv⟩; exact ⟨_, rfl, hK (ra, rc) _ (show Sat w w1 ((objsV oa 7 oc sevenL * lits (e 22).1 33 [.int .i64 6, .int .i64 7, .int .i64 6, .int .i64 6, .int .i64 6, .int .i64 9]) * (slc 3 1 ra 1 rc (([7] : List Int).map ival) * F)) from (lits_shut hq hv.p3).cast (by ac_rfl))⟩
  refine GW.new (d := (some 29)) 24 (fun x => .slice x.1 1 1) (fun x => lits x.1 3 [.int .i64 7]) [] rfl rfl (fun e => by rfl) (fun e w' F K hs hK => ?_) ?_
  · go_simp; exact hK (some ⟨_, 0, none⟩, 0) _ (lits_mk ((hs.alloc (.cells #[.int .i64 7] 3)).cast (mul_left_comm _ _ _)))
  refine GW.take (d := (some 30)) 25 (fun e => .bool true) (fun e => 1) [] [26, 27] [1] rfl rfl (fun e => by rfl) (fun e e' hl => by simp only [hl 1 (by decide)]; exact ⟨trivial, trivial⟩) (fun e w' F K hs hK => ?_) ?_
  · have hs := show Sat w w' (slc 3 1 (e 23).1 1 (e 23).2 (([7] : List Int).map ival) * (lits (e 24).1 3 [.int .i64 7] * F)) from (one_out hs).cast (mul_assoc _ _ _); obtain ⟨q, hq, hs⟩ := lits_open hs.p2; go_simp; go_at_call 29; refine (i_same (l := [7]) hs rfl (by decide)).mono ?_; rintro e1 w1 ⟨rfl, hv⟩; exact ⟨_, rfl, hK (none, 0) _ (one_in hv)⟩
  refine GW.det (d := (some 31)) [] [1] rfl (fun e => by rfl) ?_; apply Exists.intro; refine ⟨fun e w' F hs => ?_, ?_, ?_⟩
  · first | (go_simp; done) | (go_simp; rfl)
  · exact (fun e e' hl => by first | rfl | simp only [hl 1 (by decide)])
  refine GW.det (d := (some 32)) [] [1] rfl (fun e => by rfl) ?_; apply Exists.intro; refine ⟨fun e w' F hs => ?_, ?_, ?_⟩
  · first | (go_simp; done) | (go_simp; rfl)
  · exact (fun e e' hl => by first | rfl | simp only [hl 1 (by decide)])
  refine GW.det (d := (some 33)) [] [1] rfl (fun e => by rfl) ?_; apply Exists.intro; refine ⟨fun e w' F hs => ?_, ?_, ?_⟩
  · first | (go_simp; done) | (go_simp; rfl)
  · exact (fun e e' hl => by first | rfl | simp only [hl 1 (by decide)])
  refine GW.det (d := (some 34)) [0] [] rfl (fun e => by rfl) ?_; apply Exists.intro; refine ⟨fun e w' F hs => ?_, ?_, ?_⟩
  · have y0 := boxG (show Sat w w' (pt gb (.cells #[.slice oa 7 oc] 24 (0, 0)) * F) from hs); first | (go_simp; done) | (go_simp; rfl)
  · exact (fun _ _ _ => rfl)
  refine GW.keep (d := (some 35)) (fun e => .agg #[.int .i64 6, .int .i64 5]) [] [] rfl (fun e => by rfl) (fun _ _ _ => rfl) (fun e w' F K hs hK => ?_) ?_
  · go_simp; go_at_call 31; refine (law_tab11 hs 5).mono ?_; rintro e1 w1 ⟨rfl, hx⟩; exact ⟨_, rfl, hK _ hx⟩
  refine GW.new (d := (some 36)) 31 (fun x => .slice x.1 1 1) (fun x => lits x.1 33 [.int .i64 6, .int .i64 5]) [] rfl rfl (fun e => by rfl) (fun e w' F K hs hK => ?_) ?_
  · go_simp; exact hK (some ⟨_, 0, none⟩, 0) _ (lits_mk ((hs.alloc (.cells #[.int .i64 6, .int .i64 5] 33)).cast (mul_left_comm _ _ _)))
  refine GW.new (d := (some 37)) 32 (fun x => .slice x.1 1 x.2) (fun x => slc 3 1 x.1 1 x.2 (([7] : List Int).map ival)) [1, 34] rfl rfl (fun e => by rfl) (fun e w' F K hs hK => ?_) ?_
  · have hs := show Sat w w' (objsV oa 7 oc sevenL * (lits (e 31).1 33 [.int .i64 6, .int .i64 5] * F)) from hs.cast (mul_assoc _ _ _); obtain ⟨q, hq, hs⟩ := lits_open hs.p2; go_simp; go_at_call 19; refine (c_Lost (SR := pt q (.cells [.int .i64 6, .int .i64 5].toArray 33 (0, 0))) (a := some ⟨q, 0, none⟩) (cl := 1) hs.p2 (by omega) seven_small (srcV (vs := [(6, 5)]) rfl) (by simp) r4).mono ?_; rintro e1 w1 ⟨ra, rc, rfl, hv⟩; exact ⟨_, rfl, hK (ra, rc) _ (show Sat w w1 ((objsV oa 7 oc sevenL * lits (e 31).1 33 [.int .i64 6, .int .i64 5]) * (slc 3 1 ra 1 rc (([7] : List Int).map ival) * F)) from (lits_shut hq hv.p3).cast (by ac_rfl))⟩
  refine GW.new (d := (some 38)) 33 (fun x => .slice x.1 1 1) (fun x => lits x.1 3 [.int .i64 7]) [] rfl rfl (fun e => by rfl) (fun e w' F K hs hK => ?_) ?_
  · go_simp; exact hK (some ⟨_, 0, none⟩, 0) _ (lits_mk ((hs.alloc (.cells #[.int .i64 7] 3)).cast (mul_left_comm _ _ _)))
  refine GW.take (d := (some 39)) 34 (fun e => .bool true) (fun e => 1) [] [35, 36] [1] rfl rfl (fun e => by rfl) (fun e e' hl => by simp only [hl 1 (by decide)]; exact ⟨trivial, trivial⟩) (fun e w' F K hs hK => ?_) ?_
  · have hs := show Sat w w' (slc 3 1 (e 32).1 1 (e 32).2 (([7] : List Int).map ival) * (lits (e 33).1 3 [.int .i64 7] * F)) from (one_out hs).cast (mul_assoc _ _ _); obtain ⟨q, hq, hs⟩ := lits_open hs.p2; go_simp; go_at_call 29; refine (i_same (l := [7]) hs rfl (by decide)).mono ?_; rintro e1 w1 ⟨rfl, hv⟩; exact ⟨_, rfl, hK (none, 0) _ (one_in hv)⟩
  refine GW.det (d := (some 40)) [] [1] rfl (fun e => by rfl) ?_; apply Exists.intro; refine ⟨fun e w' F hs => ?_, ?_, ?_⟩
  · first | (go_simp; done) | (go_simp; rfl)
  · exact (fun e e' hl => by first | rfl | simp only [hl 1 (by decide)])
  refine GW.det (d := (some 41)) [] [1] rfl (fun e => by rfl) ?_; apply Exists.intro; refine ⟨fun e w' F hs => ?_, ?_, ?_⟩
  · first | (go_simp; done) | (go_simp; rfl)
  · exact (fun e e' hl => by first | rfl | simp only [hl 1 (by decide)])
  refine GW.det (d := (some 42)) [] [1] rfl (fun e => by rfl) ?_; apply Exists.intro; refine ⟨fun e w' F hs => ?_, ?_, ?_⟩
  · first | (go_simp; done) | (go_simp; rfl)
  · exact (fun e e' hl => by first | rfl | simp only [hl 1 (by decide)])
  refine GW.det (d := (some 43)) [0] [] rfl (fun e => by rfl) ?_; apply Exists.intro; refine ⟨fun e w' F hs => ?_, ?_, ?_⟩
  · have y0 := boxG (show Sat w w' (pt gb (.cells #[.slice oa 7 oc] 24 (0, 0)) * F) from hs); first | (go_simp; done) | (go_simp; rfl)
  · exact (fun _ _ _ => rfl)
  refine GW.new (d := (some 44)) 39 (fun x => .slice x.1 6 x.2) (fun x => slc 3 1 x.1 6 x.2 (([1, 2, 3, 4, 5, 7] : List Int).map ival)) [1] rfl rfl (fun e => by rfl) (fun e w' F K hs hK => ?_) ?_
  · go_simp; go_at_call 19; refine (c_Lost (SR := 1) (show Sat w w' (objsV oa 7 oc sevenL * (1 * F)) from hs.cast (by rw [one_mul]; rfl)) (by omega) seven_small srcV0 (by simp) r5).mono ?_; rintro e1 w1 ⟨ra, rc, rfl, hv⟩; exact ⟨_, rfl, hK (ra, rc) _ (show Sat w w1 (objsV oa 7 oc sevenL * (slc 3 1 ra 6 rc (([1, 2, 3, 4, 5, 7] : List Int).map ival) * F)) from hv.cast (by rw [one_mul]; ac_rfl))⟩
  refine GW.new (d := (some 45)) 40 (fun x => .slice x.1 6 6) (fun x => lits x.1 3 [.int .i64 1, .int .i64 2, .int .i64 3, .int .i64 4, .int .i64 5, .int .i64 7]) [] rfl rfl (fun e => by rfl) (fun e w' F K hs hK => ?_) ?_
  · go_simp; exact hK (some ⟨_, 0, none⟩, 0) _ (lits_mk ((hs.alloc (.cells #[.int .i64 1, .int .i64 2, .int .i64 3, .int .i64 4, .int .i64 5, .int .i64 7] 3)).cast (mul_left_comm _ _ _)))
  refine GW.take (d := (some 46)) 41 (fun e => .bool true) (fun e => 1) [] [42, 43] [1] rfl rfl (fun e => by rfl) (fun e e' hl => by simp only [hl 1 (by decide)]; exact ⟨trivial, trivial⟩) (fun e w' F K hs hK => ?_) ?_
  · have hs := show Sat w w' (slc 3 1 (e 39).1 6 (e 39).2 (([1, 2, 3, 4, 5, 7] : List Int).map ival) * (lits (e 40).1 3 [.int .i64 1, .int .i64 2, .int .i64 3, .int .i64 4, .int .i64 5, .int .i64 7] * F)) from (one_out hs).cast (mul_assoc _ _ _); obtain ⟨q, hq, hs⟩ := lits_open hs.p2; go_simp; go_at_call 29; refine (i_same (l := [1, 2, 3, 4, 5, 7]) hs rfl (by decide)).mono ?_; rintro e1 w1 ⟨rfl, hv⟩; exact ⟨_, rfl, hK (none, 0) _ (one_in hv)⟩
  refine GW.det (d := (some 47)) [] [1] rfl (fun e => by rfl) ?_; apply Exists.intro; refine ⟨fun e w' F hs => ?_, ?_, ?_⟩
  · first | (go_simp; done) | (go_simp; rfl)
  · exact (fun e e' hl => by first | rfl | simp only [hl 1 (by decide)])
  refine GW.det (d := (some 48)) [] [1] rfl (fun e => by rfl) ?_; apply Exists.intro; refine ⟨fun e w' F hs => ?_, ?_, ?_⟩
  · first | (go_simp; done) | (go_simp; rfl)
  · exact (fun e e' hl => by first | rfl | simp only [hl 1 (by decide)])
  refine GW.done (sz := 155) [0, 1, 2] (by kernel_rfl) (by kernel_rfl) HA0.out.1 (by rfl) hs2 (by rfl) fun e w2 gg => ?_
  have ha := HA0.out.2
  subst ha
  clear HA0 hb1 hs2
  simp only [putL, Act.put, List.setIfInBounds_toArray, List.set_cons_zero, List.set_cons_succ]
  have h2 : Sat w w2 (pt gb (.cells #[.slice oa 7 oc] 24 (0, 0)) * (objsV oa 7 oc sevenL * (Old w))) := gg
  clear gg
  go_wp2_with fail
  refine wp_gen fun a0 ha => ?_
  have hb1 : base a0 1 = .pointer (some ⟨gb, 0, none⟩) := by rw [ha]; rfl
  have hsz0 : a0.tmps.size = 155 := by rw [ha]; rfl
  have HA0 := Lib.hid (And.intro hsz0 ha)
  clear ha hsz0
  refine GW.start (X := Option Addr × Nat) (w0 := w) (B := [pt gb (.cells #[.slice oa 7 oc] 24 (0, 0)), objsV oa 7 oc sevenL, Old w]) (a0 := a0) ?_
  refine GW.det (d := (some 49)) [0] [] rfl (fun e => by rfl) ?_; apply Exists.intro; refine ⟨fun e w' F hs => ?_, ?_, ?_⟩
  · have y0 := boxG (show Sat w w' (pt gb (.cells #[.slice oa 7 oc] 24 (0, 0)) * F) from hs); first | (go_simp; done) | (go_simp; rfl)
  · exact (fun _ _ _ => rfl)
  refine GW.keep (d := (some 50)) (fun e => .agg #[.int .i64 6, .int .i64 5]) [] [] rfl (fun e => by rfl) (fun _ _ _ => rfl) (fun e w' F K hs hK => ?_) ?_
  · go_simp; go_at_call 31; refine (law_tab11 hs 5).mono ?_; rintro e1 w1 ⟨rfl, hx⟩; exact ⟨_, rfl, hK _ hx⟩
  refine GW.new (d := (some 51)) 2 (fun x => .slice x.1 4 x.2) (fun x => slc 3 1 x.1 4 x.2 (([5, 4, 1, 3] : List Int).map ival)) [1] rfl rfl (fun e => by rfl) (fun e w' F K hs hK => ?_) ?_
  · go_simp; go_at_call 22; refine (c_Path (show Sat w w' (objsV oa 7 oc sevenL * F) from hs) (by omega) seven_small 6 5 (3) r6).mono ?_; rintro e1 w1 ⟨ra, rc, rfl, hv⟩; exact ⟨_, rfl, hK (ra, rc) _ (show Sat w w1 (objsV oa 7 oc sevenL * (slc 3 1 ra 4 rc (([5, 4, 1, 3] : List Int).map ival) * F)) from hv.p2)⟩
  refine GW.new (d := (some 52)) 3 (fun x => .slice x.1 4 4) (fun x => lits x.1 3 [.int .i64 5, .int .i64 4, .int .i64 1, .int .i64 3]) [] rfl rfl (fun e => by rfl) (fun e w' F K hs hK => ?_) ?_
  · go_simp; exact hK (some ⟨_, 0, none⟩, 0) _ (lits_mk ((hs.alloc (.cells #[.int .i64 5, .int .i64 4, .int .i64 1, .int .i64 3] 3)).cast (mul_left_comm _ _ _)))
  refine GW.take (d := (some 53)) 4 (fun e => .bool true) (fun e => 1) [] [5, 6] [1] rfl rfl (fun e => by rfl) (fun e e' hl => by simp only [hl 1 (by decide)]; exact ⟨trivial, trivial⟩) (fun e w' F K hs hK => ?_) ?_
  · have hs := show Sat w w' (slc 3 1 (e 2).1 4 (e 2).2 (([5, 4, 1, 3] : List Int).map ival) * (lits (e 3).1 3 [.int .i64 5, .int .i64 4, .int .i64 1, .int .i64 3] * F)) from (one_out hs).cast (mul_assoc _ _ _); obtain ⟨q, hq, hs⟩ := lits_open hs.p2; go_simp; go_at_call 29; refine (i_same (l := [5, 4, 1, 3]) hs rfl (by decide)).mono ?_; rintro e1 w1 ⟨rfl, hv⟩; exact ⟨_, rfl, hK (none, 0) _ (one_in hv)⟩
  refine GW.det (d := (some 54)) [] [1] rfl (fun e => by rfl) ?_; apply Exists.intro; refine ⟨fun e w' F hs => ?_, ?_, ?_⟩
  · first | (go_simp; done) | (go_simp; rfl)
  · exact (fun e e' hl => by first | rfl | simp only [hl 1 (by decide)])
  refine GW.det (d := (some 55)) [] [1] rfl (fun e => by rfl) ?_; apply Exists.intro; refine ⟨fun e w' F hs => ?_, ?_, ?_⟩
  · first | (go_simp; done) | (go_simp; rfl)
  · exact (fun e e' hl => by first | rfl | simp only [hl 1 (by decide)])
  refine GW.det (d := (some 56)) [0] [] rfl (fun e => by rfl) ?_; apply Exists.intro; refine ⟨fun e w' F hs => ?_, ?_, ?_⟩
  · have y0 := boxG (show Sat w w' (pt gb (.cells #[.slice oa 7 oc] 24 (0, 0)) * F) from hs); first | (go_simp; done) | (go_simp; rfl)
  · exact (fun _ _ _ => rfl)
  refine GW.keep (d := (some 57)) (fun e => .agg #[.int .i64 6, .int .i64 7]) [] [] rfl (fun e => by rfl) (fun _ _ _ => rfl) (fun e w' F K hs hK => ?_) ?_
  · go_simp; go_at_call 31; refine (law_tab11 hs 7).mono ?_; rintro e1 w1 ⟨rfl, hx⟩; exact ⟨_, rfl, hK _ hx⟩
  refine GW.new (d := (some 58)) 9 (fun x => .slice x.1 1 x.2) (fun x => slc 3 1 x.1 1 x.2 (([7] : List Int).map ival)) [1] rfl rfl (fun e => by rfl) (fun e w' F K hs hK => ?_) ?_
  · go_simp; go_at_call 22; refine (c_Path (show Sat w w' (objsV oa 7 oc sevenL * F) from hs) (by omega) seven_small 6 7 (7) r7).mono ?_; rintro e1 w1 ⟨ra, rc, rfl, hv⟩; exact ⟨_, rfl, hK (ra, rc) _ (show Sat w w1 (objsV oa 7 oc sevenL * (slc 3 1 ra 1 rc (([7] : List Int).map ival) * F)) from hv.p2)⟩
  refine GW.new (d := (some 59)) 10 (fun x => .slice x.1 1 1) (fun x => lits x.1 3 [.int .i64 7]) [] rfl rfl (fun e => by rfl) (fun e w' F K hs hK => ?_) ?_
  · go_simp; exact hK (some ⟨_, 0, none⟩, 0) _ (lits_mk ((hs.alloc (.cells #[.int .i64 7] 3)).cast (mul_left_comm _ _ _)))
  refine GW.take (d := (some 60)) 11 (fun e => .bool true) (fun e => 1) [] [12, 13] [1] rfl rfl (fun e => by rfl) (fun e e' hl => by simp only [hl 1 (by decide)]; exact ⟨trivial, trivial⟩) (fun e w' F K hs hK => ?_) ?_
  · have hs := show Sat w w' (slc 3 1 (e 9).1 1 (e 9).2 (([7] : List Int).map ival) * (lits (e 10).1 3 [.int .i64 7] * F)) from (one_out hs).cast (mul_assoc _ _ _); obtain ⟨q, hq, hs⟩ := lits_open hs.p2; go_simp; go_at_call 29; refine (i_same (l := [7]) hs rfl (by decide)).mono ?_; rintro e1 w1 ⟨rfl, hv⟩; exact ⟨_, rfl, hK (none, 0) _ (one_in hv)⟩
  refine GW.det (d := (some 61)) [] [1] rfl (fun e => by rfl) ?_; apply Exists.intro; refine ⟨fun e w' F hs => ?_, ?_, ?_⟩
  · first | (go_simp; done) | (go_simp; rfl)
  · exact (fun e e' hl => by first | rfl | simp only [hl 1 (by decide)])
  refine GW.det (d := (some 62)) [] [1] rfl (fun e => by rfl) ?_; apply Exists.intro; refine ⟨fun e w' F hs => ?_, ?_, ?_⟩
  · first | (go_simp; done) | (go_simp; rfl)
  · exact (fun e e' hl => by first | rfl | simp only [hl 1 (by decide)])
  refine GW.det (d := (some 63)) [] [1] rfl (fun e => by rfl) ?_; apply Exists.intro; refine ⟨fun e w' F hs => ?_, ?_, ?_⟩
  · first | (go_simp; done) | (go_simp; rfl)
  · exact (fun e e' hl => by first | rfl | simp only [hl 1 (by decide)])
  refine GW.det (d := (some 64)) [0] [] rfl (fun e => by rfl) ?_; apply Exists.intro; refine ⟨fun e w' F hs => ?_, ?_, ?_⟩
  · have y0 := boxG (show Sat w w' (pt gb (.cells #[.slice oa 7 oc] 24 (0, 0)) * F) from hs); first | (go_simp; done) | (go_simp; rfl)
  · exact (fun _ _ _ => rfl)
  refine GW.keep (d := (some 65)) (fun e => .agg #[.int .i64 6, .int .i64 1]) [] [] rfl (fun e => by rfl) (fun _ _ _ => rfl) (fun e w' F K hs hK => ?_) ?_
  · go_simp; go_at_call 31; refine (law_tab11 hs 1).mono ?_; rintro e1 w1 ⟨rfl, hx⟩; exact ⟨_, rfl, hK _ hx⟩
  refine GW.new (d := (some 66)) 17 (fun x => .slice x.1 1 x.2) (fun x => slc 3 1 x.1 1 x.2 (([1] : List Int).map ival)) [1] rfl rfl (fun e => by rfl) (fun e w' F K hs hK => ?_) ?_
  · go_simp; go_at_call 22; refine (c_Path (show Sat w w' (objsV oa 7 oc sevenL * F) from hs) (by omega) seven_small 6 1 (1) r8).mono ?_; rintro e1 w1 ⟨ra, rc, rfl, hv⟩; exact ⟨_, rfl, hK (ra, rc) _ (show Sat w w1 (objsV oa 7 oc sevenL * (slc 3 1 ra 1 rc (([1] : List Int).map ival) * F)) from hv.p2)⟩
  refine GW.new (d := (some 67)) 18 (fun x => .slice x.1 1 1) (fun x => lits x.1 3 [.int .i64 1]) [] rfl rfl (fun e => by rfl) (fun e w' F K hs hK => ?_) ?_
  · go_simp; exact hK (some ⟨_, 0, none⟩, 0) _ (lits_mk ((hs.alloc (.cells #[.int .i64 1] 3)).cast (mul_left_comm _ _ _)))
  refine GW.take (d := (some 68)) 19 (fun e => .bool true) (fun e => 1) [] [20, 21] [1] rfl rfl (fun e => by rfl) (fun e e' hl => by simp only [hl 1 (by decide)]; exact ⟨trivial, trivial⟩) (fun e w' F K hs hK => ?_) ?_
  · have hs := show Sat w w' (slc 3 1 (e 17).1 1 (e 17).2 (([1] : List Int).map ival) * (lits (e 18).1 3 [.int .i64 1] * F)) from (one_out hs).cast (mul_assoc _ _ _); obtain ⟨q, hq, hs⟩ := lits_open hs.p2; go_simp; go_at_call 29; refine (i_same (l := [1]) hs rfl (by decide)).mono ?_; rintro e1 w1 ⟨rfl, hv⟩; exact ⟨_, rfl, hK (none, 0) _ (one_in hv)⟩
  refine GW.det (d := (some 69)) [] [1] rfl (fun e => by rfl) ?_; apply Exists.intro; refine ⟨fun e w' F hs => ?_, ?_, ?_⟩
  · first | (go_simp; done) | (go_simp; rfl)
  · exact (fun e e' hl => by first | rfl | simp only [hl 1 (by decide)])
  refine GW.det (d := (some 70)) [] [1] rfl (fun e => by rfl) ?_; apply Exists.intro; refine ⟨fun e w' F hs => ?_, ?_, ?_⟩
  · first | (go_simp; done) | (go_simp; rfl)
  · exact (fun e e' hl => by first | rfl | simp only [hl 1 (by decide)])
  refine GW.det (d := (some 71)) [] [1] rfl (fun e => by rfl) ?_; apply Exists.intro; refine ⟨fun e w' F hs => ?_, ?_, ?_⟩
  · first | (go_simp; done) | (go_simp; rfl)
  · exact (fun e e' hl => by first | rfl | simp only [hl 1 (by decide)])
  refine GW.det (d := (some 72)) [0] [] rfl (fun e => by rfl) ?_; apply Exists.intro; refine ⟨fun e w' F hs => ?_, ?_, ?_⟩
  · have y0 := boxG (show Sat w w' (pt gb (.cells #[.slice oa 7 oc] 24 (0, 0)) * F) from hs); first | (go_simp; done) | (go_simp; rfl)
  · exact (fun _ _ _ => rfl)
  refine GW.keep (d := (some 73)) (fun e => .agg #[.int .i64 6, .int .i64 1]) [] [] rfl (fun e => by rfl) (fun _ _ _ => rfl) (fun e w' F K hs hK => ?_) ?_
  · go_simp; go_at_call 31; refine (law_tab11 hs 1).mono ?_; rintro e1 w1 ⟨rfl, hx⟩; exact ⟨_, rfl, hK _ hx⟩
  refine GW.new (d := (some 74)) 25 (fun x => .slice x.1 0 x.2) (fun x => slc 3 1 x.1 0 x.2 (([] : List Int).map ival)) [1] rfl rfl (fun e => by rfl) (fun e w' F K hs hK => ?_) ?_
  · go_simp; go_at_call 22; refine (c_Path (show Sat w w' (objsV oa 7 oc sevenL * F) from hs) (by omega) seven_small 6 1 (5) r9).mono ?_; rintro e1 w1 ⟨ra, rc, rfl, hv⟩; exact ⟨_, rfl, hK (ra, rc) _ (show Sat w w1 (objsV oa 7 oc sevenL * (slc 3 1 ra 0 rc (([] : List Int).map ival) * F)) from hv.p2)⟩
  refine GW.take (d := (some 75)) 26 (fun e => .bool true) (fun e => 1) [] [28] [1] rfl rfl (fun e => by rfl) (fun e e' hl => by simp only [hl 1 (by decide)]; exact ⟨trivial, trivial⟩) (fun e w' F K hs hK => ?_) ?_
  · have hs := one_out hs; go_simp; go_at_call 29; refine (i_nil hs).mono ?_; rintro e1 w1 ⟨rfl, hv⟩; exact ⟨_, rfl, hK (none, 0) _ (one_in hv)⟩
  refine GW.det (d := (some 76)) [] [1] rfl (fun e => by rfl) ?_; apply Exists.intro; refine ⟨fun e w' F hs => ?_, ?_, ?_⟩
  · first | (go_simp; done) | (go_simp; rfl)
  · exact (fun e e' hl => by first | rfl | simp only [hl 1 (by decide)])
  refine GW.det (d := (some 77)) [] [1] rfl (fun e => by rfl) ?_; apply Exists.intro; refine ⟨fun e w' F hs => ?_, ?_, ?_⟩
  · first | (go_simp; done) | (go_simp; rfl)
  · exact (fun e e' hl => by first | rfl | simp only [hl 1 (by decide)])
  refine GW.det (d := (some 78)) [] [1] rfl (fun e => by rfl) ?_; apply Exists.intro; refine ⟨fun e w' F hs => ?_, ?_, ?_⟩
  · first | (go_simp; done) | (go_simp; rfl)
  · exact (fun e e' hl => by first | rfl | simp only [hl 1 (by decide)])
  refine GW.det (d := (some 79)) [0] [] rfl (fun e => by rfl) ?_; apply Exists.intro; refine ⟨fun e w' F hs => ?_, ?_, ?_⟩
  · have y0 := boxG (show Sat w w' (pt gb (.cells #[.slice oa 7 oc] 24 (0, 0)) * F) from hs); first | (go_simp; done) | (go_simp; rfl)
  · exact (fun _ _ _ => rfl)
  refine GW.keep (d := (some 80)) (fun e => .agg #[.int .i64 6, .int .i64 6]) [] [] rfl (fun e => by rfl) (fun _ _ _ => rfl) (fun e w' F K hs hK => ?_) ?_
  · go_simp; go_at_call 31; refine (law_tab11 hs 6).mono ?_; rintro e1 w1 ⟨rfl, hx⟩; exact ⟨_, rfl, hK _ hx⟩
  refine GW.new (d := (some 81)) 32 (fun x => .slice x.1 0 x.2) (fun x => slc 3 1 x.1 0 x.2 (([] : List Int).map ival)) [1] rfl rfl (fun e => by rfl) (fun e w' F K hs hK => ?_) ?_
  · go_simp; go_at_call 22; refine (c_Path (show Sat w w' (objsV oa 7 oc sevenL * F) from hs) (by omega) seven_small 6 6 (1) r10).mono ?_; rintro e1 w1 ⟨ra, rc, rfl, hv⟩; exact ⟨_, rfl, hK (ra, rc) _ (show Sat w w1 (objsV oa 7 oc sevenL * (slc 3 1 ra 0 rc (([] : List Int).map ival) * F)) from hv.p2)⟩
  refine GW.take (d := (some 82)) 33 (fun e => .bool true) (fun e => 1) [] [35] [1] rfl rfl (fun e => by rfl) (fun e e' hl => by simp only [hl 1 (by decide)]; exact ⟨trivial, trivial⟩) (fun e w' F K hs hK => ?_) ?_
  · have hs := one_out hs; go_simp; go_at_call 29; refine (i_nil hs).mono ?_; rintro e1 w1 ⟨rfl, hv⟩; exact ⟨_, rfl, hK (none, 0) _ (one_in hv)⟩
  refine GW.det (d := (some 83)) [] [1] rfl (fun e => by rfl) ?_; apply Exists.intro; refine ⟨fun e w' F hs => ?_, ?_, ?_⟩
  · first | (go_simp; done) | (go_simp; rfl)
  · exact (fun e e' hl => by first | rfl | simp only [hl 1 (by decide)])
  refine GW.det (d := (some 84)) [] [1] rfl (fun e => by rfl) ?_; apply Exists.intro; refine ⟨fun e w' F hs => ?_, ?_, ?_⟩
  · first | (go_simp; done) | (go_simp; rfl)
  · exact (fun e e' hl => by first | rfl | simp only [hl 1 (by decide)])
  refine GW.det (d := (some 85)) [] [1] rfl (fun e => by rfl) ?_; apply Exists.intro; refine ⟨fun e w' F hs => ?_, ?_, ?_⟩
  · first | (go_simp; done) | (go_simp; rfl)
  · exact (fun e e' hl => by first | rfl | simp only [hl 1 (by decide)])
  refine GW.det (d := (some 86)) [0] [] rfl (fun e => by rfl) ?_; apply Exists.intro; refine ⟨fun e w' F hs => ?_, ?_, ?_⟩
  · have y0 := boxG (show Sat w w' (pt gb (.cells #[.slice oa 7 oc] 24 (0, 0)) * F) from hs); first | (go_simp; done) | (go_simp; rfl)
  · exact (fun _ _ _ => rfl)
  refine GW.keep (d := (some 87)) (fun e => .agg #[.int .i64 6, .int .i64 1]) [] [] rfl (fun e => by rfl) (fun _ _ _ => rfl) (fun e w' F K hs hK => ?_) ?_
  · go_simp; go_at_call 31; refine (law_tab11 hs 1).mono ?_; rintro e1 w1 ⟨rfl, hx⟩; exact ⟨_, rfl, hK _ hx⟩
  refine GW.new (d := (some 88)) 39 (fun x => .slice x.1 0 x.2) (fun x => slc 3 1 x.1 0 x.2 (([] : List Int).map ival)) [1] rfl rfl (fun e => by rfl) (fun e w' F K hs hK => ?_) ?_
  · go_simp; go_at_call 22; refine (c_Path (show Sat w w' (objsV oa 7 oc sevenL * F) from hs) (by omega) seven_small 6 1 (6) r11).mono ?_; rintro e1 w1 ⟨ra, rc, rfl, hv⟩; exact ⟨_, rfl, hK (ra, rc) _ (show Sat w w1 (objsV oa 7 oc sevenL * (slc 3 1 ra 0 rc (([] : List Int).map ival) * F)) from hv.p2)⟩
  refine GW.take (d := (some 89)) 40 (fun e => .bool true) (fun e => 1) [] [42] [1] rfl rfl (fun e => by rfl) (fun e e' hl => by simp only [hl 1 (by decide)]; exact ⟨trivial, trivial⟩) (fun e w' F K hs hK => ?_) ?_
  · have hs := one_out hs; go_simp; go_at_call 29; refine (i_nil hs).mono ?_; rintro e1 w1 ⟨rfl, hv⟩; exact ⟨_, rfl, hK (none, 0) _ (one_in hv)⟩
  refine GW.det (d := (some 90)) [] [1] rfl (fun e => by rfl) ?_; apply Exists.intro; refine ⟨fun e w' F hs => ?_, ?_, ?_⟩
  · first | (go_simp; done) | (go_simp; rfl)
  · exact (fun e e' hl => by first | rfl | simp only [hl 1 (by decide)])
  refine GW.det (d := (some 91)) [] [1] rfl (fun e => by rfl) ?_; apply Exists.intro; refine ⟨fun e w' F hs => ?_, ?_, ?_⟩
  · first | (go_simp; done) | (go_simp; rfl)
  · exact (fun e e' hl => by first | rfl | simp only [hl 1 (by decide)])
  refine GW.det (d := (some 92)) [] [1] rfl (fun e => by rfl) ?_; apply Exists.intro; refine ⟨fun e w' F hs => ?_, ?_, ?_⟩
  · first | (go_simp; done) | (go_simp; rfl)
  · exact (fun e e' hl => by first | rfl | simp only [hl 1 (by decide)])
  refine GW.det (d := (some 93)) [0] [] rfl (fun e => by rfl) ?_; apply Exists.intro; refine ⟨fun e w' F hs => ?_, ?_, ?_⟩
  · have y0 := boxG (show Sat w w' (pt gb (.cells #[.slice oa 7 oc] 24 (0, 0)) * F) from hs); first | (go_simp; done) | (go_simp; rfl)
  · exact (fun _ _ _ => rfl)
  refine GW.keep (d := (some 94)) (fun e => .agg #[.int .i64 6, .int .i64 1]) [] [] rfl (fun e => by rfl) (fun _ _ _ => rfl) (fun e w' F K hs hK => ?_) ?_
  · go_simp; go_at_call 31; refine (law_tab11 hs 1).mono ?_; rintro e1 w1 ⟨rfl, hx⟩; exact ⟨_, rfl, hK _ hx⟩
  refine GW.new (d := (some 95)) 46 (fun x => .slice x.1 0 x.2) (fun x => slc 3 1 x.1 0 x.2 (([] : List Int).map ival)) [1] rfl rfl (fun e => by rfl) (fun e w' F K hs hK => ?_) ?_
  · go_simp; go_at_call 22; refine (c_Path (show Sat w w' (objsV oa 7 oc sevenL * F) from hs) (by omega) seven_small 6 1 (8) r12).mono ?_; rintro e1 w1 ⟨ra, rc, rfl, hv⟩; exact ⟨_, rfl, hK (ra, rc) _ (show Sat w w1 (objsV oa 7 oc sevenL * (slc 3 1 ra 0 rc (([] : List Int).map ival) * F)) from hv.p2)⟩
  refine GW.take (d := (some 96)) 47 (fun e => .bool true) (fun e => 1) [] [49] [1] rfl rfl (fun e => by rfl) (fun e e' hl => by simp only [hl 1 (by decide)]; exact ⟨trivial, trivial⟩) (fun e w' F K hs hK => ?_) ?_
  · have hs := one_out hs; go_simp; go_at_call 29; refine (i_nil hs).mono ?_; rintro e1 w1 ⟨rfl, hv⟩; exact ⟨_, rfl, hK (none, 0) _ (one_in hv)⟩
  refine GW.det (d := (some 97)) [] [1] rfl (fun e => by rfl) ?_; apply Exists.intro; refine ⟨fun e w' F hs => ?_, ?_, ?_⟩
  · first | (go_simp; done) | (go_simp; rfl)
  · exact (fun e e' hl => by first | rfl | simp only [hl 1 (by decide)])
  refine GW.det (d := (some 98)) [] [1] rfl (fun e => by rfl) ?_; apply Exists.intro; refine ⟨fun e w' F hs => ?_, ?_, ?_⟩
  · first | (go_simp; done) | (go_simp; rfl)
  · exact (fun e e' hl => by first | rfl | simp only [hl 1 (by decide)])
  refine GW.det (d := (some 99)) [] [1] rfl (fun e => by rfl) ?_; apply Exists.intro; refine ⟨fun e w' F hs => ?_, ?_, ?_⟩
  · first | (go_simp; done) | (go_simp; rfl)
  · exact (fun e e' hl => by first | rfl | simp only [hl 1 (by decide)])
  refine GW.det (d := (some 100)) [0] [] rfl (fun e => by rfl) ?_; apply Exists.intro; refine ⟨fun e w' F hs => ?_, ?_, ?_⟩
  · have y0 := boxG (show Sat w w' (pt gb (.cells #[.slice oa 7 oc] 24 (0, 0)) * F) from hs); first | (go_simp; done) | (go_simp; rfl)
  · exact (fun _ _ _ => rfl)
  refine GW.keep (d := (some 101)) (fun e => .agg #[.int .i64 6, .int .i64 1]) [] [] rfl (fun e => by rfl) (fun _ _ _ => rfl) (fun e w' F K hs hK => ?_) ?_
  · go_simp; go_at_call 31; refine (law_tab11 hs 1).mono ?_; rintro e1 w1 ⟨rfl, hx⟩; exact ⟨_, rfl, hK _ hx⟩
  refine GW.new (d := (some 102)) 53 (fun x => .slice x.1 0 x.2) (fun x => slc 3 1 x.1 0 x.2 (([] : List Int).map ival)) [1] rfl rfl (fun e => by rfl) (fun e w' F K hs hK => ?_) ?_
  · go_simp; go_at_call 22; refine (c_Path (show Sat w w' (objsV oa 7 oc sevenL * F) from hs) (by omega) seven_small 6 1 (0) r13).mono ?_; rintro e1 w1 ⟨ra, rc, rfl, hv⟩; exact ⟨_, rfl, hK (ra, rc) _ (show Sat w w1 (objsV oa 7 oc sevenL * (slc 3 1 ra 0 rc (([] : List Int).map ival) * F)) from hv.p2)⟩
  refine GW.take (d := (some 103)) 54 (fun e => .bool true) (fun e => 1) [] [56] [1] rfl rfl (fun e => by rfl) (fun e e' hl => by simp only [hl 1 (by decide)]; exact ⟨trivial, trivial⟩) (fun e w' F K hs hK => ?_) ?_
  · have hs := one_out hs; go_simp; go_at_call 29; refine (i_nil hs).mono ?_; rintro e1 w1 ⟨rfl, hv⟩; exact ⟨_, rfl, hK (none, 0) _ (one_in hv)⟩
  refine GW.det (d := (some 104)) [] [1] rfl (fun e => by rfl) ?_; apply Exists.intro; refine ⟨fun e w' F hs => ?_, ?_, ?_⟩
  · first | (go_simp; done) | (go_simp; rfl)
  · exact (fun e e' hl => by first | rfl | simp only [hl 1 (by decide)])
  refine GW.det (d := (some 105)) [] [1] rfl (fun e => by rfl) ?_; apply Exists.intro; refine ⟨fun e w' F hs => ?_, ?_, ?_⟩
  · first | (go_simp; done) | (go_simp; rfl)
  · exact (fun e e' hl => by first | rfl | simp only [hl 1 (by decide)])
  refine GW.det (d := (some 106)) [] [1] rfl (fun e => by rfl) ?_; apply Exists.intro; refine ⟨fun e w' F hs => ?_, ?_, ?_⟩
  · first | (go_simp; done) | (go_simp; rfl)
  · exact (fun e e' hl => by first | rfl | simp only [hl 1 (by decide)])
  refine GW.det (d := (some 107)) [0] [] rfl (fun e => by rfl) ?_; apply Exists.intro; refine ⟨fun e w' F hs => ?_, ?_, ?_⟩
  · have y0 := boxG (show Sat w w' (pt gb (.cells #[.slice oa 7 oc] 24 (0, 0)) * F) from hs); first | (go_simp; done) | (go_simp; rfl)
  · exact (fun _ _ _ => rfl)
  refine GW.keep (d := (some 108)) (fun e => .agg #[.int .i64 6, .int .i64 1]) [] [] rfl (fun e => by rfl) (fun _ _ _ => rfl) (fun e w' F K hs hK => ?_) ?_
  · go_simp; go_at_call 31; refine (law_tab11 hs 1).mono ?_; rintro e1 w1 ⟨rfl, hx⟩; exact ⟨_, rfl, hK _ hx⟩
  refine GW.new (d := (some 109)) 60 (fun x => .slice x.1 0 x.2) (fun x => slc 3 1 x.1 0 x.2 (([] : List Int).map ival)) [1] rfl rfl (fun e => by rfl) (fun e w' F K hs hK => ?_) ?_
  · go_simp; go_at_call 22; refine (c_Path (show Sat w w' (objsV oa 7 oc sevenL * F) from hs) (by omega) seven_small 6 1 (-1) r14).mono ?_; rintro e1 w1 ⟨ra, rc, rfl, hv⟩; exact ⟨_, rfl, hK (ra, rc) _ (show Sat w w1 (objsV oa 7 oc sevenL * (slc 3 1 ra 0 rc (([] : List Int).map ival) * F)) from hv.p2)⟩
  refine GW.take (d := (some 110)) 61 (fun e => .bool true) (fun e => 1) [] [63] [1] rfl rfl (fun e => by rfl) (fun e e' hl => by simp only [hl 1 (by decide)]; exact ⟨trivial, trivial⟩) (fun e w' F K hs hK => ?_) ?_
  · have hs := one_out hs; go_simp; go_at_call 29; refine (i_nil hs).mono ?_; rintro e1 w1 ⟨rfl, hv⟩; exact ⟨_, rfl, hK (none, 0) _ (one_in hv)⟩
  refine GW.det (d := (some 111)) [] [1] rfl (fun e => by rfl) ?_; apply Exists.intro; refine ⟨fun e w' F hs => ?_, ?_, ?_⟩
  · first | (go_simp; done) | (go_simp; rfl)
  · exact (fun e e' hl => by first | rfl | simp only [hl 1 (by decide)])
  refine GW.det (d := (some 112)) [] [1] rfl (fun e => by rfl) ?_; apply Exists.intro; refine ⟨fun e w' F hs => ?_, ?_, ?_⟩
  · first | (go_simp; done) | (go_simp; rfl)
  · exact (fun e e' hl => by first | rfl | simp only [hl 1 (by decide)])
  refine GW.det (d := (some 113)) [] [1] rfl (fun e => by rfl) ?_; apply Exists.intro; refine ⟨fun e w' F hs => ?_, ?_, ?_⟩
  · first | (go_simp; done) | (go_simp; rfl)
  · exact (fun e e' hl => by first | rfl | simp only [hl 1 (by decide)])
  refine GW.det (d := (some 114)) [0] [] rfl (fun e => by rfl) ?_; apply Exists.intro; refine ⟨fun e w' F hs => ?_, ?_, ?_⟩
  · have y0 := boxG (show Sat w w' (pt gb (.cells #[.slice oa 7 oc] 24 (0, 0)) * F) from hs); first | (go_simp; done) | (go_simp; rfl)
  · exact (fun _ _ _ => rfl)
  refine GW.det (d := (some 115)) [] [] rfl (fun e => by rfl) ?_; apply Exists.intro; refine ⟨fun e w' F hs => ?_, ?_, ?_⟩
  · first | (go_simp; done) | (go_simp; rfl)
  · exact (fun _ _ _ => rfl)
  refine GW.new (d := (some 116)) 67 (fun x => .slice x.1 0 x.2) (fun x => slc 3 1 x.1 0 x.2 (([] : List Int).map ival)) [1] rfl rfl (fun e => by rfl) (fun e w' F K hs hK => ?_) ?_
  · go_simp; go_at_call 22; refine (c_Path (show Sat w w' (objsV oa 7 oc sevenL * F) from hs) (by omega) seven_small 3 1 (1) r15).mono ?_; rintro e1 w1 ⟨ra, rc, rfl, hv⟩; exact ⟨_, rfl, hK (ra, rc) _ (show Sat w w1 (objsV oa 7 oc sevenL * (slc 3 1 ra 0 rc (([] : List Int).map ival) * F)) from hv.p2)⟩
  refine GW.take (d := (some 117)) 68 (fun e => .bool true) (fun e => 1) [] [70] [1] rfl rfl (fun e => by rfl) (fun e e' hl => by simp only [hl 1 (by decide)]; exact ⟨trivial, trivial⟩) (fun e w' F K hs hK => ?_) ?_
  · have hs := one_out hs; go_simp; go_at_call 29; refine (i_nil hs).mono ?_; rintro e1 w1 ⟨rfl, hv⟩; exact ⟨_, rfl, hK (none, 0) _ (one_in hv)⟩
  refine GW.det (d := (some 118)) [] [1] rfl (fun e => by rfl) ?_; apply Exists.intro; refine ⟨fun e w' F hs => ?_, ?_, ?_⟩
  · first | (go_simp; done) | (go_simp; rfl)
  · exact (fun e e' hl => by first | rfl | simp only [hl 1 (by decide)])
  refine GW.det (d := (some 119)) [] [1] rfl (fun e => by rfl) ?_; apply Exists.intro; refine ⟨fun e w' F hs => ?_, ?_, ?_⟩
  · first | (go_simp; done) | (go_simp; rfl)
  · exact (fun e e' hl => by first | rfl | simp only [hl 1 (by decide)])
  refine GW.done (sz := 155) [0, 1, 2] (by kernel_rfl) (by kernel_rfl) HA0.out.1 (by rfl) h2 (by rfl) fun e w3 gg => ?_
  have ha := HA0.out.2
  subst ha
  clear HA0 hb1 h2
  simp only [putL, Act.put, List.setIfInBounds_toArray, List.set_cons_zero, List.set_cons_succ]
  have h3 : Sat w w3 (Old w * 1) := Sat.cast (Sat.drop (Sat.drop (show Sat w w3 (pt gb (.cells #[.slice oa 7 oc] 24 (0, 0)) * (objsV oa 7 oc sevenL * (Old w))) from gg))) (mul_one _).symm
  clear gg
  have h4 := (((h3.alloc (.cells #[.int .i64 2, .int .i64 5] 3)).alloc (.cells #[.int .i64 3] 3)).alloc (.cells #[.int .i64 4] 3)).alloc (.cells #[.int .i64 4] 3)
  generalize hz3 : w3.heap.size = b3 at *
  have h5 := h4.alloc (.cells #[.slice (some ⟨b3, 0, none⟩) 2 2, .slice (some ⟨b3 + 1, 0, none⟩) 1 1, .slice (some ⟨b3 + 1 + 1, 0, none⟩) 1 1, .slice none 0 0, .slice (some ⟨b3 + 1 + 1 + 1, 0, none⟩) 1 1] 28)
  simp only [size_alloc, hz3] at h5
  have h6 : Sat w _ ((pt (b3 + 1 + 1 + 1 + 1) (.cells ((Y5 b3).map litV).toArray 28 (0, 0)) * litsR (Y5 b3)) * (Old w * 1)) := h5.cast (by
    show pt _ _ * _ = _
    simp only [Y5, litsR, mul_one]
    show pt _ (.cells _ _ _) * _ = (pt _ (.cells _ _ _) * _) * _
    simp only [List.map_cons, List.map_nil, litV, List.length_cons, List.length_nil, ival]
    ac_rfl)
  have HT := Lib.hid (law_tables h6 (srcT_lits (Y := Y5 b3) (n := 5) rfl (by omega) (by simp [Y5])) (L := fiveL) rfl)
  clear h3 h4 h5 h6
  go_wp2_with fail
  try rw [hz3]
  refine HT.out.mono ?_
  rintro e w4 ⟨oa2, oc2, rfl, h7⟩
  clear HT
  have h8 := (Sat.drop2 h7).alloc (.cells #[.slice oa2 5 oc2] 24)
  generalize hz4 : w4.heap.size = g2 at *
  have h9 := (h8.alloc (.cells #[.int .i64 3] 3)).alloc (.cells #[.slice (some ⟨g2 + 1, 0, none⟩) 1 1, .slice none 0 0] 28)
  simp only [size_alloc, hz4] at h9
  have h10 : Sat w _ ((pt (g2 + 1 + 1) (.cells ((Y2 (g2 + 1)).map litV).toArray 28 (0, 0)) * litsR (Y2 (g2 + 1))) * (pt g2 (.cells #[.slice oa2 5 oc2] 24 (0, 0)) * (objsV oa2 5 oc2 fiveL * (Old w * 1)))) := h9.cast (by
    show pt _ _ * _ = _
    simp only [Y2, litsR, mul_one]
    show pt _ (.cells _ _ _) * _ = (pt _ (.cells _ _ _) * _) * _
    simp only [List.map_cons, List.map_nil, litV, List.length_cons, List.length_nil, ival]
    ac_rfl)
  have HT := Lib.hid (law_tables h10 (srcT_lits (Y := Y2 (g2 + 1)) (n := 2) rfl (by omega) (by simp [Y2])) (L := wrongL) rfl)
  clear h7 h8 h9 h10
  go_wp2_with fail
  try rw [hz4]
  refine HT.out.mono ?_
  rintro e w5 ⟨oa3, oc3, rfl, h11⟩
  clear HT
  have h12 := (Sat.drop2 h11).alloc (.cells #[.slice oa3 2 oc3] 24)
  generalize hz5 : w5.heap.size = g3 at *
  have h13 : Sat w _ (pt g2 (.cells #[.slice oa2 5 oc2] 24 (0, 0)) * (objsV oa2 5 oc2 fiveL * (pt g3 (.cells #[.slice oa3 2 oc3] 24 (0, 0)) * (objsV oa3 2 oc3 wrongL * (Old w))))) := h12.cast (by rw [mul_one]; ac_rfl)
  clear h11 h12
  go_wp2_with fail
  try rw [hz5]
  refine wp_gen fun a0 ha => ?_
  have hb2 : base a0 2 = .pointer (some ⟨g2, 0, none⟩) := by rw [ha]; rfl
  have hb3 : base a0 3 = .pointer (some ⟨g3, 0, none⟩) := by rw [ha]; rfl
  have hsz0 : a0.tmps.size = 155 := by rw [ha]; rfl
  have HA0 := Lib.hid (And.intro hsz0 ha)
  clear ha hsz0
  refine GW.start (X := Option Addr × Nat) (w0 := w) (B := [pt g2 (.cells #[.slice oa2 5 oc2] 24 (0, 0)), objsV oa2 5 oc2 fiveL, pt g3 (.cells #[.slice oa3 2 oc3] 24 (0, 0)), objsV oa3 2 oc3 wrongL, Old w]) (a0 := a0) ?_
  refine GW.det (d := (some 129)) [0] [] rfl (fun e => by rfl) ?_; apply Exists.intro; refine ⟨fun e w' F hs => ?_, ?_, ?_⟩
  · have y0 := boxG (show Sat w w' (pt g2 (.cells #[.slice oa2 5 oc2] 24 (0, 0)) * F) from hs); first | (go_simp; done) | (go_simp; rfl)
  · exact (fun _ _ _ => rfl)
  refine GW.keep (d := (some 130)) (fun e => .agg #[.int .i64 6, .int .i64 1]) [] [] rfl (fun e => by rfl) (fun _ _ _ => rfl) (fun e w' F K hs hK => ?_) ?_
  · go_simp; go_at_call 31; refine (law_tab11 hs 1).mono ?_; rintro e1 w1 ⟨rfl, hx⟩; exact ⟨_, rfl, hK _ hx⟩
  refine GW.new (d := (some 131)) 2 (fun x => .slice x.1 3 x.2) (fun x => slc 3 1 x.1 3 x.2 (([1, 5, 4] : List Int).map ival)) [1] rfl rfl (fun e => by rfl) (fun e w' F K hs hK => ?_) ?_
  · go_simp; go_at_call 22; refine (c_Path (show Sat w w' (objsV oa2 5 oc2 fiveL * F) from hs) (by omega) five_small 6 1 (4) r16).mono ?_; rintro e1 w1 ⟨ra, rc, rfl, hv⟩; exact ⟨_, rfl, hK (ra, rc) _ (show Sat w w1 (objsV oa2 5 oc2 fiveL * (slc 3 1 ra 3 rc (([1, 5, 4] : List Int).map ival) * F)) from hv.p2)⟩
  refine GW.new (d := (some 132)) 3 (fun x => .slice x.1 3 3) (fun x => lits x.1 3 [.int .i64 1, .int .i64 5, .int .i64 4]) [] rfl rfl (fun e => by rfl) (fun e w' F K hs hK => ?_) ?_
  · go_simp; exact hK (some ⟨_, 0, none⟩, 0) _ (lits_mk ((hs.alloc (.cells #[.int .i64 1, .int .i64 5, .int .i64 4] 3)).cast (mul_left_comm _ _ _)))
  refine GW.take (d := (some 133)) 4 (fun e => .bool true) (fun e => 1) [] [7, 8] [1] rfl rfl (fun e => by rfl) (fun e e' hl => by simp only [hl 1 (by decide)]; exact ⟨trivial, trivial⟩) (fun e w' F K hs hK => ?_) ?_
  · have hs := show Sat w w' (slc 3 1 (e 2).1 3 (e 2).2 (([1, 5, 4] : List Int).map ival) * (lits (e 3).1 3 [.int .i64 1, .int .i64 5, .int .i64 4] * F)) from (one_out hs).cast (mul_assoc _ _ _); obtain ⟨q, hq, hs⟩ := lits_open hs.p2; go_simp; go_at_call 29; refine (i_same (l := [1, 5, 4]) hs rfl (by decide)).mono ?_; rintro e1 w1 ⟨rfl, hv⟩; exact ⟨_, rfl, hK (none, 0) _ (one_in hv)⟩
  refine GW.det (d := (some 134)) [] [1] rfl (fun e => by rfl) ?_; apply Exists.intro; refine ⟨fun e w' F hs => ?_, ?_, ?_⟩
  · first | (go_simp; done) | (go_simp; rfl)
  · exact (fun e e' hl => by first | rfl | simp only [hl 1 (by decide)])
  refine GW.det (d := (some 135)) [2] [] rfl (fun e => by rfl) ?_; apply Exists.intro; refine ⟨fun e w' F hs => ?_, ?_, ?_⟩
  · have y0 := boxG (show Sat w w' (pt g3 (.cells #[.slice oa3 2 oc3] 24 (0, 0)) * F) from hs); first | (go_simp; done) | (go_simp; rfl)
  · exact (fun _ _ _ => rfl)
  refine GW.keep (d := (some 136)) (fun e => .agg #[.int .i64 6, .int .i64 1]) [] [] rfl (fun e => by rfl) (fun _ _ _ => rfl) (fun e w' F K hs hK => ?_) ?_
  · go_simp; go_at_call 31; refine (law_tab11 hs 1).mono ?_; rintro e1 w1 ⟨rfl, hx⟩; exact ⟨_, rfl, hK _ hx⟩
  refine GW.new (d := (some 137)) 8 (fun x => .slice x.1 1 1) (fun x => lits x.1 33 [.int .i64 6, .int .i64 1]) [] rfl rfl (fun e => by rfl) (fun e w' F K hs hK => ?_) ?_
  · go_simp; exact hK (some ⟨_, 0, none⟩, 0) _ (lits_mk ((hs.alloc (.cells #[.int .i64 6, .int .i64 1] 33)).cast (mul_left_comm _ _ _)))
  refine GW.new (d := (some 138)) 9 (fun x => .slice x.1 0 x.2) (fun x => slc 3 1 x.1 0 x.2 (([] : List Int).map ival)) [3, 13] rfl rfl (fun e => by rfl) (fun e w' F K hs hK => ?_) ?_
  · have hs := show Sat w w' (objsV oa3 2 oc3 wrongL * (lits (e 8).1 33 [.int .i64 6, .int .i64 1] * F)) from hs.cast (mul_assoc _ _ _); obtain ⟨q, hq, hs⟩ := lits_open hs.p2; go_simp; go_at_call 17; refine (c_From (SR := pt q (.cells [.int .i64 6, .int .i64 1].toArray 33 (0, 0))) (a := some ⟨q, 0, none⟩) (cl := 1) hs.p2 (by omega) wrong_small (srcV (vs := [(6, 1)]) rfl) (by simp) r17).mono ?_; rintro e1 w1 ⟨ra, rc, rfl, hv⟩; exact ⟨_, rfl, hK (ra, rc) _ (show Sat w w1 ((objsV oa3 2 oc3 wrongL * lits (e 8).1 33 [.int .i64 6, .int .i64 1]) * (slc 3 1 ra 0 rc (([] : List Int).map ival) * F)) from (lits_shut hq hv.p3).cast (by ac_rfl))⟩
  refine GW.take (d := (some 139)) 10 (fun e => .bool true) (fun e => 1) [] [14] [1] rfl rfl (fun e => by rfl) (fun e e' hl => by simp only [hl 1 (by decide)]; exact ⟨trivial, trivial⟩) (fun e w' F K hs hK => ?_) ?_
  · have hs := one_out hs; go_simp; go_at_call 29; refine (i_nil hs).mono ?_; rintro e1 w1 ⟨rfl, hv⟩; exact ⟨_, rfl, hK (none, 0) _ (one_in hv)⟩
  refine GW.det (d := (some 140)) [] [1] rfl (fun e => by rfl) ?_; apply Exists.intro; refine ⟨fun e w' F hs => ?_, ?_, ?_⟩
  · first | (go_simp; done) | (go_simp; rfl)
  · exact (fun e e' hl => by first | rfl | simp only [hl 1 (by decide)])
  refine GW.det (d := (some 141)) [] [1] rfl (fun e => by rfl) ?_; apply Exists.intro; refine ⟨fun e w' F hs => ?_, ?_, ?_⟩
  · first | (go_simp; done) | (go_simp; rfl)
  · exact (fun e e' hl => by first | rfl | simp only [hl 1 (by decide)])
  refine GW.det (d := (some 142)) [2] [] rfl (fun e => by rfl) ?_; apply Exists.intro; refine ⟨fun e w' F hs => ?_, ?_, ?_⟩
  · have y0 := boxG (show Sat w w' (pt g3 (.cells #[.slice oa3 2 oc3] 24 (0, 0)) * F) from hs); first | (go_simp; done) | (go_simp; rfl)
  · exact (fun _ _ _ => rfl)
  refine GW.new (d := (some 143)) 14 (fun x => .slice x.1 0 x.2) (fun x => slc 3 1 x.1 0 x.2 (([] : List Int).map ival)) [3] rfl rfl (fun e => by rfl) (fun e w' F K hs hK => ?_) ?_
  · go_simp; go_at_call 19; refine (c_Lost (SR := 1) (show Sat w w' (objsV oa3 2 oc3 wrongL * (1 * F)) from hs.cast (by rw [one_mul]; rfl)) (by omega) wrong_small srcV0 (by simp) r18).mono ?_; rintro e1 w1 ⟨ra, rc, rfl, hv⟩; exact ⟨_, rfl, hK (ra, rc) _ (show Sat w w1 (objsV oa3 2 oc3 wrongL * (slc 3 1 ra 0 rc (([] : List Int).map ival) * F)) from hv.cast (by rw [one_mul]; ac_rfl))⟩
  refine GW.take (d := (some 144)) 15 (fun e => .bool true) (fun e => 1) [] [19] [1] rfl rfl (fun e => by rfl) (fun e e' hl => by simp only [hl 1 (by decide)]; exact ⟨trivial, trivial⟩) (fun e w' F K hs hK => ?_) ?_
  · have hs := one_out hs; go_simp; go_at_call 29; refine (i_nil hs).mono ?_; rintro e1 w1 ⟨rfl, hv⟩; exact ⟨_, rfl, hK (none, 0) _ (one_in hv)⟩
  refine GW.det (d := (some 145)) [] [1] rfl (fun e => by rfl) ?_; apply Exists.intro; refine ⟨fun e w' F hs => ?_, ?_, ?_⟩
  · first | (go_simp; done) | (go_simp; rfl)
  · exact (fun e e' hl => by first | rfl | simp only [hl 1 (by decide)])
  refine GW.det (d := (some 146)) [] [1] rfl (fun e => by rfl) ?_; apply Exists.intro; refine ⟨fun e w' F hs => ?_, ?_, ?_⟩
  · first | (go_simp; done) | (go_simp; rfl)
  · exact (fun e e' hl => by first | rfl | simp only [hl 1 (by decide)])
  refine GW.det (d := (some 147)) [2] [] rfl (fun e => by rfl) ?_; apply Exists.intro; refine ⟨fun e w' F hs => ?_, ?_, ?_⟩
  · have y0 := boxG (show Sat w w' (pt g3 (.cells #[.slice oa3 2 oc3] 24 (0, 0)) * F) from hs); first | (go_simp; done) | (go_simp; rfl)
  · exact (fun _ _ _ => rfl)
  refine GW.keep (d := (some 148)) (fun e => .agg #[.int .i64 6, .int .i64 1]) [] [] rfl (fun e => by rfl) (fun _ _ _ => rfl) (fun e w' F K hs hK => ?_) ?_
  · go_simp; go_at_call 31; refine (law_tab11 hs 1).mono ?_; rintro e1 w1 ⟨rfl, hx⟩; exact ⟨_, rfl, hK _ hx⟩
  refine GW.new (d := (some 149)) 20 (fun x => .slice x.1 0 x.2) (fun x => slc 3 1 x.1 0 x.2 (([] : List Int).map ival)) [3] rfl rfl (fun e => by rfl) (fun e w' F K hs hK => ?_) ?_
  · go_simp; go_at_call 22; refine (c_Path (show Sat w w' (objsV oa3 2 oc3 wrongL * F) from hs) (by omega) wrong_small 6 1 (1) r19).mono ?_; rintro e1 w1 ⟨ra, rc, rfl, hv⟩; exact ⟨_, rfl, hK (ra, rc) _ (show Sat w w1 (objsV oa3 2 oc3 wrongL * (slc 3 1 ra 0 rc (([] : List Int).map ival) * F)) from hv.p2)⟩
  refine GW.take (d := (some 150)) 21 (fun e => .bool true) (fun e => 1) [] [25] [1] rfl rfl (fun e => by rfl) (fun e e' hl => by simp only [hl 1 (by decide)]; exact ⟨trivial, trivial⟩) (fun e w' F K hs hK => ?_) ?_
  · have hs := one_out hs; go_simp; go_at_call 29; refine (i_nil hs).mono ?_; rintro e1 w1 ⟨rfl, hv⟩; exact ⟨_, rfl, hK (none, 0) _ (one_in hv)⟩
  refine GW.det (d := (some 151)) [] [1] rfl (fun e => by rfl) ?_; apply Exists.intro; refine ⟨fun e w' F hs => ?_, ?_, ?_⟩
  · first | (go_simp; done) | (go_simp; rfl)
  · exact (fun e e' hl => by first | rfl | simp only [hl 1 (by decide)])
  refine GW.det (d := (some 152)) [] [1] rfl (fun e => by rfl) ?_; apply Exists.intro; refine ⟨fun e w' F hs => ?_, ?_, ?_⟩
  · first | (go_simp; done) | (go_simp; rfl)
  · exact (fun e e' hl => by first | rfl | simp only [hl 1 (by decide)])
  refine GW.keep (d := (some 153)) (fun e => .bool true) [] [] rfl (fun e => by rfl) (fun _ _ _ => rfl) (fun e w' F K hs hK => ?_) ?_
  · go_simp; go_at_call 21; refine (law_works11 hs).mono ?_; rintro e1 w1 ⟨rfl, hx⟩; exact ⟨_, rfl, hK _ hx⟩
  refine GW.det (d := (some 154)) [] [1] rfl (fun e => by rfl) ?_; apply Exists.intro; refine ⟨fun e w' F hs => ?_, ?_, ?_⟩
  · first | (go_simp; done) | (go_simp; rfl)
  · exact (fun e e' hl => by first | rfl | simp only [hl 1 (by decide)])
  refine GW.det (d := (some 0)) [] [1] rfl (fun e => by rfl) ?_; apply Exists.intro; refine ⟨fun e w' F hs => ?_, ?_, ?_⟩
  · first | (go_simp; done) | (go_simp; rfl)
  · exact (fun e e' hl => by first | rfl | simp only [hl 1 (by decide)])
  refine GW.done (sz := 155) [4] (by kernel_rfl) (by kernel_rfl) HA0.out.1 (by rfl) h13 (by rfl) fun e w6 gg => ?_
  have ha := HA0.out.2
  subst ha
  clear HA0 hb2 hb3 h13
  simp only [putL, Act.put, List.setIfInBounds_toArray, List.set_cons_zero, List.set_cons_succ]
  have h14 : Sat w w6 (Old w) := gg
  go_wp2_with fail
  go_ret
  exact ⟨rfl, Sat.below (F := 1) (h14.cast (mul_one _).symm)⟩
theorem own : ownKnob Try.prog.godebug = none := by kernel_rfl
theorem laidOut : laidOutB Try.prog = true := by kernel_rfl
set_option maxRecDepth 100000 in
theorem lifted (os : Os) (started : os.Started) (H : Type) (enc : TypeId × Value → H) :
    ReturnsInHanded {} Try.checked os 8 .any (Rows.reachKnownSpec.pre6 enc Try.prog Try.f8 Rows.reachKnownRow.domain false) (Rows.reachKnownSpec.post enc Try.prog Try.f8 false true false false) := by
  refine returnsInHanded_of_change (C := Try.checked) own started (by kernel_rfl) Try.func8
    (ChangeSpec.witness6 (enc := enc) (C := Try.checked) false ⟨#[], #[], []⟩ 8 (by kernel_rfl) (by kernel_rfl) (by kernel_rfl) (by kernel_rfl)) ?_
  intro W base args ds gs before hval0 hW hcnd _
  have hval : ∀ (j : Nat) t v, Try.f8.params[j]? = some t → args[j]? = some v → Value.okWide Try.prog W .any base t v := hval0
  have hW' := hW
  obtain ⟨p, q, hA0, hV, rfl, hfz, hnd⟩ := hW
  have hA : DataW.TrodAll enc Try.prog W 0 (fun _ => true) true Try.f8.params.toList args.toList ds p := hA0
  rw [Try.params8] at hA hval
  obtain ⟨hargs, rfl, rfl⟩ := trodAll_nil hA
  obtain rfl : args = #[] := by cases args; simp_all
  obtain ⟨rfl, rfl⟩ := trodVars_none hV
  clear hA0 hval0
  refine (walk W).mono fun e W' ⟨he, bel⟩ => ?_
  subst he
  exact ⟨_, rfl, _, _, _, [], _, [], hW', trodAll_mk1 (shut_bool Try.underlying4 _), trodAll_mk0, rfl, bel.frame _, fun h => by cases h⟩
theorem over : Rows.reachKnownRow.holds Try.pinned (OpenSpec.ofChange Rows.reachKnownSpec) :=
  OpenClaim.holds_of_wide 8 Try.f8 rfl rfl rfl rfl rfl rfl rfl ⟨rfl, rfl, rfl, rfl, rfl⟩ rfl rfl rfl rfl rfl (by kernel_rfl) Try.func8 (by kernel_rfl)
    (of_decide_eq_true (by kernel_rfl)) (by unfold Func.isWrapper; first | (rw [if_pos (by decide +kernel)]; kernel_rfl) | (rw [if_neg (by decide +kernel)]; exact ⟨rfl, rfl⟩))
    (fun os started H enc _ => lifted os started H enc)
theorem reachKnown_holds : Rows.ReachKnownSaid := over
#print axioms reachKnown_holds
end Go.Proofs.Ytmngkodejlhalaa.RKnown
