/- flow: the iterator over the next ones of an instruction. No condition. -/
import Derived.Test.YtpeifcdfhhpdkaaRange
import Derived.Test.YtpeifcdfhhpdkaaSl
namespace Go.Proofs.Ytpeifcdfhhpdkaa.Tw
set_option linter.unusedVariables false
set_option linter.unusedSimpArgs false
open Go Go.RowKit Go.MapKept
attribute [local go_sem] Oper.semAt_some

structure AIn where
  op : Int
  a : Int
  b : Int
/-- the code l lies in a slice, wherever CR is held -/
def CodeAt (w0 : World) (CR : HP) (sa : Option Addr) (n : Nat) (l : List AIn) : Prop :=
  l.length = n ∧ ∀ W G, Sat w0 W (CR * G) → ∀ k x, l[k]? = some x → ∃ g off, sa = some ⟨g, off, none⟩ ∧ W.cell? ⟨g, off + k * 3, none⟩ = some (.int .i64 x.op) ∧ W.cell? ⟨g, off + k * 3 + 1, none⟩ = some (.int .i64 x.a) ∧ W.cell? ⟨g, off + k * 3 + 2, none⟩ = some (.int .i64 x.b)
def inr (n : Nat) (x : Int) : Bool := decide (0 ≤ x) && decide (x < n)
/-- those of some numbers that are places -/
def wi (n : Nat) (x : Int) : List Int := if inr n x then [x] else []
def isIf (op : Int) : Bool := decide (op = 21) || decide (op = 22) || decide (op = 23) || decide (op = 24) || decide (op = 33) || decide (op = 34) || decide (op = 35)
/-- the next ones, in the program's order -/
def nextL (l : List AIn) (pc : Int) : List Int :=
  if 0 ≤ pc then match l[pc.toNat]? with
    | none => []
    | some x => if x.op = 19 then [] else if x.op = 20 then wi l.length x.b else if isIf x.op then wi l.length (pc + 1) ++ (if x.b = pc + 1 then [] else wi l.length x.b) else wi l.length (pc + 1)
  else []

section
variable {w0 W : World} {CR : HP} {sa : Option Addr} {n c : Nat} {l : List AIn}
/-- one of the next ones is handed over, if it is a place -/
theorem within_out (x : Int) (hx : inr n x = false) (hn : n ≤ 1000000000) (lb yb : Nat) (lid : Nat) {F : HP} (m : Nat)
    (hs : Sat w0 W (pt lb (.cells #[.slice sa n c] 22) * (pt yb (.cells #[.func (.yield lid) #[] #[]] 83) * F))) :
    CallsIn Fence.wide m Try.prog 46 #[.int .i64 x, .pointer (some ⟨lb, 0, none⟩), .pointer (some ⟨yb, 0, none⟩)] W fun e W' => e = .returned (.bool true) ∧ W = W' := by
  have c0 : W.cell? ⟨lb, 0, none⟩ = some (.slice sa n c) := Sat.cell (T := 22) (cs := #[.slice sa n c]) hs 0 rfl
  unfold inr at hx
  rw [callsIn_wide]
  by_cases h0 : x < 0
  · go_enter Try.func46, Try.ntmps46
    go_wp2
    go_ret
    exact ⟨rfl, rfl⟩
  · have hge : (n : Int) ≤ x := by
      have h1 : (0 : Int) ≤ x := by omega
      simp [h1] at hx
      exact hx
    have h1 : (0 : Int) ≤ x := by omega
    clear hx
    go_enter Try.func46, Try.ntmps46
    go_wp2
    go_ret
    exact ⟨rfl, rfl⟩
theorem within_in (x : Int) (hx : inr n x = true) (hn : n ≤ 1000000000) (lb yb : Nat) (lid : Nat) {F : HP} (m : Nat) {R : Ending → World → Prop}
    (hs : Sat w0 W (pt lb (.cells #[.slice sa n c] 22) * (pt yb (.cells #[.func (.yield lid) #[] #[]] 83) * F)))
    (hY : YieldAt Fence.wide m Try.prog lid #[.int .i64 x] W fun e W' => ∃ b : Bool, e = .returned (.bool b) ∧ R (.returned (.bool b)) W') :
    CallsIn Fence.wide (m + 1) Try.prog 46 #[.int .i64 x, .pointer (some ⟨lb, 0, none⟩), .pointer (some ⟨yb, 0, none⟩)] W R := by
  have c0 : W.cell? ⟨lb, 0, none⟩ = some (.slice sa n c) := Sat.cell (T := 22) (cs := #[.slice sa n c]) hs 0 rfl
  have c1 : W.cell? ⟨yb, 0, none⟩ = some (.func (.yield lid) #[] #[]) := Sat.cell (T := 83) (cs := #[.func (.yield lid) #[] #[]]) hs.p2 0 rfl
  unfold inr at hx
  simp only [Bool.and_eq_true, decide_eq_true_eq] at hx
  obtain ⟨h0, h1⟩ := hx
  obtain ⟨fn, tmps, assign, body, hy, hR⟩ := hY
  have h2 : decide (x < 0) = false := by simp; omega
  have h3 : decide ((n : Int) ≤ x) = false := by simp; omega
  refine callsIn_of_wp Try.func46 rfl trivial ?_
  simp only [Try.ntmps46, List.size_toArray, List.length_cons, List.length_nil, Nat.reduceAdd, Nat.reduceSub, Array.replicate_succ, Array.replicate_zero, List.push_toArray, List.append_toArray, List.nil_append, List.cons_append]
  gi_wp2
  refine hR.mono ?_
  rintro e W' ⟨b, rfl, hb⟩
  cases b
  · gi_wp2
    exact hb
  · gi_wp2
    exact hb
variable {m : Nat} {lid : Nat} {J Jx : List Int → HP}
def shR (pcb lb : Nat) (pc : Int) (sa : Option Addr) (n c : Nat) (CR : HP) : HP := pt pcb (.cells #[.int .i64 pc] 3 (0, 0)) * (pt lb (.cells #[.slice sa n c] 22 (0, 0)) * CR)
theorem size_alloc' (w : World) (o : Obj) : (w.alloc o).heap.size = w.heap.size + 1 := by simp
theorem yield_any {P : Program} {m m' lid : Nat} {args : Array Value} {R : Ending → World → Prop} (h : YieldAt Fence.wide m P lid args W R) : YieldAt Fence.wide m' P lid args W R := by
  obtain ⟨fn, tmps, assign, body, hy, hR⟩ := h
  exact ⟨fn, tmps, assign, body, hy, hR.1, fun c cs _ => hR.2 c cs (room_wide _)⟩
theorem within_any {ok : List Int → Int → Prop} {pcb lb yb : Nat} {pc : Int} {G : HP} (x : Int) (pre : List Int) (hn : n ≤ 1000000000)
    (hY : ∀ pre x W1 G, Sat w0 W1 (J pre * (shR pcb lb pc sa n c CR * G)) → ok pre x → YieldAt Fence.wide m Try.prog lid #[.int .i64 x] W1 fun e W' =>
      (e = .returned (.bool true) ∧ Sat w0 W' (J (pre ++ [x]) * (shR pcb lb pc sa n c CR * G))) ∨ (e = .returned (.bool false) ∧ Sat w0 W' (Jx (pre ++ [x]) * (shR pcb lb pc sa n c CR * G))))
    (hok : inr n x = true → ok pre x)
    (hs : Sat w0 W (J pre * (shR pcb lb pc sa n c CR * (pt yb (.cells #[.func (.yield lid) #[] #[]] 83 (0, 0)) * G)))) :
    CallsIn Fence.wide (m + 1) Try.prog 46 #[.int .i64 x, .pointer (some ⟨lb, 0, none⟩), .pointer (some ⟨yb, 0, none⟩)] W fun e W' =>
      (e = .returned (.bool true) ∧ Sat w0 W' (J (pre ++ wi n x) * (shR pcb lb pc sa n c CR * (pt yb (.cells #[.func (.yield lid) #[] #[]] 83 (0, 0)) * G)))) ∨
      (e = .returned (.bool false) ∧ inr n x = true ∧ Sat w0 W' (Jx (pre ++ [x]) * (shR pcb lb pc sa n c CR * (pt yb (.cells #[.func (.yield lid) #[] #[]] 83 (0, 0)) * G)))) := by
  have hs' : Sat w0 W (pt lb (.cells #[.slice sa n c] 22) * (pt yb (.cells #[.func (.yield lid) #[] #[]] 83) * (pt pcb (.cells #[.int .i64 pc] 3 (0, 0)) * (CR * (J pre * G))))) := hs.cast (by unfold shR; ac_rfl)
  cases hi : inr n x with
  | false =>
    refine (within_out x hi hn lb yb lid (m + 1) hs').mono ?_
    rintro e W' ⟨rfl, rfl⟩
    refine .inl ⟨rfl, ?_⟩
    have : wi n x = [] := by unfold wi; rw [hi]; rfl
    rw [this, List.append_nil]; exact hs
  | true =>
    have hw : wi n x = [x] := by unfold wi; rw [hi]; rfl
    obtain ⟨fn, tmps, assign, body, hy, hR⟩ := hY pre x W _ hs (hok hi)
    refine within_in x hi hn lb yb lid m hs' ⟨fn, tmps, assign, body, hy, hR.mono ?_⟩
    rintro e W' (⟨rfl, h⟩ | ⟨rfl, h⟩)
    · exact ⟨true, rfl, .inl ⟨rfl, by rw [hw]; exact h⟩⟩
    · exact ⟨false, rfl, .inr ⟨rfl, rfl, h⟩⟩
def NPost (w0 : World) (J Jx : List Int → HP) (Sh F : HP) (L : List Int) (e : Ending) (W' : World) : Prop :=
  (∃ v, e = .returned v) ∧ ((∃ xs, xs = L ∧ Sat w0 W' (J xs * (Sh * F))) ∨ (∃ pre, pre <+: L ∧ Sat w0 W' (Jx pre * (Sh * F))))
theorem NPost.all {J Jx : List Int → HP} {Sh F Y : HP} {L : List Int} {v : Value} (h : Sat w0 W (J L * (Sh * (Y * F)))) : NPost w0 J Jx Sh F L (.returned v) W :=
  ⟨⟨_, rfl⟩, .inl ⟨L, rfl, h.p3.drop⟩⟩
theorem NPost.part {J Jx : List Int → HP} {Sh F Y : HP} {L pre : List Int} {v : Value} (hp : pre <+: L) (h : Sat w0 W (Jx pre * (Sh * (Y * F)))) : NPost w0 J Jx Sh F L (.returned v) W :=
  ⟨⟨_, rfl⟩, .inr ⟨pre, hp, h.p3.drop⟩⟩
theorem NPost.all2 {J Jx : List Int → HP} {Sh F Y Z : HP} {L L' : List Int} {v : Value} (e : L' = L) (h : Sat w0 W (J L * (Sh * (Y * (Z * F))))) : NPost w0 J Jx Sh F L' (.returned v) W :=
  ⟨⟨_, rfl⟩, .inl ⟨L, e.symm, (h.p3.drop).p3.drop⟩⟩
theorem NPost.part2 {J Jx : List Int → HP} {Sh F Y Z : HP} {L pre : List Int} {v : Value} (hp : pre <+: L) (h : Sat w0 W (Jx pre * (Sh * (Y * (Z * F))))) : NPost w0 J Jx Sh F L (.returned v) W :=
  ⟨⟨_, rfl⟩, .inr ⟨pre, hp, (h.p3.drop).p3.drop⟩⟩
set_option maxRecDepth 100000 in
set_option maxHeartbeats 4000000 in
theorem next_seq (hC : CodeAt w0 CR sa n l) (hcap : n ≤ c) (pcb lb : Nat) (pc : Int) (hn : n ≤ 1000000000) :
    SeqS w0 (m + 2) Try.prog 45 #[.pointer (some ⟨pcb, 0, none⟩), .pointer (some ⟨lb, 0, none⟩)] (fun x : Int => #[.int .i64 x]) (fun _ => shR pcb lb pc sa n c CR) (fun pre x => ∃ post, nextL l pc = pre ++ x :: post) (fun xs => xs = nextL l pc) (fun pre => pre <+: nextL l pc) := by
  intro lid J Jx W F hY hs
  show CallsIn Fence.wide (m + 2) Try.prog 45 #[.func (.yield lid) #[] #[], .pointer (some ⟨pcb, 0, none⟩), .pointer (some ⟨lb, 0, none⟩)] W (NPost w0 J Jx (shR pcb lb pc sa n c CR) F (nextL l pc))
  have hm : m + 2 - 1 = m + 1 := by omega
  have hs1 := hs.alloc (.cells #[.func (.yield lid) #[] #[]] 83)
  generalize hyb : W.heap.size = yb at *
  have hs2 : Sat w0 (W.alloc (.cells #[.func (.yield lid) #[] #[]] 83)) (J [] * (shR pcb lb pc sa n c CR * (pt yb (.cells #[.func (.yield lid) #[] #[]] 83 (0, 0)) * F))) := hs1.cast (by ac_rfl)
  have cells : ∀ W1 X Y, Sat w0 W1 (X * (shR pcb lb pc sa n c CR * Y)) → W1.cell? ⟨pcb, 0, none⟩ = some (.int .i64 pc) ∧ W1.cell? ⟨lb, 0, none⟩ = some (.slice sa n c) := fun W1 X Y h => by
    have h' : Sat w0 W1 (pt pcb (.cells #[.int .i64 pc] 3 (0, 0)) * (pt lb (.cells #[.slice sa n c] 22 (0, 0)) * (CR * (X * Y)))) := h.cast (by unfold shR; ac_rfl)
    exact ⟨Sat.cell (T := 3) (cs := #[.int .i64 pc]) h' 0 rfl, Sat.cell (T := 22) (cs := #[.slice sa n c]) h'.p2 0 rfl⟩
  have ⟨c0, c1⟩ := cells _ _ _ hs2
  have HYY := Lib.hid hY
  have HCE := Lib.hid cells
  clear hY cells
  by_cases h0 : pc < 0
  · have e : nextL l pc = [] := by unfold nextL; rw [if_neg (by omega)]
    rw [e]
    clear e
    refine callsIn_of_wp Try.func45 rfl trivial ?_
    simp only [Try.ntmps45, List.size_toArray, List.length_cons, List.length_nil, Nat.reduceAdd, Nat.reduceSub, Array.replicate_succ, Array.replicate_zero, List.push_toArray, List.append_toArray, List.nil_append, List.cons_append]
    try rw [hyb]
    gi_wp2
    refine bodyPost_ret (results_none rfl _ _ _) rfl ?_
    exact NPost.all hs2
  have h0' : 0 ≤ pc := by omega
  by_cases hge : (n : Int) ≤ pc
  · have e : nextL l pc = [] := by
      unfold nextL
      rw [if_pos h0']
      have : l[pc.toNat]? = none := List.getElem?_eq_none (by have := hC.1; omega)
      rw [this]
    rw [e]
    clear e
    refine callsIn_of_wp Try.func45 rfl trivial ?_
    simp only [Try.ntmps45, List.size_toArray, List.length_cons, List.length_nil, Nat.reduceAdd, Nat.reduceSub, Array.replicate_succ, Array.replicate_zero, List.push_toArray, List.append_toArray, List.nil_append, List.cons_append]
    try rw [hyb]
    gi_wp2
    refine bodyPost_ret (results_none rfl _ _ _) rfl ?_
    exact NPost.all hs2
  obtain ⟨k, rfl⟩ : ∃ k : Nat, pc = (k : Int) := ⟨pc.toNat, by omega⟩
  have hlen := hC.1
  have hk : k < n := by omega
  obtain ⟨x, hx⟩ : ∃ x, l[k]? = some x := ⟨l[k]'(by omega), List.getElem?_eq_getElem _⟩
  obtain ⟨g, off, rfl, d0, d1, d2⟩ := hC.2 _ (J [] * (pt pcb (.cells #[.int .i64 k] 3 (0, 0)) * (pt lb (.cells #[.slice sa n c] 22 (0, 0)) * (pt yb (.cells #[.func (.yield lid) #[] #[]] 83 (0, 0)) * F)))) (hs2.cast (by unfold shR; ac_rfl)) k x hx
  obtain ⟨op, ia, b⟩ := x
  have hnx : nextL l (k : Int) = if op = 19 then [] else if op = 20 then wi n b else if isIf op then wi n (k + 1) ++ (if b = (k : Int) + 1 then [] else wi n b) else wi n (k + 1) := by
    unfold nextL
    rw [if_pos h0', Int.toNat_natCast, hx, hlen]
  have HNX := Lib.hid hnx
  have hk1 : (k : Int) < (n : Int) := by omega
  have HX := Lib.hid hx
  clear hnx hx h0 hge hC hs hs1
  have hYm : ∀ pre x W1 G, Sat w0 W1 (J pre * (shR pcb lb k (some ⟨g, off, none⟩) n c CR * G)) → (∃ post, nextL l k = pre ++ x :: post) → YieldAt Fence.wide m Try.prog lid #[.int .i64 x] W1 fun e W' =>
      (e = .returned (.bool true) ∧ Sat w0 W' (J (pre ++ [x]) * (shR pcb lb k (some ⟨g, off, none⟩) n c CR * G))) ∨ (e = .returned (.bool false) ∧ Sat w0 W' (Jx (pre ++ [x]) * (shR pcb lb k (some ⟨g, off, none⟩) n c CR * G))) := fun pre x W1 G h ho => yield_any (HYY.out pre x W1 G h ho)
  have HYM := Lib.hid hYm
  clear hYm
  have hsa := hs2.alloc (.cells #[.int .i64 op, .int .i64 ia, .int .i64 b] 34)
  rw [size_alloc', hyb] at hsa
  have hs3 : Sat w0 ((W.alloc (.cells #[.func (.yield lid) #[] #[]] 83)).alloc (.cells #[.int .i64 op, .int .i64 ia, .int .i64 b] 34)) (J [] * (shR pcb lb k (some ⟨g, off, none⟩) n c CR * (pt yb (.cells #[.func (.yield lid) #[] #[]] 83 (0, 0)) * (pt (yb + 1) (.cells #[.int .i64 op, .int .i64 ia, .int .i64 b] 34 (0, 0)) * F)))) := hsa.cast (by ac_rfl)
  clear hsa hs2
  have ⟨e0, e1⟩ := HCE.out _ _ _ hs3
  by_cases o19 : op = 19
  · subst o19
    have HE := Lib.hid (show nextL l (k : Int) = [] by rw [HNX.out, if_pos rfl])
    refine callsIn_of_wp Try.func45 rfl trivial ?_
    simp only [Try.ntmps45, List.size_toArray, List.length_cons, List.length_nil, Nat.reduceAdd, Nat.reduceSub, Array.replicate_succ, Array.replicate_zero, List.push_toArray, List.append_toArray, List.nil_append, List.cons_append]
    try rw [hyb]
    gi_wp2
    go_end0
    exact NPost.all2 HE.out hs3
  have e19 : (op == 19) = false := by simpa using o19
  by_cases o20 : op = 20
  · subst o20
    have e : nextL l (k : Int) = wi n b := by rw [HNX.out, if_neg o19, if_pos rfl]
    have hin : inr n b = true → ∃ post, nextL l (k : Int) = [] ++ b :: post := fun hi => ⟨[], by rw [e]; unfold wi; rw [hi]; rfl⟩
    have HW := Lib.hid (within_any b [] hn HYM.out hin hs3)
    have HE := Lib.hid e
    clear e hin o19
    refine callsIn_of_wp Try.func45 rfl trivial ?_
    simp only [Try.ntmps45, List.size_toArray, List.length_cons, List.length_nil, Nat.reduceAdd, Nat.reduceSub, Array.replicate_succ, Array.replicate_zero, List.push_toArray, List.append_toArray, List.nil_append, List.cons_append]
    try rw [hyb]
    gi_wp2
    refine ⟨trivial, HW.out.mono ?_⟩
    rintro e W' (⟨rfl, h⟩ | ⟨rfl, hi, h⟩)
    · gi_wp2
      go_end0
      exact NPost.all2 HE.out h
    · gi_wp2
      go_end0
      exact NPost.part2 (by rw [HE.out]; unfold wi; rw [hi]; exact List.prefix_refl _) h
  have e20 : (op == 20) = false := by simpa using o20
  cases hif : isIf op with
  | false =>
    have e : nextL l (k : Int) = wi n (k + 1) := by rw [HNX.out, if_neg o19, if_neg o20, hif]; rfl
    have hin : inr n (k + 1) = true → ∃ post, nextL l (k : Int) = [] ++ ((k : Int) + 1) :: post := fun hi => ⟨[], by rw [e]; unfold wi; rw [hi]; rfl⟩
    have HW := Lib.hid (within_any ((k : Int) + 1) [] hn HYM.out hin hs3)
    have HE := Lib.hid e
    unfold isIf at hif
    simp only [Bool.or_eq_false_iff, decide_eq_false_iff_not] at hif
    obtain ⟨⟨⟨⟨⟨⟨a1, a2⟩, a3⟩, a4⟩, a5⟩, a6⟩, a7⟩ := hif
    have b1 : (op == 21) = false := by simpa using a1
    have b2 : (op == 22) = false := by simpa using a2
    have b3 : (op == 23) = false := by simpa using a3
    have b4 : (op == 24) = false := by simpa using a4
    have b5 : (op == 33) = false := by simpa using a5
    have b6 : (op == 34) = false := by simpa using a6
    have b7 : (op == 35) = false := by simpa using a7
    clear e hin o19 o20 a1 a2 a3 a4 a5 a6 a7
    refine callsIn_of_wp Try.func45 rfl trivial ?_
    simp only [Try.ntmps45, List.size_toArray, List.length_cons, List.length_nil, Nat.reduceAdd, Nat.reduceSub, Array.replicate_succ, Array.replicate_zero, List.push_toArray, List.append_toArray, List.nil_append, List.cons_append]
    try rw [hyb]
    gi_wp2
    refine ⟨trivial, HW.out.mono ?_⟩
    rintro e W' (⟨rfl, h⟩ | ⟨rfl, hi, h⟩)
    · gi_wp2
      go_end0
      exact NPost.all2 HE.out h
    · gi_wp2
      go_end0
      exact NPost.part2 (by rw [HE.out]; unfold wi; rw [hi]; exact List.prefix_refl _) h
  | true =>
    have e : nextL l (k : Int) = wi n (k + 1) ++ (if b = (k : Int) + 1 then [] else wi n b) := by rw [HNX.out, if_neg o19, if_neg o20, hif]; rfl
    have hin : inr n (k + 1) = true → ∃ post, nextL l (k : Int) = [] ++ ((k : Int) + 1) :: post := fun hi => ⟨_, by rw [e, show wi n ((k : Int) + 1) = [(k : Int) + 1] by unfold wi; rw [hi]; rfl]; rfl⟩
    have HW := Lib.hid (within_any ((k : Int) + 1) [] hn HYM.out hin hs3)
    have HE := Lib.hid e
    have hop : op = 21 ∨ op = 22 ∨ op = 23 ∨ op = 24 ∨ op = 33 ∨ op = 34 ∨ op = 35 := by
      unfold isIf at hif
      simp only [Bool.or_eq_true, decide_eq_true_eq] at hif
      omega
    by_cases hb : b = (k : Int) + 1
    · subst hb
      have hbb : ((k : Int) + 1 != (k : Int) + 1) = false := by simp
      have HE2 := Lib.hid (show nextL l (k : Int) = wi n (k + 1) by rw [e, if_pos rfl, List.append_nil])
      clear e hin hif e19 e20 o19 o20
      rcases hop with rfl | rfl | rfl | rfl | rfl | rfl | rfl
      all_goals
        refine callsIn_of_wp Try.func45 rfl trivial ?_
        simp only [Try.ntmps45, List.size_toArray, List.length_cons, List.length_nil, Nat.reduceAdd, Nat.reduceSub, Array.replicate_succ, Array.replicate_zero, List.push_toArray, List.append_toArray, List.nil_append, List.cons_append]
        try rw [hyb]
        gi_wp2
        refine ⟨trivial, HW.out.mono ?_⟩
        rintro e W' (⟨rfl, h⟩ | ⟨rfl, hi, h⟩)
        · have ⟨x0, _⟩ := HCE.out _ _ _ h
          have x2 : W'.cell? ⟨yb + 1, 2, none⟩ = some (.int .i64 ((k : Int) + 1)) := Sat.cell (T := 34) h.p4 2 rfl
          gi_wp2
          go_end0
          exact NPost.all2 HE2.out h
        · have ⟨x0, _⟩ := HCE.out _ _ _ h
          have x2 : W'.cell? ⟨yb + 1, 2, none⟩ = some (.int .i64 ((k : Int) + 1)) := Sat.cell (T := 34) h.p4 2 rfl
          gi_wp2
          go_end0
          exact NPost.part2 (by rw [HE2.out]; unfold wi; rw [hi]; exact List.prefix_refl _) h
    · have hbb : (b != (k : Int) + 1) = true := by simpa using hb
      have HE2 := Lib.hid (show nextL l (k : Int) = wi n (k + 1) ++ wi n b by rw [e, if_neg hb])
      clear e hin hif e19 e20 o19 o20 hb
      rcases hop with rfl | rfl | rfl | rfl | rfl | rfl | rfl
      all_goals
        refine callsIn_of_wp Try.func45 rfl trivial ?_
        simp only [Try.ntmps45, List.size_toArray, List.length_cons, List.length_nil, Nat.reduceAdd, Nat.reduceSub, Array.replicate_succ, Array.replicate_zero, List.push_toArray, List.append_toArray, List.nil_append, List.cons_append]
        try rw [hyb]
        gi_wp2
        refine ⟨trivial, HW.out.mono ?_⟩
        rintro e W' (⟨rfl, h⟩ | ⟨rfl, hi, h⟩)
        · have ⟨x0, _⟩ := HCE.out _ _ _ h
          have x2 : W'.cell? ⟨yb + 1, 2, none⟩ = some (.int .i64 b) := Sat.cell (T := 34) h.p4 2 rfl
          have hin2 : inr n b = true → ∃ post, nextL l (k : Int) = ([] ++ wi n (k + 1)) ++ b :: post := fun hi => ⟨[], by rw [HE2.out, show wi n b = [b] by unfold wi; rw [hi]; rfl]; rfl⟩
          have HW2 := Lib.hid (within_any b ([] ++ wi n (k + 1)) hn HYM.out hin2 h)
          clear hin2
          gi_wp2
          refine ⟨trivial, HW2.out.mono ?_⟩
          rintro e W3 (⟨rfl, h3⟩ | ⟨rfl, hi3, h3⟩)
          · gi_wp2
            go_end0
            exact NPost.all2 HE2.out h3
          · gi_wp2
            go_end0
            exact NPost.part2 (by rw [HE2.out]; unfold wi; rw [hi3]; exact List.prefix_refl _) h3
        · have ⟨x0, _⟩ := HCE.out _ _ _ h
          have x2 : W'.cell? ⟨yb + 1, 2, none⟩ = some (.int .i64 b) := Sat.cell (T := 34) h.p4 2 rfl
          gi_wp2
          go_end0
          exact NPost.part2 (by rw [HE2.out]; unfold wi; rw [hi]; exact List.prefix_append _ _) h
end
end Go.Proofs.Ytpeifcdfhhpdkaa.Tw
