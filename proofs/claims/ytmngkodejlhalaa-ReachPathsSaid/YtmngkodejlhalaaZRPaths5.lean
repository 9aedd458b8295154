/- Values and objects in memory: what slices of them hold, and the library's functions that ask a function value of a value. No condition. -/
import Derived.Test.YtmngkodejlhalaaZRPaths3
import Derived.Test.YtmngkodejlhalaaZRPaths4
namespace Go.Proofs.Ytmngkodejlhalaa.Tw
set_option linter.unusedVariables false
set_option linter.unusedSimpArgs false
open Go Go.RowKit Go.MapKept

structure AObj where
  kind : Int
  count : Int
  slots : List AVal
  text : ByteArray
  mark : Int
def avcells (l : List AVal) : List Value := l.flatMap AVal.cells
theorem avcells_length (l : List AVal) : (avcells l).length = l.length * 2 := by
  induction l with
  | nil => rfl
  | cons x r ih => simp only [avcells, List.flatMap_cons, List.length_append, List.length_cons] at ih ⊢; rw [ih]; simp [AVal.cells]; omega

theorem info_val : (Try.prog.info? 33).map (fun i => (i.zero, i.size, i.bytes)) = some (some (.agg #[.int .i64 0, .int .i64 0]), 2, 16) := by kernel_rfl
theorem oneCell_avcells (l : List AVal) : ∀ v ∈ avcells l, v.oneCell' = true := by
  intro v hv
  simp only [avcells, List.mem_flatMap, AVal.cells] at hv
  obtain ⟨x, _, h⟩ := hv
  simp at h
  rcases h with rfl | rfl <;> rfl
theorem emptySlcV {w0 w : World} {F : HP} (h : Sat w0 w F) : Sat w0 (w.alloc (.cells #[] 33)) (slc 33 2 (some ⟨w.heap.size, 0, none⟩) 0 0 [] * F) :=
  Sat.shutSlc (h.alloc (.cells #[] 33)) (Nat.le_refl _) (Nat.zero_le _) (by simp) (by simp)
theorem size_alloc (w : World) (o : Obj) : (w.alloc o).heap.size = w.heap.size + 1 := by simp
theorem avcells_get (l : List AVal) : ∀ (i : Nat) (x : AVal), l[i]? = some x → (avcells l)[i * 2]? = some (.int .i64 x.kind) ∧ (avcells l)[i * 2 + 1]? = some (.int .i64 x.n) := by
  induction l with
  | nil => intro i x h; simp at h
  | cons y l ih =>
    intro i x h
    have e : avcells (y :: l) = .int .i64 y.kind :: .int .i64 y.n :: avcells l := rfl
    rw [e]
    cases i with
    | zero => simp at h; subst h; exact ⟨rfl, rfl⟩
    | succ i =>
      have := ih i x (by simpa using h)
      rw [show (i + 1) * 2 = i * 2 + 1 + 1 by omega]
      simpa using this
theorem avcells_set (l : List AVal) : ∀ (i : Nat) (x : AVal), ((avcells l).set (i * 2) (.int .i64 x.kind)).set (i * 2 + 1) (.int .i64 x.n) = avcells (l.set i x) := by
  induction l with
  | nil => intro i x; rfl
  | cons y l ih =>
    intro i x
    have e : avcells (y :: l) = .int .i64 y.kind :: .int .i64 y.n :: avcells l := rfl
    rw [e]
    cases i with
    | zero => rfl
    | succ i =>
      rw [show (i + 1) * 2 = i * 2 + 1 + 1 by omega]
      simp only [List.set_cons_succ]
      rw [ih i x]
      rfl
theorem avcells_take (l : List AVal) (i : Nat) : (avcells l).take (i * 2) = avcells (l.take i) := by
  induction l generalizing i with
  | nil => simp [avcells]
  | cons y l ih =>
    cases i with
    | zero => rfl
    | succ i =>
      have e : avcells (y :: l) = .int .i64 y.kind :: .int .i64 y.n :: avcells l := rfl
      rw [e, show (i + 1) * 2 = i * 2 + 1 + 1 by omega]
      simp only [List.take_succ_cons]
      rw [ih i]; rfl
theorem valAt {w0 w : World} {F : HP} {a : Option Addr} {c n : Nat} {l : List AVal} (h : Sat w0 w (slc 33 2 a n c (avcells l) * F)) {k : Nat} {x : AVal} (hk : l[k]? = some x) :
    ∃ g off, a = some ⟨g, off, none⟩ ∧ w.cell? ⟨g, off + k * 2, none⟩ = some (.int .i64 x.kind) ∧ w.cell? ⟨g, off + k * 2 + 1, none⟩ = some (.int .i64 x.n) ∧ w.frozen? ⟨g, off + k * 2, none⟩ = false ∧ w.frozen? ⟨g, off + k * 2 + 1, none⟩ = false := by
  obtain ⟨e0, e1⟩ := avcells_get l k x hk
  obtain ⟨g, off, ha, h0, f0⟩ := h.slcAt e0
  obtain ⟨g', off', ha', h1, f1⟩ := h.slcAt e1
  rw [ha] at ha'
  cases ha'
  exact ⟨g, off, ha, h0, by rw [Nat.add_assoc]; exact h1, f0, by rw [Nat.add_assoc]; exact f1⟩

section
variable {P : Program} {w0 w : World} {F : HP} {ops : Array Oper} {rest : List Oper} {o : Oper} {a : Act} {Q : Exit → Act → World → Prop} {K : Act → World → Prop}
theorem two_cells {w : World} {bx : Nat} {x y : Value} (h0 : w.cell? ⟨bx, 0, none⟩ = some x) (h1 : w.cell? ⟨bx, 1, none⟩ = some y) : ∀ j u, [x, y][j]? = some u → w.cell? ((⟨bx, 0, none⟩ : Addr).add j) = some u := by
  intro j u hj
  rw [addr_add, Nat.zero_add]
  match j, hj with
  | 0, hj => cases hj; exact h0
  | 1, hj => cases hj; exact h1
  | j + 2, hj => simp at hj
/-- one value more -/
theorem wp_pushVal (s x : Operand) (hop : o.op = .call { callee := .builtin .append, args := #[s, x], argTypes := #[25, 25] })
    (sa : Option Addr) (n c : Nat) (l : List AVal) (hs : a.eval s = .slice sa n c) (h : Sat w0 w (slc 33 2 sa n c (avcells l) * F)) (bx c' : Nat) (v : AVal) (hx : a.eval x = .slice (some ⟨bx, 0, none⟩) 1 c') (hc0 : w.cell? ⟨bx, 0, none⟩ = some (.int .i64 v.kind)) (hc1 : w.cell? ⟨bx, 1, none⟩ = some (.int .i64 v.n)) (hn : n ≤ 1000000000)
    (hK : ∀ a' c'' w', Sat w0 w' (slc 33 2 a' (n + 1) c'' (avcells (l ++ [v])) * F) → K (a.put o.dst (.slice a' (n + 1) c'')) w') : o.wp Try.prog a w K Q := by
  obtain ⟨i0, hi, hz0, hz1, hz2⟩ := info_parts info_val
  refine wp_append s x 25 hop i0 (.agg #[.int .i64 0, .int .i64 0]) 16 Try.underlying25 hi hz0 hz1 hz2 rfl sa n c (avcells l) hs h ⟨bx, 0, none⟩ 1 c' [.int .i64 v.kind, .int .i64 v.n] hx rfl (two_cells hc0 hc1) (by simp [Value.oneCell']) (by unfold maxLen; omega) (by omega) fun a' c'' w' h2 _ => ?_
  refine hK a' c'' w' ?_
  have : avcells (l ++ [v]) = avcells l ++ [.int .i64 v.kind, .int .i64 v.n] := by simp [avcells, AVal.cells]
  rw [this]; exact h2
theorem wpList_pushVal (hg : o.guard = none) (s x : Operand) (hop : o.op = .call { callee := .builtin .append, args := #[s, x], argTypes := #[25, 25] })
    (sa : Option Addr) (n c : Nat) (l : List AVal) (hs : a.eval s = .slice sa n c) (h : Sat w0 w (slc 33 2 sa n c (avcells l) * F)) (bx c' : Nat) (v : AVal) (hx : a.eval x = .slice (some ⟨bx, 0, none⟩) 1 c') (hc0 : w.cell? ⟨bx, 0, none⟩ = some (.int .i64 v.kind)) (hc1 : w.cell? ⟨bx, 1, none⟩ = some (.int .i64 v.n)) (hn : n ≤ 1000000000)
    (hK : ∀ a' c'' w', Sat w0 w' (slc 33 2 a' (n + 1) c'' (avcells (l ++ [v])) * F) → wpList Try.prog ops Q rest (a.put o.dst (.slice a' (n + 1) c'')) w') : wpList Try.prog ops Q (o :: rest) a w := by
  obtain ⟨i0, hi, hz0, hz1, hz2⟩ := info_parts info_val
  refine wpList_append hg s x 25 hop i0 (.agg #[.int .i64 0, .int .i64 0]) 16 Try.underlying25 hi hz0 hz1 hz2 rfl sa n c (avcells l) hs h ⟨bx, 0, none⟩ 1 c' [.int .i64 v.kind, .int .i64 v.n] hx rfl (two_cells hc0 hc1) (by simp [Value.oneCell']) (by unfold maxLen; omega) (by omega) fun a' c'' w' h2 _ => ?_
  refine hK a' c'' w' ?_
  have : avcells (l ++ [v]) = avcells l ++ [.int .i64 v.kind, .int .i64 v.n] := by simp [avcells, AVal.cells]
  rw [this]; exact h2
/-- one number more behind an owned slice -/
theorem wpList_push (hg : o.guard = none) (s x : Operand) (hop : o.op = .call { callee := .builtin .append, args := #[s, x], argTypes := #[28, 28] })
    (sa : Option Addr) (n c : Nat) (l : List Int) (hs : a.eval s = .slice sa n c) (h : Sat w0 w (slc 3 1 sa n c (l.map ival) * F)) (bx c' : Nat) (v : Int) (hx : a.eval x = .slice (some ⟨bx, 0, none⟩) 1 c') (hc : w.cell? ⟨bx, 0, none⟩ = some (.int .i64 v)) (hn : n ≤ 1000000000)
    (hK : ∀ a' c'' w', Sat w0 w' (slc 3 1 a' (n + 1) c'' ((l ++ [v]).map ival) * F) → wpList Try.prog ops Q rest (a.put o.dst (.slice a' (n + 1) c'')) w') : wpList Try.prog ops Q (o :: rest) a w := by
  obtain ⟨i0, hi, hz0, hz1, hz2⟩ := info_parts info_int'
  refine wpList_append hg s x 28 hop i0 (.int .i64 0) 8 Try.underlying28 hi hz0 hz1 hz2 rfl sa n c (l.map ival) hs h ⟨bx, 0, none⟩ 1 c' [.int .i64 v] hx rfl ?_ (by simp [Value.oneCell']) (by unfold maxLen; omega) (by omega) fun a' c'' w' h2 _ => ?_
  · intro j u hj
    rw [addr_add, Nat.zero_add]
    match j, hj with
    | 0, hj => cases hj; exact hc
    | j + 1, hj => simp at hj
  · refine hK a' c'' w' ?_
    rw [List.map_append]; exact h2
end

/-- the function answers p x of a value, and keeps C -/
def AsksV (w0 : World) (g : Nat) (lb : Array Value) (C : HP) (p : AVal → Bool) : Prop :=
  ∀ (w : World) (G : HP) (x : AVal), Sat w0 w (C * G) → Calls Try.prog g (#[.agg #[.int .i64 x.kind, .int .i64 x.n]] ++ lb) w fun e w' => e = .returned (.bool (p x)) ∧ Sat w0 w' (C * G)
set_option maxHeartbeats 1000000 in
theorem indexFunc_val {w0 w : World} {C F : HP} {a : Option Addr} {c n : Nat} {l : List AVal} (p : AVal → Bool) (g : Nat) (lb : Array Value) (eg : ∀ args w, (callFunc g args).run Try.prog w = .ok (.enter g args) w) (hp : AsksV w0 g lb C p) (h : Sat w0 w (slc 33 2 a n c (avcells l) * (C * F))) (hl : l.length = n) (hn : n ≤ 1000000000) :
    Calls Try.prog 112 #[.slice a n c, .func (.func g) #[] lb] w fun e w' => e = .returned (.int .i64 (idxF p l)) ∧ Sat w0 w' (slc 33 2 a n c (avcells l) * (C * F)) := by
  have HP' := Lib.hid hp
  clear hp
  go_enter Try.func112, Try.ntmps112
  go_wp2
  go_loopw [8] (fun iv wr => ∃ k : Nat, iv = .int .i64 k ∧ k ≤ n ∧ Hid (∀ j y, j < k → l[j]? = some y → p y = false) ∧ Sat w0 wr (slc 33 2 a n c (avcells l) * (C * F))) (fun iv _ => n - (intOf iv).toNat)
  case atStart => exact ⟨0, rfl, by omega, Lib.hid (by intro j y hj; omega), h⟩
  case round =>
    obtain ⟨k, rfl, hk, HB, hs⟩ := hrel
    by_cases hlt : k < n
    · obtain ⟨x, hx⟩ : ∃ x, l[k]? = some x := ⟨l[k]'(by omega), List.getElem?_eq_getElem _⟩
      obtain ⟨gb, off, rfl, hc, hc1, _, _⟩ := valAt hs hx
      have hcap := hs.slcCap
      have hcall := HP'.out wr (slc 33 2 (some ⟨gb, off, none⟩) n c (avcells l) * F) x hs.p2
      have HX := Lib.hid hx
      clear hx
      cases hq : p x with
      | true =>
        rw [hq] at hcall
        have HQ := Lib.hid hq
        have HC := Lib.hid hcall
        clear hq hcall
        go_wp2_with fail
        go_at_fn g
        refine HC.out.mono ?_
        rintro e w' ⟨rfl, h2⟩
        go_wp2_with fail
        go_ret
        exact ⟨by rw [idxF_some p HX.out HQ.out HB.out]; rfl, h2.p2⟩
      | false =>
        rw [hq] at hcall
        have HQ := Lib.hid hq
        have HC := Lib.hid hcall
        clear hq hcall
        go_wp2_with fail
        go_at_fn g
        refine HC.out.mono ?_
        rintro e w' ⟨rfl, h2⟩
        go_wp2_with fail
        go_roundw
        case rel =>
          refine ⟨k + 1, by go_num, by omega, Lib.hid ?_, h2.p2⟩
          intro j y hj hy
          rcases Nat.lt_or_ge j k with h3 | h3
          · exact HB.out j y h3 hy
          · obtain rfl : j = k := by omega
            rw [HX.out] at hy; cases hy; exact HQ.out
        case measure => simp [intOf]; omega
    · have hkn : k = n := by omega
      go_wp2
      go_ret
      refine ⟨?_, hs⟩
      rw [idxF_none]
      · rfl
      intro x hx
      obtain ⟨j, hj, e⟩ := List.mem_iff_getElem.1 hx
      exact HB.out j x (by omega) (by rw [← e]; exact List.getElem?_eq_getElem _)
theorem containsFunc_val {w0 w : World} {C F : HP} {a : Option Addr} {c n : Nat} {l : List AVal} (p : AVal → Bool) (g : Nat) (lb : Array Value) (eg : ∀ args w, (callFunc g args).run Try.prog w = .ok (.enter g args) w) (hp : AsksV w0 g lb C p) (h : Sat w0 w (slc 33 2 a n c (avcells l) * (C * F))) (hl : l.length = n) (hn : n ≤ 1000000000) :
    Calls Try.prog 98 #[.slice a n c, .func (.func g) #[] lb] w fun e w' => e = .returned (.bool (l.any p)) ∧ Sat w0 w' (slc 33 2 a n c (avcells l) * (C * F)) := by
  have HI := Lib.hid (indexFunc_val p g lb eg hp h hl hn)
  have HD := Lib.hid (idxF_any p l)
  generalize idxF p l = r at *
  generalize l.any p = q at *
  clear hp
  go_enter Try.func98, Try.ntmps98
  go_wp2_with fail
  refine HI.out.mono ?_
  rintro e w' ⟨rfl, h2⟩
  go_wp2_with fail
  go_ret
  exact ⟨by rw [← HD.out]; rfl, h2⟩
/-- values in a slice, wherever SR is held -/
def SrcV (w0 : World) (SR : HP) (a : Option Addr) (n c : Nat) (l : List AVal) : Prop :=
  (∀ w' G, Sat w0 w' (SR * G) → ∀ k x, l[k]? = some x → ∃ g off, a = some ⟨g, off, none⟩ ∧ w'.cell? ⟨g, off + k * 2, none⟩ = some (.int .i64 x.kind) ∧ w'.cell? ⟨g, off + k * 2 + 1, none⟩ = some (.int .i64 x.n)) ∧
  l.length = n ∧ (a = none → n = 0 ∧ c = 0) ∧ n ≤ c ∧ c ≤ maxLen
set_option maxHeartbeats 1000000 in
theorem indexFunc_valS {w0 w : World} {C F SR : HP} {a : Option Addr} {c n : Nat} {l : List AVal} (p : AVal → Bool) (g : Nat) (lb : Array Value) (eg : ∀ args w, (callFunc g args).run Try.prog w = .ok (.enter g args) w) (hp : AsksV w0 g lb C p) (h : Sat w0 w (SR * (C * F))) (hS : SrcV w0 SR a n c l) (hn : n ≤ 1000000000) :
    Calls Try.prog 112 #[.slice a n c, .func (.func g) #[] lb] w fun e w' => e = .returned (.int .i64 (idxF p l)) ∧ Sat w0 w' (SR * (C * F)) := by
  have HP' := Lib.hid hp
  have hl := hS.2.1
  have HSS := Lib.hid hS
  clear hp hS
  go_enter Try.func112, Try.ntmps112
  go_wp2
  go_loopw [8] (fun iv wr => ∃ k : Nat, iv = .int .i64 k ∧ k ≤ n ∧ Hid (∀ j y, j < k → l[j]? = some y → p y = false) ∧ Sat w0 wr (SR * (C * F))) (fun iv _ => n - (intOf iv).toNat)
  case atStart => exact ⟨0, rfl, by omega, Lib.hid (by intro j y hj; omega), h⟩
  case round =>
    obtain ⟨k, rfl, hk, HB, hs⟩ := hrel
    by_cases hlt : k < n
    · obtain ⟨x, hx⟩ : ∃ x, l[k]? = some x := ⟨l[k]'(by omega), List.getElem?_eq_getElem _⟩
      obtain ⟨gb, off, rfl, hc, hc1⟩ := HSS.out.1 _ _ hs _ _ hx
      have hcap := HSS.out.2.2.2
      have hcall := HP'.out wr (SR * F) x hs.p2
      have HX := Lib.hid hx
      clear hx
      cases hq : p x with
      | true =>
        rw [hq] at hcall
        have HQ := Lib.hid hq
        have HC := Lib.hid hcall
        clear hq hcall
        go_wp2_with fail
        go_at_fn g
        refine HC.out.mono ?_
        rintro e w' ⟨rfl, h2⟩
        go_wp2_with fail
        go_ret
        exact ⟨by rw [idxF_some p HX.out HQ.out HB.out]; rfl, h2.p2⟩
      | false =>
        rw [hq] at hcall
        have HQ := Lib.hid hq
        have HC := Lib.hid hcall
        clear hq hcall
        go_wp2_with fail
        go_at_fn g
        refine HC.out.mono ?_
        rintro e w' ⟨rfl, h2⟩
        go_wp2_with fail
        go_roundw
        case rel =>
          refine ⟨k + 1, by go_num, by omega, Lib.hid ?_, h2.p2⟩
          intro j y hj hy
          rcases Nat.lt_or_ge j k with h3 | h3
          · exact HB.out j y h3 hy
          · obtain rfl : j = k := by omega
            rw [HX.out] at hy; cases hy; exact HQ.out
        case measure => simp [intOf]; omega
    · have hkn : k = n := by omega
      go_wp2
      go_ret
      refine ⟨?_, hs⟩
      rw [idxF_none]
      · rfl
      intro x hx
      obtain ⟨j, hj, e⟩ := List.mem_iff_getElem.1 hx
      exact HB.out j x (by omega) (by rw [← e]; exact List.getElem?_eq_getElem _)
theorem containsFunc_valS {w0 w : World} {C F SR : HP} {a : Option Addr} {c n : Nat} {l : List AVal} (p : AVal → Bool) (g : Nat) (lb : Array Value) (eg : ∀ args w, (callFunc g args).run Try.prog w = .ok (.enter g args) w) (hp : AsksV w0 g lb C p) (h : Sat w0 w (SR * (C * F))) (hS : SrcV w0 SR a n c l) (hn : n ≤ 1000000000) :
    Calls Try.prog 98 #[.slice a n c, .func (.func g) #[] lb] w fun e w' => e = .returned (.bool (l.any p)) ∧ Sat w0 w' (SR * (C * F)) := by
  have HI := Lib.hid (indexFunc_valS p g lb eg hp h hS hn)
  have HD := Lib.hid (idxF_any p l)
  generalize idxF p l = r at *
  generalize l.any p = q at *
  clear hp hS
  go_enter Try.func98, Try.ntmps98
  go_wp2_with fail
  refine HI.out.mono ?_
  rintro e w' ⟨rfl, h2⟩
  go_wp2_with fail
  go_ret
  exact ⟨by rw [← HD.out]; rfl, h2⟩
/-- an object, and where its slots lie -/
abbrev XObj := AObj × Option Addr × Nat
def xcells (x : XObj) : List Value := [.int .i64 x.1.kind, .int .i64 x.1.count, .slice x.2.1 x.1.slots.length x.2.2, .string x.1.text, .int .i64 x.1.mark]
def xscells (X : List XObj) : List Value := X.flatMap xcells
def xslotsR : List XObj → HP
  | [] => 1
  | x :: r => slc 33 2 x.2.1 x.1.slots.length x.2.2 (avcells x.1.slots) * xslotsR r
/-- a slice of objects, each with slots of its own -/
def objsV (ga : Option Addr) (gn gc : Nat) (L : List AObj) : HP := fun h => ∃ X : List XObj, (X.map (·.1) = L ∧ L.length = gn) ∧ (slc 39 5 ga gn gc (xscells X) * xslotsR X) h
theorem xscells_append (X Y : List XObj) : xscells (X ++ Y) = xscells X ++ xscells Y := by simp [xscells]
theorem xslotsR_append (l r : List XObj) : xslotsR (l ++ r) = xslotsR l * xslotsR r := by
  induction l with
  | nil => rw [List.nil_append, xslotsR, one_mul]
  | cons x l ih => rw [List.cons_append, xslotsR, ih, xslotsR, mul_assoc]
theorem xslotsR_split (l r : List XObj) (x : XObj) : xslotsR (l ++ x :: r) = slc 33 2 x.2.1 x.1.slots.length x.2.2 (avcells x.1.slots) * xslotsR (l ++ r) := by
  rw [xslotsR_append, xslotsR, xslotsR_append, mul_left_comm]
theorem Sat.openObjs {w0 w : World} {F : HP} {ga : Option Addr} {gn gc : Nat} {L : List AObj} (h : Sat w0 w (objsV ga gn gc L * F)) : ∃ X : List XObj, (X.map (·.1) = L ∧ L.length = gn) ∧ Sat w0 w (slc 39 5 ga gn gc (xscells X) * (xslotsR X * F)) := by
  obtain ⟨h1, x, ⟨y, z, dj, rfl, ⟨X, e, hp⟩, hq⟩, r⟩ := h
  exact ⟨X, e, Sat.cast ⟨h1, _, ⟨y, z, dj, rfl, hp, hq⟩, r⟩ (mul_assoc _ _ _)⟩
theorem Sat.shutObjs {w0 w : World} {F : HP} {ga : Option Addr} {gn gc : Nat} {L : List AObj} {X : List XObj} (e : X.map (·.1) = L) (hl : L.length = gn) (h : Sat w0 w (slc 39 5 ga gn gc (xscells X) * (xslotsR X * F))) : Sat w0 w (objsV ga gn gc L * F) := by
  rw [← mul_assoc] at h
  exact h.mono_l fun _ q => ⟨X, ⟨e, hl⟩, q⟩
theorem xscells_length (X : List XObj) : (xscells X).length = X.length * 5 := by
  induction X with
  | nil => rfl
  | cons x r ih => simp only [xscells, List.flatMap_cons, List.length_append, List.length_cons] at ih ⊢; rw [ih]; simp [xcells]; omega
theorem oneCell_xscells (X : List XObj) : ∀ v ∈ xscells X, v.oneCell' = true := by
  intro v hv
  simp only [xscells, List.mem_flatMap, xcells] at hv
  obtain ⟨x, _, h⟩ := hv
  simp at h
  rcases h with rfl | rfl | rfl | rfl | rfl <;> rfl
theorem xscells_get (X : List XObj) : ∀ (i : Nat) (x : XObj), X[i]? = some x → ∀ j, j < 5 → (xscells X)[i * 5 + j]? = (xcells x)[j]? := by
  induction X with
  | nil => intro i x h; simp at h
  | cons y X ih =>
    intro i x h j hj
    have e : xscells (y :: X) = xcells y ++ xscells X := rfl
    have l5 : (xcells y).length = 5 := rfl
    rw [e]
    cases i with
    | zero => simp at h; subst h; rw [Nat.zero_mul, Nat.zero_add, List.getElem?_append_left (by omega)]
    | succ i =>
      rw [List.getElem?_append_right (by omega), l5, show (i + 1) * 5 + j - 5 = i * 5 + j by omega]
      exact ih i x (by simpa using h) j hj
theorem objAtX {w0 w : World} {F : HP} {ga : Option Addr} {gn gc : Nat} {X : List XObj} (h : Sat w0 w (slc 39 5 ga gn gc (xscells X) * F)) {k : Nat} {x : XObj} (hk : X[k]? = some x) :
    ∃ g off, ga = some ⟨g, off, none⟩ ∧ w.cell? ⟨g, off + k * 5, none⟩ = some (.int .i64 x.1.kind) ∧ w.cell? ⟨g, off + k * 5 + 1, none⟩ = some (.int .i64 x.1.count) ∧ w.cell? ⟨g, off + k * 5 + 2, none⟩ = some (.slice x.2.1 x.1.slots.length x.2.2) ∧ w.cell? ⟨g, off + k * 5 + 3, none⟩ = some (.string x.1.text) ∧ w.cell? ⟨g, off + k * 5 + 4, none⟩ = some (.int .i64 x.1.mark) := by
  have hg := xscells_get X k x hk
  have hg0 : (xscells X)[k * 5]? = some (.int .i64 x.1.kind) := hg 0 (by omega)
  obtain ⟨g, off, ha, h0, _⟩ := h.slcAt hg0
  have hj : ∀ j v, j < 5 → (xcells x)[j]? = some v → w.cell? ⟨g, off + k * 5 + j, none⟩ = some v := fun j v hj hv => by
    obtain ⟨g', off', ha', h1, _⟩ := h.slcAt ((hg j hj).trans hv)
    rw [ha] at ha'
    cases ha'
    rw [Nat.add_assoc]; exact h1
  exact ⟨g, off, ha, h0, hj 1 _ (by omega) rfl, hj 2 _ (by omega) rfl, hj 3 _ (by omega) rfl, hj 4 _ (by omega) rfl⟩
def zobjV : Value := .agg #[.int .i64 0, .int .i64 0, .slice none 0 0, .string (ByteArray.mk #[]), .int .i64 0]
theorem info_obj : (Try.prog.info? 39).map (fun i => (i.zero, i.size, i.bytes)) = some (some zobjV, 5, 64) := by kernel_rfl
section
variable {P : Program} {w0 w : World} {F : HP} {ops : Array Oper} {rest : List Oper} {o : Oper} {a : Act} {Q : Exit → Act → World → Prop} {K : Act → World → Prop}
/-- one object more -/
theorem wp_pushObj (s x : Operand) (hop : o.op = .call { callee := .builtin .append, args := #[s, x], argTypes := #[22, 22] })
    (sa : Option Addr) (n c : Nat) (X : List XObj) (hs : a.eval s = .slice sa n c) (h : Sat w0 w (slc 39 5 sa n c (xscells X) * F)) (bx c' : Nat) (v : XObj) (hx : a.eval x = .slice (some ⟨bx, 0, none⟩) 1 c')
    (hc : ∀ j u, (xcells v)[j]? = some u → w.cell? ⟨bx, j, none⟩ = some u) (hn : n ≤ 1000000000)
    (hK : ∀ a' c'' w', Sat w0 w' (slc 39 5 a' (n + 1) c'' (xscells (X ++ [v])) * F) → K (a.put o.dst (.slice a' (n + 1) c'')) w') : o.wp Try.prog a w K Q := by
  obtain ⟨i0, hi, hz0, hz1, hz2⟩ := info_parts info_obj
  refine wp_append s x 22 hop i0 zobjV 64 Try.underlying22 hi hz0 hz1 hz2 rfl sa n c (xscells X) hs h ⟨bx, 0, none⟩ 1 c' (xcells v) hx rfl (fun j u hj => by rw [addr_add, Nat.zero_add]; exact hc j u hj) (fun u hu => oneCell_xscells [v] u (by simpa [xscells] using hu)) (by unfold maxLen; omega) (by omega) fun a' c'' w' h2 _ => ?_
  refine hK a' c'' w' ?_
  rw [xscells_append, show xscells [v] = xcells v by simp [xscells]]; exact h2
end
theorem five_cells {w0 w : World} {F : HP} {b : Nat} {T : TypeId} {x : XObj} (h : Sat w0 w (pt b (.cells (xcells x).toArray T (0, 0)) * F)) : ∀ j u, (xcells x)[j]? = some u → w.cell? ⟨b, j, none⟩ = some u := fun j u hj =>
  Sat.cell (T := T) (cs := (xcells x).toArray) h j (by simpa using hj)

end Go.Proofs.Ytmngkodejlhalaa.Tw
