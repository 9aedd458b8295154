/- slices.Insert of one number into an owned row of numbers. No condition. -/
import Derived.Test.YtkpcngcegipalaaZPIn4
import Derived.RegionTactic
import Derived.ChangeAlike
import Derived.Deep.RegionLaw
import Derived.Lib.Overlaps
namespace Go.Proofs.Ytkpcngcegipalaa.Tw
set_option linter.unusedVariables false
set_option linter.unusedSimpArgs false
open Go Go.RowKit Go.MapKept

section
variable {P : Program}
theorem run_append_zeros (w : World) (t it ty e : TypeId) (i : TypeInfo) (z : Value) (ht : P.underlying t = some (.slice e)) (hit : P.underlying it = some (.int .i64)) (hi : P.info? e = some i) (hz : i.zero = some z) (h1 : i.size = 1) (h8 : i.bytes = 8)
    (hz1 : z.cells = #[z]) (b : Addr) (sLen sCap : Nat) (olds : List Value) (hlo : olds.length = sLen) (holds : ∀ j v, olds[j]? = some v → w.cell? (b.add j) = some v) (m : Nat) (hg : sCap < sLen + m) (h0m : 0 < m) (hm : sLen + m ≤ 2000000000) :
    (Builtin.append_ #[t, it] ty #[.slice (some b) sLen sCap, .int .i64 m]).run P w =
      .ok (.slice (some ⟨w.heap.size, 0, none⟩) (sLen + m) (grownCap w (sLen + m) sCap e))
        (w.drew.alloc (.cells (olds.toArray ++ Builtin.zeroCells z.cells m ++ Builtin.zeroCells z.cells (grownCap w (sLen + m) sCap e - (sLen + m))) e)) := by
  have hn : ¬ (sLen + m ≤ sCap) := by omega
  have hf := run_firstCells_some (P := P) w.drew i.size sLen b sLen sCap olds (by rw [h1]; omega) (by simpa using holds)
  have hw : IntKind.i64.wrap (m : Int) = m := by rw [IntKind.wrap_i64]; omega
  have h48 : ¬ (281474976710656 < Builtin.nextslicecap (sLen + m) sCap * 8) := by
    have := growslice_fits (bytes := 8) hg (by omega)
    omega
  have h63 : ¬ (9223372036854775807 < ((sLen : Int) + (m : Int))) := by omega
  have hneg : ¬ ((m : Int) < 0) := by omega
  have hm8 : ¬ ((281474976710656 : Int) < m * 8) := by omega
  have h0 : ¬ (m = 0) := by omega
  simp [Builtin.append_, run_underlying ht, run_underlying hit, sizeOf, typeInfo, hi, h1, h8, asInt, asIntOf, hw, hneg, hm8, hn, h48, h63, Question.forced, newRow, grownCap, h0, zeroValue, hz]
  simp [h1] at hf
  simp [hf]

/-- append of zeros that does not fit -/
theorem wpList_append_zeros {w0 w : World} {F : HP} {ops : Array Oper} {rest : List Oper} {o : Oper} {a : Act} {Q : Exit → Act → World → Prop} (hg : o.guard = none) (s x : Operand) (t it : TypeId)
    (hop : o.op = .call { callee := .builtin .append, args := #[s, x], argTypes := #[t, it] }) {T : TypeId} (i : TypeInfo) (z : Value) (ht : P.underlying t = some (.slice T)) (hit : P.underlying it = some (.int .i64)) (hi : P.info? T = some i) (hz : i.zero = some z) (h1 : i.size = 1) (h8 : i.bytes = 8)
    (hz1 : z.cells = #[z]) (b : Addr) (n c : Nat) (olds : List Value) (hs : a.eval s = .slice (some b) n c) (hl : olds.length = n) (holds : ∀ j v, olds[j]? = some v → w.cell? (b.add j) = some v) (m : Nat) (hx : a.eval x = .int .i64 m) (hgr : c < n + m) (h0m : 0 < m) (hm : n + m ≤ 2000000000)
    (h : Sat w0 w F) (hK : ∀ g c' cur w', Sat w0 w' (row g T cur * F) → n + m ≤ c' → c' ≤ maxLen → c' ≤ cur.size → cur.toList.take n = olds → wpList P ops Q rest (a.put o.dst (.slice (some ⟨g, 0, none⟩) (n + m) c')) w') : wpList P ops Q (o :: rest) a w := by
  refine wpList_plain hg fun _ hK' => ?_
  have hr := run_append_zeros w t it o.type T i z ht hit hi hz h1 h8 hz1 b n c olds hl holds m hgr h0m hm
  unfold Oper.wp execOp
  simp only [hop, resolve, invoke, builtin, Sem.run_bind, Sem.run_pure, Result.andThen_ok, List.map_toArray, List.map_cons, List.map_nil, hs, hx, hr]
  refine hK' _ _ (hK _ _ _ _ (h.drew.alloc _) (grownCap_ge _ _ _ _) (grownCap_le_maxLen _ _ _ _ (by unfold maxLen; omega)) ?_ ?_)
  · have := grownCap_ge w (n + m) c T
    simp only [Array.size_append, List.size_toArray, size_zeroCells, hz1, hl]
    simp only [List.size_toArray, List.length_cons, List.length_nil]
    omega
  · simp only [Array.toList_append, List.append_assoc]
    rw [List.take_append_of_le_length (by show n ≤ olds.length; omega), ← hl]
    exact List.take_length
theorem wp_copy {w0 w : World} {F : HP} {o : Oper} {a : Act} {Q : Exit → Act → World → Prop} {K : Act → World → Prop} (d s : Operand) (t t' : TypeId)
    (hop : o.op = .call { callee := .builtin .copy, args := #[d, s], argTypes := #[t, t'] }) {T : TypeId} (ht : P.underlying t = some (.slice T)) (hsz : (P.info? T).map (·.size) = some 1)
    (g off dl dc : Nat) (cur : Array Value) (hd : a.eval d = .slice (some ⟨g, off, none⟩) dl dc) (b : Addr) (sl sc : Nat) (hs : a.eval s = .slice (some b) sl sc) (cs : List Value) (hn : cs.length = Nat.min sl dl) (hsrc : ∀ j v, cs[j]? = some v → w.cell? (b.add j) = some v)
    (hfit : off + cs.length ≤ cur.size) (h1 : ∀ v ∈ cs, v.oneCell' = true) (h : Sat w0 w (row g T cur * F))
    (hK : ∀ w', Sat w0 w' (row g T (cur.toList.take off ++ cs ++ cur.toList.drop (off + cs.length)).toArray * F) → K (a.put o.dst (goInt cs.length)) w') : o.wp P a w K Q := by
  have hr := run_copy_row P w t t' o.type T g off dl dc b sl sc cur T cs ht hsz h.cells hn hsrc hfit h1
  unfold Oper.wp execOp
  simp only [hop, resolve, invoke, builtin, Sem.run_bind, Sem.run_pure, Result.andThen_ok, List.map_toArray, List.map_cons, List.map_nil, hd, hs, hr]
  exact hK _ (h.setRow _)
theorem wpList_copy {w0 w : World} {F : HP} {ops : Array Oper} {rest : List Oper} {o : Oper} {a : Act} {Q : Exit → Act → World → Prop} (hg : o.guard = none) (d s : Operand) (t t' : TypeId)
    (hop : o.op = .call { callee := .builtin .copy, args := #[d, s], argTypes := #[t, t'] }) {T : TypeId} (ht : P.underlying t = some (.slice T)) (hsz : (P.info? T).map (·.size) = some 1)
    (g off dl dc : Nat) (cur : Array Value) (hd : a.eval d = .slice (some ⟨g, off, none⟩) dl dc) (b : Addr) (sl sc : Nat) (hs : a.eval s = .slice (some b) sl sc) (cs : List Value) (hn : cs.length = Nat.min sl dl) (hsrc : ∀ j v, cs[j]? = some v → w.cell? (b.add j) = some v)
    (hfit : off + cs.length ≤ cur.size) (h1 : ∀ v ∈ cs, v.oneCell' = true) (h : Sat w0 w (row g T cur * F))
    (hK : ∀ w', Sat w0 w' (row g T (cur.toList.take off ++ cs ++ cur.toList.drop (off + cs.length)).toArray * F) → wpList P ops Q rest (a.put o.dst (goInt cs.length)) w') : wpList P ops Q (o :: rest) a w :=
  wpList_plain hg fun _ hK' => wp_copy d s t t' hop ht hsz g off dl dc cur hd b sl sc hs cs hn hsrc hfit h1 h fun w' hs' => hK' _ _ (hK w' hs')
end
theorem info_int : (Try.prog.info? 3).map (fun i => (i.zero, i.size, i.bytes)) = some (some (.int .i64 0), 1, 8) := by kernel_rfl
theorem size_int : (Try.prog.info? 3).map (·.size) = some 1 := by kernel_rfl

set_option maxRecDepth 100000 in
theorem insert_end {w0 w : World} {F : HP} {a av : Option Addr} {n c cv : Nat} {xs : List Value} {x : Int} (h : Sat w0 w (slc 3 1 a n c xs * (slc 3 1 av 1 cv [ival x] * F))) (hn : n ≤ 1000000000) :
    Calls Try.prog 124 #[.slice a n c, .int .i64 n, .slice av 1 cv] w fun e w' => ∃ a' c', e = .returned (.slice a' (n + 1) c') ∧ Sat w0 w' (slc 3 1 a' (n + 1) c' (xs ++ [ival x]) * F) := by
  obtain ⟨i0, hi, hz0, hz1, hz2⟩ := info_parts info_int
  have hv := h.cast (mul_left_comm _ _ _)
  obtain ⟨gv, ov, rfl⟩ := hv.slcSome (by have := hv.slcCap; omega)
  have hcells := hv.slcCells
  have hcap := h.slcCap
  have hcapv := hv.slcCap
  have hnb : ((n : Int) == (n : Int)) = true := by simp
  go_enter Try.func124, Try.ntmps124
  go_wp2_with (at_builtin; refine wpList_append rfl _ _ 48 rfl i0 (.int .i64 0) 8 Try.underlying48 hi hz0 hz1 hz2 rfl a n c xs rfl h _ 1 cv [ival x] rfl rfl hcells (by simp [ival, Value.oneCell']) (by unfold maxLen; omega) (by omega) ?_; intro a' c'' w1 hs1 _)
  all_goals
    go_ret
    exact ⟨_, _, rfl, (hs1.cast (mul_left_comm _ _ _)).drop⟩
theorem oneCell_ivals (l : List Int) : ∀ v ∈ l.map ival, v.oneCell' = true := by
  intro v hv
  obtain ⟨x, _, rfl⟩ := List.mem_map.1 hv
  rfl
theorem take_mid {l : List Value} {off n i : Nat} {xs : List Value} (h : (l.drop off).take n = xs) (hi : i ≤ n) : (l.drop (off + i)).take (n - i) = xs.drop i := by
  rw [← h, List.drop_take, List.drop_drop]

theorem split3 {l xs : List Value} {off n i : Nat} (h : (l.drop off).take n = xs) (hl : off + n ≤ l.length) (hi : i ≤ n) :
    ∃ pre x1 x2 tl, l = pre ++ (x1 ++ (x2 ++ tl)) ∧ pre.length = off ∧ x1.length = i ∧ x2.length = n - i ∧ xs = x1 ++ x2 ∧ xs.take i = x1 ∧ xs.drop i = x2 := by
  have hx : xs.length = n := by rw [← h, List.length_take, List.length_drop]; omega
  refine ⟨l.take off, xs.take i, xs.drop i, (l.drop off).drop n, ?_, by rw [List.length_take]; omega, by rw [List.length_take]; omega, by rw [List.length_drop]; omega, by simp, rfl, rfl⟩
  rw [← List.append_assoc (xs.take i), List.take_append_drop, ← h, List.take_append_drop, List.take_append_drop]
theorem shift_eq {l xs : List Value} {off n i : Nat} (x : Value) (h : (l.drop off).take n = xs) (hl : off + n < l.length) (hi : i < n) {l2 l3 : List Value}
    (h2 : l2 = l.take (off + (i + 1)) ++ xs.drop i ++ l.drop (off + (i + 1) + (xs.drop i).length)) (h3 : l3 = l2.take (off + i) ++ [x] ++ l2.drop (off + i + 1)) :
    (l3.drop off).take (n + 1) = xs.take i ++ [x] ++ xs.drop i := by
  obtain ⟨pre, x1, x2, tl, rfl, e1, e2, e3, e4, e5, e6⟩ := split3 h (by omega) (Nat.le_of_lt hi)
  rw [e5, e6]
  rw [e6] at h2
  have a1 : (pre ++ (x1 ++ (x2 ++ tl))).take (off + (i + 1)) = pre ++ (x1 ++ x2.take 1) := by
    rw [List.take_append, e1, List.take_of_length_le (by omega), Nat.add_sub_cancel_left, List.take_append, List.take_of_length_le (by omega), e2, Nat.add_sub_cancel_left, List.take_append_of_le_length (by omega)]
  rw [a1] at h2
  have a2 : l2.take (off + i) = pre ++ x1 := by
    rw [h2, List.append_assoc, List.append_assoc, List.append_assoc, List.take_append, e1, List.take_of_length_le (by omega), Nat.add_sub_cancel_left, List.take_append_of_le_length (by omega), List.take_of_length_le (by omega)]
  have a3 : ∃ tl', l2.drop (off + i + 1) = x2 ++ tl' := by
    refine ⟨(pre ++ (x1 ++ (x2 ++ tl))).drop (off + (i + 1) + x2.length), ?_⟩
    rw [h2, List.append_assoc, List.drop_append, List.drop_of_length_le (by simp; omega), List.nil_append]
    have : off + i + 1 - (pre ++ (x1 ++ x2.take 1)).length = 0 := by simp; omega
    rw [this, List.drop_zero]
  obtain ⟨tl', a3⟩ := a3
  rw [h3, a2, a3]
  have : (pre ++ x1 ++ [x] ++ (x2 ++ tl')).drop off = x1 ++ [x] ++ x2 ++ tl' := by
    rw [List.append_assoc, List.append_assoc, List.drop_append, List.drop_of_length_le (by omega), e1, Nat.sub_self]; simp
  rw [this, List.take_append_of_le_length (by simp; omega), List.take_of_length_le (by simp; omega)]
theorem run_overlaps_no {w0 w : World} {F : HP} {T : TypeId} {g gv off ov n c m cv : Nat} {cur curv : Array Value} (hb : Sat w0 w (row gv T curv * (row g T cur * F))) (ht : Try.prog.underlying 48 = some (.slice 3)) (hk : cur.size ≠ 0) :
    (callFunc 147 #[.slice (some ⟨gv, ov, none⟩) m cv, .slice (some ⟨g, off, none⟩) n c]).run Try.prog w = .ok (.value (.bool false)) w := by
  have hb2 := hb.cast (mul_left_comm _ _ _)
  have hsa : w.shape? gv = some (T, curv.size) := by simp [World.shape?, hb.cells]
  have hsb : w.shape? g = some (T, cur.size) := by simp [World.shape?, hb2.cells]
  rw [run_callFunc_extern Try.func147 (by kernel_rfl) (by kernel_rfl) (by kernel_rfl) (e := Extern.SlicesOverlaps.overlaps #[48, 48] #[4]) (by kernel_rfl),
    Lib.run_overlaps_apart w 48 4 3 ht 1 (fun w => by kernel_rfl) ⟨gv, ov, none⟩ ⟨g, off, none⟩ m cv n c hb.ne T T curv.size cur.size hsa hsb hk (hb.free _) (hb.free _)]
  rfl

set_option maxHeartbeats 1000000 in
set_option maxRecDepth 100000 in
theorem insert_shift {w0 w : World} {F : HP} {a av : Option Addr} {n c cv : Nat} {xs : List Value} {x : Int} (h : Sat w0 w (slc 3 1 a n c xs * (slc 3 1 av 1 cv [ival x] * F))) (hn : n ≤ 1000000000) (h1 : ∀ v ∈ xs, v.oneCell' = true) (i : Nat) (hin : i < n) (hroom : n < c) :
    Calls Try.prog 124 #[.slice a n c, .int .i64 i, .slice av 1 cv] w fun e w' => ∃ a' c', e = .returned (.slice a' (n + 1) c') ∧ Sat w0 w' (slc 3 1 a' (n + 1) c' (xs.take i ++ [ival x] ++ xs.drop i) * F) := by
  have hlx := h.slcLen
  rcases h.openSlc.2 with ⟨_, e, _⟩ | ⟨g, off, cur, rfl, e2, e3, e4, e5, e6⟩
  · omega
  rcases (e6.cast (mul_left_comm _ _ _)).openSlc.2 with ⟨_, e, _⟩ | ⟨gv, ov, curv, rfl, v2, v3, v4, v5, v6⟩
  · omega
  have hov : ∀ nn cc, (callFunc 147 #[.slice (some ⟨gv, ov, none⟩) 1 cv, .slice (some ⟨g, off + (i + 1), none⟩) nn cc]).run Try.prog w = .ok (.value (.bool false)) w := fun nn cc => run_overlaps_no v6 Try.underlying48 (by omega)
  have hs1 := v6.cast (mul_left_comm _ _ _)
  have E4 := Lib.hid e4
  have E5 := Lib.hid e5
  have V5 := Lib.hid v5
  have HLX := Lib.hid hlx
  clear e4 e5 v5 hlx
  have hsrc1 : ∀ j v, (xs.drop i)[j]? = some v → w.cell? ((⟨g, off + i, none⟩ : Addr).add j) = some v := by
    intro j v hj
    rw [List.getElem?_drop] at hj
    obtain ⟨g', o', e, hc, _⟩ := h.slcAt hj
    cases e
    rw [addr_add, Nat.add_assoc]; exact hc
  have hsrcv : ∀ w' F', Sat w0 w' (row gv 3 curv * F') → ∀ j v, [ival x][j]? = some v → w'.cell? ((⟨gv, ov, none⟩ : Addr).add j) = some v := by
    intro w' F' hh j v hj
    rw [addr_add]
    rw [← V5.out] at hj
    exact hh.cell _ (by simpa using take_drop_get hj)
  have hd1 : (xs.drop i).length = n - i := by rw [List.length_drop, HLX.out]; omega
  have HN1 : Hid ((xs.drop i).length = Nat.min (n + 1 - i) (n - i)) := by
    show _ = _
    rw [hd1]; simp only [Nat.min_def]; split <;> omega
  have HF1 : Hid (off + (i + 1) + (xs.drop i).length ≤ cur.size) := by
    show _ ≤ _
    rw [hd1]; have := E4.out; omega
  have hone : ∀ v ∈ xs.drop i, v.oneCell' = true := fun v hv => h1 v (List.mem_of_mem_drop hv)
  have HD1 := Lib.hid hd1
  clear hd1
  have hw1 : IntKind.i64.wrap ((i : Int) + 1) = (i : Int) + 1 := by rw [IntKind.wrap_i64]; omega
  have hb1 : (0 : Int) ≤ (i : Int) + 1 := by omega
  have htn : ((i : Int) + 1).toNat = i + 1 := by omega
  have hb2 : ¬ (c = i + 1) := by omega
  have hb3 : (i : Int) ≤ (n : Int) + 1 := by omega
  have hb4 : ¬ (c = i) := by omega
  have hb5 : ¬ ((i : Int) = (n : Int)) := by omega
  have hb6 : ((i : Int) == (n : Int)) = false := by simp; omega
  have hb7 : i ≤ n := by omega
  go_enter Try.func124, Try.ntmps124
  go_wp2
  go_region_law (refine step_of rfl (wp_copy _ _ 48 48 rfl Try.underlying48 size_int g (off + (i + 1)) (n - i) (c - (i + 1)) cur (by simp [Act.eval, Act.put]) ⟨g, off + i, none⟩ (n + 1 - i) (c - i) (by simp [Act.eval, Act.put]) (xs.drop i) HN1.out hsrc1 HF1.out hone hs1.drew ?_); intro w2 hs2)
  have hsv := hsrcv w2 _ (hs2.cast (mul_left_comm _ _ _))
  have HE : Hid (off + n < cur.toList.length) := by
    show _ < _
    have := E4.out; simp; omega
  have HF2 : Hid (off + i + 1 ≤ (cur.toList.take (off + (i + 1)) ++ xs.drop i ++ cur.toList.drop (off + (i + 1) + (xs.drop i).length)).toArray.size) := by
    show _ ≤ _
    have := E4.out
    have hd := HD1.out
    simp only [List.size_toArray, List.length_append, List.length_take, List.length_drop, Array.length_toList] at hd ⊢
    omega
  obtain ⟨cur2, hcur2⟩ : ∃ cur2, cur2 = (cur.toList.take (off + (i + 1)) ++ xs.drop i ++ cur.toList.drop (off + (i + 1) + (xs.drop i).length)).toArray := ⟨_, rfl⟩
  rw [← hcur2] at hs2 HF2
  have HC2 := Lib.hid hcur2
  clear hcur2
  have HN2 : Hid ([ival x].length = Nat.min 1 (n + 1 - i)) := by
    show _ = _
    simp only [Nat.min_def, List.length_cons, List.length_nil]; split <;> omega
  go_wp2_with (refine wpList_copy rfl _ _ 48 48 rfl Try.underlying48 size_int g (off + i) (n + 1 - i) (c - i) cur2 rfl ⟨gv, ov, none⟩ 1 cv rfl [ival x] HN2.out hsv HF2.out (by simp [ival, Value.oneCell']) hs2 ?_; intro w3 hs3)
  go_ret
  have e4 := E4.out
  have HE' := HE.out
  refine ⟨_, _, rfl, Sat.shutSlc (g := g) (off := off) hs3.drop2 (by omega) e3 ?_ ?_⟩
  · simp only [List.size_toArray, List.length_append, List.length_take, List.length_drop, Array.length_toList, List.length_cons, List.length_nil, HC2.out]
    omega
  · rw [Nat.mul_one]
    exact shift_eq (ival x) (by have := E5.out; rwa [Nat.mul_one] at this) HE' hin (by rw [HC2.out]) rfl

theorem grow_eq {l x1 x2 : List Value} {n i : Nat} (x : Value) (h : l.take i = x1) (hl : n + 1 ≤ l.length) (hi : i ≤ n) (e2 : x2.length = n - i) {l2 l3 : List Value}
    (h2 : l2 = l.take i ++ [x] ++ l.drop (i + 1)) (h3 : l3 = l2.take (i + 1) ++ x2 ++ l2.drop (i + 1 + x2.length)) : l3.take (n + 1) = x1 ++ [x] ++ x2 := by
  have e1 : x1.length = i := by rw [← h, List.length_take]; omega
  have a2 : l2.take (i + 1) = x1 ++ [x] := by
    rw [h2, h, List.take_append_of_le_length (by simp; omega), List.take_of_length_le (by simp; omega)]
  rw [h3, a2, List.take_append_of_le_length (by simp; omega), List.take_of_length_le (by simp; omega)]

set_option maxHeartbeats 1000000 in
set_option maxRecDepth 100000 in
theorem insert_grow {w0 w : World} {F : HP} {a av : Option Addr} {n c cv : Nat} {xs : List Value} {x : Int} (h : Sat w0 w (slc 3 1 a n c xs * (slc 3 1 av 1 cv [ival x] * F))) (hn : n ≤ 1000000000) (h1 : ∀ v ∈ xs, v.oneCell' = true) (i : Nat) (hin : i < n) (hroom : ¬ n < c) :
    Calls Try.prog 124 #[.slice a n c, .int .i64 i, .slice av 1 cv] w fun e w' => ∃ a' c', e = .returned (.slice a' (n + 1) c') ∧ Sat w0 w' (slc 3 1 a' (n + 1) c' (xs.take i ++ [ival x] ++ xs.drop i) * F) := by
  obtain ⟨i0, hi, hz0, hz1, hz2⟩ := info_parts info_int
  have hlx := h.slcLen
  obtain ⟨g, off, rfl⟩ := h.slcSome (by have := h.slcCap; omega)
  obtain ⟨gv, ov, rfl⟩ := (h.cast (mul_left_comm _ _ _)).slcSome (by have := (h.cast (mul_left_comm _ _ _)).slcCap; omega)
  have hcap := h.slcCap.1
  obtain rfl : c = n := by omega
  have hcl := h.slcCells
  have HLX := Lib.hid hlx
  clear hlx hroom
  have hold : ∀ j v, (xs.take i)[j]? = some v → w.cell? ((⟨g, off, none⟩ : Addr).add j) = some v := by
    intro j v hj
    rw [List.getElem?_take] at hj
    split at hj
    · exact hcl j v hj
    · cases hj
  have hdrop : ∀ w' F', Sat w0 w' (slc 3 1 (some ⟨g, off, none⟩) c c xs * F') → ∀ j v, (xs.drop i)[j]? = some v → w'.cell? ((⟨g, off + i, none⟩ : Addr).add j) = some v := by
    intro w' F' hh j v hj
    rw [List.getElem?_drop] at hj
    have := hh.slcCells (i + j) v hj
    rw [addr_add] at this ⊢
    rw [Nat.add_assoc]; exact this
  have hone : ∀ v ∈ xs.drop i, v.oneCell' = true := fun v hv => h1 v (List.mem_of_mem_drop hv)
  have HL1 : Hid ((xs.take i).length = i) := by show _ = _; rw [List.length_take, HLX.out]; omega
  have HD1 : Hid ((xs.drop i).length = c - i) := by show _ = _; rw [List.length_drop, HLX.out]; omega
  have hm0 : ((c : Int) + 1 - i) = ((c + 1 - i : Nat) : Int) := by omega
  have hb6 : ((i : Int) == (c : Int)) = false := by simp; omega
  have HM : Hid (i + (c + 1 - i) = c + 1) := by show _ = _; omega
  go_enter Try.func124, Try.ntmps124
  have HN2 : Hid ([ival x].length = Nat.min 1 (c + 1 - i)) := by
    show _ = _
    simp only [Nat.min_def, List.length_cons, List.length_nil]; split <;> omega
  go_wp2_with (first
    | (refine wpList_append_zeros rfl _ _ 48 3 rfl i0 (.int .i64 0) Try.underlying48 Try.underlying3 hi hz0 hz1 hz2 rfl ⟨g, off, none⟩ i c (xs.take i) rfl HL1.out hold (c + 1 - i) rfl (by omega) (by omega) (by omega) h ?_; rw [HM.out]; intro g2 c2 cur2 w2 hs2 k1 k2 k3 k4; have K4 := Lib.hid k4; clear k4)
    | (refine wpList_copy rfl _ _ 48 48 rfl Try.underlying48 size_int g2 i (c + 1 - i) (c2 - i) cur2 rfl ⟨gv, ov, none⟩ 1 cv rfl [ival x] HN2.out hs2.slcCells3 (by show i + 1 ≤ _; omega) (by simp [ival, Value.oneCell']) hs2 ?_; intro w3 hs3))
  obtain ⟨cur3, hcur3⟩ : ∃ cur3, cur3 = (cur2.toList.take i ++ [ival x] ++ cur2.toList.drop (i + [ival x].length)).toArray := ⟨_, rfl⟩
  rw [← hcur3] at hs3
  have hs3' := hs3.cast (mul_left_comm _ _ _)
  have hd3 := hdrop w3.drew _ hs3'.drew
  have HC3 := Lib.hid hcur3
  clear hcur3
  have hw1 : IntKind.i64.wrap ((i : Int) + 1) = (i : Int) + 1 := by rw [IntKind.wrap_i64]; omega
  have hb1 : (0 : Int) ≤ (i : Int) + 1 := by omega
  have htn : ((i : Int) + 1).toNat = i + 1 := by omega
  have hb2 : ¬ (c2 = i + 1) := by omega
  have hb3 : (i : Int) ≤ (c : Int) := by omega
  have hb4 : ¬ (c = i) := by omega
  have hb7 : i ≤ c := by omega
  have HN3 : Hid ((xs.drop i).length = Nat.min (c - i) (c - i)) := by
    show _ = _
    rw [HD1.out]; simp only [Nat.min_def]; split <;> rfl
  have HS3 : Hid (c2 ≤ cur3.size) := by
    show _ ≤ _
    rw [HC3.out]
    simp only [List.size_toArray, List.length_append, List.length_take, List.length_drop, Array.length_toList, List.length_cons, List.length_nil]
    omega
  have HF3 : Hid ((i + 1) + (xs.drop i).length ≤ cur3.size) := by
    show _ ≤ _
    rw [HD1.out]; have := HS3.out; omega
  go_region_law (refine step_of rfl (wp_copy _ _ 48 48 rfl Try.underlying48 size_int g2 (i + 1) (c - i) (c2 - (i + 1)) cur3 (by simp [Act.eval, Act.put]) ⟨g, off + i, none⟩ (c - i) (c - i) (by simp [Act.eval, Act.put]) (xs.drop i) HN3.out hd3 HF3.out hone hs3.drew ?_); intro w4 hs4)
  go_wp2
  go_ret
  refine ⟨_, _, rfl, Sat.shutSlc (g := g2) (off := 0) (hs4.drop2.drop2) k1 k2 ?_ ?_⟩
  · have h3 := HS3.out
    simp only [List.size_toArray, List.length_append, List.length_take, List.length_drop, Array.length_toList]
    omega
  · rw [Nat.mul_one, List.drop_zero]
    exact grow_eq (ival x) K4.out (by simp; omega) hb7 HD1.out (by rw [HC3.out]; rfl) rfl

/-- one number put into an owned row of numbers -/
theorem insert_any {w0 w : World} {F : HP} {a av : Option Addr} {n c cv : Nat} {xs : List Value} {x : Int} (h : Sat w0 w (slc 3 1 a n c xs * (slc 3 1 av 1 cv [ival x] * F))) (hn : n ≤ 1000000000) (h1 : ∀ v ∈ xs, v.oneCell' = true) (i : Nat) (hin : i ≤ n) :
    Calls Try.prog 124 #[.slice a n c, .int .i64 i, .slice av 1 cv] w fun e w' => ∃ a' c', e = .returned (.slice a' (n + 1) c') ∧ Sat w0 w' (slc 3 1 a' (n + 1) c' (xs.take i ++ [ival x] ++ xs.drop i) * F) := by
  rcases Nat.lt_or_ge i n with hlt | hge
  · by_cases hroom : n < c
    · exact insert_shift h hn h1 i hlt hroom
    · exact insert_grow h hn h1 i hlt hroom
  · obtain rfl : i = n := by omega
    have hl : xs.length = i := by have := h.slcLen; omega
    rw [List.take_of_length_le (by omega), List.drop_of_length_le (by omega), List.append_nil]
    exact insert_end h hn
end Go.Proofs.Ytkpcngcegipalaa.Tw
namespace Go.Proofs.Ytkpcngcegipalaa.Tw
set_option linter.unusedVariables false
set_option linter.unusedSimpArgs false
open Go Go.RowKit Go.MapKept

theorem pool_Give_no {w0 w : World} {F : HP} {p : Nat} {T : List Bool} (h : Sat w0 w (poolR p T * F)) (n : Int) (hn : tk T n = false) :
    Calls Try.prog 79 #[.pointer (some ⟨p, 0, none⟩), .int .i64 n] w fun e w' => e = .returned (.bool false) ∧ Sat w0 w' (poolR p T * F) := by
  go_enter Try.func79, Try.ntmps79
  go_wp2_with (go_at_call 121; refine (pool_In h n).mono ?_; rintro e w' ⟨rfl, hs'⟩)
  go_ret
  exact ⟨rfl, hs'⟩
theorem slcFirst (A B C F : HP) : A * (B * (C * F)) = C * (A * (B * F)) := by ac_rfl
theorem rowFirst (A B C F : HP) : A * (B * (C * F)) = C * (A * (B * F)) := by ac_rfl
theorem giveEnd (A B C F : HP) : A * (B * (C * F)) = A * (C * (B * F)) := by ac_rfl
theorem insFirst {w0 w : World} {A B C F : HP} {n : Int} (h : Sat w0 w (A * (B * (C * F)))) :
    Sat w0 (w.alloc (.cells #[.int .i64 n] 3)) (C * (slc 3 1 (some ⟨w.heap.size, 0, none⟩) 1 1 [ival n] * (A * (B * F)))) := by
  have h1 : Sat w0 (w.alloc (.cells #[.int .i64 n] 3)) (slc 3 1 (some ⟨w.heap.size, 0, none⟩) 1 1 [ival n] * (A * (B * (C * F)))) :=
    Sat.shutSlc (g := w.heap.size) (off := 0) (cur := #[.int .i64 n]) (h.alloc _) (Nat.le_refl _) (by unfold maxLen; omega) (by simp) (by simp [ival])
  exact h1.cast (by ac_rfl)
theorem pool_Give_yes {w0 w : World} {F : HP} {p : Nat} {T : List Bool} (h : Sat w0 w (poolR p T * F)) (hT : T.length < 1000000000) (n : Int) (hn : tk T n = true) :
    Calls Try.prog 79 #[.pointer (some ⟨p, 0, none⟩), .int .i64 n] w fun e w' => e = .returned (.bool true) ∧ Sat w0 w' (poolR p (giveT T n) * F) := by
  have hlt := tk_lt hn
  have hn1 : 0 ≤ n := by omega
  have hn2 : n ≤ 2000000000 := by omega
  have hfl := freeOf_length T
  have hfl2 : (freeOf T).length ≤ 1000000000 := by omega
  have hfb : ∀ x ∈ freeOf T, 0 ≤ x ∧ x ≤ 2000000000 := fun x hx => by have := freeOf_bound hx; omega
  have hgl := giveT_length T n
  have hgf := freeOf_give hn
  have hpl := placeOf_le (freeOf T) n
  have HGL := Lib.hid hgl
  have HGF := Lib.hid hgf
  clear hgl hgf hlt
  go_enter Try.func79, Try.ntmps79
  go_wp2_with (first
    | (go_at_call 121; refine (pool_In h n).mono ?_; rintro e w' ⟨rfl, hs'⟩; clear h; obtain ⟨m, L, a, c, hL, hs⟩ := hs'.openPool; clear hs'; have HL := Lib.hid hL; clear hL; have c0 : w'.cell? ⟨p, 0, none⟩ = some (.map (some m)) := hs.cell 0 rfl)
    | (refine wpList_delete rfl _ _ 158 3 rfl (keys_int .i64) Try.underlying158 Try.underlying3 m L rfl (hs.cast (mul_left_comm _ _ _)) n rfl ?_; clear c0; intro w1 hs1; have hs1' := hs1.cast (mul_left_comm _ _ _); have c1 : w1.cell? ⟨p, 1, none⟩ = some (.slice a (freeOf T).length c) := hs1'.cell 1 rfl)
    | (go_at_call 122; refine (bsearch (hs1.cast (slcFirst _ _ _ _)) hfl2 (freeFrom_falls 1 T) hfb n hn1 hn2).mono ?_; rintro e w'' ⟨⟨b, rfl⟩, rfl⟩)
    | (go_at_call 124; refine (insert_any (insFirst hs1) hfl2 (oneCell_ivals _) _ hpl).mono ?_; rintro e w3 ⟨a', c', rfl, hs3⟩; clear c1; have hs3' := hs3.cast (rowFirst _ _ _ _); have c1' : w3.cell? ⟨p, 1, none⟩ = some (.slice a (freeOf T).length c) := hs3'.cell 1 rfl; have f1' := hs3'.free 1))
  go_ret
  refine ⟨rfl, Sat.shutPool (m := m) (L := mdel L n) (a := a') (c := c') ?_ ?_⟩
  · intro k
    rw [mget_mdel, HL.out, tk_giveT]
    by_cases e : k = n <;> simp [e]
  · have hlen : (freeOf (giveT T n)).length = (freeOf T).length + 1 := by rw [HGF.out]; simp; omega
    rw [HGL.out, hlen, HGF.out]
    have hs4 := (hs3'.store (b := p) (i := 1) (.slice a' ((freeOf T).length + 1) c'))
    simp only [List.map_append, List.map_take, List.map_drop]
    exact hs4.cast (giveEnd _ _ _ _)
end Go.Proofs.Ytkpcngcegipalaa.Tw
