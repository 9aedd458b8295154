/- The heap of cells: without, DeleteFunc of those that wait, Drop, Free. No condition. -/
import Derived.Test.YtkpcngcegipalaaZPIn7
import Derived.Test.YtkpcngcegipalaaZPIn5
namespace Go.Proofs.Ytkpcngcegipalaa.Tw
set_option linter.unusedVariables false
set_option linter.unusedSimpArgs false
open Go Go.RowKit Go.MapKept

theorem finCells_length (l : List (Int × Int)) : (finCells l).length = l.length * 2 := by
  induction l with
  | nil => rfl
  | cons x r ih => simp only [finCells, List.flatMap_cons, List.length_append, List.length_cons] at ih ⊢; rw [ih]; simp; omega
theorem finCells_get (l : List (Int × Int)) : ∀ (i : Nat) (x : Int × Int), l[i]? = some x → (finCells l)[i * 2]? = some (.int .i64 x.1) ∧ (finCells l)[i * 2 + 1]? = some (.int .i64 x.2) := by
  induction l with
  | nil => intro i x h; simp at h
  | cons y l ih =>
    intro i x h
    have e : finCells (y :: l) = .int .i64 y.1 :: .int .i64 y.2 :: finCells l := rfl
    rw [e]
    cases i with
    | zero => simp at h; subst h; exact ⟨rfl, rfl⟩
    | succ i =>
      have := ih i x (by simpa using h)
      rw [show (i + 1) * 2 = i * 2 + 1 + 1 by omega]
      simpa using this
theorem finCells_set (l : List (Int × Int)) : ∀ (i : Nat) (x : Int × Int), ((finCells l).set (i * 2) (.int .i64 x.1)).set (i * 2 + 1) (.int .i64 x.2) = finCells (l.set i x) := by
  induction l with
  | nil => intro i x; rfl
  | cons y l ih =>
    intro i x
    have e : finCells (y :: l) = .int .i64 y.1 :: .int .i64 y.2 :: finCells l := rfl
    rw [e]
    cases i with
    | zero => rfl
    | succ i =>
      rw [show (i + 1) * 2 = i * 2 + 1 + 1 by omega]
      simp only [List.set_cons_succ]
      rw [ih i x]
      rfl
theorem finCells_append (l r : List (Int × Int)) : finCells (l ++ r) = finCells l ++ finCells r := by simp [finCells]
theorem finCells_take (l : List (Int × Int)) (i : Nat) : (finCells l).take (i * 2) = finCells (l.take i) := by
  induction l generalizing i with
  | nil => simp [finCells]
  | cons y l ih =>
    cases i with
    | zero => rfl
    | succ i =>
      have e : finCells (y :: l) = .int .i64 y.1 :: .int .i64 y.2 :: finCells l := rfl
      rw [e, show (i + 1) * 2 = i * 2 + 1 + 1 by omega]
      simp only [List.take_succ_cons]
      rw [ih i]; rfl
theorem oneCell_finCells (l : List (Int × Int)) : ∀ v ∈ finCells l, v.oneCell' = true := by
  intro v hv
  simp only [finCells, List.mem_flatMap] at hv
  obtain ⟨x, _, hx⟩ := hv
  simp at hx
  rcases hx with rfl | rfl <;> rfl

/-- the function answers p x of one that waits, and keeps C -/
def AsksF (w0 : World) (g : Nat) (lb : Array Value) (C : HP) (p : Int × Int → Bool) : Prop :=
  ∀ (w : World) (G : HP) (x : Int × Int), Sat w0 w (C * G) → Calls Try.prog g (#[.agg #[.int .i64 x.1, .int .i64 x.2]] ++ lb) w fun e w' => e = .returned (.bool (p x)) ∧ Sat w0 w' (C * G)
theorem finAt {w0 w : World} {F : HP} {a : Option Addr} {c n : Nat} {l : List (Int × Int)} (h : Sat w0 w (slc 135 2 a n c (finCells l) * F)) {k : Nat} {x : Int × Int} (hk : l[k]? = some x) :
    ∃ g off, a = some ⟨g, off, none⟩ ∧ w.cell? ⟨g, off + k * 2, none⟩ = some (.int .i64 x.1) ∧ w.cell? ⟨g, off + k * 2 + 1, none⟩ = some (.int .i64 x.2) ∧ w.frozen? ⟨g, off + k * 2, none⟩ = false ∧ w.frozen? ⟨g, off + k * 2 + 1, none⟩ = false := by
  obtain ⟨e0, e1⟩ := finCells_get l k x hk
  obtain ⟨g, off, ha, h0, f0⟩ := h.slcAt e0
  obtain ⟨g', off', ha', h1, f1⟩ := h.slcAt e1
  rw [ha] at ha'
  cases ha'
  exact ⟨g, off, ha, h0, by rw [Nat.add_assoc]; exact h1, f0, by rw [Nat.add_assoc]; exact f1⟩

set_option maxHeartbeats 1000000 in
theorem indexFunc_fin {w0 w : World} {C F : HP} {a : Option Addr} {c n : Nat} {l : List (Int × Int)} (p : Int × Int → Bool) (g : Nat) (lb : Array Value) (eg : ∀ args w, (callFunc g args).run Try.prog w = .ok (.enter g args) w) (hp : AsksF w0 g lb C p) (h : Sat w0 w (slc 135 2 a n c (finCells l) * (C * F))) (hl : l.length = n) (hn : n ≤ 1000000000) :
    Calls Try.prog 120 #[.slice a n c, .func (.func g) #[] lb] w fun e w' => e = .returned (.int .i64 (idxF p l)) ∧ Sat w0 w' (slc 135 2 a n c (finCells l) * (C * F)) := by
  have HP' := Lib.hid hp
  clear hp
  go_enter Try.func120, Try.ntmps120
  go_wp2
  go_loopw [8] (fun iv wr => ∃ k : Nat, iv = .int .i64 k ∧ k ≤ n ∧ Hid (∀ j y, j < k → l[j]? = some y → p y = false) ∧ Sat w0 wr (slc 135 2 a n c (finCells l) * (C * F))) (fun iv _ => n - (intOf iv).toNat)
  case atStart => exact ⟨0, rfl, by omega, Lib.hid (by intro j y hj; omega), h⟩
  case round =>
    obtain ⟨k, rfl, hk, HB, hs⟩ := hrel
    by_cases hlt : k < n
    · obtain ⟨x, hx⟩ : ∃ x, l[k]? = some x := ⟨l[k]'(by omega), List.getElem?_eq_getElem _⟩
      obtain ⟨gb, off, rfl, hc, hc1, _, _⟩ := finAt hs hx
      have hcap := hs.slcCap
      have hcall := HP'.out wr (slc 135 2 (some ⟨gb, off, none⟩) n c (finCells l) * F) x hs.p2
      have HX := Lib.hid hx
      clear hx
      cases hq : p x with
      | true =>
        rw [hq] at hcall
        have HQ := Lib.hid hq
        have HC := Lib.hid hcall
        clear hq hcall
        go_wp2_with fail
        go_at_fn g
        refine HC.out.mono ?_
        rintro e w' ⟨rfl, h2⟩
        go_wp2_with fail
        go_ret
        exact ⟨by rw [idxF_some p HX.out HQ.out HB.out]; rfl, h2.p2⟩
      | false =>
        rw [hq] at hcall
        have HQ := Lib.hid hq
        have HC := Lib.hid hcall
        clear hq hcall
        go_wp2_with fail
        go_at_fn g
        refine HC.out.mono ?_
        rintro e w' ⟨rfl, h2⟩
        go_wp2_with fail
        go_roundw
        case rel =>
          refine ⟨k + 1, by go_num, by omega, Lib.hid ?_, h2.p2⟩
          intro j y hj hy
          rcases Nat.lt_or_ge j k with h3 | h3
          · exact HB.out j y h3 hy
          · obtain rfl : j = k := by omega
            rw [HX.out] at hy; cases hy; exact HQ.out
        case measure => simp [intOf]; omega
    · have hkn : k = n := by omega
      go_wp2
      go_ret
      refine ⟨?_, hs⟩
      rw [idxF_none]
      · rfl
      intro x hx
      obtain ⟨j, hj, e⟩ := List.mem_iff_getElem.1 hx
      exact HB.out j x (by omega) (by rw [← e]; exact List.getElem?_eq_getElem _)

theorem run_clear2 {P : Program} (w : World) (t e ty : TypeId) (k : IntKind) (ht : P.underlying t = some (.slice e)) (hv : ∀ w, (zeroValue e).run P w = .ok (.agg #[.int k 0, .int k 0]) w) (b o n c : Nat) (hn : 0 < n)
    (hc : ∀ j, j < n * 2 → (w.cell? ⟨b, o + j, none⟩).isSome = true) (hf : ∀ j, j < n * 2 → w.frozen? ⟨b, o + j, none⟩ = false) :
    (Builtin.clear_ #[t] ty #[.slice (some ⟨b, o, none⟩) n c]).run P w = .ok (.tuple #[]) (w.setCells b o (List.replicate (n * 2) (.int k 0))) := by
  have hzc : (Builtin.zeroCells (Value.agg #[.int k 0, .int k 0]).cells n).toList = List.replicate (n * 2) (.int k 0) := by
    simp only [Value.cells]
    simp [Builtin.zeroCells]
    apply List.ext_getElem
    · simp
    · intro i h1 h2
      simp
      rcases Nat.mod_two_eq_zero_or_one i with h | h <;> simp [h]
  have hst := run_storeCells_cells (P := P) b o (List.replicate (n * 2) (.int k 0)) 0 w (by simpa using hc) (by simpa using hf) (by intro v hv'; rw [List.eq_of_mem_replicate hv']; rfl)
  simp only [Nat.add_zero] at hst
  obtain ⟨m, rfl⟩ : ∃ m, n = m + 1 := ⟨n - 1, by omega⟩
  simp [Builtin.clear_, run_underlying ht, hv, hzc, hst]
set_option maxHeartbeats 2000000 in
theorem deleteFunc_fin {w0 w : World} {C F : HP} {a : Option Addr} {c n : Nat} {l : List (Int × Int)} (p : Int × Int → Bool) (g : Nat) (lb : Array Value) (eg : ∀ args w, (callFunc g args).run Try.prog w = .ok (.enter g args) w) (hp : AsksF w0 g lb C p) (h : Sat w0 w (slc 135 2 a n c (finCells l) * (C * F))) (hl : l.length = n) (hn : n ≤ 1000000000) :
    Calls Try.prog 77 #[.slice a n c, .func (.func g) #[] lb] w fun e w' => e = .returned (.slice a (l.filter fun x => !p x).length c) ∧ Sat w0 w' (slc 135 2 a (l.filter fun x => !p x).length c (finCells (l.filter fun x => !p x)) * (C * F)) := by
  have hIF := indexFunc_fin p g lb eg hp h hl hn
  have HP' := Lib.hid hp
  clear hp
  have hcap := h.slcCap
  rcases idxF_cases p l with ⟨e, hall⟩ | ⟨k0, x0, e, hx0, hpx0, hb0⟩
  · rw [e] at hIF
    have hf : l.filter (fun x => !p x) = l := List.filter_eq_self.2 fun x hx => by rw [hall x hx]; rfl
    rw [hf, hl]
    have HIF := Lib.hid hIF
    clear hIF hall hf e
    go_enter Try.func77, Try.ntmps77
    go_wp2_with fail
    refine HIF.out.mono ?_
    rintro e w' ⟨rfl, h2⟩
    go_wp2_with fail
    go_ret
    exact ⟨rfl, h2⟩
  · rw [e] at hIF
    have hk0 : k0 < n := by have := (List.getElem?_eq_some_iff.1 hx0).1; omega
    have K0 := Kept.start hx0 hpx0 hb0
    have HK0 := Lib.hid K0
    have HIF := Lib.hid hIF
    obtain ⟨g0, off, rfl, _, _, _, _⟩ := finAt h hx0
    clear hIF e hx0 hpx0 hb0 K0
    have hne1 : ((k0 : Int) == -1) = false := beq_eq_false_iff_ne.2 (by omega)
    go_enter Try.func77, Try.ntmps77
    go_wp2_with fail
    refine HIF.out.mono ?_
    rintro e w' ⟨rfl, h2⟩
    go_wp2_with fail
    go_loopw [5, 6] (fun iv jv wr => ∃ (i j : Nat) (d : List (Int × Int)), iv = .int .i64 i ∧ jv = .int .i64 j ∧ j ≤ n ∧ Hid (Kept p l j i d) ∧ Sat w0 wr (slc 135 2 (some ⟨g0, off, none⟩) n c (finCells d) * (C * F))) (fun _ jv _ => n - (intOf jv).toNat)
    case atStart => exact ⟨k0, k0 + 1, l, rfl, by go_num, by omega, HK0, h2⟩
    case round =>
      obtain ⟨i, j, d, rfl, rfl, hj, HK, hs⟩ := hrel
      have hij := HK.out.lt
      have hdl := HK.out.len
      rw [hl] at hdl
      by_cases hlt : j < n
      · obtain ⟨x, hx⟩ : ∃ x, l[j]? = some x := ⟨l[j]'(by omega), List.getElem?_eq_getElem _⟩
        have hdx := HK.out.get
        rw [hx] at hdx
        obtain ⟨gb, off', ea, hc, hc', _, _⟩ := finAt hs hdx
        cases ea
        have hal := hs.alloc (.cells #[.int .i64 x.1, .int .i64 x.2] 135)
        generalize hbx : wr.heap.size = bx at *
        have hcall := HP'.out _ (pt bx (.cells #[.int .i64 x.1, .int .i64 x.2] 135) * (slc 135 2 (some ⟨g0, off, none⟩) n c (finCells d) * F)) x (hal.p3)
        have HX := Lib.hid hx
        clear hx hdx
        obtain ⟨y, hy⟩ : ∃ y, d[i]? = some y := ⟨d[i]'(by omega), List.getElem?_eq_getElem _⟩
        have HY := Lib.hid hy
        clear hy
        have hdi : i < d.length := by omega
        have HD := Lib.hid hdl
        have b0 : (wr.alloc (.cells #[.int .i64 x.1, .int .i64 x.2] 135)).cell? ⟨bx, 0, none⟩ = some (.int .i64 x.1) := Sat.cell (T := 135) (cs := #[.int .i64 x.1, .int .i64 x.2]) hal 0 rfl
        have b1 : (wr.alloc (.cells #[.int .i64 x.1, .int .i64 x.2] 135)).cell? ⟨bx, 1, none⟩ = some (.int .i64 x.2) := Sat.cell (T := 135) (cs := #[.int .i64 x.1, .int .i64 x.2]) hal 1 rfl
        clear hdl
        cases hq : p x with
        | false =>
          rw [hq] at hcall
          have HQ := Lib.hid hq
          have HC := Lib.hid hcall
          clear hq hcall
          obtain ⟨x1, x2⟩ := x
          go_wp2_with fail
          go_at_fn g
          refine HC.out.mono ?_
          rintro e w3 ⟨rfl, h3⟩
          obtain ⟨gb', off', ea, _, _, hf3, hf3'⟩ := finAt h3.p3 HY.out
          cases ea
          obtain ⟨gb', off', ea, hy0, hy1, _, _⟩ := finAt h3.p3 HY.out
          cases ea
          have b0 : w3.cell? ⟨bx, 0, none⟩ = some (.int .i64 x1) := Sat.cell (T := 135) (cs := #[.int .i64 x1, .int .i64 x2]) h3.p2 0 rfl
          have b1 : w3.cell? ⟨bx, 1, none⟩ = some (.int .i64 x2) := Sat.cell (T := 135) (cs := #[.int .i64 x1, .int .i64 x2]) h3.p2 1 rfl
          have h4 := (h3.p3.slcStore (j := i * 2) (by omega) (.int .i64 x1)).slcStore (j := i * 2 + 1) (by omega) (.int .i64 x2)
          rw [← Nat.add_assoc, finCells_set d i (x1, x2)] at h4
          have h5 := h4.p3.drop
          clear hc hc' hal h3 h4
          go_wp2_with fail
          go_roundw
          case rel => exact ⟨i + 1, j + 1, d.set i (x1, x2), by go_num, by go_num, by omega, Lib.hid (HK.out.keep HX.out HQ.out), h5⟩
          case measure => simp [intOf]; omega
        | true =>
          rw [hq] at hcall
          have HQ := Lib.hid hq
          have HC := Lib.hid hcall
          clear hq hcall
          obtain ⟨x1, x2⟩ := x
          go_wp2_with fail
          go_at_fn g
          refine HC.out.mono ?_
          rintro e w3 ⟨rfl, h3⟩
          clear hc hc' hal b0 b1
          go_wp2_with fail
          go_roundw
          case rel => exact ⟨i, j + 1, d, rfl, by go_num, by omega, Lib.hid (HK.out.skip HX.out HQ.out), (h3.p2.drop).p2⟩
          case measure => simp [intOf]; omega
      · obtain rfl : j = n := by omega
        have hd1 := HK.out.done hl.symm
        have hd2 := HK.out.doneLen hl.symm
        have hcell : ∀ k, k < j * 2 → ∃ v, (finCells d)[k]? = some v := fun k hk => ⟨_, List.getElem?_eq_getElem (by rw [finCells_length]; omega)⟩
        have hz : (zeroValue 135).run Try.prog wr = .ok (.agg #[.int .i64 0, .int .i64 0]) wr := by kernel_rfl
        have hcl : ∀ ty, (Builtin.clear_ #[87] ty #[.slice (some ⟨g0, off + i * 2, none⟩) (j - i) (c - i)]).run Try.prog wr = .ok (.tuple #[]) (wr.setCells g0 (off + i * 2) (List.replicate ((j - i) * 2) (.int .i64 0))) := fun ty => by
          refine run_clear2 wr _ _ ty _ Try.underlying87 (fun w => by kernel_rfl) g0 (off + i * 2) _ _ (by omega) (fun t ht => ?_) fun t ht => ?_
          · obtain ⟨v, hv⟩ := hcell (i * 2 + t) (by omega)
            obtain ⟨g', o', ea, hc, _⟩ := hs.slcAt hv
            cases ea
            rw [Nat.add_assoc, hc]; rfl
          · obtain ⟨v, hv⟩ := hcell (i * 2 + t) (by omega)
            obtain ⟨g', o', ea, _, hf⟩ := hs.slcAt hv
            cases ea
            rw [Nat.add_assoc, hf]
        obtain ⟨xs', e1, e2, h5⟩ := Sat.slcStores (List.replicate ((j - i) * 2) (.int .i64 0)) (i * 2) _ _ hs (by simp; omega)
        have h6 := h5.slcTake (m := i) (by omega)
        rw [e2, finCells_take, hd1] at h6
        have HD2 := Lib.hid hd2
        clear hcell hd1 hd2 hdl
        have hij' : (i : Int) < (j : Int) := by omega
        go_wp2_with fail
        go_ret
        exact ⟨by rw [HD2.out]; rfl, by rw [HD2.out]; exact h6⟩

theorem without_fn {w0 : World} (nb : Nat) (v : Int) : Asks w0 118 #[.pointer (some ⟨nb, 0, none⟩)] (pt nb (.cells #[.int .i64 v] 3 (0, 0))) (fun x => decide (v = x)) := by
  intro w G x h
  have c0 : w.cell? ⟨nb, 0, none⟩ = some (.int .i64 v) := Sat.cell (T := 3) (cs := #[.int .i64 v]) h 0 rfl
  have hd : decide (v = x) = (v == x) := by rw [Bool.eq_iff_iff]; simp
  have HD := Lib.hid hd
  have HH := Lib.hid h
  clear hd h
  show Calls Try.prog 118 #[.int .i64 x, .pointer (some ⟨nb, 0, none⟩)] w _
  go_enter Try.func118, Try.ntmps118
  go_wp2
  go_ret
  exact ⟨by rw [HD.out]; rfl, HH.out⟩
theorem without_int {w0 w : World} {F : HP} {a : Option Addr} {c n : Nat} {l : List Int} (v : Int) (h : Sat w0 w (slc 3 1 a n c (l.map ival) * F)) (hl : l.length = n) (hn : n ≤ 1000000000) :
    Calls Try.prog 72 #[.slice a n c, .int .i64 v] w fun e w' => e = .returned (.slice a (l.filter fun x => !decide (v = x)).length c) ∧ Sat w0 w' (slc 3 1 a (l.filter fun x => !decide (v = x)).length c ((l.filter fun x => !decide (v = x)).map ival) * F) := by
  have h1 := (h.alloc (.cells #[.int .i64 v] 3)).p2
  have hD := deleteFunc_int (fun x => decide (v = x)) 118 #[.pointer (some ⟨w.heap.size, 0, none⟩)] (enters_of Try.func118 (by kernel_rfl) rfl) (without_fn _ v) h1 hl hn
  have HD := Lib.hid hD
  clear hD
  go_enter Try.func72, Try.ntmps72
  go_wp2_with fail
  refine HD.out.mono ?_
  rintro e w1 ⟨rfl, h2⟩
  go_wp2_with fail
  go_ret
  exact ⟨rfl, h2.p2.drop⟩
end Go.Proofs.Ytkpcngcegipalaa.Tw
namespace Go.Proofs.Ytkpcngcegipalaa.Tw
set_option linter.unusedVariables false
set_option linter.unusedSimpArgs false
open Go Go.RowKit Go.MapKept

def AHeap.drop1 (A : AHeap) (n : Int) (o : AObj) : AHeap := (A.touch n).upd n { o with count := o.count - 1 }
def AHeap.drop (A : AHeap) (v : AVal) : AHeap :=
  match cntO A v with
  | none => A
  | some o =>
    if o.count - 1 = 0 then { A.drop1 v.n o with queue := A.queue ++ [v.n], buf := A.buf.filter fun x => !decide (v.n = x) }
    else if o.kind ≠ 5 ∧ v.n ∉ A.buf then { A.drop1 v.n o with buf := A.buf ++ [v.n] } else A.drop1 v.n o

def hcells (pb mb : Nat) (qa : Option Addr) (qn qc : Nat) (ba : Option Addr) (bn bc : Nat) (fa : Option Addr) (fn fc : Nat) (mk : Int) (fv : Value) (tb : Bool) : Array Value :=
  #[.pointer (some ⟨pb, 0, none⟩), .map (some mb), .slice qa qn qc, .slice ba bn bc, .slice fa fn fc, .int .i64 mk, fv, .bool tb]
section
variable {w0 w : World} {m : Hp} {p : Nat} {A : AHeap} {F : HP} {pb mb : Nat} {O : List (Int × Nat × AObj)} {qa : Option Addr} {qc : Nat} {ba : Option Addr} {bc : Nat} {fa : Option Addr} {fc : Nat} {fv : Value}
theorem Opened.queue (h : Opened w0 w m p A F pb mb O qa qc ba bc fa fc fv) {w' : World} {q : List Int} {qa' : Option Addr} {n qc' : Nat} (hn : q.length = n)
    (hs : Sat w0 w' (row p 90 (hcells pb mb qa' n qc' ba A.buf.length bc fa A.fins.length fc A.marks fv A.touched) * (slc 3 1 qa' n qc' (q.map ival) * (poolR pb A.T * (mapR (.int .i64) (Value.int .i64) mb (omap O) * (objsR O * (slc 3 1 ba A.buf.length bc (A.buf.map ival) * (slc 135 2 fa A.fins.length fc (finCells A.fins) * F)))))))) :
    Opened w0 w' m p { A with queue := q } F pb mb O qa' qc' ba bc fa fc fv := by subst hn; exact ⟨h.ho, h.ht, h.hw, hs.cast (by unfold hcells heapCells; ac_rfl)⟩
theorem Opened.buf (h : Opened w0 w m p A F pb mb O qa qc ba bc fa fc fv) {w' : World} {q : List Int} {ba' : Option Addr} {n bc' : Nat} (hn : q.length = n)
    (hs : Sat w0 w' (row p 90 (hcells pb mb qa A.queue.length qc ba' n bc' fa A.fins.length fc A.marks fv A.touched) * (slc 3 1 ba' n bc' (q.map ival) * (poolR pb A.T * (mapR (.int .i64) (Value.int .i64) mb (omap O) * (objsR O * (slc 3 1 qa A.queue.length qc (A.queue.map ival) * (slc 135 2 fa A.fins.length fc (finCells A.fins) * F)))))))) :
    Opened w0 w' m p { A with buf := q } F pb mb O qa qc ba' bc' fa fc fv := by subst hn; exact ⟨h.ho, h.ht, h.hw, hs.cast (by unfold hcells heapCells; ac_rfl)⟩
theorem Opened.fins (h : Opened w0 w m p A F pb mb O qa qc ba bc fa fc fv) {w' : World} {q : List (Int × Int)} {fa' : Option Addr} {n fc' : Nat} (hn : q.length = n)
    (hs : Sat w0 w' (row p 90 (hcells pb mb qa A.queue.length qc ba A.buf.length bc fa' n fc' A.marks fv A.touched) * (slc 135 2 fa' n fc' (finCells q) * (poolR pb A.T * (mapR (.int .i64) (Value.int .i64) mb (omap O) * (objsR O * (slc 3 1 qa A.queue.length qc (A.queue.map ival) * (slc 3 1 ba A.buf.length bc (A.buf.map ival) * F)))))))) :
    Opened w0 w' m p { A with fins := q } F pb mb O qa qc ba bc fa' fc' fv := by subst hn; exact ⟨h.ho, h.ht, h.hw, hs.cast (by unfold hcells heapCells; ac_rfl)⟩
end

set_option maxHeartbeats 1000000 in
theorem heap_Drop_nil (w : World) (v : AVal) {w0 : World} {F : HP} (h : Sat w0 w F) :
    Calls Try.prog 19 #[.pointer none, .agg #[.int .i64 v.kind, .int .i64 v.n]] w fun e w' => e = .returned (.int .i64 1) ∧ Sat w0 w' F := by
  have h1 := h.alloc (.cells #[.int .i64 v.kind, .int .i64 v.n] 28)
  have d0 : (w.alloc (.cells #[.int .i64 v.kind, .int .i64 v.n] 28)).cell? ⟨w.heap.size, 0, none⟩ = some (.int .i64 v.kind) := Sat.cell (T := 28) (cs := #[.int .i64 v.kind, .int .i64 v.n]) h1 0 rfl
  have d1 : (w.alloc (.cells #[.int .i64 v.kind, .int .i64 v.n] 28)).cell? ⟨w.heap.size, 1, none⟩ = some (.int .i64 v.n) := Sat.cell (T := 28) (cs := #[.int .i64 v.kind, .int .i64 v.n]) h1 1 rfl
  have h2 := h1.drop
  go_enter Try.func19, Try.ntmps19
  go_wp2_with fail
  refine (heap_counted_nil _ v h2).mono ?_
  rintro e w1 ⟨rfl, h3⟩
  go_wp2_with fail
  go_ret
  exact ⟨rfl, h3⟩

set_option maxRecDepth 100000 in
set_option maxHeartbeats 2000000 in
theorem heap_Drop {w0 w : World} {m : Hp} {p : Nat} {A : AHeap} {F : HP} (h : Sat w0 w (heapR m p A * F)) (K : Knows m F) (v : AVal) (hB : ∀ o, cntO A v = some o → IntKind.i64.wrap (o.count - 1) = o.count - 1) (hq : A.queue.length ≤ 1000000000) (hb : A.buf.length ≤ 1000000000) :
    Calls Try.prog 19 #[.pointer (some ⟨p, 0, none⟩), .agg #[.int .i64 v.kind, .int .i64 v.n]] w fun e w' => e = .returned (.int .i64 (cntE A v)) ∧ Sat w0 w' (heapR m p (A.drop v) * F) := by
  obtain ⟨pb, mb, O, qa, qc, ba, bc, fa, fc, fv, op0⟩ := h.openHeap
  obtain ⟨k, n⟩ := v
  have op := op0.alloc (.cells #[.int .i64 k, .int .i64 n] 28)
  generalize hbx : w.heap.size = bx at *
  have hx := op.box2
  have d0 := hx.1
  have d1 := hx.2
  clear hx
  cases hc : cntO A ⟨k, n⟩ with
  | none =>
    have hC := heap_counted_no op ⟨k, n⟩ hc
    have ek : A.drop ⟨k, n⟩ = A := by unfold AHeap.drop; rw [hc]
    rw [ek]
    have HC := Lib.hid hC
    clear hC hc ek hB
    go_enter Try.func19, Try.ntmps19
    try rw [hbx]
    go_wp2_with fail
    refine HC.out.mono ?_
    rintro e w1 ⟨rfl, op1⟩
    clear HC
    go_wp2_with fail
    go_ret
    exact ⟨rfl, op1.unframe.shut⟩
  | some o =>
    have ho := cntO_some hc
    obtain ⟨b, l, r, eO, hl, e3⟩ := op.obj ho
    have hC := heap_counted op K.left ⟨k, n⟩ hc e3
    have hwr := hB o hc
    have ek : A.drop ⟨k, n⟩ = if o.count - 1 = 0 then { A.drop1 n o with queue := A.queue ++ [n], buf := A.buf.filter fun x => !decide (n = x) } else if o.kind ≠ 5 ∧ n ∉ A.buf then { A.drop1 n o with buf := A.buf ++ [n] } else A.drop1 n o := by unfold AHeap.drop; rw [hc]
    have ee : cntE A ⟨k, n⟩ = 0 := by unfold cntE; rw [hc]; simp
    rw [ee]
    have EK := Lib.hid ek
    have HC := Lib.hid hC
    have HO := Lib.hid eO
    clear hC hc ek hB ee eO e3 ho
    go_enter Try.func19, Try.ntmps19
    try rw [hbx]
    go_wp2_with fail
    refine HC.out.mono ?_
    rintro e w1 ⟨rfl, op1⟩
    obtain ⟨a, c, G, hG⟩ := op1.objCells HO.out
    have hcell : w1.cell? ⟨b, 1, none⟩ = some (.int .i64 o.count) := hG.cell 1 rfl
    have hkind : w1.cell? ⟨b, 0, none⟩ = some (.int .i64 o.kind) := hG.cell 0 rfl
    have hfree := hG.free 1
    have hx := op1.box2
    have d0 := hx.1
    have d1 := hx.2
    have hfin : Opened w0 _ m p (A.drop1 n o) _ pb mb _ qa qc ba bc fa fc fv := op1.storeObj HO.out hl 1 (.int .i64 (o.count - 1)) (o' := { o with count := o.count - 1 }) rfl (fun _ _ => rfl)
    obtain ⟨a2, c2, G2, hG2⟩ := hfin.objCells rfl
    have hcell2 : (w1.setCell ⟨b, 1, none⟩ (.int .i64 (o.count - 1))).cell? ⟨b, 1, none⟩ = some (.int .i64 (o.count - 1)) := hG2.cell 1 rfl
    have hkind2 : (w1.setCell ⟨b, 1, none⟩ (.int .i64 (o.count - 1))).cell? ⟨b, 0, none⟩ = some (.int .i64 o.kind) := hG2.cell 0 rfl
    clear HC hG hx hG2
    have q2 : (w1.setCell ⟨b, 1, none⟩ (.int .i64 (o.count - 1))).cell? ⟨p, 2, none⟩ = some (.slice qa A.queue.length qc) := hfin.hs.cell 2 rfl
    have q3 : (w1.setCell ⟨b, 1, none⟩ (.int .i64 (o.count - 1))).cell? ⟨p, 3, none⟩ = some (.slice ba A.buf.length bc) := hfin.hs.cell 3 rfl
    by_cases hz : o.count - 1 = 0
    · have hz' : (o.count - 1 == 0) = true := by simpa using hz
      have HZ := Lib.hid hz
      clear hz
      have ha := hfin.alloc (.cells #[.int .i64 n] 3)
      generalize hw2 : (w1.setCell ⟨b, 1, none⟩ (.int .i64 (o.count - 1))) = w2 at *
      have c0 : (w2.alloc (.cells #[.int .i64 n] 3)).cell? ⟨w2.heap.size, 0, none⟩ = some (.int .i64 n) := Sat.cell (T := 3) (cs := #[.int .i64 n]) ha.front 0 rfl
      go_wp2_with (at_builtin; refine wpList_push rfl _ _ rfl qa A.queue.length qc A.queue rfl ha.hs.p5 w2.heap.size 1 n rfl c0 hq ?_; intro a' c' w4 h4; have f2 := h4.p2.free 2; have q24 : w4.cell? ⟨p, 2, none⟩ = some (.slice qa A.queue.length qc) := h4.p2.cell 2 rfl; have op4 := ha.queue (by simp) (h4.p2.store (i := 2) (.slice a' (A.queue.length + 1) c')); have q34 : (w4.setCell ⟨p, 2, none⟩ (.slice a' (A.queue.length + 1) c')).cell? ⟨p, 3, none⟩ = some (.slice ba A.buf.length bc) := op4.hs.cell 3 rfl)
      refine (without_int n op4.hs.p6 rfl hb).mono ?_
      rintro e w5 ⟨rfl, h5⟩
      have f3 := h5.p2.free 3
      have q35 : w5.cell? ⟨p, 3, none⟩ = some (.slice ba A.buf.length bc) := h5.p2.cell 3 rfl
      have op6 := op4.buf rfl (h5.p2.store (i := 3) (.slice ba (A.buf.filter fun x => !decide (n = x)).length bc))
      go_wp2_with fail
      go_ret
      refine ⟨rfl, ?_⟩
      rw [EK.out, if_pos HZ.out]
      exact op6.unframe.unframe.shut
    · have hz' : (o.count - 1 == 0) = false := by simpa using hz
      have HZ := Lib.hid hz
      clear hz
      generalize hw2 : (w1.setCell ⟨b, 1, none⟩ (.int .i64 (o.count - 1))) = w2 at *
      by_cases hk5 : o.kind = 5
      · have hk5' : (o.kind != 5) = false := by simp [hk5]
        have HK5 := Lib.hid hk5
        clear hk5
        go_wp2_with fail
        go_ret
        refine ⟨rfl, ?_⟩
        rw [EK.out, if_neg HZ.out, if_neg fun h => h.1 HK5.out]
        exact hfin.unframe.shut
      · have hk5' : (o.kind != 5) = true := by simp [hk5]
        have HK5 := Lib.hid hk5
        clear hk5
        have hcon := contains_int (l := A.buf) (n := A.buf.length) n hfin.hs.p6 rfl hb
        by_cases hin : n ∈ A.buf
        · have hd : decide (n ∈ A.buf) = true := by simpa using hin
          rw [hd] at hcon
          have HCON := Lib.hid hcon
          have HIN := Lib.hid hin
          clear hcon hin hd
          go_wp2_with fail
          refine HCON.out.mono ?_
          rintro e w5 ⟨rfl, rfl⟩
          go_wp2_with fail
          go_ret
          refine ⟨rfl, ?_⟩
          rw [EK.out, if_neg HZ.out, if_neg fun h => h.2 HIN.out]
          exact hfin.unframe.shut
        · have hd : decide (n ∈ A.buf) = false := by simpa using hin
          rw [hd] at hcon
          have HCON := Lib.hid hcon
          have HIN := Lib.hid hin
          clear hcon hin hd
          go_wp2_with fail
          refine HCON.out.mono ?_
          rintro e w5 ⟨rfl, rfl⟩
          have ha := hfin.alloc (.cells #[.int .i64 n] 3)
          have c0 : (w2.alloc (.cells #[.int .i64 n] 3)).cell? ⟨w2.heap.size, 0, none⟩ = some (.int .i64 n) := Sat.cell (T := 3) (cs := #[.int .i64 n]) ha.front 0 rfl
          go_wp2_with (at_builtin; refine wpList_push rfl _ _ rfl ba A.buf.length bc A.buf rfl ha.hs.p6 w2.heap.size 1 n rfl c0 hb ?_; intro a' c' w4 h4; have f2 := h4.p2.free 3; have q24 : w4.cell? ⟨p, 3, none⟩ = some (.slice ba A.buf.length bc) := h4.p2.cell 3 rfl; have op4 := ha.buf (by simp) (h4.p2.store (i := 3) (.slice a' (A.buf.length + 1) c')))
          go_ret
          refine ⟨rfl, ?_⟩
          rw [EK.out, if_neg HZ.out, if_pos ⟨HK5.out, HIN.out⟩]
          exact op4.unframe.unframe.shut
end Go.Proofs.Ytkpcngcegipalaa.Tw
