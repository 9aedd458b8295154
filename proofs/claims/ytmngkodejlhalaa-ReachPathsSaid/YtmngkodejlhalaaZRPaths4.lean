/- Slices of ints and the library's functions on them that ask a function value: IndexFunc, DeleteFunc, Index, Contains. No condition. -/
import Derived.Test.YtmngkodejlhalaaZRPaths3
import Derived.Lib.SliceRun
import Derived.Shelf.Abstract
namespace Go.Proofs.Ytmngkodejlhalaa.Tw
set_option linter.unusedVariables false
set_option linter.unusedSimpArgs false
open Go Go.RowKit Go.MapKept

section
variable {w0 w : World} {A B C D E G I J K F : HP}
theorem Sat.p2 (h : Sat w0 w (A * (B * F))) : Sat w0 w (B * (A * F)) := h.cast (by ac_rfl)
theorem Sat.p3 (h : Sat w0 w (A * (B * (C * F)))) : Sat w0 w (C * (A * (B * F))) := h.cast (by ac_rfl)
theorem Sat.p4 (h : Sat w0 w (A * (B * (C * (D * F))))) : Sat w0 w (D * (A * (B * (C * F)))) := h.cast (by ac_rfl)
theorem Sat.p5 (h : Sat w0 w (A * (B * (C * (D * (E * F)))))) : Sat w0 w (E * (A * (B * (C * (D * F))))) := h.cast (by ac_rfl)
theorem Sat.p6 (h : Sat w0 w (A * (B * (C * (D * (E * (G * F))))))) : Sat w0 w (G * (A * (B * (C * (D * (E * F)))))) := h.cast (by ac_rfl)
theorem Sat.p7 (h : Sat w0 w (A * (B * (C * (D * (E * (G * (I * F)))))))) : Sat w0 w (I * (A * (B * (C * (D * (E * (G * F))))))) := h.cast (by ac_rfl)
theorem Sat.p8 (h : Sat w0 w (A * (B * (C * (D * (E * (G * (I * (J * F))))))))) : Sat w0 w (J * (A * (B * (C * (D * (E * (G * (I * F)))))))) := h.cast (by ac_rfl)
theorem Sat.p9 (h : Sat w0 w (A * (B * (C * (D * (E * (G * (I * (J * (K * F)))))))))) : Sat w0 w (K * (A * (B * (C * (D * (E * (G * (I * (J * F))))))))) := h.cast (by ac_rfl)
/-- the first one goes inward -/
theorem Sat.q2 (h : Sat w0 w (A * (B * F))) : Sat w0 w (B * (A * F)) := h.cast (by ac_rfl)
theorem Sat.q3 (h : Sat w0 w (A * (B * (C * F)))) : Sat w0 w (B * (C * (A * F))) := h.cast (by ac_rfl)
theorem Sat.q4 (h : Sat w0 w (A * (B * (C * (D * F))))) : Sat w0 w (B * (C * (D * (A * F)))) := h.cast (by ac_rfl)
theorem Sat.q5 (h : Sat w0 w (A * (B * (C * (D * (E * F)))))) : Sat w0 w (B * (C * (D * (E * (A * F))))) := h.cast (by ac_rfl)
theorem Sat.q6 (h : Sat w0 w (A * (B * (C * (D * (E * (G * F))))))) : Sat w0 w (B * (C * (D * (E * (G * (A * F)))))) := h.cast (by ac_rfl)
theorem Sat.q7 (h : Sat w0 w (A * (B * (C * (D * (E * (G * (I * F)))))))) : Sat w0 w (B * (C * (D * (E * (G * (I * (A * F))))))) := h.cast (by ac_rfl)
theorem Sat.q8 (h : Sat w0 w (A * (B * (C * (D * (E * (G * (I * (J * F))))))))) : Sat w0 w (B * (C * (D * (E * (G * (I * (J * (A * F)))))))) := h.cast (by ac_rfl)
theorem Sat.assoc (h : Sat w0 w ((A * B) * F)) : Sat w0 w (A * (B * F)) := h.cast (mul_assoc _ _ _)
theorem Sat.unassoc (h : Sat w0 w (A * (B * F))) : Sat w0 w ((A * B) * F) := h.cast (mul_assoc _ _ _).symm
theorem Sat.swap (h : Sat w0 w (A * B)) : Sat w0 w (B * A) := h.cast (mul_comm _ _)
end

/-! ### plain -/
section
variable {α : Type} (p : α → Bool)
def idxF : List α → Int
  | [] => -1
  | x :: r => if p x then 0 else if idxF r < 0 then -1 else idxF r + 1
theorem idxF_some {l : List α} {k : Nat} {x : α} (h : l[k]? = some x) (hp : p x = true) (hb : ∀ j y, j < k → l[j]? = some y → p y = false) : idxF p l = k := by
  induction l generalizing k with
  | nil => simp at h
  | cons y r ih =>
    cases k with
    | zero => simp at h; subst h; simp [idxF, hp]
    | succ k =>
      have h0 := hb 0 y (by omega) rfl
      have := ih (k := k) (by simpa using h) fun j z hj hz => hb (j + 1) z (by omega) (by simpa using hz)
      simp [idxF, h0, this]; omega
theorem idxF_none {l : List α} (hb : ∀ x ∈ l, p x = false) : idxF p l = -1 := by
  induction l with
  | nil => rfl
  | cons y r ih => simp [idxF, hb y (by simp), ih fun x hx => hb x (by simp [hx])]
theorem idxF_cases (l : List α) : (idxF p l = -1 ∧ ∀ x ∈ l, p x = false) ∨ ∃ (k : Nat) (x : α), idxF p l = k ∧ l[k]? = some x ∧ p x = true ∧ ∀ j y, j < k → l[j]? = some y → p y = false := by
  induction l with
  | nil => exact .inl ⟨rfl, by simp⟩
  | cons y r ih =>
    cases hy : p y with
    | true => exact .inr ⟨0, y, by simp [idxF, hy], rfl, hy, by intro j _ hj; omega⟩
    | false =>
      rcases ih with ⟨e, h⟩ | ⟨k, x, e, h1, h2, h3⟩
      · exact .inl ⟨by simp [idxF, hy, e], by intro x hx; simp at hx; rcases hx with rfl | hx; exact hy; exact h x hx⟩
      · refine .inr ⟨k + 1, x, by simp [idxF, hy, e]; omega, by simpa using h1, h2, ?_⟩
        intro j z hj hz
        cases j with
        | zero => simp at hz; subst hz; exact hy
        | succ j => exact h3 j z (by omega) (by simpa using hz)
theorem idxF_any (l : List α) : decide (0 ≤ idxF p l) = l.any p := by
  rcases idxF_cases p l with ⟨e, h⟩ | ⟨k, x, e, h1, h2, _⟩
  · rw [e]; simpa using h
  · rw [e]
    have : l.any p = true := List.any_eq_true.2 ⟨x, List.mem_of_getElem? h1, h2⟩
    rw [this]; simp
structure Kept (l : List α) (j i : Nat) (d : List α) : Prop where
  len : d.length = l.length
  lt : i < j
  pre : d.take i = (l.take j).filter fun x => !p x
  post : d.drop j = l.drop j
variable {p}
theorem Kept.start {l : List α} {k : Nat} {x : α} (h : l[k]? = some x) (hp : p x = true) (hb : ∀ j y, j < k → l[j]? = some y → p y = false) : Kept p l (k + 1) k l := by
  refine ⟨rfl, by omega, ?_, rfl⟩
  rw [List.take_add_one, h, List.filter_append]
  have : (l.take k).filter (fun x => !p x) = l.take k := List.filter_eq_self.2 fun y hy => by
    obtain ⟨j, hj, e⟩ := List.mem_iff_getElem.1 hy
    rw [List.length_take] at hj
    rw [hb j y (by omega) (by rw [← e, List.getElem_take]; exact List.getElem?_eq_getElem _)]
    rfl
  simp [this, hp]
theorem Kept.get {l d : List α} {j i : Nat} (K : Kept p l j i d) : d[j]? = l[j]? := by
  have := congrArg (fun x : List α => x[0]?) K.post
  simpa using this
theorem Kept.keep {l d : List α} {j i : Nat} {x : α} (K : Kept p l j i d) (h : l[j]? = some x) (hp : p x = false) : Kept p l (j + 1) (i + 1) (d.set i x) := by
  have hj : j < l.length := (List.getElem?_eq_some_iff.1 h).1
  have hl := K.len
  have hlt := K.lt
  refine ⟨by simp [K.len], by omega, ?_, ?_⟩
  · rw [List.take_add_one, List.take_set_of_le (by omega), K.pre, List.take_add_one, h, List.filter_append]
    rw [List.getElem?_set]
    simp [hp]; omega
  · rw [List.drop_set, if_pos (by omega)]
    have := congrArg (List.drop 1) K.post
    simpa using this
theorem Kept.skip {l d : List α} {j i : Nat} {x : α} (K : Kept p l j i d) (h : l[j]? = some x) (hp : p x = true) : Kept p l (j + 1) i d := by
  have hlt := K.lt
  refine ⟨K.len, by omega, ?_, ?_⟩
  · rw [K.pre, List.take_add_one, h, List.filter_append]; simp [hp]
  · have := congrArg (List.drop 1) K.post
    simpa using this
theorem Kept.done {l d : List α} {j i : Nat} (K : Kept p l j i d) (h : j = l.length) : d.take i = l.filter fun x => !p x := by
  rw [K.pre, h, List.take_of_length_le (Nat.le_refl _)]
theorem Kept.doneLen {l d : List α} {j i : Nat} (K : Kept p l j i d) (h : j = l.length) : (l.filter fun x => !p x).length = i := by
  have hl := K.len
  have hlt := K.lt
  have hj : j ≤ l.length := by omega
  rw [← K.done h, List.length_take]; omega
end

/-- several cells of an owned slice, turned -/
theorem Sat.slcStores {w0 : World} {F : HP} {T : TypeId} {sz n c g off : Nat} : ∀ (vs : List Value) (j : Nat) (w : World) (xs : List Value), Sat w0 w (slc T sz (some ⟨g, off, none⟩) n c xs * F) → j + vs.length ≤ n * sz →
    ∃ xs', xs'.length = xs.length ∧ xs'.take j = xs.take j ∧ Sat w0 (w.setCells g (off + j) vs) (slc T sz (some ⟨g, off, none⟩) n c xs' * F)
  | [], j, w, xs, h, _ => ⟨xs, rfl, rfl, h⟩
  | v :: vs, j, w, xs, h, hl => by
    have h1 := h.slcStore (j := j) (by simp at hl; omega) v
    obtain ⟨xs', e1, e2, h2⟩ := Sat.slcStores vs (j + 1) _ _ h1 (by simp at hl ⊢; omega)
    refine ⟨xs', by simpa using e1, ?_, h2⟩
    have := congrArg (List.take j) e2
    rw [List.take_take, List.take_take, Nat.min_eq_left (by omega), List.take_set_of_le (by omega)] at this
    exact this

/-- 's[1:]' -/
theorem run_tail1 {P : Program} (W : World) (t e : TypeId) (ht : P.underlying t = some (.slice e)) (sz : Nat) (hz : ∀ w, (Go.sizeOf e).run P w = .ok sz w) (b o n cap : Nat) (hn : n + 1 ≤ cap) :
    (Instr.slice t (.slice (some ⟨b, o, none⟩) (n + 1) cap) (some (.int .i64 1)) none none).run P W = .ok (.slice (some ⟨b, if cap = 1 then o else o + sz, none⟩) n (cap - 1)) W := by
  have ht' : P.underlying t = some (.slice (P.elem t)) := by simp [Program.elem, ht]
  have he : P.elem t = e := by simp [Program.elem, ht]
  rw [run_slice_l W t _ _ _ ht' .i64 _ (by omega) (by omega), he, hz]
  by_cases h0 : cap = 1
  · subst h0; simp [Result.andThen, sliced]
  · simp [Result.andThen, sliced, Addr.add, h0]
/-- the function answers p x, and keeps C -/
def Asks (w0 : World) (g : Nat) (lb : Array Value) (C : HP) (p : Int → Bool) : Prop :=
  ∀ (w : World) (G : HP) (x : Int), Sat w0 w (C * G) → Calls Try.prog g (#[.int .i64 x] ++ lb) w fun e w' => e = .returned (.bool (p x)) ∧ Sat w0 w' (C * G)
theorem info_int' : (Try.prog.info? 3).map (fun i => (i.zero, i.size, i.bytes)) = some (some (.int .i64 0), 1, 8) := by kernel_rfl
theorem intCells {w0 w : World} {F : HP} {a : Option Addr} {c n : Nat} {l : List Int} (h : Sat w0 w (slc 3 1 a n c (l.map ival) * F)) {k : Nat} {x : Int} (hk : l[k]? = some x) : ∃ g off, a = some ⟨g, off, none⟩ ∧ w.cell? ⟨g, off + k, none⟩ = some (.int .i64 x) ∧ w.frozen? ⟨g, off + k, none⟩ = false :=
  h.slcAt (j := k) (u := ival x) (by rw [List.getElem?_map, hk]; rfl)

set_option maxHeartbeats 1000000 in
theorem indexFunc_int {w0 w : World} {C F : HP} {a : Option Addr} {c n : Nat} {l : List Int} (p : Int → Bool) (g : Nat) (lb : Array Value) (eg : ∀ args w, (callFunc g args).run Try.prog w = .ok (.enter g args) w) (hp : Asks w0 g lb C p) (h : Sat w0 w (slc 3 1 a n c (l.map ival) * (C * F))) (hl : l.length = n) (hn : n ≤ 1000000000) :
    Calls Try.prog 55 #[.slice a n c, .func (.func g) #[] lb] w fun e w' => e = .returned (.int .i64 (idxF p l)) ∧ Sat w0 w' (slc 3 1 a n c (l.map ival) * (C * F)) := by
  have HP' := Lib.hid hp
  clear hp
  go_enter Try.func55, Try.ntmps55
  go_wp2
  go_loopw [8] (fun iv wr => ∃ k : Nat, iv = .int .i64 k ∧ k ≤ n ∧ (∀ j y, j < k → l[j]? = some y → p y = false) ∧ Sat w0 wr (slc 3 1 a n c (l.map ival) * (C * F))) (fun iv _ => n - (intOf iv).toNat)
  case atStart => exact ⟨0, rfl, by omega, by intro j y hj; omega, h⟩
  case round =>
    obtain ⟨k, rfl, hk, hb, hs⟩ := hrel
    by_cases hlt : k < n
    · obtain ⟨x, hx⟩ : ∃ x, l[k]? = some x := ⟨l[k]'(by omega), List.getElem?_eq_getElem _⟩
      obtain ⟨gb, off, rfl, hc, _⟩ := intCells hs hx
      have hcap := hs.slcCap
      have hcall := HP'.out wr (slc 3 1 (some ⟨gb, off, none⟩) n c (l.map ival) * F) x (hs.cast (by ac_rfl))
      have HX := Lib.hid hx
      have HB := Lib.hid hb
      clear hx hb
      cases hq : p x with
      | true =>
        rw [hq] at hcall
        have HQ := Lib.hid hq
        clear hq
        go_wp2_with (go_at_fn g; refine hcall.mono ?_; rintro e w' ⟨rfl, h2⟩)
        go_ret
        exact ⟨by rw [idxF_some p HX.out HQ.out HB.out]; rfl, h2.cast (by ac_rfl)⟩
      | false =>
        rw [hq] at hcall
        have HQ := Lib.hid hq
        clear hq
        go_wp2_with (go_at_fn g; refine hcall.mono ?_; rintro e w' ⟨rfl, h2⟩)
        go_roundw
        case rel =>
          refine ⟨k + 1, by go_num, by omega, ?_, h2.cast (by ac_rfl)⟩
          intro j y hj hy
          rcases Nat.lt_or_ge j k with h3 | h3
          · exact HB.out j y h3 hy
          · obtain rfl : j = k := by omega
            rw [HX.out] at hy; cases hy; exact HQ.out
        case measure => simp [intOf]; omega
    · have hkn : k = n := by omega
      have HB := Lib.hid hb
      clear hb
      go_wp2
      go_ret
      refine ⟨?_, hs⟩
      rw [idxF_none]
      · rfl
      intro x hx
      obtain ⟨j, hj, e⟩ := List.mem_iff_getElem.1 hx
      exact HB.out j x (by omega) (by rw [← e]; exact List.getElem?_eq_getElem _)

set_option maxHeartbeats 2000000 in
theorem deleteFunc_int {w0 w : World} {C F : HP} {a : Option Addr} {c n : Nat} {l : List Int} (p : Int → Bool) (g : Nat) (lb : Array Value) (eg : ∀ args w, (callFunc g args).run Try.prog w = .ok (.enter g args) w) (hp : Asks w0 g lb C p) (h : Sat w0 w (slc 3 1 a n c (l.map ival) * (C * F))) (hl : l.length = n) (hn : n ≤ 1000000000) :
    Calls Try.prog 87 #[.slice a n c, .func (.func g) #[] lb] w fun e w' => e = .returned (.slice a (l.filter fun x => !p x).length c) ∧ Sat w0 w' (slc 3 1 a (l.filter fun x => !p x).length c ((l.filter fun x => !p x).map ival) * (C * F)) := by
  have hIF := indexFunc_int p g lb eg hp h hl hn
  have HP' := Lib.hid hp
  clear hp
  have hcap := h.slcCap
  rcases idxF_cases p l with ⟨e, hall⟩ | ⟨k0, x0, e, hx0, hpx0, hb0⟩
  · rw [e] at hIF
    have hf : l.filter (fun x => !p x) = l := List.filter_eq_self.2 fun x hx => by rw [hall x hx]; rfl
    rw [hf, hl]
    have HIF := Lib.hid hIF
    clear hIF hall hf e
    go_enter Try.func87, Try.ntmps87
    go_wp2_with fail
    refine HIF.out.mono ?_
    rintro e w' ⟨rfl, h2⟩
    go_wp2_with fail
    go_ret
    exact ⟨rfl, h2⟩
  · rw [e] at hIF
    have hk0 : k0 < n := by have := (List.getElem?_eq_some_iff.1 hx0).1; omega
    have K0 := Kept.start hx0 hpx0 hb0
    have HK0 := Lib.hid K0
    have HIF := Lib.hid hIF
    obtain ⟨g0, off, rfl, _, _⟩ := intCells h hx0
    clear hIF e hx0 hpx0 hb0 K0
    have hne1 : ((k0 : Int) == -1) = false := beq_eq_false_iff_ne.2 (by omega)
    go_enter Try.func87, Try.ntmps87
    go_wp2_with fail
    refine HIF.out.mono ?_
    rintro e w' ⟨rfl, h2⟩
    go_wp2_with fail
    go_loopw [5, 6] (fun iv jv wr => ∃ (i j : Nat) (d : List Int), iv = .int .i64 i ∧ jv = .int .i64 j ∧ j ≤ n ∧ Hid (Kept p l j i d) ∧ Sat w0 wr (slc 3 1 (some ⟨g0, off, none⟩) n c (d.map ival) * (C * F))) (fun _ jv _ => n - (intOf jv).toNat)
    case atStart => exact ⟨k0, k0 + 1, l, rfl, by go_num, by omega, HK0, h2⟩
    case round =>
      obtain ⟨i, j, d, rfl, rfl, hj, HK, hs⟩ := hrel
      have hij := HK.out.lt
      have hdl := HK.out.len
      rw [hl] at hdl
      by_cases hlt : j < n
      · obtain ⟨x, hx⟩ : ∃ x, l[j]? = some x := ⟨l[j]'(by omega), List.getElem?_eq_getElem _⟩
        have hdx := HK.out.get
        rw [hx] at hdx
        obtain ⟨gb, off', ea, hc, _⟩ := intCells hs hdx
        cases ea
        have hcall := HP'.out wr (slc 3 1 (some ⟨g0, off, none⟩) n c (d.map ival) * F) x (hs.cast (by ac_rfl))
        have HX := Lib.hid hx
        clear hx hdx
        obtain ⟨y, hy⟩ : ∃ y, d[i]? = some y := ⟨d[i]'(by omega), List.getElem?_eq_getElem _⟩
        have HY := Lib.hid hy
        clear hy
        have hdi : i < d.length := by omega
        have HD := Lib.hid hdl
        clear hdl
        cases hq : p x with
        | false =>
          rw [hq] at hcall
          have HQ := Lib.hid hq
          have HC := Lib.hid hcall
          clear hq hcall
          go_wp2_with fail
          go_at_fn g
          refine HC.out.mono ?_
          rintro e w3 ⟨rfl, h3⟩
          obtain ⟨gb', off', ea, hc3, hf3⟩ := intCells h3.p2 HY.out
          cases ea
          have h4 := (h3.cast (show _ = slc 3 1 (some ⟨g0, off, none⟩) n c (d.map ival) * (C * F) by ac_rfl)).slcStore (j := i) (by omega) (.int .i64 x)
          go_wp2_with fail
          go_roundw
          case rel =>
            refine ⟨i + 1, j + 1, d.set i x, by go_num, by go_num, by omega, Lib.hid (HK.out.keep HX.out HQ.out), ?_⟩
            rw [List.map_set]
            exact h4
          case measure => simp [intOf]; omega
        | true =>
          rw [hq] at hcall
          have HQ := Lib.hid hq
          have HC := Lib.hid hcall
          clear hq hcall
          go_wp2_with fail
          go_at_fn g
          refine HC.out.mono ?_
          rintro e w3 ⟨rfl, h3⟩
          go_wp2_with fail
          go_roundw
          case rel => exact ⟨i, j + 1, d, rfl, by go_num, by omega, Lib.hid (HK.out.skip HX.out HQ.out), h3.cast (by ac_rfl)⟩
          case measure => simp [intOf]; omega
      · obtain rfl : j = n := by omega
        have hd1 := HK.out.done hl.symm
        have hd2 := HK.out.doneLen hl.symm
        have hcell : ∀ k, k < j → ∃ v, (d.map ival)[k]? = some v := fun k hk => ⟨_, List.getElem?_eq_getElem (by simp; omega)⟩
        have hcl : ∀ ty, (Builtin.clear_ #[28] ty #[.slice (some ⟨g0, off + i, none⟩) (j - i) (c - i)]).run Try.prog wr = .ok (.tuple #[]) (wr.setCells g0 (off + i) (List.replicate (j - i) (.int .i64 0))) := fun ty => by
          refine Lib.run_clear_slice wr _ _ ty _ Try.underlying28 (fun w => by kernel_rfl) rfl rfl g0 (off + i) _ _ (by omega) (fun t ht => ?_) fun t ht => ?_
          · obtain ⟨v, hv⟩ := hcell (i + t) (by omega)
            obtain ⟨g', o', ea, hc, _⟩ := hs.slcAt hv
            cases ea
            rw [Nat.add_assoc, hc]; rfl
          · obtain ⟨v, hv⟩ := hcell (i + t) (by omega)
            obtain ⟨g', o', ea, _, hf⟩ := hs.slcAt hv
            cases ea
            rw [Nat.add_assoc, hf]
        obtain ⟨xs', e1, e2, h5⟩ := Sat.slcStores (List.replicate (j - i) (.int .i64 0)) i _ _ hs (by simp; omega)
        have h6 := h5.slcTake (m := i) (by omega)
        rw [Nat.mul_one, e2, ← List.map_take, hd1] at h6
        have HD2 := Lib.hid hd2
        clear hcell hd1 hd2 hdl
        have hij' : (i : Int) < (j : Int) := by omega
        go_wp2_with fail
        go_ret
        exact ⟨by rw [HD2.out]; rfl, by rw [HD2.out]; exact h6⟩

set_option maxHeartbeats 1000000 in
theorem index_cells {w : World} {a : Option Addr} {c n : Nat} {l : List Int} (x : Int) (hget : ∀ k, k < n → ∃ y, l[k]? = some y ∧ ∃ g off, a = some ⟨g, off, none⟩ ∧ w.cell? ⟨g, off + k, none⟩ = some (.int .i64 y)) (hcap : n ≤ c ∧ c ≤ maxLen) (hl : l.length = n) (hn : n ≤ 1000000000) :
    Calls Try.prog 101 #[.slice a n c, .int .i64 x] w fun e w' => e = .returned (.int .i64 (idxF (fun y => decide (x = y)) l)) ∧ w = w' := by
  have HG := Lib.hid hget
  have HL := Lib.hid hl
  clear hget hl
  go_enter Try.func101, Try.ntmps101
  go_wp2
  go_loop [8] (fun iv => ∃ k : Nat, iv = .int .i64 k ∧ k ≤ n ∧ Hid (∀ j y, j < k → l[j]? = some y → decide (x = y) = false)) (fun iv => n - (intOf iv).toNat)
  case atStart => exact ⟨0, rfl, by omega, Lib.hid (by intro j y hj; omega)⟩
  case round =>
    obtain ⟨k, rfl, hk, hb⟩ := hrel
    by_cases hlt : k < n
    · obtain ⟨y, hy, g, off, rfl, hc⟩ := HG.out k hlt
      have HY := Lib.hid hy
      clear hy
      by_cases hxy : x = y
      · subst hxy
        go_wp2
        go_ret
        exact ⟨by rw [idxF_some (fun y => decide (x = y)) HY.out (by simp) hb.out]; rfl, rfl⟩
      · have hq : (x == y) = false := by simpa using hxy
        have HQ := Lib.hid hxy
        clear hxy
        go_wp2
        go_round
        case rel =>
          refine ⟨k + 1, by go_num, by omega, Lib.hid ?_⟩
          intro j z hj hz
          rcases Nat.lt_or_ge j k with h3 | h3
          · exact hb.out j z h3 hz
          · obtain rfl : j = k := by omega
            rw [HY.out] at hz; cases hz; simpa using HQ.out
        case measure => simp [intOf]; omega
    · have hkn : k = n := by omega
      go_wp2
      go_ret
      refine ⟨?_, rfl⟩
      rw [idxF_none]
      · rfl
      intro z hz
      obtain ⟨j, hj, e⟩ := List.mem_iff_getElem.1 hz
      exact hb.out j z (by have := HL.out; omega) (by rw [← e]; exact List.getElem?_eq_getElem _)
theorem contains_cells {w : World} {a : Option Addr} {c n : Nat} {l : List Int} (x : Int) (hget : ∀ k, k < n → ∃ y, l[k]? = some y ∧ ∃ g off, a = some ⟨g, off, none⟩ ∧ w.cell? ⟨g, off + k, none⟩ = some (.int .i64 y)) (hcap : n ≤ c ∧ c ≤ maxLen) (hl : l.length = n) (hn : n ≤ 1000000000) :
    Calls Try.prog 64 #[.slice a n c, .int .i64 x] w fun e w' => e = .returned (.bool (decide (x ∈ l))) ∧ w = w' := by
  have hI := index_cells x hget hcap hl hn
  clear hget
  have hd : decide (0 ≤ idxF (fun y => decide (x = y)) l) = decide (x ∈ l) := by
    rw [idxF_any]; rw [Bool.eq_iff_iff]; simp
  have HD := Lib.hid hd
  have HI := Lib.hid hI
  clear hI hd
  generalize idxF (fun y => decide (x = y)) l = r at *
  go_enter Try.func64, Try.ntmps64
  go_wp2_with fail
  refine HI.out.mono ?_
  rintro e w' ⟨rfl, rfl⟩
  go_wp2_with fail
  go_ret
  exact ⟨by rw [← HD.out]; rfl, rfl⟩
theorem contains_int {w0 w : World} {F : HP} {a : Option Addr} {c n : Nat} {l : List Int} (x : Int) (h : Sat w0 w (slc 3 1 a n c (l.map ival) * F)) (hl : l.length = n) (hn : n ≤ 1000000000) :
    Calls Try.prog 64 #[.slice a n c, .int .i64 x] w fun e w' => e = .returned (.bool (decide (x ∈ l))) ∧ w = w' := by
  refine contains_cells x (fun k hk => ?_) h.slcCap hl hn
  have e : l[k]? = some (l[k]'(by omega)) := List.getElem?_eq_getElem _
  obtain ⟨g, off, ea, hc, _⟩ := intCells h e
  exact ⟨_, e, g, off, ea, hc⟩
end Go.Proofs.Ytmngkodejlhalaa.Tw
