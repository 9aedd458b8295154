/- Rows of bools and numbers that were made. No condition. -/
import Derived.Test.YtmngkodejlhalaaZRPaths4
import Derived.Test.YtmngkodejlhalaaZRPaths6
namespace Go.Proofs.Ytmngkodejlhalaa.Tw
set_option linter.unusedVariables false
set_option linter.unusedSimpArgs false
open Go Go.RowKit Go.MapKept

theorem made_one (v : Value) (n : Nat) : madeCells #[v] n = (List.replicate n v).toArray := by
  apply Array.toList_inj.1
  refine List.ext_getElem (by simp [madeCells]) fun i h1 h2 => ?_
  simp only [madeCells, Array.toList_map, List.getElem_map, List.getElem_replicate, List.size_toArray, List.length_cons, List.length_nil, Nat.zero_add, Nat.mod_one]
  rfl
theorem info_boolF : (Try.prog.info? 4).map (fun i => (i.zero, i.size, i.bytes)) = some (some (.bool false), 1, 1) := by kernel_rfl
theorem info_intF : (Try.prog.info? 3).map (fun i => (i.zero, i.size, i.bytes)) = some (some (.int .i64 0), 1, 8) := by kernel_rfl
def rowB (sb : Nat) (bs : List Bool) : HP := pt sb (.cells (bs.map Value.bool).toArray 4 (0, 0))
def isF : Value → Bool
  | .bool false => true
  | _ => false
def falses (w : World) (sb : Nat) : Nat := match w.heap[sb]? with
  | some (.cells cs _ _) => (cs.toList.filter isF).length
  | _ => 0
def fls (bs : List Bool) : Nat := (bs.filter (!·)).length
def lenOf : Value → Nat
  | .slice _ n _ => n
  | _ => 0
theorem fls_map (bs : List Bool) : ((bs.map Value.bool).filter isF).length = fls bs := by
  induction bs with
  | nil => rfl
  | cons b bs ih =>
    cases b
    · exact congrArg (· + 1) ih
    · exact ih
theorem fls_set : ∀ (bs : List Bool) (j : Nat), bs[j]? = some false → fls (bs.set j true) + 1 = fls bs
  | [], j, h => by simp at h
  | b :: bs, 0, h => by simp at h; subst h; simp [fls]
  | b :: bs, j + 1, h => by
    have ih := fls_set bs j (by simpa using h)
    unfold fls at *
    cases b <;> simp_all
def tkB (bs : List Bool) (x : Int) : Prop := 0 ≤ x ∧ bs[x.toNat]? = some true
theorem tkB_set {bs : List Bool} {x : Int} (j : Nat) (h : tkB bs x) : tkB (bs.set j true) x := by
  refine ⟨h.1, ?_⟩
  rw [List.getElem?_set]
  split
  · rename_i e; rw [if_pos (by rw [e]; exact (List.getElem?_eq_some_iff.1 h.2).1)]
  · exact h.2
theorem tkB_new {bs : List Bool} {j : Nat} (h : j < bs.length) : tkB (bs.set j true) (j : Int) := ⟨by omega, by rw [Int.toNat_natCast, List.getElem?_set_self h]⟩
theorem tkB_of_set {bs : List Bool} {j : Nat} {x : Int} (h : tkB (bs.set j true) x) : tkB bs x ∨ x = (j : Int) := by
  obtain ⟨h1, h2⟩ := h
  by_cases e : x = (j : Int)
  · exact .inr e
  · left
    refine ⟨h1, ?_⟩
    rw [List.getElem?_set_ne (by omega)] at h2
    exact h2
def truesL (bs : List Bool) (k : Nat) : List Int := ((List.range k).filter fun i => decide (bs[i]? = some true)).map fun (i : Nat) => (i : Int)
theorem truesL_yes {bs : List Bool} {k : Nat} (h : bs[k]? = some true) : truesL bs (k + 1) = truesL bs k ++ [(k : Int)] := by
  unfold truesL
  rw [List.range_succ, List.filter_append, List.map_append, List.filter_cons, h]; rfl
theorem truesL_no {bs : List Bool} {k : Nat} (h : bs[k]? = some false) : truesL bs (k + 1) = truesL bs k := by
  unfold truesL
  rw [List.range_succ, List.filter_append, List.map_append, List.filter_cons, h]; simp
theorem truesL_le (bs : List Bool) (k : Nat) : (truesL bs k).length ≤ k := by
  unfold truesL
  rw [List.length_map]
  have := List.length_filter_le (fun i => decide (bs[i]? = some true)) (List.range k)
  simpa using this
theorem mem_truesL {bs : List Bool} {k : Nat} {x : Int} : x ∈ truesL bs k ↔ x < k ∧ tkB bs x := by
  unfold truesL tkB
  simp only [List.mem_map, List.mem_filter, List.mem_range, decide_eq_true_eq]
  constructor
  · rintro ⟨a, ⟨h1, h2⟩, rfl⟩
    exact ⟨by omega, by omega, by rw [Int.toNat_natCast]; exact h2⟩
  · rintro ⟨h1, h2, h3⟩
    exact ⟨x.toNat, ⟨by omega, h3⟩, Int.toNat_of_nonneg h2⟩
theorem truesL_sorted (bs : List Bool) (k : Nat) : (truesL bs k).Pairwise (· < ·) := by
  unfold truesL
  refine List.pairwise_map.2 ?_
  refine List.Pairwise.imp ?_ ((List.pairwise_lt_range (n := k)).filter _)
  intro a b h; exact Int.ofNat_lt.2 h
section
variable {w0 w : World} {F : HP}
theorem falses_row {sb : Nat} {bs : List Bool} (h : Sat w0 w (rowB sb bs * F)) : falses w sb = fls bs := by
  have := Sat.blk h
  unfold falses
  rw [this]
  exact fls_map bs
theorem rowCell {sb : Nat} {bs : List Bool} {j : Nat} {b : Bool} (h : Sat w0 w (rowB sb bs * F)) (hj : bs[j]? = some b) : w.cell? ⟨sb, j, none⟩ = some (.bool b) ∧ w.frozen? ⟨sb, j, none⟩ = false :=
  ⟨Sat.cell h j (by simp [hj]), Sat.free h j⟩
theorem Sat.rowSet {sb : Nat} {bs : List Bool} (j : Nat) (b : Bool) (h : Sat w0 w (rowB sb bs * F)) : Sat w0 (w.setCell ⟨sb, j, none⟩ (.bool b)) (rowB sb (bs.set j b) * F) := by
  have h1 := Sat.store (i := j) h (.bool b)
  unfold rowB
  rw [List.map_set]
  have e : (bs.map Value.bool).toArray.setIfInBounds j (.bool b) = ((bs.map Value.bool).set j (.bool b)).toArray := by simp
  rw [e] at h1
  exact h1
theorem Sat.madeRow {sb n : Nat} (h : Sat w0 w (pt sb (.cells (madeCells #[.bool false] n) 4 (0, 0)) * F)) : Sat w0 w (rowB sb (List.replicate n false) * F) := by
  rw [made_one] at h
  unfold rowB
  rw [List.map_replicate]
  exact h
theorem Sat.madeRowSet {sb n j : Nat} (h : Sat w0 w (pt sb (.cells ((madeCells #[.bool false] n).setIfInBounds j (.bool true)) 4 (0, 0)) * F)) : Sat w0 w (rowB sb ((List.replicate n false).set j true) * F) := by
  rw [made_one] at h
  unfold rowB
  rw [List.map_set, List.map_replicate]
  have e : (List.replicate n (Value.bool false)).toArray.setIfInBounds j (.bool true) = ((List.replicate n (Value.bool false)).set j (.bool true)).toArray := List.setIfInBounds_toArray _ _ _
  rw [e] at h
  exact h
end
def rowI (sb : Nat) (bs : List Int) : HP := pt sb (.cells (bs.map ival).toArray 3 (0, 0))
section
variable {w0 w : World} {F : HP}
theorem rowICell {sb : Nat} {bs : List Int} {j : Nat} {b : Int} (h : Sat w0 w (rowI sb bs * F)) (hj : bs[j]? = some b) : w.cell? ⟨sb, j, none⟩ = some (.int .i64 b) ∧ w.frozen? ⟨sb, j, none⟩ = false :=
  ⟨Sat.cell h j (by simp [hj, ival]), Sat.free h j⟩
theorem Sat.rowISet {sb : Nat} {bs : List Int} (j : Nat) (b : Int) (h : Sat w0 w (rowI sb bs * F)) : Sat w0 (w.setCell ⟨sb, j, none⟩ (.int .i64 b)) (rowI sb (bs.set j b) * F) := by
  have h1 := Sat.store (i := j) h (.int .i64 b)
  unfold rowI
  rw [List.map_set]
  have e : (bs.map ival).toArray.setIfInBounds j (.int .i64 b) = ((bs.map ival).set j (ival b)).toArray := List.setIfInBounds_toArray _ _ _
  rw [e] at h1
  exact h1
theorem Sat.madeRowI {sb n : Nat} (h : Sat w0 w (pt sb (.cells (madeCells #[.int .i64 0] n) 3 (0, 0)) * F)) : Sat w0 w (rowI sb (List.replicate n 0) * F) := by
  rw [made_one] at h
  unfold rowI
  rw [List.map_replicate]
  exact h
end
end Go.Proofs.Ytmngkodejlhalaa.Tw
namespace Go.Proofs.Ytmngkodejlhalaa.Tw
set_option linter.unusedVariables false
set_option linter.unusedSimpArgs false
open Go Go.RowKit

theorem rev_ind {α : Type} {motive : List α → Prop} (nil : motive []) (append_singleton : ∀ (l : List α) (a : α), motive l → motive (l ++ [a])) (l : List α) : motive l := by
  have key : ∀ r : List α, motive r.reverse := by
    intro r
    induction r with
    | nil => exact nil
    | cons a r ih => rw [List.reverse_cons]; exact append_singleton _ _ ih
  have := key l.reverse
  rwa [List.reverse_reverse] at this
/-- the number n is marked -/
def mkd (S : List Bool) (n : Int) : Prop := 1 ≤ n ∧ S[(n - 1).toNat]? = some true
def markB (L : List AObj) (S : List Bool) (n : Int) : List Bool := if thereG L n && !(S.getD (n - 1).toNat false) then S.set (n - 1).toNat true else S
def markS (L : List AObj) (S : List Bool) (l : List Int) : List Bool := l.foldl (markB L) S
theorem markS_snoc (L : List AObj) (S : List Bool) (l : List Int) (n : Int) : markS L S (l ++ [n]) = markB L (markS L S l) n := by unfold markS; rw [List.foldl_append]; rfl
theorem markB_len (L : List AObj) (S : List Bool) (n : Int) : (markB L S n).length = S.length := by unfold markB; split <;> simp
theorem markS_len (L : List AObj) (S : List Bool) : ∀ l : List Int, (markS L S l).length = S.length := by
  intro l
  induction l using rev_ind with
  | nil => rfl
  | append_singleton l n ih => rw [markS_snoc, markB_len, ih]
theorem mkd_set {S : List Bool} {j : Nat} {n : Int} (h : mkd S n) : mkd (S.set j true) n := by
  refine ⟨h.1, ?_⟩
  rw [List.getElem?_set]
  split
  · rename_i e; rw [if_pos (by rw [e]; exact (List.getElem?_eq_some_iff.1 h.2).1)]
  · exact h.2
theorem mkd_of_set {S : List Bool} {j : Nat} {n : Int} (h : mkd (S.set j true) n) : mkd S n ∨ n = (j : Int) + 1 := by
  obtain ⟨h1, h2⟩ := h
  by_cases e : n = (j : Int) + 1
  · exact .inr e
  · left
    refine ⟨h1, ?_⟩
    rw [List.getElem?_set_ne (by omega)] at h2
    exact h2
theorem markB_mono {L : List AObj} {S : List Bool} {n x : Int} (h : mkd S x) : mkd (markB L S n) x := by
  unfold markB
  split
  · exact mkd_set h
  · exact h
theorem markS_mono {L : List AObj} {S : List Bool} {x : Int} (h : mkd S x) : ∀ l : List Int, mkd (markS L S l) x := by
  intro l
  induction l using rev_ind with
  | nil => exact h
  | append_singleton l n ih => rw [markS_snoc]; exact markB_mono ih
theorem markB_has {L : List AObj} {S : List Bool} {n : Int} (hl : S.length = L.length) (h : thereG L n = true) : mkd (markB L S n) n := by
  have hr := thereG_range h
  have hj : (n - 1).toNat < S.length := by omega
  unfold markB
  rw [h, Bool.true_and]
  cases hb : S.getD (n - 1).toNat false with
  | false =>
    simp only [Bool.not_false, if_true]
    exact ⟨hr.1, by rw [List.getElem?_set_self hj]⟩
  | true =>
    simp only [Bool.not_true, Bool.false_eq_true, if_false]
    refine ⟨hr.1, ?_⟩
    rw [List.getD_eq_getElem?_getD, List.getElem?_eq_getElem hj] at hb
    rw [List.getElem?_eq_getElem hj]
    simpa using hb
theorem markS_has {L : List AObj} {S : List Bool} (hl : S.length = L.length) : ∀ (l : List Int) (n : Int), n ∈ l → thereG L n = true → mkd (markS L S l) n := by
  intro l
  induction l using rev_ind with
  | nil => intro n h; simp at h
  | append_singleton l m ih =>
    intro n h ht
    rw [markS_snoc]
    rcases List.mem_append.1 h with h | h
    · exact markB_mono (ih n h ht)
    · simp at h; subst h
      exact markB_has (by rw [markS_len]; exact hl) ht
theorem markB_only {L : List AObj} {S : List Bool} {n x : Int} (h : mkd (markB L S n) x) : mkd S x ∨ (x = n ∧ thereG L n = true) := by
  unfold markB at h
  split at h
  · rename_i h1
    simp only [Bool.and_eq_true] at h1
    have hr := thereG_range h1.1
    rcases mkd_of_set h with h | h
    · exact .inl h
    · exact .inr ⟨by omega, h1.1⟩
  · exact .inl h
theorem markS_only {L : List AObj} {S : List Bool} : ∀ (l : List Int) (x : Int), mkd (markS L S l) x → mkd S x ∨ (x ∈ l ∧ thereG L x = true) := by
  intro l
  induction l using rev_ind with
  | nil => intro x h; exact .inl h
  | append_singleton l m ih =>
    intro x h
    rw [markS_snoc] at h
    rcases markB_only h with h | ⟨rfl, h⟩
    · rcases ih x h with h | ⟨h1, h2⟩
      · exact .inl h
      · exact .inr ⟨by simp [h1], h2⟩
    · exact .inr ⟨by simp, h⟩
theorem markB_fls {L : List AObj} {S : List Bool} (n : Int) : markB L S n = S ∨ fls (markB L S n) + 1 = fls S := by
  unfold markB
  split
  · rename_i h1
    simp only [Bool.and_eq_true, Bool.not_eq_true'] at h1
    by_cases hj : (n - 1).toNat < S.length
    · right
      refine fls_set S _ ?_
      rw [List.getD_eq_getElem?_getD, List.getElem?_eq_getElem hj] at h1
      rw [List.getElem?_eq_getElem hj]
      simpa using h1.2
    · left; exact List.set_eq_of_length_le (by omega)
  · exact .inl rfl
theorem markS_fls {L : List AObj} {S : List Bool} : ∀ l : List Int, markS L S l = S ∨ fls (markS L S l) < fls S := by
  intro l
  induction l using rev_ind with
  | nil => exact .inl rfl
  | append_singleton l m ih =>
    rw [markS_snoc]
    rcases ih with e | h
    · rw [e]
      rcases markB_fls (L := L) (S := S) m with h | h
      · exact .inl h
      · exact .inr (by omega)
    · rcases markB_fls (L := L) (S := markS L S l) m with h2 | h2
      · rw [h2]; exact .inr h
      · exact .inr (by omega)
/-- whether anything was marked -/
def moreS (L : List AObj) (S : List Bool) (l : List Int) : Bool := decide (markS L S l ≠ S)
theorem moreS_snoc_new {L : List AObj} {S : List Bool} {l : List Int} {n : Int} (h : markB L (markS L S l) n ≠ markS L S l) : moreS L S (l ++ [n]) = true := by
  unfold moreS
  rw [markS_snoc]
  refine decide_eq_true fun e => ?_
  have h1 := (markB_fls (L := L) (S := markS L S l) n).resolve_left h
  rw [e] at h1
  rcases markS_fls (L := L) (S := S) l with h2 | h2
  · rw [h2] at h1; omega
  · omega
theorem moreS_snoc_old {L : List AObj} {S : List Bool} {l : List Int} {n : Int} (h : markB L (markS L S l) n = markS L S l) : moreS L S (l ++ [n]) = moreS L S l := by
  unfold moreS; rw [markS_snoc, h]
theorem markB_yes {L : List AObj} {S : List Bool} {n : Int} (h1 : thereG L n = true) (h2 : S[(n - 1).toNat]? = some false) : markB L S n = S.set (n - 1).toNat true ∧ markB L S n ≠ S := by
  have e : markB L S n = S.set (n - 1).toNat true := by unfold markB; rw [h1, List.getD_eq_getElem?_getD, h2]; rfl
  refine ⟨e, fun h => ?_⟩
  rw [e] at h
  have h3 := fls_set S _ h2
  rw [h] at h3; omega
theorem markB_no {L : List AObj} {S : List Bool} {n : Int} (h : thereG L n = false ∨ S[(n - 1).toNat]? = some true) : markB L S n = S := by
  unfold markB
  rcases h with h | h
  · rw [h]; rfl
  · rw [List.getD_eq_getElem?_getD, h]; simp
/-! what a search that goes on keeps -/
structure Mks (L : List AObj) (rs : List Int) (S : List Bool) : Prop where
  len : S.length = L.length
  root : ∀ r ∈ rs, thereG L r = true → mkd S r
  snd : ∀ x, mkd S x → RS L rs x
def ClosedG (L : List AObj) (S : List Bool) : Prop := ∀ x, mkd S x → ∀ y ∈ kids L x, thereG L y = true → mkd S y
theorem Mks.start {L : List AObj} {rs : List Int} : Mks L rs (markS L (List.replicate L.length false) rs) := by
  have h0 : ∀ x, ¬ mkd (List.replicate L.length false) x := fun x h => by
    have := h.2
    rw [List.getElem?_replicate] at this
    split at this <;> simp at this
  refine ⟨by rw [markS_len, List.length_replicate], fun r hr ht => markS_has (by simp) rs r hr ht, fun x hx => ?_⟩
  rcases markS_only rs x hx with h | ⟨h1, h2⟩
  · exact absurd h (h0 x)
  · exact ⟨x, h1, h2, .refl⟩
theorem Mks.closed0 {L : List AObj} {rs : List Int} (h : moreS L (List.replicate L.length false) rs = false) : ClosedG L (markS L (List.replicate L.length false) rs) := by
  unfold moreS at h
  have e : markS L (List.replicate L.length false) rs = List.replicate L.length false := by simpa using h
  rw [e]
  intro x hx
  have := hx.2
  rw [List.getElem?_replicate] at this
  split at this <;> simp at this
theorem Mks.step {L : List AObj} {rs : List Int} {S : List Bool} (m : Mks L rs S) {x : Int} (hx : mkd S x) : Mks L rs (markS L S (kids L x)) := by
  refine ⟨by rw [markS_len]; exact m.len, fun r hr ht => markS_mono (m.root r hr ht) _, fun y hy => ?_⟩
  rcases markS_only _ y hy with h | ⟨h1, h2⟩
  · exact m.snd y h
  · exact (m.snd x hx).next h1
theorem Mks.done {L : List AObj} {rs : List Int} {S : List Bool} (hok : okG L = true) (m : Mks L rs S) (c : ClosedG L S) (n : Int) : mkd S n ↔ RS L rs n :=
  RS_of m.root (fun x hx y hy => c x hx y hy (kids_there hok hy)) m.snd n
/-- one pass over the objects -/
structure Pass (L : List AObj) (rs : List Int) (S0 : List Bool) (k : Nat) (more : Bool) (S : List Bool) : Prop where
  m : Mks L rs S
  no : more = false → S = S0 ∧ ∀ j : Nat, j < k → mkd S0 ((j : Int) + 1) → ∀ y ∈ kids L ((j : Int) + 1), thereG L y = true → mkd S0 y
  yes : more = true → fls S < fls S0
theorem Pass.start {L : List AObj} {rs : List Int} {S0 : List Bool} (m : Mks L rs S0) : Pass L rs S0 0 false S0 := ⟨m, fun _ => ⟨rfl, fun j hj => by omega⟩, fun h => by cases h⟩
theorem Pass.skip {L : List AObj} {rs : List Int} {S0 S : List Bool} {k : Nat} {more : Bool} (p : Pass L rs S0 k more S) (h : ¬ mkd S ((k : Int) + 1)) : Pass L rs S0 (k + 1) more S :=
  ⟨p.m, fun e => ⟨(p.no e).1, fun j hj hm => by
    by_cases ej : j = k
    · subst ej; rw [(p.no e).1] at h; exact absurd hm h
    · exact (p.no e).2 j (by omega) hm⟩, p.yes⟩
theorem Pass.next {L : List AObj} {rs : List Int} {S0 S : List Bool} {k : Nat} {more : Bool} (p : Pass L rs S0 k more S) (h : mkd S ((k : Int) + 1)) :
    Pass L rs S0 (k + 1) (if moreS L S (kids L ((k : Int) + 1)) then true else more) (markS L S (kids L ((k : Int) + 1))) := by
  have hf := markS_fls (L := L) (S := S) (kids L ((k : Int) + 1))
  refine ⟨p.m.step h, fun e => ?_, fun e => ?_⟩
  · cases hm : moreS L S (kids L ((k : Int) + 1)) with
    | true => rw [hm] at e; simp at e
    | false =>
      rw [hm] at e
      simp at e
      have e2 : markS L S (kids L ((k : Int) + 1)) = S := by unfold moreS at hm; simpa using hm
      obtain ⟨h1, h2⟩ := p.no e
      refine ⟨e2.trans h1, fun j hj hmj y hy ht => ?_⟩
      by_cases ej : j = k
      · subst ej
        have := markS_has p.m.len _ y hy ht
        rw [e2, h1] at this
        exact this
      · exact h2 j (by omega) hmj y hy ht
  · cases hm : moreS L S (kids L ((k : Int) + 1)) with
    | true =>
      have hne : markS L S (kids L ((k : Int) + 1)) ≠ S := by unfold moreS at hm; simpa using hm
      have hlt := hf.resolve_left hne
      cases more with
      | true => have := p.yes rfl; omega
      | false => rw [(p.no rfl).1] at hlt ⊢; exact hlt
    | false =>
      rw [hm] at e
      simp at e
      have := p.yes e
      have e2 : markS L S (kids L ((k : Int) + 1)) = S := by unfold moreS at hm; simpa using hm
      rw [e2]; exact this
theorem Pass.closed {L : List AObj} {rs : List Int} {S0 S : List Bool} {k : Nat} (p : Pass L rs S0 k false S) (hk : k = L.length) : ClosedG L S := by
  obtain ⟨h1, h2⟩ := p.no rfl
  rw [h1]
  intro x hx y hy ht
  have hl := (List.getElem?_eq_some_iff.1 hx.2).1
  have hlen := p.m.len
  rw [h1] at hlen
  obtain ⟨j, rfl⟩ : ∃ j : Nat, x = (j : Int) + 1 := ⟨(x - 1).toNat, by have := hx.1; omega⟩
  exact h2 j (by omega) hx y hy ht
theorem mkd_nat {S : List Bool} {j : Nat} : mkd S ((j : Int) + 1) ↔ S[j]? = some true := by
  unfold mkd
  rw [show ((j : Int) + 1 - 1).toNat = j by omega]
  exact ⟨fun h => h.2, fun h => ⟨by omega, h⟩⟩
end Go.Proofs.Ytmngkodejlhalaa.Tw
