/- Graphs, plainly: what may be, and what can be reached. No condition. -/
import Derived.Test.YtmngkodejlhalaaZRPaths5
import Derived.Test.YtmngkodejlhalaaZRPaths3
import Derived.BigQuiet
import Derived.Deep.RegionHeld3
import Derived.StillTailTactics
import Derived.Laws.ResultCell
import Derived.Deep.QuietTactic
namespace Go.Proofs.Ytmngkodejlhalaa.Tw
set_option linter.unusedVariables false
set_option linter.unusedSimpArgs false
open Go Go.RowKit

def objG (L : List AObj) (n : Int) : Option AObj := if 1 ≤ n then L[(n - 1).toNat]? else none
def refsV (l : List AVal) : List Int := (l.filter refV).map (·.n)
def thereG (L : List AObj) (n : Int) : Bool := match objG L n with | some o => !decide (o.kind = 0) | none => false
def slotOk (L : List AObj) (v : AVal) : Bool := mayV v && !decide (v.kind = 0) && (!refV v || match objG L v.n with | some o => decide (o.kind = v.kind) | none => false)
def noText (t : ByteArray) : Bool := t.toList.isEmpty
def objOk (L : List AObj) (o : AObj) : Bool :=
  if o.kind = 0 then decide (o.count = 0) && decide (o.slots.length = 0) && noText o.text && decide (o.mark = 0)
  else decide (5 ≤ o.kind) && decide (o.kind ≤ 9) && decide (0 ≤ o.count) && decide (-1 ≤ o.mark) && (if o.kind = 5 then decide (o.slots.length = 0) else noText o.text) && o.slots.all (slotOk L)
def okG (L : List AObj) : Bool := L.all (objOk L)
def kids (L : List AObj) (n : Int) : List Int := match objG L n with | some o => refsV o.slots | none => []

theorem refV_kind {v : AVal} (h : refV v = true) : 5 ≤ v.kind ∧ v.kind ≤ 9 ∧ 1 ≤ v.n ∧ v.n ≤ 2147483647 := by
  unfold refV mayV within at h
  simp only [Bool.and_eq_true, decide_eq_true_eq] at h
  obtain ⟨h1, h2⟩ := h
  split at h2
  · omega
  split at h2
  · omega
  split at h2
  · omega
  split at h2
  · omega
  · simp at h2; omega
theorem mem_refsV {l : List AVal} {n : Int} : n ∈ refsV l ↔ ∃ v ∈ l, refV v = true ∧ v.n = n := by
  unfold refsV; simp [List.mem_map, List.mem_filter, and_assoc]
theorem refsV_pos {l : List AVal} {n : Int} (h : n ∈ refsV l) : 1 ≤ n ∧ n ≤ 2147483647 := by
  obtain ⟨v, _, h2, rfl⟩ := mem_refsV.1 h
  have := refV_kind h2; omega
theorem objG_some {L : List AObj} {n : Int} {o : AObj} (h : objG L n = some o) : 1 ≤ n ∧ n ≤ L.length ∧ L[(n - 1).toNat]? = some o := by
  unfold objG at h
  split at h
  · have := (List.getElem?_eq_some_iff.1 h).1
    exact ⟨by assumption, by omega, h⟩
  · cases h
theorem objG_nat (L : List AObj) (i : Nat) : objG L ((i : Int) + 1) = L[i]? := by
  unfold objG
  rw [if_pos (by omega), show ((i : Int) + 1 - 1).toNat = i by omega]
theorem objG_mem {L : List AObj} {n : Int} {o : AObj} (h : objG L n = some o) : o ∈ L := List.mem_of_getElem? (objG_some h).2.2
theorem okG_obj {L : List AObj} (h : okG L = true) {n : Int} {o : AObj} (ho : objG L n = some o) : objOk L o = true := List.all_eq_true.1 h o (objG_mem ho)
theorem objOk_slots {L : List AObj} {o : AObj} (h : objOk L o = true) : ∀ v ∈ o.slots, slotOk L v = true := by
  unfold objOk at h
  split at h
  · simp only [Bool.and_eq_true, decide_eq_true_eq] at h
    intro v hv
    rw [List.eq_nil_of_length_eq_zero h.1.1.2] at hv
    cases hv
  · simp only [Bool.and_eq_true] at h
    exact List.all_eq_true.1 h.2
theorem slotOk_there {L : List AObj} {v : AVal} (h : slotOk L v = true) (hr : refV v = true) : ∃ o, objG L v.n = some o ∧ o.kind = v.kind := by
  unfold slotOk at h
  simp only [hr, Bool.not_true, Bool.false_or, Bool.and_eq_true] at h
  cases ho : objG L v.n with
  | none => rw [ho] at h; simp at h
  | some o => rw [ho] at h; exact ⟨o, rfl, by simpa using h.2⟩
/-- in a graph that may be, what is held is there -/
theorem kids_there {L : List AObj} (h : okG L = true) {n m : Int} (hm : m ∈ kids L n) : thereG L m = true := by
  unfold kids at hm
  split at hm
  · rename_i o ho
    obtain ⟨v, hv, hr, rfl⟩ := mem_refsV.1 hm
    obtain ⟨o', h1, h2⟩ := slotOk_there (objOk_slots (okG_obj h ho) v hv) hr
    unfold thereG
    rw [h1]
    have := refV_kind hr
    simp; omega
  · cases hm
theorem thereG_iff {L : List AObj} {n : Int} : thereG L n = true ↔ ∃ o, objG L n = some o ∧ o.kind ≠ 0 := by
  unfold thereG
  cases objG L n <;> simp
theorem thereG_range {L : List AObj} {n : Int} (h : thereG L n = true) : 1 ≤ n ∧ n ≤ L.length := by
  obtain ⟨o, ho, _⟩ := thereG_iff.1 h
  have := objG_some ho; omega

/-- what is reached from one -/
inductive RG (L : List AObj) (a : Int) : Int → Prop
  | refl : RG L a a
  | step {x y : Int} : RG L a x → y ∈ kids L x → RG L a y
theorem RG.head {L : List AObj} {a b c : Int} (h : b ∈ kids L a) (r : RG L b c) : RG L a c := by
  induction r with
  | refl => exact .step .refl h
  | step _ h2 ih => exact .step ih h2
theorem RG.trans {L : List AObj} {a b c : Int} (h : RG L a b) (r : RG L b c) : RG L a c := by
  induction r with
  | refl => exact h
  | step _ h2 ih => exact .step ih h2
theorem RG.closed {L : List AObj} {a b : Int} {S : Int → Prop} (h : RG L a b) (ha : S a) (hS : ∀ x, S x → ∀ y ∈ kids L x, S y) : S b := by
  induction h with
  | refl => exact ha
  | step _ h2 ih => exact hS _ ih _ h2
/-- what is reached from roots -/
def RS (L : List AObj) (rs : List Int) (n : Int) : Prop := ∃ r ∈ rs, thereG L r = true ∧ RG L r n
theorem RS.there {L : List AObj} (h : okG L = true) {rs : List Int} {n : Int} (r : RS L rs n) : thereG L n = true := by
  obtain ⟨a, _, h1, h2⟩ := r
  exact h2.closed (S := fun x => thereG L x = true) h1 fun x _ y hy => kids_there h hy
theorem RS.next {L : List AObj} {rs : List Int} {x y : Int} (r : RS L rs x) (h : y ∈ kids L x) : RS L rs y := by
  obtain ⟨a, h0, h1, h2⟩ := r
  exact ⟨a, h0, h1, .step h2 h⟩
/-- a set that has the roots and what its own hold, and nothing that is not reached, is what is reached -/
theorem RS_of {L : List AObj} {rs : List Int} {S : Int → Prop} (h0 : ∀ r ∈ rs, thereG L r = true → S r) (h1 : ∀ x, S x → ∀ y ∈ kids L x, S y) (h2 : ∀ x, S x → RS L rs x) (n : Int) : S n ↔ RS L rs n :=
  ⟨h2 n, fun ⟨r, hr, ht, hg⟩ => hg.closed (h0 r hr ht) h1⟩

/-! ### the search in depth -/
def markF (L : List AObj) : Nat → List Int → List Int → List Int
  | 0, seen, _ => seen
  | f + 1, seen, l => l.foldl (fun s n => if n ∈ s then s else markF L f (s ++ [n]) ((kids L n).filter (thereG L))) seen
def markL (L : List AObj) (rs : List Int) : List Int := markF L (L.length + 1) [] (rs.filter (thereG L))
/-- how many objects are not seen yet -/
def unseen (L : List AObj) (s : List Int) : Nat := ((List.range L.length).filter fun (i : Nat) => !decide (((i : Int) + 1) ∈ s)).length
theorem unseen_add {L : List AObj} {s : List Int} {n : Int} (h : n ∉ s) (hn : thereG L n = true) : unseen L (s ++ [n]) + 1 ≤ unseen L s := by
  have hr := thereG_range hn
  unfold unseen
  have e : (List.range L.length).filter (fun (i : Nat) => !decide (((i : Int) + 1) ∈ s ++ [n])) = ((List.range L.length).filter fun (i : Nat) => !decide (((i : Int) + 1) ∈ s)).filter fun (i : Nat) => !decide ((i : Int) + 1 = n) := by
    rw [List.filter_filter]
    refine List.filter_congr fun i _ => ?_
    rw [Bool.eq_iff_iff]; simp; exact and_comm
  rw [e]
  have hm : (n - 1).toNat ∈ (List.range L.length).filter fun (i : Nat) => !decide (((i : Int) + 1) ∈ s) := by
    rw [List.mem_filter]
    refine ⟨List.mem_range.2 (by omega), ?_⟩
    rw [show (((n - 1).toNat : Nat) : Int) + 1 = n by omega]
    simpa using h
  generalize ((List.range L.length).filter fun (i : Nat) => !decide (((i : Int) + 1) ∈ s)) = l at *
  have : (l.filter fun (i : Nat) => !decide ((i : Int) + 1 = n)).length < l.length := by
    rw [List.length_filter_lt_length_iff_exists]
    exact ⟨_, hm, by simp; omega⟩
  omega
theorem unseen_le (L : List AObj) (s : List Int) : unseen L s ≤ L.length := by
  unfold unseen
  have := List.length_filter_le (fun (i : Nat) => !decide (((i : Int) + 1) ∈ s)) (List.range L.length)
  simpa using this
structure MarkOk (L : List AObj) (seen l S : List Int) : Prop where
  sub : ∀ n ∈ seen, n ∈ S
  has : ∀ n ∈ l, n ∈ S
  kid : ∀ n ∈ S, n ∉ seen → ∀ m ∈ kids L n, m ∈ S
  snd : ∀ n ∈ S, n ∈ seen ∨ ∃ r ∈ l, RG L r n
  thr : (∀ n ∈ seen, thereG L n = true) → ∀ n ∈ S, thereG L n = true
  nod : seen.Nodup → S.Nodup
theorem markF_ok {L : List AObj} (h : okG L = true) : ∀ (f : Nat) (seen l : List Int), (∀ n ∈ l, thereG L n = true) → unseen L seen + 1 ≤ f → MarkOk L seen l (markF L f seen l)
  | 0, seen, l, hl, hf => by omega
  | f + 1, seen, l, hl, hf => by
    show MarkOk L seen l (l.foldl _ seen)
    induction l generalizing seen with
    | nil => exact ⟨fun _ h => h, fun _ h => (by cases h), fun n hn hx => absurd hn hx, fun n hn => .inl hn, fun h => h, fun h => h⟩
    | cons n l ih =>
      rw [List.foldl_cons]
      have hl' : ∀ m ∈ l, thereG L m = true := fun m hm => hl m (List.mem_cons_of_mem _ hm)
      by_cases hn : n ∈ seen
      · rw [if_pos hn]
        have i := ih seen hl' hf
        refine ⟨i.sub, fun m hm => ?_, i.kid, fun m hm => ?_, i.thr, i.nod⟩
        · rcases List.mem_cons.1 hm with rfl | hm
          · exact i.sub _ hn
          · exact i.has _ hm
        · rcases i.snd m hm with h | ⟨r, hr, hg⟩
          · exact .inl h
          · exact .inr ⟨r, List.mem_cons_of_mem _ hr, hg⟩
      · rw [if_neg hn]
        have ht := hl n (by simp)
        have hu := unseen_add hn ht
        have fk : (kids L n).filter (thereG L) = kids L n := List.filter_eq_self.2 fun m hm => kids_there h hm
        have i1 := markF_ok h f (seen ++ [n]) ((kids L n).filter (thereG L)) (fun m hm => (List.mem_filter.1 hm).2) (by omega)
        rw [fk] at i1 ⊢
        generalize hS1 : markF L f (seen ++ [n]) (kids L n) = S1 at *
        have hu1 : unseen L S1 ≤ unseen L seen := by
          unfold unseen
          rw [← List.countP_eq_length_filter, ← List.countP_eq_length_filter]
          refine List.countP_mono_left fun i _ hi => ?_
          simp only [Bool.not_eq_true', decide_eq_false_iff_not] at hi ⊢
          exact fun hm => hi (i1.sub _ (by simp [hm]))
        have i2 := ih S1 hl' (by omega)
        refine ⟨fun m hm => i2.sub _ (i1.sub _ (by simp [hm])), fun m hm => ?_, fun m hm hx k hk => ?_, fun m hm => ?_, fun hs m hm => ?_, fun hs => ?_⟩
        · rcases List.mem_cons.1 hm with rfl | hm
          · exact i2.sub _ (i1.sub _ (by simp))
          · exact i2.has _ hm
        · by_cases hm1 : m ∈ S1
          · by_cases hmn : m = n
            · subst hmn; exact i2.sub _ (i1.has _ hk)
            · exact i2.sub _ (i1.kid m hm1 (by simp [hx, hmn]) k hk)
          · exact i2.kid m hm hm1 k hk
        · rcases i2.snd m hm with h1 | ⟨r, hr, hg⟩
          · rcases i1.snd m h1 with h2 | ⟨r, hr, hg⟩
            · rcases List.mem_append.1 h2 with h3 | h3
              · exact .inl h3
              · simp at h3; subst h3; exact .inr ⟨m, by simp, .refl⟩
            · exact .inr ⟨n, by simp, RG.head hr hg⟩
          · exact .inr ⟨r, List.mem_cons_of_mem _ hr, hg⟩
        · refine i2.thr (i1.thr fun k hk => ?_) m hm
          rcases List.mem_append.1 hk with h3 | h3
          · exact hs k h3
          · simp at h3; subst h3; exact ht
        · refine i2.nod (i1.nod ?_)
          exact List.nodup_append.2 ⟨hs, by simp, fun a ha b hb => by simp at hb; subst hb; rintro rfl; exact hn ha⟩
theorem mem_markL {L : List AObj} (h : okG L = true) (rs : List Int) (n : Int) : n ∈ markL L rs ↔ RS L rs n := by
  have i := markF_ok h (L.length + 1) [] (rs.filter (thereG L)) (fun m hm => (List.mem_filter.1 hm).2) (by have := unseen_le L []; omega)
  refine RS_of (S := fun x => x ∈ markL L rs) (fun r hr ht => i.has r (List.mem_filter.2 ⟨hr, ht⟩)) (fun x hx y hy => i.kid x hx (by simp) y hy) (fun x hx => ?_) n
  rcases i.snd x hx with h1 | ⟨r, hr, hg⟩
  · cases h1
  · obtain ⟨h1, h2⟩ := List.mem_filter.1 hr
    exact ⟨r, h1, h2, hg⟩
/-- those of all objects that are (or are not) reached -/
def thoseG (L : List AObj) (rs : List Int) (b : Bool) : List Int :=
  if okG L then ((List.range L.length).map fun (i : Nat) => ((i : Int) + 1)).filter fun n => thereG L n && (decide (n ∈ markL L rs) == b) else []
end Go.Proofs.Ytmngkodejlhalaa.Tw
namespace Go.Proofs.Ytmngkodejlhalaa.Tw
set_option linter.unusedVariables false
set_option linter.unusedSimpArgs false
open Go

structure QQ (P : Program) (ops : Array Oper) (C : World → Prop) (Q : Act → Prop) (l : List Oper) (a : Act) : Prop where
  out : wpQuiet P ops C Q l a
section
variable {P : Program} {ops : Array Oper} {C : World → Prop} {Q : Act → Prop} {a : Act} {o : Oper} {rest : List Oper}
theorem QQ.skip (hw : Region.wanted o (yielded ops a.tmps) = false) (h : QQ P ops C Q rest (a.put o.dst undef)) : QQ P ops C Q (o :: rest) a :=
  ⟨BigFrame.wpQuiet_skip hw h.out⟩
theorem QQ.want (hw : Region.wanted o (yielded ops a.tmps) = true) (h : ∃ v, (∀ w, C w → o.quietAt P a C w v) ∧ QQ P ops C Q rest (a.put o.dst v)) : QQ P ops C Q (o :: rest) a :=
  ⟨BigFrame.wpQuiet_want hw fun K hK => let ⟨v, hv, h⟩ := h; ⟨v, hv, hK _ h.out⟩⟩
theorem QQ.nil (h : Q a) : QQ P ops C Q [] a := ⟨h⟩
theorem wp_region_qq {id : Nat} {Q : Exit → Act → World → Prop} {a : Act} {w : World} {l : List Oper} (C : World → Prop) (hm : P.follows .mixedOrders = true) (hB : Region.lexB .any l.toArray = true) (hC : C w.drew)
    (h : QQ P l.toArray C (fun a' => ∀ w', C w' → Q .normal a' w') l a) : (Code.region id l.toArray true).wp P Q a w :=
  wp_region_quiet hm hB hC (by simpa using h.out)
/-- the first n operations only read; the others come in the text's order -/
theorem wp_region_tail {id : Nat} {Q : Exit → Act → World → Prop} {a : Act} {w : World} {l : List Oper} (n : Nat) (hm : P.follows .mixedOrders = true) (hB : Region.lexTailB .any l.toArray n = true)
    (h : wpStill P l.toArray w.drew (fun a' => wpList P l.toArray Q (l.drop n) a' w.drew) (l.take n) a) : (Code.region id l.toArray true).wp P Q a w := wp_region_still_tail n hm hB h
theorem results_cell {fn : Func} {p : Tmp} {ty : TypeId} (h : fn.results = #[.cell p ty]) (tmps : Array Value) (P : Program) (w : World) :
    (results fn tmps).run P w = ((asAddr (tmps.getD p undef)).run P w).andThen fun a w₁ => (loadVar ty a).run P w₁ := by
  simp only [results, h]
  simp [Sem.run_bind, Result.andThen]
theorem bodyPost_cell {P : Program} {fn : Func} {R : Ending → World → Prop} {a : Act} {w : World} {v : Value} {p : Tmp} {ty : TypeId} {ad : Addr}
    (h : fn.results = #[.cell p ty]) (ha : a.tmps.getD p undef = .pointer (some ad)) (hl : (loadVar ty ad).run P w = .ok v w) (hd : a.defers = []) (hR : R (.returned v) w) : bodyPost P fn R .ret a w := by
  refine bodyPost_ret ?_ hd hR
  rw [results_cell h, ha]
  exact hl
theorem bodyPost_cell_tmp {P : Program} {fn : Func} {R : Ending → World → Prop} {a : Act} {w : World} {v x : Value} {p u : Tmp} {ty : TypeId} {ad : Addr}
    (h : fn.results = #[.cell p ty, .tmp u]) (ha : a.tmps.getD p undef = .pointer (some ad)) (hu : a.tmps.getD u undef = x) (hl : (loadVar ty ad).run P w = .ok v w) (hd : a.defers = []) (hR : R (.returned (.tuple #[v, x])) w) : bodyPost P fn R .ret a w := by
  refine bodyPost_ret ?_ hd hR
  rw [results_cell_tmp h, ha, hu]
  simp only [asAddr, Sem.run_pure, Result.andThen_ok, hl]
end
end Go.Proofs.Ytmngkodejlhalaa.Tw
namespace Go.Proofs.Ytmngkodejlhalaa.Tw
set_option linter.unusedVariables false
set_option linter.unusedSimpArgs false
open Go Go.RowKit Go.MapKept

/-- objects in a slice, wherever SR is held -/
structure SrcO (w0 : World) (SR : HP) (a : Option Addr) (n c : Nat) (X : List XObj) : Prop where
  cell : ∀ w' G, Sat w0 w' (SR * G) → ∀ k x, X[k]? = some x → ∃ g off, a = some ⟨g, off, none⟩ ∧ w'.cell? ⟨g, off + k * 5, none⟩ = some (.int .i64 x.1.kind) ∧ w'.cell? ⟨g, off + k * 5 + 1, none⟩ = some (.int .i64 x.1.count) ∧ w'.cell? ⟨g, off + k * 5 + 2, none⟩ = some (.slice x.2.1 x.1.slots.length x.2.2) ∧ w'.cell? ⟨g, off + k * 5 + 3, none⟩ = some (.string x.1.text) ∧ w'.cell? ⟨g, off + k * 5 + 4, none⟩ = some (.int .i64 x.1.mark)
  len : X.length = n
  nil0 : a = none → n = 0 ∧ c = 0
  cap : n ≤ c ∧ c ≤ maxLen
  slots : ∀ x ∈ X, SrcV w0 SR x.2.1 x.1.slots.length x.2.2 x.1.slots ∧ x.1.slots.length ≤ 1000000
  small : n ≤ 1000000

theorem SrcV.at {w0 w : World} {SR F : HP} {a : Option Addr} {n c : Nat} {l : List AVal} (h : SrcV w0 SR a n c l) (hs : Sat w0 w (SR * F)) {k : Nat} (hk : k < n) :
    ∃ x, l[k]? = some x ∧ ∃ g off, a = some ⟨g, off, none⟩ ∧ w.cell? ⟨g, off + k * 2, none⟩ = some (.int .i64 x.kind) ∧ w.cell? ⟨g, off + k * 2 + 1, none⟩ = some (.int .i64 x.n) := by
  have e : l[k]? = some (l[k]'(by rw [h.2.1]; exact hk)) := List.getElem?_eq_getElem _
  exact ⟨_, e, h.1 _ _ hs _ _ e⟩
theorem refsV_take {l : List AVal} {k : Nat} {x : AVal} (h : l[k]? = some x) : refsV (l.take (k + 1)) = refsV (l.take k) ++ if refV x then [x.n] else [] := by
  unfold refsV
  rw [List.take_add_one, h, List.filter_append, List.map_append]
  cases hq : refV x <;> simp [List.filter_cons, hq]
theorem refsV_len (l : List AVal) (k : Nat) : (refsV (l.take k)).length ≤ k := by
  unfold refsV
  rw [List.length_map]
  have h1 := List.length_filter_le refV (l.take k)
  have h2 := List.length_take_le k l
  omega
set_option maxHeartbeats 1000000 in
theorem val_Refs {w0 w : World} {SR F : HP} {a : Option Addr} {n c : Nat} {l : List AVal} (h : Sat w0 w (SR * F)) (hS : SrcV w0 SR a n c l) (hn : n ≤ 1000000) :
    Calls Try.prog 27 #[.slice a n c] w fun e w' => ∃ ra rc, e = .returned (.slice ra (refsV l).length rc) ∧ Sat w0 w' (slc 3 1 ra (refsV l).length rc ((refsV l).map ival) * (SR * F)) := by
  have hcap := hS.2.2.2
  have hlen := hS.2.1
  have HS := Lib.hid hS
  have hall : Hid (l.take n = l) := Lib.hid (List.take_of_length_le (by omega))
  clear hS hlen
  go_enter Try.func27, Try.ntmps27
  go_wp2
  go_loopw [3, 8] (fun ov iv wr => ∃ (k : Nat) (ra : Option Addr) (rc : Nat), iv = .int .i64 k ∧ k ≤ n ∧ ov = .slice ra (refsV (l.take k)).length rc ∧ Sat w0 wr (slc 3 1 ra (refsV (l.take k)).length rc ((refsV (l.take k)).map ival) * (SR * F))) (fun _ iv _ => n - (intOf iv).toNat)
  case atStart => exact ⟨0, none, 0, rfl, by omega, rfl, h.nilSlc⟩
  case round =>
    obtain ⟨k, ra, rc, rfl, hk, rfl, hs⟩ := hrel
    have hl := refsV_len l k
    by_cases hlt : k < n
    · obtain ⟨x, hx, g, off, rfl, c0, c1⟩ := HS.out.at hs.p2 hlt
      have hT := refsV_take hx
      obtain ⟨xk, xn⟩ := x
      dsimp only at c0 c1
      have h1 := hs.alloc (.cells #[.int .i64 xk, .int .i64 xn] 33)
      have hR := val_Ref ⟨xk, xn⟩ h1
      cases hq : refV ⟨xk, xn⟩ with
      | true =>
        rw [hq] at hR hT
        have HR := Lib.hid hR
        have HT := Lib.hid hT
        clear hT hx hR hq
        generalize hL : refsV (l.take k) = L at *
        have HL := Lib.hid hL
        clear hL
        go_wp2_with fail
        refine HR.out.mono ?_
        rintro e w1 ⟨rfl, h2⟩
        have d1 : w1.cell? ⟨wr.heap.size, 1, none⟩ = some (.int .i64 xn) := Sat.cell (T := 33) (cs := #[.int .i64 xk, .int .i64 xn]) h2 1 rfl
        have h3 := h2.alloc (.cells #[.int .i64 xn] 3)
        have b0 : (w1.alloc (.cells #[.int .i64 xn] 3)).cell? ⟨w1.heap.size, 0, none⟩ = some (.int .i64 xn) := Sat.cell (T := 3) (cs := #[.int .i64 xn]) h3 0 rfl
        clear h1
        go_wp2_with (at_builtin; refine wpList_push rfl _ _ rfl ra L.length rc L rfl h3.p3 w1.heap.size 1 xn rfl b0 (by omega) ?_; intro a' c' w4 h4)
        go_roundw
        case rel =>
          refine ⟨k + 1, a', c', by go_num, by omega, ?_, ?_⟩
          · rw [HT.out]; simp
          · rw [HT.out, List.length_append]; exact h4.p3.drop.p2.drop
        case measure => simp [intOf]; omega
      | false =>
        rw [hq] at hR hT
        have HR := Lib.hid hR
        have HT := Lib.hid (hT.trans (List.append_nil _))
        clear hT hx hR hq
        generalize hL : refsV (l.take k) = L at *
        have HL := Lib.hid hL
        clear hL
        go_wp2_with fail
        refine HR.out.mono ?_
        rintro e w1 ⟨rfl, h2⟩
        clear h1
        go_wp2_with fail
        go_roundw
        case rel =>
          refine ⟨k + 1, ra, rc, by go_num, by omega, ?_, ?_⟩
          · rw [HT.out]
          · rw [HT.out]; exact h2.drop
        case measure => simp [intOf]; omega
    · have hkn : k = n := by omega
      subst hkn
      rw [hall.out] at hs hl ⊢
      go_wp2
      go_ret
      exact ⟨ra, rc, rfl, hs⟩
end Go.Proofs.Ytmngkodejlhalaa.Tw
namespace Go.Proofs.Ytmngkodejlhalaa.Tw
set_option linter.unusedVariables false
set_option linter.unusedSimpArgs false
open Go Go.RowKit Go.MapKept

theorem SrcV.mono {w0 : World} {SR C : HP} {a : Option Addr} {n c : Nat} {l : List AVal} (h : SrcV w0 SR a n c l) : SrcV w0 (SR * C) a n c l := ⟨fun w' G hs => h.1 w' (C * G) hs.assoc, h.2⟩
theorem SrcV.mono' {w0 : World} {SR C : HP} {a : Option Addr} {n c : Nat} {l : List AVal} (h : SrcV w0 SR a n c l) : SrcV w0 (C * SR) a n c l := by rw [mul_comm]; exact h.mono
theorem AsksV.mono' {w0 : World} {SR C : HP} {g : Nat} {lb : Array Value} {p : AVal → Bool} (h : AsksV w0 g lb C p) : AsksV w0 g lb (SR * C) p := fun w G x hs => (h w (SR * G) x (hs.cast (by ac_rfl))).mono fun _ _ ⟨e, h2⟩ => ⟨e, h2.cast (by ac_rfl)⟩
set_option maxHeartbeats 1000000 in
theorem indexFunc_valC {w0 w : World} {C F : HP} {a : Option Addr} {c n : Nat} {l : List AVal} (p : AVal → Bool) (g : Nat) (lb : Array Value) (eg : ∀ args w, (callFunc g args).run Try.prog w = .ok (.enter g args) w) (hp : AsksV w0 g lb C p) (h : Sat w0 w (C * F)) (hS : SrcV w0 C a n c l) (hn : n ≤ 1000000000) :
    Calls Try.prog 112 #[.slice a n c, .func (.func g) #[] lb] w fun e w' => e = .returned (.int .i64 (idxF p l)) ∧ Sat w0 w' (C * F) := by
  have HP' := Lib.hid hp
  have hl := hS.2.1
  have HSS := Lib.hid hS
  clear hp hS
  go_enter Try.func112, Try.ntmps112
  go_wp2
  go_loopw [8] (fun iv wr => ∃ k : Nat, iv = .int .i64 k ∧ k ≤ n ∧ Hid (∀ j y, j < k → l[j]? = some y → p y = false) ∧ Sat w0 wr (C * F)) (fun iv _ => n - (intOf iv).toNat)
  case atStart => exact ⟨0, rfl, by omega, Lib.hid (by intro j y hj; omega), h⟩
  case round =>
    obtain ⟨k, rfl, hk, HB, hs⟩ := hrel
    by_cases hlt : k < n
    · obtain ⟨x, hx⟩ : ∃ x, l[k]? = some x := ⟨l[k]'(by omega), List.getElem?_eq_getElem _⟩
      obtain ⟨gb, off, rfl, hc, hc1⟩ := HSS.out.1 _ _ hs _ _ hx
      have hcap := HSS.out.2.2.2
      have hcall := HP'.out wr F x hs
      have HX := Lib.hid hx
      clear hx
      cases hq : p x with
      | true =>
        rw [hq] at hcall
        have HQ := Lib.hid hq
        have HC := Lib.hid hcall
        clear hq hcall
        go_wp2_with fail
        go_at_fn g
        refine HC.out.mono ?_
        rintro e w' ⟨rfl, h2⟩
        go_wp2_with fail
        go_ret
        exact ⟨by rw [idxF_some p HX.out HQ.out HB.out]; rfl, h2⟩
      | false =>
        rw [hq] at hcall
        have HQ := Lib.hid hq
        have HC := Lib.hid hcall
        clear hq hcall
        go_wp2_with fail
        go_at_fn g
        refine HC.out.mono ?_
        rintro e w' ⟨rfl, h2⟩
        go_wp2_with fail
        go_roundw
        case rel =>
          refine ⟨k + 1, by go_num, by omega, Lib.hid ?_, h2⟩
          intro j y hj hy
          rcases Nat.lt_or_ge j k with h3 | h3
          · exact HB.out j y h3 hy
          · obtain rfl : j = k := by omega
            rw [HX.out] at hy; cases hy; exact HQ.out
        case measure => simp [intOf]; omega
    · have hkn : k = n := by omega
      go_wp2
      go_ret
      refine ⟨?_, hs⟩
      rw [idxF_none]
      · rfl
      intro x hx
      obtain ⟨j, hj, e⟩ := List.mem_iff_getElem.1 hx
      exact HB.out j x (by omega) (by rw [← e]; exact List.getElem?_eq_getElem _)
theorem containsFunc_valC {w0 w : World} {C F : HP} {a : Option Addr} {c n : Nat} {l : List AVal} (p : AVal → Bool) (g : Nat) (lb : Array Value) (eg : ∀ args w, (callFunc g args).run Try.prog w = .ok (.enter g args) w) (hp : AsksV w0 g lb C p) (h : Sat w0 w (C * F)) (hS : SrcV w0 C a n c l) (hn : n ≤ 1000000000) :
    Calls Try.prog 98 #[.slice a n c, .func (.func g) #[] lb] w fun e w' => e = .returned (.bool (l.any p)) ∧ Sat w0 w' (C * F) := by
  have HI := Lib.hid (indexFunc_valC p g lb eg hp h hS hn)
  have HD := Lib.hid (idxF_any p l)
  generalize idxF p l = r at *
  generalize l.any p = q at *
  clear hp hS
  go_enter Try.func98, Try.ntmps98
  go_wp2_with fail
  refine HI.out.mono ?_
  rintro e w' ⟨rfl, h2⟩
  go_wp2_with fail
  go_ret
  exact ⟨by rw [← HD.out]; rfl, h2⟩
end Go.Proofs.Ytmngkodejlhalaa.Tw
