/- reach.Path. No condition. -/
import Derived.Test.YtmngkodejlhalaaGr10
import Derived.Test.YtmngkodejlhalaaGSeq
namespace Go.Proofs.Ytmngkodejlhalaa.Tw
set_option linter.unusedVariables false
set_option linter.unusedSimpArgs false
open Go Go.RowKit Go.MapKept

/-- is m the next one of a way? -/
def nextB (L : List AObj) (to at_ m : Int) : Bool := decide ((distG L to m : Int) = (distG L to at_ : Int) - 1)
def nextG (L : List AObj) (to at_ : Int) : Int := ((sortI (kids L at_))[(idxF (nextB L to at_) (sortI (kids L at_))).toNat]?).getD 0
def pathF (L : List AObj) (to : Int) : Nat → Int → List Int
  | 0, x => [x]
  | f + 1, x => x :: pathF L to f (nextG L to x)
def pathG (L : List AObj) (root : AVal) (to : Int) : List Int :=
  if okG L && (refV root && (thereG L root.n && (thereG L to && !decide (distG L to root.n = 0)))) then pathF L to (distG L to root.n - 1) root.n else []
theorem mem_sortI {l : List Int} {x : Int} : x ∈ sortI l ↔ x ∈ l := by unfold sortI; exact (List.mergeSort_perm _ _).mem_iff
theorem nextG_spec {L : List AObj} {to x : Int} (ht : thereG L to = true) (hx : 2 ≤ distG L to x) : ∃ k : Nat, idxF (nextB L to x) (sortI (kids L x)) = k ∧ (sortI (kids L x))[k]? = some (nextG L to x) ∧ nextG L to x ∈ kids L x ∧ distG L to (nextG L to x) + 1 = distG L to x := by
  obtain ⟨j, hj⟩ : ∃ j, distG L to x = j + 2 := ⟨distG L to x - 2, by omega⟩
  obtain ⟨m, hm, hd⟩ := distG_next ht hj
  rcases idxF_cases (nextB L to x) (sortI (kids L x)) with ⟨_, h⟩ | ⟨k, y, e, hy, hp, _⟩
  · have := h m (mem_sortI.2 hm)
    unfold nextB at this
    simp at this; omega
  · have hn : nextG L to x = y := by unfold nextG; rw [e, Int.toNat_natCast, hy]; rfl
    refine ⟨k, e, by rw [hn]; exact hy, by rw [hn]; exact mem_sortI.1 (List.mem_of_getElem? hy), ?_⟩
    rw [hn]
    unfold nextB at hp
    simp at hp; omega
theorem pathF_len (L : List AObj) (to : Int) : ∀ (f : Nat) (x : Int), (pathF L to f x).length = f + 1
  | 0, x => rfl
  | f + 1, x => by unfold pathF; rw [List.length_cons, pathF_len L to f]
section
variable {w0 w : World} {SR F : HP} {ga : Option Addr} {n c : Nat} {X : List XObj}
theorem litS {b k : Nat} {l : List Int} (h : Sat w0 w (pt b (.cells (l.map ival).toArray 3 (0, 0)) * F)) (hl : l.length = k) (hk : k ≤ 1000000000) : Sat w0 w (slc 3 1 (some ⟨b, 0, none⟩) k k (l.map ival) * F) :=
  Sat.shutSlc (g := b) (off := 0) (cur := (l.map ival).toArray) h (Nat.le_refl _) (by unfold maxLen; omega) (by simp [hl]) (by simp only [List.drop_zero, Nat.mul_one]; exact List.take_of_length_le (by simp [hl]))
theorem boxI {b : Nat} {x : Int} (h : Sat w0 w (pt b (.cells #[.int .i64 x] 3 (0, 0)) * F)) : w.cell? ⟨b, 0, none⟩ = some (.int .i64 x) ∧ w.frozen? ⟨b, 0, none⟩ = false :=
  ⟨Sat.cell (T := 3) (cs := #[.int .i64 x]) h 0 rfl, Sat.free (T := 3) (cs := #[.int .i64 x]) h 0⟩
theorem look_far {m : Nat} {O : List (Int × Value)} {L : List AObj} {to : Int} (h : Sat w0 w (mII m O * F)) (hd : farDone L to O) (x : Int) : (Instr.lookup 60 (.map (some m)) (.int .i64 x) false).run Try.prog w = .ok (.int .i64 (distG L to x)) w := by
  have := run_lookup (keys_int .i64) h Try.underlying60 Try.underlying3 (zero_int w) x
  rw [this, hd x]
  by_cases hx : distG L to x = 0
  · simp [hx]
  · simp [hx, ival]
theorem way_one {a : Option Addr} {k mb mc : Nat} {l : List Int} {x : Int} (h : Sat w0 w (slc 3 1 a l.length k (l.map ival) * F)) (hc : w.cell? ⟨mb, 0, none⟩ = some (.int .i64 x)) (hl : l.length ≤ 100000000) :
    Calls Try.prog 52 #[.slice a l.length k, .slice (some ⟨mb, 0, none⟩) 1 mc] w fun e w' => ∃ a' k', e = .returned (.slice a' (l.length + 1) k') ∧ Sat w0 w' (slc 3 1 a' (l.length + 1) k' ((l ++ [x]).map ival) * F) := by
  go_enter Try.func52, Try.ntmps52
  go_wp2_with (at_builtin; refine wpList_push rfl _ _ rfl a l.length k l rfl h mb mc x rfl hc (by omega) ?_; intro a' c' w7 h7)
  go_ret
  exact ⟨a', c', rfl, h7⟩
/-- what Path has captured -/
def pathC (lb ab m : Nat) (at_ : Int) (O : List (Int × Value)) : HP := pt lb (.cells #[.map (some m)] 60 (0, 0)) * (pt ab (.cells #[.int .i64 at_] 3 (0, 0)) * mII m O)
theorem pathC_cells {lb ab m : Nat} {at_ : Int} {O : List (Int × Value)} (h : Sat w0 w (pathC lb ab m at_ O * F)) : w.cell? ⟨lb, 0, none⟩ = some (.map (some m)) ∧ w.cell? ⟨ab, 0, none⟩ = some (.int .i64 at_) ∧ w.frozen? ⟨ab, 0, none⟩ = false ∧ Sat w0 w (mII m O * (pt lb (.cells #[.map (some m)] 60 (0, 0)) * (pt ab (.cells #[.int .i64 at_] 3 (0, 0)) * F))) := by
  have h' : Sat w0 w (pt lb (.cells #[.map (some m)] 60 (0, 0)) * (pt ab (.cells #[.int .i64 at_] 3 (0, 0)) * (mII m O * F))) := h.cast (by unfold pathC; ac_rfl)
  exact ⟨boxM h', (boxI h'.p2).1, (boxI h'.p2).2, h'.p3⟩
theorem path_fn {lb ab m : Nat} {at_ to : Int} {O : List (Int × Value)} {L : List AObj} (hd : farDone L to O) (hdl : ∀ x, distG L to x ≤ 1000000) : Asks w0 56 #[.pointer (some ⟨lb, 0, none⟩), .pointer (some ⟨ab, 0, none⟩)] (pathC lb ab m at_ O) (nextB L to at_) := by
  intro w1 G x h
  obtain ⟨c0, c1, _, h2⟩ := pathC_cells h
  have hl1 := look_far h2 hd x
  have hl2 := look_far h2 hd at_
  have hb1 := hdl x
  have hb2 := hdl at_
  have HB := Lib.hid (show nextB L to at_ x = ((distG L to x : Int) == (distG L to at_ : Int) - 1) by unfold nextB; rw [Bool.eq_iff_iff]; simp)
  clear hd hdl
  generalize distG L to x = dx at *
  generalize distG L to at_ = da at *
  have hw : IntKind.i64.wrap ((da : Int) - 1) = (da : Int) - 1 := IntWalk.i64_in _ (by omega)
  show Calls Try.prog 56 #[.int .i64 x, .pointer (some ⟨lb, 0, none⟩), .pointer (some ⟨ab, 0, none⟩)] w1 _
  go_enter Try.func56, Try.ntmps56
  go_wp2
  go_ret
  exact ⟨by rw [HB.out]; rfl, h⟩
end
end Go.Proofs.Ytmngkodejlhalaa.Tw
