/- reach.far. No condition. -/
import Derived.Test.YtmngkodejlhalaaZRPaths9
import Derived.Test.YtmngkodejlhalaaZRPaths10
import Derived.Deep.LoopGhost
import Derived.Test.YtmngkodejlhalaaRows
import Derived.Shelf.Slices.Reverse
import Derived.Ground.SlgmProg
import Derived.Shelf.SortM.Plain
import Derived.Shelf.SortM.SortNone
import Derived.Test.YtmngkodejlhalaaZRPaths5
import Derived.Lib.RowBridge
namespace Go.Proofs.Ytmngkodejlhalaa.Tw
set_option linter.unusedVariables false
set_option linter.unusedSimpArgs false
open Go Go.RowKit Go.MapKept

/-- what is known behind round k, and the holders P that came since -/
def OutP (L : List AObj) (to : Int) (k : Nat) (P : List Int) (O : List (Int × Value)) : Prop := ∀ x, mget O x = if near L to k x then some (ival (distG L to x)) else if x ∈ P then some (ival ((k : Int) + 2)) else none
def NxtP (L : List AObj) (to : Int) (k : Nat) (P : List Int) (N : List (Int × Value)) : Prop := ∀ x, (mget N x).isSome = (decide (x ∈ P) && !near L to k x)
def NxtAt (L : List AObj) (to : Int) (k : Nat) (N : List (Int × Value)) : Prop := ∀ x, (mget N x).isSome = exact L to k x
/-- P are the holders of those at distance k that are not in R any more -/
def HeldBy (L : List AObj) (to : Int) (k : Nat) (R : List (Int × Value)) (P : List Int) : Prop := ∀ x, x ∈ P ↔ ∃ n, exact L to k n = true ∧ n ∉ R.map (·.1) ∧ x ∈ holdersG L n
def farDone (L : List AObj) (to : Int) (O : List (Int × Value)) : Prop := ∀ x, mget O x = if distG L to x = 0 then none else some (ival (distG L to x))

theorem mem_holders {L : List AObj} (h : okG L = true) {x n : Int} : x ∈ holdersG L n ↔ n ∈ kids L x := by
  unfold holdersG holdL
  rw [if_pos h]
  simp only [List.mem_map, List.mem_filter, List.mem_range, decide_eq_true_eq]
  constructor
  · rintro ⟨i, ⟨_, hi⟩, rfl⟩; exact hi
  · intro hk
    have hr := kids_some hk
    exact ⟨(x - 1).toNat, ⟨by omega, by rw [show (((x - 1).toNat : Nat) : Int) + 1 = x by omega]; exact hk⟩, by omega⟩
theorem out_start {L : List AObj} {to : Int} (ht : thereG L to = true) : OutP L to 0 [] (mset [] to (ival 1)) := by
  intro x
  rw [mget_mset]
  by_cases h : x = to
  · subst h
    simp [near, distG_to ht, ival]
  · have : near L to 0 x = false := by unfold near; simp [h]
    rw [if_neg h, this]; simp [mget]
theorem nxt_start {L : List AObj} {to : Int} : NxtAt L to 0 (mset [] to (ival 1)) := by
  intro x
  rw [mget_mset]
  by_cases h : x = to
  · subst h; simp [exact, near]
  · have : exact L to 0 x = false := by unfold exact near; simp [h]
    rw [if_neg h, this]; simp [mget]
theorem OutP.in {L : List AObj} {to : Int} {k : Nat} {P : List Int} {O : List (Int × Value)} (h : OutP L to k P O) {x : Int} {v : Value} (hx : mget O x = some v) : OutP L to k (P ++ [x]) O := by
  intro y
  rw [h y]
  by_cases hn : near L to k y = true
  · rw [if_pos hn, if_pos hn]
  · rw [if_neg hn, if_neg hn]
    by_cases e : y = x
    · subst e
      have := h y
      rw [hx, if_neg hn] at this
      by_cases hp : y ∈ P
      · rw [if_pos hp, if_pos (by simp [hp])]
      · rw [if_neg hp] at this; cases this
    · have : y ∈ P ++ [x] ↔ y ∈ P := by simp [e]
      simp only [this]
theorem NxtP.in {L : List AObj} {to : Int} {k : Nat} {P : List Int} {O N : List (Int × Value)} (h : NxtP L to k P N) (ho : OutP L to k P O) {x : Int} {v : Value} (hx : mget O x = some v) : NxtP L to k (P ++ [x]) N := by
  intro y
  rw [h y]
  by_cases e : y = x
  · subst e
    have := ho y
    rw [hx] at this
    by_cases hn : near L to k y = true
    · simp [hn]
    · rw [if_neg hn] at this
      by_cases hp : y ∈ P
      · simp [hp]
      · rw [if_neg hp] at this; cases this
  · have : decide (y ∈ P ++ [x]) = decide (y ∈ P) := by simp [e]
    rw [this]
theorem OutP.put {L : List AObj} {to : Int} {k : Nat} {P : List Int} {O : List (Int × Value)} (h : OutP L to k P O) {x : Int} (hx : mget O x = none) : OutP L to k (P ++ [x]) (mset O x (ival ((k : Int) + 2))) := by
  intro y
  rw [mget_mset]
  by_cases e : y = x
  · subst e
    have := h y
    rw [hx] at this
    by_cases hn : near L to k y = true
    · rw [if_pos hn] at this; cases this
    · rw [if_pos rfl, if_neg hn, if_pos (by simp)]
  · rw [if_neg e, h y]
    have : y ∈ P ++ [x] ↔ y ∈ P := by simp [e]
    simp only [this]
theorem NxtP.put {L : List AObj} {to : Int} {k : Nat} {P : List Int} {O N : List (Int × Value)} (h : NxtP L to k P N) (ho : OutP L to k P O) {x : Int} (hx : mget O x = none) : NxtP L to k (P ++ [x]) (mset N x (ival 1)) := by
  intro y
  rw [mget_mset]
  by_cases e : y = x
  · subst e
    have := ho y
    rw [hx] at this
    by_cases hn : near L to k y = true
    · rw [if_pos hn] at this; cases this
    · simp [hn]
  · rw [if_neg e, h y]
    have : decide (y ∈ P ++ [x]) = decide (y ∈ P) := by simp [e]
    rw [this]
/-- behind a whole round -/
theorem held_step {L : List AObj} (hok : okG L = true) {to : Int} (ht : thereG L to = true) {k : Nat} {P : List Int} (h : HeldBy L to k [] P) (x : Int) : near L to (k + 1) x = (near L to k x || decide (x ∈ P)) ∧ exact L to (k + 1) x = (decide (x ∈ P) && !near L to k x) := by
  have hp : x ∈ P ↔ ∃ n ∈ kids L x, exact L to k n = true := by
    rw [h x]
    constructor
    · rintro ⟨n, h1, _, h2⟩; exact ⟨n, (mem_holders hok).1 h2, h1⟩
    · rintro ⟨n, h1, h2⟩; exact ⟨n, h2, by simp, (mem_holders hok).2 h1⟩
  have he : exact L to (k + 1) x = (decide (x ∈ P) && !near L to k x) := by
    rw [Bool.eq_iff_iff, exact_step, ← hp]; simp
  refine ⟨?_, he⟩
  cases hn : near L to k x with
  | true => rw [near_succ hn]; rfl
  | false =>
    rw [hn] at he
    have : exact L to (k + 1) x = near L to (k + 1) x := by show (near L to (k + 1) x && !near L to k x) = _; rw [hn]; simp
    rw [← this, he]; simp
theorem OutP.done {L : List AObj} (hok : okG L = true) {to : Int} (ht : thereG L to = true) {k : Nat} {P : List Int} {O : List (Int × Value)} (h : OutP L to k P O) (hh : HeldBy L to k [] P) : OutP L to (k + 1) [] O := by
  intro x
  obtain ⟨h1, h2⟩ := held_step hok ht hh x
  rw [h x, h1]
  by_cases hn : near L to k x = true
  · simp [hn]
  · have hn' : near L to k x = false := by simpa using hn
    rw [hn'] at h2 ⊢
    by_cases hp : x ∈ P
    · rw [decide_eq_true hp] at h2
      rw [(distG_exact ht).2 (show exact L to (k + 1) x = true by rw [h2]; rfl)]
      have e2 : ((k : Int) + 2) = ((k + 1 + 1 : Nat) : Int) := by omega
      rw [e2]; simp [hp]
    · simp [hp]
theorem NxtP.done {L : List AObj} (hok : okG L = true) {to : Int} (ht : thereG L to = true) {k : Nat} {P : List Int} {N : List (Int × Value)} (h : NxtP L to k P N) (hh : HeldBy L to k [] P) : NxtAt L to (k + 1) N := by
  intro x
  rw [h x, (held_step hok ht hh x).2]
/-- nobody is so far: all are known -/
theorem OutP.all {L : List AObj} {to : Int} (ht : thereG L to = true) {k : Nat} {O : List (Int × Value)} (h : OutP L to k [] O) (hn : NxtAt L to k []) : farDone L to O := by
  have hz : ∀ j x, near L to (k + j) x = near L to k x := by
    intro j
    induction j with
    | zero => intro x; rfl
    | succ j ih =>
      intro x
      cases e : near L to (k + j) x with
      | true => rw [show k + (j + 1) = k + j + 1 by omega, near_succ e, ← ih x, e]
      | false =>
        rw [← ih x, e]
        cases e2 : near L to (k + (j + 1)) x with
        | false => rfl
        | true =>
          have hx : exact L to (k + j + 1) x = true := by show (near L to (k + j + 1) x && !near L to (k + j) x) = true; rw [e, show near L to (k + j + 1) x = true from e2]; rfl
          obtain ⟨⟨m, hm, h1⟩, _⟩ := exact_step.1 hx
          exfalso
          rcases Nat.eq_zero_or_pos j with h0 | h0
          · subst h0
            have := hn m
            rw [show exact L to k m = true from h1] at this
            simp [mget] at this
          · have h2 := exact_not h1 (show k + (j - 1) < k + j by omega)
            have h3 := ih m
            rw [exact_near h1] at h3
            have h4 := near_mono h3.symm (show k ≤ k + (j - 1) by omega)
            rw [h4] at h2; cases h2
  intro x
  rw [h x]
  by_cases hd : distG L to x = 0
  · rw [(distG_zero ht).1 hd k, if_pos hd]; simp
  · rw [if_neg hd]
    have : near L to k x = true := by
      have := (near_iff ht (k := k + distG L to x)).2 ⟨hd, by omega⟩
      rw [hz] at this; exact this
    rw [if_pos this]

theorem held_start {L : List AObj} {to : Int} {k : Nat} {N : List (Int × Value)} (h : NxtAt L to k N) : HeldBy L to k N [] := by
  intro x
  constructor
  · intro hx; cases hx
  · rintro ⟨n, h1, h2, _⟩
    have := h n
    rw [h1] at this
    exact absurd (mget_key.1 this) h2
/-- one of those at distance k is looked at -/
theorem held_next {L : List AObj} {to : Int} {k : Nat} {R : List (Int × Value)} {P : List Int} {j : Nat} {n : Int} {v : Value} (h : HeldBy L to k R P) (hj : R[j]? = some (n, v)) (hR : (R.map (·.1)).Nodup) (hn : exact L to k n = true) : HeldBy L to k (R.eraseIdx j) (P ++ holdersG L n) := by
  intro x
  rw [List.mem_append, h x]
  have hmem : ∀ y, y ∈ (R.eraseIdx j).map (·.1) ↔ y ∈ R.map (·.1) ∧ y ≠ n := by
    intro y
    rw [map_eraseIdx']
    have hjm : (R.map (·.1))[j]? = some n := by rw [List.getElem?_map, hj]; rfl
    generalize R.map (·.1) = l at *
    rw [List.mem_eraseIdx_iff_getElem?]
    constructor
    · rintro ⟨i, hi, e⟩
      refine ⟨List.mem_of_getElem? e, ?_⟩
      rintro rfl
      exact hi ((List.getElem?_inj (List.getElem?_eq_some_iff.1 e).1 hR).1 (e.trans hjm.symm))
    · rintro ⟨hy, hne⟩
      obtain ⟨i, hi⟩ := List.mem_iff_getElem?.1 hy
      refine ⟨i, ?_, hi⟩
      rintro rfl
      rw [hjm] at hi; cases hi; exact hne rfl
  constructor
  · rintro (⟨m, h1, h2, h3⟩ | hx)
    · exact ⟨m, h1, fun hm => h2 ((hmem m).1 hm).1, h3⟩
    · exact ⟨n, hn, fun hm => ((hmem n).1 hm).2 rfl, hx⟩
  · rintro ⟨m, h1, h2, h3⟩
    by_cases e : m = n
    · subst e; exact .inr h3
    · refine .inl ⟨m, h1, fun hm => h2 ((hmem m).2 ⟨hm, e⟩), h3⟩
end Go.Proofs.Ytmngkodejlhalaa.Tw
namespace Go.Proofs.Ytmngkodejlhalaa.Tw
set_option linter.unusedVariables false
set_option linter.unusedSimpArgs false
open Go Go.RowKit Go.MapKept

abbrev mII (m : Nat) (L : List (Int × Value)) : HP := mapR (.int .i64) (Value.int .i64) m L
section
variable {w0 w : World} {SR F : HP} {ga : Option Addr} {n c : Nat} {X : List XObj}
def FarPost (w0 : World) (SR F : HP) (L : List AObj) (to : Int) (e : Ending) (w' : World) : Prop := ∃ m O, e = .returned (.map (some m)) ∧ farDone L to O ∧ Sat w0 w' (mII m O * (SR * F))
set_option maxRecDepth 100000 in
set_option maxHeartbeats 8000000 in
theorem reach_far (h : Sat w0 w (SR * F)) (hG : SrcO w0 SR ga n c X) (hok : okG (X.map (·.1)) = true) (to : Int) (ht : thereG (X.map (·.1)) to = true) :
    Calls Try.prog 51 #[.agg #[.slice ga n c], .int .i64 to] w (FarPost w0 SR F (X.map (·.1)) to) := by
  have h1 := (h.alloc (.cells #[.slice ga n c] 24))
  have h2 := (h1.newMap (d := .int .i64) (kv := Value.int .i64))
  rw [size_alloc] at h2
  generalize hgb : w.heap.size = gb at *
  have HG := Lib.hid hG
  have HOK := Lib.hid hok
  have HT := Lib.hid ht
  have hsm := hG.small
  have HLN := Lib.hid (show (X.map (·.1)).length = n by rw [List.length_map]; exact hG.len)
  clear hG hok ht
  have hmm := @run_makeMap Try.prog
  go_enter Try.func51, Try.ntmps51
  try rw [hgb]
  go_wp2_with (first
    | (refine wpList_insert rfl _ _ _ _ rfl (keys_int .i64) Try.underlying60 Try.underlying3 (gb + 1) [] rfl h2 to rfl (.int .i64 1) rfl ?_; intro w2 h3; have h4 := h3.newMap (d := .int .i64) (kv := Value.int .i64); generalize hnb : w2.heap.size = nb at *)
    | (refine wpList_insert rfl _ _ _ _ rfl (keys_int .i64) Try.underlying60 Try.underlying3 nb [] rfl h4 to rfl (.int .i64 1) rfl ?_; intro w3 h5))
  have h6 : Sat w0 w3 (mII (gb + 1) (mset [] to (ival 1)) * (mII nb (mset [] to (ival 1)) * (pt gb (.cells #[.slice ga n c] 24 (0, 0)) * (SR * F)))) := h5.p2
  have c0 := boxG h6.p3
  clear h1 h2 h3 h4 h5 h
  go_loopw [6, 7] (fun nv rv wr => ∃ (k : Nat) (O N : List (Int × Value)) (nb : Nat), nv = .map (some nb) ∧ rv = .int .i64 ((k : Int) + 2) ∧ k ≤ n ∧ Hid (OutP (X.map (·.1)) to k [] O) ∧ Hid (NxtAt (X.map (·.1)) to k N) ∧ Sat w0 wr (mII (gb + 1) O * (mII nb N * (pt gb (.cells #[.slice ga n c] 24 (0, 0)) * (SR * F))))) (fun _ rv _ => n + 3 - (intOf rv).toNat)
  case atStart => exact ⟨0, _, _, nb, rfl, rfl, by omega, Lib.hid (out_start HT.out), Lib.hid nxt_start, h6⟩
  case round =>
    obtain ⟨k, O, N, nb2, rfl, rfl, hk, HO, HN, hs⟩ := hrel
    have g0 := boxG hs.p3
    have hln := fun ty => run_len_map hs.p2 Try.underlying60 ty
    by_cases hN : N = []
    · subst hN
      go_wp2_with fail
      go_ret
      exact ⟨gb + 1, O, rfl, HO.out.all HT.out HN.out, hs.p2.drop.p2.drop⟩
    · have hpos : 0 < N.length := List.length_pos_iff.2 hN
      have hkn : k < n := by
        obtain ⟨⟨x, v⟩, hx⟩ := List.exists_mem_of_length_pos hpos
        have := HN.out x
        rw [mget_key.2 (List.mem_map_of_mem hx)] at this
        have := exact_lt HT.out this.symm
        rw [HLN.out] at this; exact this
      have hnd := hs.p2.openMap.1
      have hNk : ∀ j x v, N[j]? = some (x, v) → exact (X.map (·.1)) to k x = true := fun j x v hx => by
        have := HN.out x
        rw [mget_key.2 (List.mem_map_of_mem (List.mem_of_getElem? hx))] at this
        exact this.symm
      have HNK := Lib.hid (And.intro hnd hNk)
      have h7 := (hs.p2.newMap (d := .int .i64) (kv := Value.int .i64)).p2
      generalize hb3 : wr.heap.size = b3 at *
      clear hnd hNk
      have hpos' : (0 : Int) < (N.length : Int) := by omega
      go_wp2_with (first
        | (at_range; refine wpList_range rfl _ 60 rfl Try.underlying60 nb2 rfl h7 ?_; intro it w4 h8))
      clear hln g0 c0 h6 hs h7
      go_frame
      go_loopg [9] N.length (fun gk v wv => ∃ (R M : List (Int × Value)) (cur : Option (Int × Value)) (P : List Int) (O2 N2 : List (Int × Value)), R.length = gk ∧ Hid ((R.map (·.1)).Nodup ∧ ∀ y ∈ R, y ∈ N) ∧ Hid (HeldBy (X.map (·.1)) to k R P ∧ OutP (X.map (·.1)) to k P O2 ∧ NxtP (X.map (·.1)) to k P N2) ∧
        Sat w0 wv (iterR (.int .i64) (Value.int .i64) nb2 it M R cur * (mII b3 N2 * (mII (gb + 1) O2 * (pt gb (.cells #[.slice ga n c] 24 (0, 0)) * (SR * F))))))
      case atStart => exact ⟨N, N, none, [], O, [], rfl, Lib.hid ⟨HNK.out.1, fun y hy => hy⟩, Lib.hid ⟨held_start HN.out, HO.out, fun x => by simp [mget]⟩, h8⟩
      case round =>
        obtain ⟨R, M, cur, P, O2, N2, hR, HRN, HP, hs2⟩ := hrel
        clear h8
        by_cases hR0 : R = []
        · subst hR0
          clear hR
          go_wp2_with (at_next; refine wpList_next_end rfl _ rfl it rfl hs2 ?_; intro w5 h9)
          go_roundw
          case rel =>
            obtain ⟨p1, p2, p3⟩ := HP.out
            exact ⟨k + 1, O2, N2, b3, rfl, by go_num, by omega, Lib.hid (p2.done HOK.out HT.out p1), Lib.hid (p3.done HOK.out HT.out p1), h9.drop.p2⟩
          case measure => simp [intOf]; omega
        · have HR := Lib.hid hR
          clear hR
          go_wp2_with (first
            | (at_next; refine wpList_next_some rfl _ rfl it rfl hs2 hR0 ?_; intro j x v w5 hj h9; have Hj := Lib.hid hj; clear hj)
            | (refine wpList_entry rfl _ rfl it rfl h9 ?_)
            | (refine wpList_delete_iter rfl _ _ 60 3 rfl (keys_int .i64) Try.underlying60 Try.underlying3 rfl h9 rfl ?_; intro w6 h10; have g6 := boxG h10.p4))
          obtain ⟨p1, p2, p3⟩ := HP.out
          have hex := HNK.out.2
          have hxk : exact (X.map (·.1)) to k x = true := by
            obtain ⟨j2, hj2⟩ := List.mem_iff_getElem?.1 (HRN.out.2 _ (List.mem_of_getElem? Hj.out))
            exact hex j2 x v hj2
          have HH := Lib.hid (held_next p1 Hj.out HRN.out.1 hxk)
          have HPP := Lib.hid (And.intro p2 p3)
          have hHo := graph_Holders (h10.p5) HG.out x HOK.out rfl
          have hhl : (holdersG (X.map (·.1)) x).length ≤ n := by
            unfold holdersG
            rw [if_pos HOK.out]
            have := holdL_len (X.map (·.1)) x (X.map (·.1)).length
            rw [HLN.out] at this ⊢; exact this
          generalize holdersG (X.map (·.1)) x = hl at *
          have HHo := Lib.hid hHo
          clear p1 p2 p3 hex hxk hHo hs2 h9
          go_wp2_with fail
          refine HHo.out.mono ?_
          rintro e w7 ⟨ra, rc, rfl, h11⟩
          clear HHo h10 g6
          go_wp2_with fail
          go_loopw [39] (fun iv wi => ∃ (i : Nat) (O3 N3 : List (Int × Value)), iv = .int .i64 i ∧ i ≤ hl.length ∧ Hid (OutP (X.map (·.1)) to k (P ++ hl.take i) O3 ∧ NxtP (X.map (·.1)) to k (P ++ hl.take i) N3) ∧
            Sat w0 wi (slc 3 1 ra hl.length rc (hl.map ival) * (SR * (iterR (.int .i64) (Value.int .i64) nb2 it (mdel M x) (R.eraseIdx j) none * (mII b3 N3 * (mII (gb + 1) O3 * (pt gb (.cells #[.slice ga n c] 24 (0, 0)) * F)))))) ) (fun iv _ => hl.length - (intOf iv).toNat)
          case atStart => exact ⟨0, O2, N2, rfl, by omega, Lib.hid (by rw [List.take_zero, List.append_nil]; exact HPP.out), h11.cast (by ac_rfl)⟩
          case round =>
            obtain ⟨i, O3, N3, rfl, hi, HQ, hs3⟩ := hrel
            by_cases hlt : i < hl.length
            · obtain ⟨y, hy⟩ : ∃ y, hl[i]? = some y := ⟨hl[i], List.getElem?_eq_getElem hlt⟩
              obtain ⟨g, off, rfl, e0, _⟩ := intCells hs3 hy
              have htk : P ++ hl.take (i + 1) = P ++ hl.take i ++ [y] := by rw [List.take_add_one, hy, List.append_assoc]; rfl
              have hcap := hs3.slcCap
              have hlk := run_lookup_ok (keys_int .i64) hs3.p5 Try.underlying60 Try.underlying3 (zero_int _) y
              obtain ⟨q1, q2⟩ := HQ.out
              cases ho : mget O3 y with
              | some u =>
                rw [ho] at hlk
                have HQ2 : Hid (OutP (X.map (·.1)) to k (P ++ hl.take (i + 1)) O3 ∧ NxtP (X.map (·.1)) to k (P ++ hl.take (i + 1)) N3) := Lib.hid (by rw [htk]; exact ⟨q1.in ho, q2.in q1 ho⟩)
                clear htk hy q1 q2 ho
                simp only [Option.getD_some, Option.isSome_some] at hlk
                go_wp2_with fail
                go_roundw
                case rel => exact ⟨i + 1, O3, N3, by go_num, by omega, HQ2, hs3⟩
                case measure => simp [intOf]; omega
              | none =>
                rw [ho] at hlk
                have HQ2 : Hid (OutP (X.map (·.1)) to k (P ++ hl.take (i + 1)) (mset O3 y (ival ((k : Int) + 2))) ∧ NxtP (X.map (·.1)) to k (P ++ hl.take (i + 1)) (mset N3 y (ival 1))) := Lib.hid (by rw [htk]; exact ⟨q1.put ho, q2.put q1 ho⟩)
                clear htk hy q1 q2 ho
                simp only [Option.getD_none, Option.isSome_none] at hlk
                go_wp2_with (first
                  | (at_mapUpdate; refine wpList_mapUpdate rfl _ _ _ _ rfl (keys_int .i64) Try.underlying60 Try.underlying3 (gb + 1) O3 rfl hs3.p5 y rfl (.int .i64 ((k : Int) + 2)) rfl ?_; intro w8 h12)
                  | (at_mapUpdate; refine wpList_mapUpdate rfl _ _ _ _ rfl (keys_int .i64) Try.underlying60 Try.underlying3 b3 N3 rfl h12.p5 y rfl (.int .i64 1) rfl ?_; intro w9 h13))
                go_roundw
                case rel =>
                  have h14 : Sat w0 w9 (mII b3 (mset N3 y (ival 1)) * (mII (gb + 1) (mset O3 y (ival ((k : Int) + 2))) * (slc 3 1 (some ⟨g, off, none⟩) hl.length rc (hl.map ival) * (SR * (iterR (.int .i64) (Value.int .i64) nb2 it (mdel M x) (R.eraseIdx j) none * (pt gb (.cells #[.slice ga n c] 24 (0, 0)) * F)))))) := h13
                  exact ⟨i + 1, _, _, by go_num, by omega, HQ2, h14.cast (by ac_rfl)⟩
                case measure => simp [intOf]; omega
            · have hkn : i = hl.length := by omega
              subst hkn
              go_wp2_with fail
              go_roundg (R.length - 1)
              case measure => have := HR.out; have : 0 < R.length := List.length_pos_iff.2 hR0; omega
              case rel =>
                have hlen : (R.eraseIdx j).length = R.length - 1 := by
                  have := (List.getElem?_eq_some_iff.1 Hj.out).1
                  rw [List.length_eraseIdx, if_pos this]
                have hq := HQ.out
                rw [List.take_of_length_le (Nat.le_refl _)] at hq
                refine ⟨R.eraseIdx j, mdel M x, none, P ++ hl, O3, N3, hlen, Lib.hid ⟨?_, fun z hz => HRN.out.2 z (List.mem_of_mem_eraseIdx hz)⟩, Lib.hid ⟨HH.out, hq⟩, hs3.drop.cast (by ac_rfl)⟩
                rw [map_eraseIdx']
                exact HRN.out.1.eraseIdx _
end
end Go.Proofs.Ytmngkodejlhalaa.Tw
namespace Go.Proofs.Ytmngkodejlhalaa.Sh
set_option linter.unusedVariables false
set_option linter.unusedSimpArgs false
open Go Go.Shelf Go.RowKit Go.Lib Go.Sort
def sh_laysSort_ren : Go.Shelf.Ren := ⟨fun | 5 => 90 | 8 => 111 | 7 => 110 | 19 => 124 | 20 => 125 | 10 => 115 | 11 => 116 | 12 => 117 | 13 => 118 | 14 => 119 | 15 => 120 | 16 => 121 | 17 => 122 | 18 => 123 | 30 => 127 | 31 => 128 | 32 => 129 | 33 => 130 | 34 => 131 | 35 => 106 | 40 => 133 | n => n, fun | 23 => 28 | 25 => 3 | 3 => 3 | 32 => 101 | 22 => 28 | 0 => 0 | 44 => 115 | 46 => 117 | 4 => 4 | 36 => 108 | 35 => 107 | 41 => 87 | 5 => 5 | 9 => 9 | 53 => 118 | 57 => 122 | 63 => 124 | 64 => 125 | n => n, fun | n => n⟩
theorem sh_laysSort : Go.Proofs.SlLaysM.n5 Try.prog sh_laysSort_ren := {
  mixed := by kernel_rfl
  f5 := ⟨Try.f90.name, by decide, Try.func90.trans (congrArg some (by kernel_rfl))⟩
  f7 := ⟨Try.f110.name, by decide, Try.func110.trans (congrArg some (by kernel_rfl))⟩
  f8 := Try.func111.trans (congrArg some (by kernel_rfl))
  f10 := ⟨Try.f115.name, by decide, Try.func115.trans (congrArg some (by kernel_rfl))⟩
  f11 := ⟨Try.f116.name, by decide, Try.func116.trans (congrArg some (by kernel_rfl))⟩
  f12 := ⟨Try.f117.name, by decide, Try.func117.trans (congrArg some (by kernel_rfl))⟩
  f13 := ⟨Try.f118.name, by decide, Try.func118.trans (congrArg some (by kernel_rfl))⟩
  f14 := ⟨Try.f119.name, by decide, Try.func119.trans (congrArg some (by kernel_rfl))⟩
  f15 := ⟨Try.f120.name, by decide, Try.func120.trans (congrArg some (by kernel_rfl))⟩
  f16 := ⟨Try.f121.name, by decide, Try.func121.trans (congrArg some (by kernel_rfl))⟩
  f17 := ⟨Try.f122.name, by decide, Try.func122.trans (congrArg some (by kernel_rfl))⟩
  f18 := ⟨Try.f123.name, by decide, Try.func123.trans (congrArg some (by kernel_rfl))⟩
  f19 := Try.func124.trans (congrArg some (by kernel_rfl))
  f20 := Try.func125.trans (congrArg some (by kernel_rfl))
  f30 := ⟨Try.f127.name, by decide, Try.func127.trans (congrArg some (by kernel_rfl))⟩
  f31 := Try.func128.trans (congrArg some (by kernel_rfl))
  f32 := Try.func129.trans (congrArg some (by kernel_rfl))
  f33 := ⟨Try.f130.name, by decide, Try.func130.trans (congrArg some (by kernel_rfl))⟩
  f34 := ⟨Try.f131.name, by decide, Try.func131.trans (congrArg some (by kernel_rfl))⟩
  f35 := ⟨Try.f106.name, by decide, Try.func106.trans (congrArg some (by kernel_rfl))⟩
  f40 := ⟨Try.f133.name, by decide, Try.func133.trans (congrArg some (by kernel_rfl))⟩
  t0 := Try.underlying0
  a0 := Try.isAgg0
  z0 := Try.sizeOf0
  v0 := Try.zeroValue0
  t3 := Try.underlying3
  a3 := Try.isAgg3
  z3 := Try.sizeOf3
  v3 := Try.zeroValue3
  t4 := Try.underlying4
  a4 := Try.isAgg4
  z4 := Try.sizeOf4
  v4 := Try.zeroValue4
  t5 := Try.underlying5
  a5 := Try.isAgg5
  z5 := Try.sizeOf5
  v5 := Try.zeroValue5
  t9 := Try.underlying9
  a9 := Try.isAgg9
  z9 := Try.sizeOf9
  v9 := Try.zeroValue9
  t22 := Try.underlying28
  a22 := Try.isAgg28
  z22 := Try.sizeOf28
  v22 := Try.zeroValue28
  t23 := Try.underlying28
  a23 := Try.isAgg28
  z23 := Try.sizeOf28
  v23 := Try.zeroValue28
  t25 := Try.underlying3
  a25 := Try.isAgg3
  z25 := Try.sizeOf3
  v25 := Try.zeroValue3
  t32 := Try.underlying101
  a32 := Try.isAgg101
  z32 := Try.sizeOf101
  v32 := Try.zeroValue101
  t35 := Try.underlying107
  a35 := Try.isAgg107
  z35 := Try.sizeOf107
  v35 := Try.zeroValue107
  t36 := Try.underlying108
  a36 := Try.isAgg108
  z36 := Try.sizeOf108
  v36 := Try.zeroValue108
  t41 := Try.underlying87
  a41 := Try.isAgg87
  z41 := Try.sizeOf87
  v41 := Try.zeroValue87
  t44 := Try.underlying115
  a44 := Try.isAgg115
  z44 := Try.sizeOf115
  v44 := Try.zeroValue115
  t46 := Try.underlying117
  a46 := Try.isAgg117
  z46 := Try.sizeOf117
  v46 := Try.zeroValue117
  t53 := Try.underlying118
  a53 := Try.isAgg118
  z53 := Try.sizeOf118
  v53 := Try.zeroValue118
  t57 := Try.underlying122
  a57 := Try.isAgg122
  z57 := Try.sizeOf122
  v57 := Try.zeroValue122
  t63 := Try.underlying124
  a63 := Try.isAgg124
  z63 := Try.sizeOf124
  v63 := Try.zeroValue124
  t64 := Try.underlying125
  a64 := Try.isAgg125
  z64 := Try.sizeOf125
  v64 := Try.zeroValue125 }
theorem sh_slices_Sort_int (blk off cap : Nat) (zs : List Int) (w : World) (hH : Holds (Value.int .i64) w blk off zs.toArray) (hblk : blk < w.heap.size) (hsz : zs.length < 4611686018427387904) :
    Calls Try.prog 90 #[.slice (some ⟨blk, off, none⟩) zs.length cap] w fun e w' =>
      e = .returned (.tuple #[]) ∧ ∃ n os, w' = grow (putRow (Value.int .i64) (Sort.ahead w n) blk off (zs.mergeSort fun x y => decide (x ≤ y)).toArray) os := AnyM.slices_Sort_int sh_laysSort blk off cap zs w hH hblk hsz
theorem sh_slices_Sort_int_none (p : Option Addr) (cap : Nat) (w : World) :
    Calls Try.prog 90 #[.slice p 0 cap] w fun e w' => e = .returned (.tuple #[]) ∧ w' = w := AnyM.slices_Sort_int_none sh_laysSort p cap w
end Go.Proofs.Ytmngkodejlhalaa.Sh
namespace Go.Proofs.Ytmngkodejlhalaa.Tw
set_option linter.unusedVariables false
set_option linter.unusedSimpArgs false
open Go Go.RowKit Go.MapKept

section
variable {w0 w : World} {F : HP}
theorem Sat.grow (h : Sat w0 w F) (os : Array Obj) : Sat w0 (Sort.grow w os) F := by
  obtain ⟨⟨h1, h2, h3, h4⟩, x, p, r⟩ := h
  refine ⟨⟨h1, h2, h3, ?_⟩, x, p, fun k ob e => ?_⟩
  · show _ ≤ (w.heap ++ os).size
    rw [Array.size_append]; omega
  · have := r k ob e
    show (w.heap ++ os)[k]? = _
    rw [Array.getElem?_append_left (Array.getElem?_eq_some_iff.1 this).1]; exact this
/-- all cells of an owned slice, turned -/
theorem Sat.slcAll {T : TypeId} {n c g off : Nat} : ∀ (vs : List Value) (j : Nat) (w : World) (xs : List Value), Sat w0 w (slc T 1 (some ⟨g, off, none⟩) n c xs * F) → j + vs.length ≤ n →
    Sat w0 (w.setCells g (off + j) vs) (slc T 1 (some ⟨g, off, none⟩) n c (xs.take j ++ vs ++ xs.drop (j + vs.length)) * F)
  | [], j, w, xs, h, _ => by simpa [World.setCells] using h
  | v :: vs, j, w, xs, h, hl => by
    have hx := h.slcLen
    simp only [List.length_cons] at hl
    have h1 := h.slcStore (j := j) (by omega) v
    have h2 := Sat.slcAll vs (j + 1) _ _ h1 (by omega)
    have e : (xs.set j v).take (j + 1) ++ vs ++ (xs.set j v).drop (j + 1 + vs.length) = xs.take j ++ (v :: vs) ++ xs.drop (j + (v :: vs).length) := by
      have hj : j < xs.length := by omega
      rw [List.take_add_one, List.take_set_of_le (Nat.le_refl _), List.getElem?_set, List.drop_set]
      simp only [if_true, hj, if_pos, Option.toList_some, List.length_cons]
      rw [if_pos (by omega), show j + 1 + vs.length = j + (vs.length + 1) by omega]
      simp
    rw [e] at h2
    exact h2
theorem slcHolds {n c g off : Nat} {l : List Int} (h : Sat w0 w (slc 3 1 (some ⟨g, off, none⟩) n c (l.map ival) * F)) : Sort.Holds (Value.int .i64) w g off l.toArray := by
  intro j hj
  have hj' : j < l.length := by simpa using hj
  obtain ⟨g', off', e, h1, h2⟩ := intCells h (List.getElem?_eq_getElem hj')
  cases e
  refine ⟨?_, h2⟩
  rw [h1]
  simp [getElem!_pos, hj']
theorem Sat.putRow {n c g off q : Nat} {l l' : List Int} (h : Sat w0 w (slc 3 1 (some ⟨g, off, none⟩) n c (l.map ival) * F)) (hl : l.length = n) (hl' : l'.length = n) :
    Sat w0 (Sort.putRow (Value.int .i64) (Sort.ahead w q) g off l'.toArray) (slc 3 1 (some ⟨g, off, none⟩) n c (l'.map ival) * F) := by
  rw [Lib.putRow_eq_setCells (Value.int .i64) w g off l.toArray l' q (slcHolds h) (by simp [hl, hl'])]
  have h2 := (h.drewN q).slcAll (l'.map (Value.int .i64)) 0 _ _ (by simp [hl'])
  simp only [Nat.add_zero, List.take_zero, List.nil_append, Nat.zero_add, List.length_map] at h2
  rw [List.drop_of_length_le (by simp [hl, hl']), List.append_nil] at h2
  exact h2
def sortI (l : List Int) : List Int := l.mergeSort fun x y => decide (x ≤ y)
theorem sort_sat {sa : Option Addr} {n c : Nat} {l : List Int} (h : Sat w0 w (slc 3 1 sa n c (l.map ival) * F)) (hl : l.length = n) (hn : n ≤ 1000000000) :
    Calls Try.prog 90 #[.slice sa n c] w fun e w' => e = .returned (.tuple #[]) ∧ Sat w0 w' (slc 3 1 sa n c ((sortI l).map ival) * F) := by
  subst hl
  rcases h.openSlc.2 with ⟨rfl, e1, rfl, hF⟩ | ⟨g, off, cur, rfl, e2, e3, e4, e5, e6⟩
  · have : l = [] := List.eq_nil_of_length_eq_zero e1
    subst this
    refine (Sh.sh_slices_Sort_int_none none 0 w).mono ?_
    rintro e w' ⟨rfl, rfl⟩
    refine ⟨rfl, ?_⟩
    have : sortI [] = [] := by simp [sortI]
    rw [this]; exact h
  · refine (Sh.sh_slices_Sort_int g off c l w (slcHolds h) e6.lt (by omega)).mono ?_
    rintro e w' ⟨rfl, q, os, rfl⟩
    exact ⟨rfl, (h.putRow rfl (by simp)).grow os⟩
end
end Go.Proofs.Ytmngkodejlhalaa.Tw
