/- reach.far: the walk. No condition. -/
import Derived.Test.YtmngkodejlhalaaGr9
import Derived.Deep.LoopGhost
namespace Go.Proofs.Ytmngkodejlhalaa.Tw
set_option linter.unusedVariables false
set_option linter.unusedSimpArgs false
open Go Go.RowKit Go.MapKept

abbrev mII (m : Nat) (L : List (Int × Value)) : HP := mapR (.int .i64) (Value.int .i64) m L
section
variable {w0 w : World} {SR F : HP} {ga : Option Addr} {n c : Nat} {X : List XObj}
def FarPost (w0 : World) (SR F : HP) (L : List AObj) (to : Int) (e : Ending) (w' : World) : Prop := ∃ m O, e = .returned (.map (some m)) ∧ farDone L to O ∧ Sat w0 w' (mII m O * (SR * F))
set_option maxRecDepth 100000 in
set_option maxHeartbeats 8000000 in
theorem reach_far (h : Sat w0 w (SR * F)) (hG : SrcO w0 SR ga n c X) (hok : okG (X.map (·.1)) = true) (to : Int) (ht : thereG (X.map (·.1)) to = true) :
    Calls Try.prog 51 #[.agg #[.slice ga n c], .int .i64 to] w (FarPost w0 SR F (X.map (·.1)) to) := by
  have h1 := (h.alloc (.cells #[.slice ga n c] 24))
  have h2 := (h1.newMap (d := .int .i64) (kv := Value.int .i64))
  rw [size_alloc] at h2
  generalize hgb : w.heap.size = gb at *
  have HG := Lib.hid hG
  have HOK := Lib.hid hok
  have HT := Lib.hid ht
  have hsm := hG.small
  have HLN := Lib.hid (show (X.map (·.1)).length = n by rw [List.length_map]; exact hG.len)
  clear hG hok ht
  have hmm := @run_makeMap Try.prog
  go_enter Try.func51, Try.ntmps51
  try rw [hgb]
  go_wp2_with (first
    | (refine wpList_insert rfl _ _ _ _ rfl (keys_int .i64) Try.underlying60 Try.underlying3 (gb + 1) [] rfl h2 to rfl (.int .i64 1) rfl ?_; intro w2 h3; have h4 := h3.newMap (d := .int .i64) (kv := Value.int .i64); generalize hnb : w2.heap.size = nb at *)
    | (refine wpList_insert rfl _ _ _ _ rfl (keys_int .i64) Try.underlying60 Try.underlying3 nb [] rfl h4 to rfl (.int .i64 1) rfl ?_; intro w3 h5))
  have h6 : Sat w0 w3 (mII (gb + 1) (mset [] to (ival 1)) * (mII nb (mset [] to (ival 1)) * (pt gb (.cells #[.slice ga n c] 24 (0, 0)) * (SR * F)))) := h5.p2
  have c0 := boxG h6.p3
  clear h1 h2 h3 h4 h5 h
  go_loopw [6, 7] (fun nv rv wr => ∃ (k : Nat) (O N : List (Int × Value)) (nb : Nat), nv = .map (some nb) ∧ rv = .int .i64 ((k : Int) + 2) ∧ k ≤ n ∧ Hid (OutP (X.map (·.1)) to k [] O) ∧ Hid (NxtAt (X.map (·.1)) to k N) ∧ Sat w0 wr (mII (gb + 1) O * (mII nb N * (pt gb (.cells #[.slice ga n c] 24 (0, 0)) * (SR * F))))) (fun _ rv _ => n + 3 - (intOf rv).toNat)
  case atStart => exact ⟨0, _, _, nb, rfl, rfl, by omega, Lib.hid (out_start HT.out), Lib.hid nxt_start, h6⟩
  case round =>
    obtain ⟨k, O, N, nb2, rfl, rfl, hk, HO, HN, hs⟩ := hrel
    have g0 := boxG hs.p3
    have hln := fun ty => run_len_map hs.p2 Try.underlying60 ty
    by_cases hN : N = []
    · subst hN
      go_wp2_with fail
      go_ret
      exact ⟨gb + 1, O, rfl, HO.out.all HT.out HN.out, hs.p2.drop.p2.drop⟩
    · have hpos : 0 < N.length := List.length_pos_iff.2 hN
      have hkn : k < n := by
        obtain ⟨⟨x, v⟩, hx⟩ := List.exists_mem_of_length_pos hpos
        have := HN.out x
        rw [mget_key.2 (List.mem_map_of_mem hx)] at this
        have := exact_lt HT.out this.symm
        rw [HLN.out] at this; exact this
      have hnd := hs.p2.openMap.1
      have hNk : ∀ j x v, N[j]? = some (x, v) → exact (X.map (·.1)) to k x = true := fun j x v hx => by
        have := HN.out x
        rw [mget_key.2 (List.mem_map_of_mem (List.mem_of_getElem? hx))] at this
        exact this.symm
      have HNK := Lib.hid (And.intro hnd hNk)
      have h7 := (hs.p2.newMap (d := .int .i64) (kv := Value.int .i64)).p2
      generalize hb3 : wr.heap.size = b3 at *
      clear hnd hNk
      have hpos' : (0 : Int) < (N.length : Int) := by omega
      go_wp2_with (first
        | (at_range; refine wpList_range rfl _ 60 rfl Try.underlying60 nb2 rfl h7 ?_; intro it w4 h8))
      clear hln g0 c0 h6 hs h7
      go_frame
      go_loopg [9] N.length (fun gk v wv => ∃ (R M : List (Int × Value)) (cur : Option (Int × Value)) (P : List Int) (O2 N2 : List (Int × Value)), R.length = gk ∧ Hid ((R.map (·.1)).Nodup ∧ ∀ y ∈ R, y ∈ N) ∧ Hid (HeldBy (X.map (·.1)) to k R P ∧ OutP (X.map (·.1)) to k P O2 ∧ NxtP (X.map (·.1)) to k P N2) ∧
        Sat w0 wv (iterR (.int .i64) (Value.int .i64) nb2 it M R cur * (mII b3 N2 * (mII (gb + 1) O2 * (pt gb (.cells #[.slice ga n c] 24 (0, 0)) * (SR * F))))))
      case atStart => exact ⟨N, N, none, [], O, [], rfl, Lib.hid ⟨HNK.out.1, fun y hy => hy⟩, Lib.hid ⟨held_start HN.out, HO.out, fun x => by simp [mget]⟩, h8⟩
      case round =>
        obtain ⟨R, M, cur, P, O2, N2, hR, HRN, HP, hs2⟩ := hrel
        clear h8
        by_cases hR0 : R = []
        · subst hR0
          clear hR
          go_wp2_with (at_next; refine wpList_next_end rfl _ rfl it rfl hs2 ?_; intro w5 h9)
          go_roundw
          case rel =>
            obtain ⟨p1, p2, p3⟩ := HP.out
            exact ⟨k + 1, O2, N2, b3, rfl, by go_num, by omega, Lib.hid (p2.done HOK.out HT.out p1), Lib.hid (p3.done HOK.out HT.out p1), h9.drop.p2⟩
          case measure => simp [intOf]; omega
        · have HR := Lib.hid hR
          clear hR
          go_wp2_with (first
            | (at_next; refine wpList_next_some rfl _ rfl it rfl hs2 hR0 ?_; intro j x v w5 hj h9; have Hj := Lib.hid hj; clear hj)
            | (refine wpList_entry rfl _ rfl it rfl h9 ?_)
            | (refine wpList_delete_iter rfl _ _ 60 3 rfl (keys_int .i64) Try.underlying60 Try.underlying3 rfl h9 rfl ?_; intro w6 h10; have g6 := boxG h10.p4))
          obtain ⟨p1, p2, p3⟩ := HP.out
          have hex := HNK.out.2
          have hxk : exact (X.map (·.1)) to k x = true := by
            obtain ⟨j2, hj2⟩ := List.mem_iff_getElem?.1 (HRN.out.2 _ (List.mem_of_getElem? Hj.out))
            exact hex j2 x v hj2
          have HH := Lib.hid (held_next p1 Hj.out HRN.out.1 hxk)
          have HPP := Lib.hid (And.intro p2 p3)
          have hHo := graph_Holders (h10.p5) HG.out x HOK.out rfl
          have hhl : (holdersG (X.map (·.1)) x).length ≤ n := by
            unfold holdersG
            rw [if_pos HOK.out]
            have := holdL_len (X.map (·.1)) x (X.map (·.1)).length
            rw [HLN.out] at this ⊢; exact this
          generalize holdersG (X.map (·.1)) x = hl at *
          have HHo := Lib.hid hHo
          clear p1 p2 p3 hex hxk hHo hs2 h9
          go_wp2_with fail
          refine HHo.out.mono ?_
          rintro e w7 ⟨ra, rc, rfl, h11⟩
          clear HHo h10 g6
          go_wp2_with fail
          go_loopw [39] (fun iv wi => ∃ (i : Nat) (O3 N3 : List (Int × Value)), iv = .int .i64 i ∧ i ≤ hl.length ∧ Hid (OutP (X.map (·.1)) to k (P ++ hl.take i) O3 ∧ NxtP (X.map (·.1)) to k (P ++ hl.take i) N3) ∧
            Sat w0 wi (slc 3 1 ra hl.length rc (hl.map ival) * (SR * (iterR (.int .i64) (Value.int .i64) nb2 it (mdel M x) (R.eraseIdx j) none * (mII b3 N3 * (mII (gb + 1) O3 * (pt gb (.cells #[.slice ga n c] 24 (0, 0)) * F)))))) ) (fun iv _ => hl.length - (intOf iv).toNat)
          case atStart => exact ⟨0, O2, N2, rfl, by omega, Lib.hid (by rw [List.take_zero, List.append_nil]; exact HPP.out), h11.cast (by ac_rfl)⟩
          case round =>
            obtain ⟨i, O3, N3, rfl, hi, HQ, hs3⟩ := hrel
            by_cases hlt : i < hl.length
            · obtain ⟨y, hy⟩ : ∃ y, hl[i]? = some y := ⟨hl[i], List.getElem?_eq_getElem hlt⟩
              obtain ⟨g, off, rfl, e0, _⟩ := intCells hs3 hy
              have htk : P ++ hl.take (i + 1) = P ++ hl.take i ++ [y] := by rw [List.take_add_one, hy, List.append_assoc]; rfl
              have hcap := hs3.slcCap
              have hlk := run_lookup_ok (keys_int .i64) hs3.p5 Try.underlying60 Try.underlying3 (zero_int _) y
              obtain ⟨q1, q2⟩ := HQ.out
              cases ho : mget O3 y with
              | some u =>
                rw [ho] at hlk
                have HQ2 : Hid (OutP (X.map (·.1)) to k (P ++ hl.take (i + 1)) O3 ∧ NxtP (X.map (·.1)) to k (P ++ hl.take (i + 1)) N3) := Lib.hid (by rw [htk]; exact ⟨q1.in ho, q2.in q1 ho⟩)
                clear htk hy q1 q2 ho
                simp only [Option.getD_some, Option.isSome_some] at hlk
                go_wp2_with fail
                go_roundw
                case rel => exact ⟨i + 1, O3, N3, by go_num, by omega, HQ2, hs3⟩
                case measure => simp [intOf]; omega
              | none =>
                rw [ho] at hlk
                have HQ2 : Hid (OutP (X.map (·.1)) to k (P ++ hl.take (i + 1)) (mset O3 y (ival ((k : Int) + 2))) ∧ NxtP (X.map (·.1)) to k (P ++ hl.take (i + 1)) (mset N3 y (ival 1))) := Lib.hid (by rw [htk]; exact ⟨q1.put ho, q2.put q1 ho⟩)
                clear htk hy q1 q2 ho
                simp only [Option.getD_none, Option.isSome_none] at hlk
                go_wp2_with (first
                  | (at_mapUpdate; refine wpList_mapUpdate rfl _ _ _ _ rfl (keys_int .i64) Try.underlying60 Try.underlying3 (gb + 1) O3 rfl hs3.p5 y rfl (.int .i64 ((k : Int) + 2)) rfl ?_; intro w8 h12)
                  | (at_mapUpdate; refine wpList_mapUpdate rfl _ _ _ _ rfl (keys_int .i64) Try.underlying60 Try.underlying3 b3 N3 rfl h12.p5 y rfl (.int .i64 1) rfl ?_; intro w9 h13))
                go_roundw
                case rel =>
                  have h14 : Sat w0 w9 (mII b3 (mset N3 y (ival 1)) * (mII (gb + 1) (mset O3 y (ival ((k : Int) + 2))) * (slc 3 1 (some ⟨g, off, none⟩) hl.length rc (hl.map ival) * (SR * (iterR (.int .i64) (Value.int .i64) nb2 it (mdel M x) (R.eraseIdx j) none * (pt gb (.cells #[.slice ga n c] 24 (0, 0)) * F)))))) := h13
                  exact ⟨i + 1, _, _, by go_num, by omega, HQ2, h14.cast (by ac_rfl)⟩
                case measure => simp [intOf]; omega
            · have hkn : i = hl.length := by omega
              subst hkn
              go_wp2_with fail
              go_roundg (R.length - 1)
              case measure => have := HR.out; have : 0 < R.length := List.length_pos_iff.2 hR0; omega
              case rel =>
                have hlen : (R.eraseIdx j).length = R.length - 1 := by
                  have := (List.getElem?_eq_some_iff.1 Hj.out).1
                  rw [List.length_eraseIdx, if_pos this]
                have hq := HQ.out
                rw [List.take_of_length_le (Nat.le_refl _)] at hq
                refine ⟨R.eraseIdx j, mdel M x, none, P ++ hl, O3, N3, hlen, Lib.hid ⟨?_, fun z hz => HRN.out.2 z (List.mem_of_mem_eraseIdx hz)⟩, Lib.hid ⟨HH.out, hq⟩, hs3.drop.cast (by ac_rfl)⟩
                rw [map_eraseIdx']
                exact HRN.out.1.eraseIdx _
end
end Go.Proofs.Ytmngkodejlhalaa.Tw
