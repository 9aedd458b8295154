/- PoolPlays: whatever numbers are taken and given back, a pool does as the document says; a copy, too: proved for every slice of numbers, without a condition. -/
import Derived.Test.YtpbdmijjonbggaaPRef
import Derived.ProofKit
import Derived.OpenShut
import Derived.ShutString
import Derived.ChangeOld
namespace Go.Proofs.Ytpbdmijjonbggaa.PPlays
set_option linter.unusedVariables false
set_option linter.unusedSimpArgs false
open Go Go.RowKit Go.MapKept Go.Proofs.Ytpbdmijjonbggaa.Tw
open Go.ChangeShapes Go.WideShapes Go.ChangeAt
open Go.ChangeMaps (open_string shut_string)

def IsRow (k : IntKind) (w : World) (a : Option Addr) (len cap : Nat) (zs : List Int) : Prop :=
  (a = none ∧ len = 0 ∧ cap = 0 ∧ zs = []) ∨
  ∃ x, a = some x ∧ len ≤ cap ∧ cap ≤ maxLen ∧ zs.length = cap ∧ (∀ i, i < zs.length → w.cell? (x.add i) = some (.int k (zs.getD i 0))) ∧ ∀ n ∈ zs, (Lit.int k n).wf = true

theorem addr_of_cell {w : World} {x : Addr} {v : Value} (h : w.cell? (x.add 0) = some v) : ∃ b off, x = ⟨b, off, none⟩ := by
  obtain ⟨b, off, sp⟩ := x
  cases sp with
  | none => exact ⟨b, off, rfl⟩
  | some s =>
    simp [Addr.add, World.cell?] at h
    split at h <;> simp at h
theorem takeT_le (T : List Bool) : (takeT T).length ≤ T.length + 1 := by
  have := firstFree_le T
  rw [takeT_length]; omega
theorem cp1 (P' P R F : HP) : P' * (P * (R * F)) = R * (P' * (P * F)) := by ac_rfl
theorem cp2 (R' R P' P F : HP) : R' * (R * (P' * (P * F))) = P * (R * (P' * (R' * F))) := by ac_rfl
theorem cp3 (R P' R' F : HP) : R * (P' * (R' * F)) = R * (P' * (R' * F)) := rfl
theorem swap2 (A B F : HP) : A * (B * F) = B * (A * F) := mul_left_comm A B F

set_option maxRecDepth 100000 in
set_option maxHeartbeats 4000000 in
theorem walk (a0 : Option Addr) (len0 cap0 : Nat) (z0 : List Int) (w : World) (w0 : IsRow .i64 w a0 len0 cap0 z0) :
    Calls Try.prog 5 #[.slice a0 len0 cap0] w fun e w' => e = .returned (.bool true) ∧ Below w.heap.size w w' := by
  have h0 := Sat.refl w
  have hfin : ∀ w' (F G : HP), Sat w w' (F * (G * Old w)) → Below w.heap.size w w' := fun w' F G h => (h.drop.cast (mul_comm _ _)).below
  have hcell : ∀ k, k < len0 → ∃ b off n, a0 = some ⟨b, off, none⟩ ∧ (∀ w' (F G : HP), Sat w w' (F * (G * Old w)) → w'.cell? ⟨b, off + k, none⟩ = some (.int .i64 n)) := by
    intro k hk
    rcases w0 with ⟨_, rfl, _⟩ | ⟨x, rfl, h1, h2, h3, h4, h5⟩
    · omega
    · have hk' : k < z0.length := by omega
      have hv := h4 k hk'
      obtain ⟨b, off, rfl⟩ := addr_of_cell (h4 0 (by omega))
      rw [addr_add] at hv
      exact ⟨b, off, z0.getD k 0, rfl, fun w' F G hs => (hs.drop.cast (mul_comm _ _)).oldCell hv⟩
  have HC := Lib.hid hcell
  clear hcell w0
  go_enter Try.func5, Try.ntmps5
  go_wp2_with fail
  refine (pool_New h0).mono ?_; rintro e w1 ⟨p, rfl, h1⟩; clear h0
  go_wp2_with fail
  refine (ref_New h1).mono ?_; rintro e w2 ⟨q, rfl, h2⟩; clear h1
  go_wp2
  go_loopw [3, 4, 5] (fun pv qv i wr => ∃ (p q k : Nat) (T : List Bool), pv = .pointer (some ⟨p, 0, none⟩) ∧ qv = .pointer (some ⟨q, 0, none⟩) ∧ i = .int .i64 k ∧ k ≤ 300 ∧ T.length ≤ k ∧ Sat w wr (poolR p T * (refR q T * Old w))) (fun _ _ i _ => (300 - intOf i).toNat)
  case atStart => exact ⟨p, q, 0, [], rfl, rfl, rfl, by omega, by simp, h2.cast (mul_left_comm _ _ _)⟩
  case round =>
    obtain ⟨p, q, k, T, rfl, rfl, rfl, hk, hT, hs⟩ := hrel
    by_cases hlt : k < len0 ∧ k < 300
    · obtain ⟨hl1, hl2⟩ := hlt
      obtain ⟨b, off, n, rfl, hc⟩ := HC.out k hl1
      have cx := hc _ _ _ hs
      clear hc
      have hT9 : T.length < 1000000000 := by omega
      by_cases hn : n < 0
      · have htl := takeT_le T
        go_wp2_with fail
        refine (pool_Take hs hT9).mono ?_; rintro e w3 ⟨rfl, h3⟩
        go_wp2_with fail
        refine (ref_Take (h3.cast (swap2 _ _ _)) hT9).mono ?_; rintro e w3' ⟨rfl, h3'⟩
        have hs' := h3'.cast (swap2 _ _ _)
        clear hs h3 h3' cx
        generalize takeT T = T' at *
        have hT' : T'.length < 1000000000 := by omega
        go_wp2_with fail
        refine (pool_In hs' _).mono ?_; rintro e w4 ⟨rfl, h4⟩; clear hs'
        go_wp2_with fail
        refine (ref_In (h4.cast (swap2 _ _ _)) hT' _).mono ?_; rintro e w5 ⟨rfl, rfl⟩
        go_wp2_with fail
        refine (pool_In h4 _).mono ?_; rintro e w6 ⟨rfl, h6⟩; clear h4
        go_wp2_with fail
        refine (ref_In (h6.cast (swap2 _ _ _)) hT' _).mono ?_; rintro e w7 ⟨rfl, rfl⟩
        go_wp2_with fail
        refine (pool_Len h6).mono ?_; rintro e w8 ⟨rfl, rfl⟩
        go_wp2_with fail
        refine (ref_Len (h6.cast (swap2 _ _ _)) hT').mono ?_; rintro e w9 ⟨rfl, rfl⟩
        go_wp2_with fail
        refine (pool_Last h6 hT').mono ?_; rintro e w10 ⟨rfl, h10⟩; clear h6
        go_wp2_with fail
        refine (ref_Last (h10.cast (swap2 _ _ _)) hT').mono ?_; rintro e w11 ⟨rfl, rfl⟩
        go_wp2
        exact ⟨⟨p, q, k + 1, T', rfl, rfl, by go_num, by omega, by omega, h10⟩, by simp [intOf]; omega⟩
      · by_cases hn2 : 1000 ≤ n
        · go_wp2_with fail
          refine (pool_Copy hs hT9).mono ?_; rintro e w3 ⟨p', rfl, h3⟩
          go_wp2_with fail
          refine (ref_Copy (h3.cast (cp1 _ _ _ _)) hT9).mono ?_; rintro e w3' ⟨q', rfl, h3'⟩
          go_wp2_with fail
          refine (pool_Take (h3'.cast (cp2 _ _ _ _ _)) hT9).mono ?_; rintro e w3'' ⟨rfl, h3''⟩
          have hs' : Sat w w3'' (poolR p' T * (refR q' T * Old w)) := h3''.drop.drop
          clear hs h3 h3' h3'' cx
          have hT' : T.length < 1000000000 := by omega
          go_wp2_with fail
          refine (pool_In hs' _).mono ?_; rintro e w4 ⟨rfl, h4⟩; clear hs'
          go_wp2_with fail
          refine (ref_In (h4.cast (swap2 _ _ _)) hT' _).mono ?_; rintro e w5 ⟨rfl, rfl⟩
          go_wp2_with fail
          refine (pool_In h4 _).mono ?_; rintro e w6 ⟨rfl, h6⟩; clear h4
          go_wp2_with fail
          refine (ref_In (h6.cast (swap2 _ _ _)) hT' _).mono ?_; rintro e w7 ⟨rfl, rfl⟩
          go_wp2_with fail
          refine (pool_Len h6).mono ?_; rintro e w8 ⟨rfl, rfl⟩
          go_wp2_with fail
          refine (ref_Len (h6.cast (swap2 _ _ _)) hT').mono ?_; rintro e w9 ⟨rfl, rfl⟩
          go_wp2_with fail
          refine (pool_Last h6 hT').mono ?_; rintro e w10 ⟨rfl, h10⟩; clear h6
          go_wp2_with fail
          refine (ref_Last (h10.cast (swap2 _ _ _)) hT').mono ?_; rintro e w11 ⟨rfl, rfl⟩
          go_wp2
          exact ⟨⟨p', q', k + 1, T, rfl, rfl, by go_num, by omega, by omega, h10⟩, by simp [intOf]; omega⟩
        · have hgl := giveT_length T n
          have hgle : (giveT T n).length ≤ k := by omega
          have hgive : Calls Try.prog 10 #[.pointer (some ⟨p, 0, none⟩), .int .i64 n] wr fun e w' => e = .returned (.bool (tk T n)) ∧ Sat w w' (poolR p (giveT T n) * (refR q T * Old w)) := by
            cases e : tk T n with
            | true => exact pool_Give_yes hs hT9 n e
            | false =>
              have e2 : giveT T n = T := by unfold giveT; rw [e]; rfl
              rw [e2]; exact pool_Give_no hs n e
          have HG := Lib.hid hgive
          clear hgl hgive
          go_wp2_with fail
          refine HG.out.mono ?_; rintro e w3 ⟨rfl, h3⟩
          go_wp2_with fail
          refine (ref_Give (h3.cast (swap2 _ _ _)) hT9 n).mono ?_; rintro e w3' ⟨rfl, h3'⟩
          have hs' := h3'.cast (swap2 _ _ _)
          clear hs h3 h3' cx HG
          generalize giveT T n = T' at *
          have hT' : T'.length < 1000000000 := by omega
          go_wp2_with fail
          refine (pool_In hs' _).mono ?_; rintro e w4 ⟨rfl, h4⟩; clear hs'
          go_wp2_with fail
          refine (ref_In (h4.cast (swap2 _ _ _)) hT' _).mono ?_; rintro e w5 ⟨rfl, rfl⟩
          go_wp2_with fail
          refine (pool_In h4 _).mono ?_; rintro e w6 ⟨rfl, h6⟩; clear h4
          go_wp2_with fail
          refine (ref_In (h6.cast (swap2 _ _ _)) hT' _).mono ?_; rintro e w7 ⟨rfl, rfl⟩
          go_wp2_with fail
          refine (pool_Len h6).mono ?_; rintro e w8 ⟨rfl, rfl⟩
          go_wp2_with fail
          refine (ref_Len (h6.cast (swap2 _ _ _)) hT').mono ?_; rintro e w9 ⟨rfl, rfl⟩
          go_wp2_with fail
          refine (pool_Last h6 hT').mono ?_; rintro e w10 ⟨rfl, h10⟩; clear h6
          go_wp2_with fail
          refine (ref_Last (h10.cast (swap2 _ _ _)) hT').mono ?_; rintro e w11 ⟨rfl, rfl⟩
          go_wp2
          exact ⟨⟨p, q, k + 1, T', rfl, rfl, by go_num, by omega, by omega, h10⟩, by simp [intOf]; omega⟩
    · by_cases hl1 : k < len0
      · have hl2 : ¬ k < 300 := fun h => hlt ⟨hl1, h⟩
        clear hlt
        go_wp2_with fail
        refine (pool_works hs).mono ?_; rintro e w3 ⟨rfl, h3⟩
        go_wp2
        go_ret
        exact ⟨rfl, hfin _ _ _ h3⟩
      · clear hlt
        go_wp2_with fail
        refine (pool_works hs).mono ?_; rintro e w3 ⟨rfl, h3⟩
        go_wp2
        go_ret
        exact ⟨rfl, hfin _ _ _ h3⟩

theorem own : ownKnob Try.prog.godebug = none := by kernel_rfl
theorem laidOut : laidOutB Try.prog = true := by kernel_rfl
set_option maxRecDepth 100000 in
theorem lifted (os : Os) (started : os.Started) (H : Type) (enc : TypeId × Value → H) :
    ReturnsInHanded {} Try.checked os 5 .any (Rows.poolPlaysSpec.pre6 enc Try.prog Try.f5 Rows.poolPlaysRow.domain false) (Rows.poolPlaysSpec.post enc Try.prog Try.f5 false true false false) := by
  refine returnsInHanded_of_change (C := Try.checked) own started (by kernel_rfl) Try.func5
    (ChangeSpec.witness6 (enc := enc) (C := Try.checked) false ⟨#[], #[.slice none 0 0], []⟩ 8 (by kernel_rfl) (by kernel_rfl) (by kernel_rfl) (by kernel_rfl)) ?_
  intro W base args ds gs before hval0 hW hcnd _
  have hval : ∀ (j : Nat) t v, Try.f5.params[j]? = some t → args[j]? = some v → Value.okWide Try.prog W .any base t v := hval0
  have hW' := hW
  obtain ⟨p, q, hA0, hV, rfl, hfz, hnd⟩ := hW
  have hA : DataW.TrodAll enc Try.prog W 0 (fun _ => true) true Try.f5.params.toList args.toList ds p := hA0
  rw [Try.params5] at hA hval
  obtain ⟨v0, vs0, d0, ds0, p0, q0, hargs, rfl, rfl, h0, r0⟩ := trodAll_cons hA
  obtain ⟨rfl, rfl, rfl⟩ := trodAll_nil r0
  obtain rfl : args = #[v0] := by cases args; simp_all
  obtain ⟨rfl, rfl⟩ := trodVars_none hV
  obtain ⟨a0, len0, cap0, rfl⟩ := okWide_slice Try.underlying26 (hval 0 26 v0 rfl rfl)
  have k0 := h0
  have lt0 : ∀ x ∈ p0, x.block < W.heap.size := by obtain ⟨m, hm⟩ := k0; exact DataW.trod_lt m _ _ _ hm
  obtain ⟨z0, w0⟩ : ∃ zs, IsRow .i64 W a0 len0 cap0 zs := by
    obtain ⟨fuel, hf⟩ := h0
    rcases open_ints Try.underlying26 Try.underlying3 (by kernel_rfl) hf with ⟨hcs, _⟩ | ⟨x, l, c, zs, hcs, _, hl, hm, hz, _, hcell, hwz⟩
    · simp [Value.cells] at hcs
      obtain ⟨rfl, rfl, rfl⟩ := hcs
      exact ⟨[], .inl ⟨rfl, rfl, rfl, rfl⟩⟩
    · simp [Value.cells] at hcs
      obtain ⟨rfl, rfl, rfl⟩ := hcs
      exact ⟨zs, .inr ⟨_, rfl, hl, hm, by simpa using hz, hcell, hwz⟩⟩
  clear hA0 hval0
  refine (walk a0 len0 cap0 z0 W w0).mono fun e W' ⟨he, bel⟩ => ?_
  subst he
  exact ⟨_, rfl, _, _, _, [], _, [], hW', trodAll_mk1 (shut_bool Try.underlying4 _), (trodAll_cons_mk (Below.trod laidOut (by kernel_rfl) (of_decide_eq_true (by kernel_rfl)) k0 bel lt0) trodAll_mk0), rfl, bel.frame _, fun h => by cases h⟩
theorem over : Rows.poolPlaysRow.holds Try.pinned (OpenSpec.ofChange Rows.poolPlaysSpec) :=
  OpenClaim.holds_of_wide 5 Try.f5 rfl rfl rfl rfl rfl rfl rfl ⟨rfl, rfl, rfl, rfl, rfl⟩ rfl rfl rfl rfl rfl (by kernel_rfl) Try.func5 (by kernel_rfl)
    (of_decide_eq_true (by kernel_rfl)) (by unfold Func.isWrapper; first | (rw [if_pos (by decide +kernel)]; kernel_rfl) | (rw [if_neg (by decide +kernel)]; exact ⟨rfl, rfl⟩))
    (fun os started H enc _ => lifted os started H enc)
theorem poolPlays_holds : Rows.PoolPlaysSaid := over
#print axioms poolPlays_holds
end Go.Proofs.Ytpbdmijjonbggaa.PPlays
