/- DrainSplits: so many steps at once are as many in two parts: proved for every slice of moves and two numbers, without a condition. -/
import Derived.Test.YtkpcngcegipalaaDr16
import Derived.Test.YtkpcngcegipalaaGrow
namespace Go.Proofs.Ytkpcngcegipalaa.DSplits
set_option linter.unusedVariables false
set_option linter.unusedSimpArgs false
open Go Go.RowKit Go.MapKept Go.Proofs.Ytkpcngcegipalaa.Tw
open Go.ChangeShapes Go.WideShapes Go.ChangeAt

section
variable {w0 w : World} {p : Nat} {A : AHeap} {F : HP} {B : Int}
theorem c_Graph (H : HW A B) (hB : B ≤ 1000000) (h : Sat w0 w (heapR mN p A * F)) {N : Nat} {L : List AObj} (hN : lastT A.T = N) (hL : graphL A N = L) :
    Calls Try.prog 30 #[.pointer (some ⟨p, 0, none⟩)] w fun e w' => ∃ ga gc, e = .returned (.agg #[.slice ga N gc]) ∧ Sat w0 w' (objsV ga N gc L * (heapR mN p A * F)) := by
  subst hN hL
  have hT := H.t
  exact heap_Graph h (by omega) fun n o ho => by have := H.c n o ho; omega
end
attribute [local go_sem] lookE lkE valUpon
theorem drop_one {w0 w : World} {F : HP} (h : Sat w0 w (1 * F)) : Sat w0 w F := h.cast (one_mul _)
theorem add_one {w0 w : World} {F : HP} (h : Sat w0 w F) : Sat w0 w (1 * F) := h.cast (one_mul _).symm
def mkQ (G : Nat → Nat → Option Addr → Nat → Option Addr → Nat → Act) (R : World → Nat → Nat → Option Addr → Nat → Option Addr → Nat → Prop) : Exit → Act → World → Prop := fun e a' w' => e = .normal ∧ ∃ x1 x2 ga gc gb gd, a' = G x1 x2 ga gc gb gd ∧ R w' x1 x2 ga gc gb gd
theorem two_hand {w0 w : World} {b p b2 p2 : Nat} {l l2 : List AVal} {F : HP} (h : Sat w0 w (handL b p l * (handL b2 p2 l2 * F))) : w.cell? ⟨b, 0, none⟩ = some (.pointer (some ⟨p, 0, none⟩)) ∧ w.cell? ⟨b2, 0, none⟩ = some (.pointer (some ⟨p2, 0, none⟩)) := ⟨h.handH, h.p2.handH⟩
theorem cell_alloc {w : World} {a : Addr} {v : Value} {o : Obj} (h : w.cell? a = some v) : (w.alloc o).cell? a = some v := by
  have hb := World.block_lt_of_cell? w a h
  refine (World.cell?_of_block ?_).trans h
  show (w.heap.push o)[a.block]? = _
  rw [Array.getElem?_push, if_neg (by omega)]
def ZG : Obj := .cells #[.slice none 0 0] 64 (0, 0)
theorem z_facts {w0 w : World} {b : Nat} {F : HP} (h : Sat w0 w (pt b (.cells #[.slice none 0 0] 64 (0, 0)) * F)) : w.cell? ⟨b, 0, none⟩ = some (.slice none 0 0) ∧ w.frozen? ⟨b, 0, none⟩ = false ∧
    (∀ o, (w.alloc o).cell? ⟨b, 0, none⟩ = some (.slice none 0 0)) ∧ (∀ o, (w.alloc o).frozen? ⟨b, 0, none⟩ = false) ∧ ¬ b = w.heap.size ∧ ¬ w.heap.size = b := by
  have ha := fun o => (h.alloc o).p2
  have c0 : w.cell? ⟨b, 0, none⟩ = some (.slice none 0 0) := Sat.cell (T := 64) (cs := #[.slice none 0 0]) h 0 rfl
  have hb := World.block_lt_of_cell? w _ c0
  exact ⟨c0, Sat.free (T := 64) (cs := #[.slice none 0 0]) h 0, fun o => Sat.cell (T := 64) (cs := #[.slice none 0 0]) (ha o) 0 rfl, fun o => Sat.free (T := 64) (cs := #[.slice none 0 0]) (ha o) 0, by have : b < w.heap.size := hb; omega, by have : b < w.heap.size := hb; omega⟩
theorem z_ne {w0 w : World} {b c : Nat} {o o' : Obj} {F : HP} (h : Sat w0 w (pt b o * (pt c o' * F))) : ¬ b = c ∧ ¬ c = b := ⟨h.ne, fun e => h.ne e.symm⟩
theorem z_store {w0 w : World} {b : Nat} {F : HP} (h : Sat w0 w (pt b (.cells #[.slice none 0 0] 64 (0, 0)) * F)) (v : Value) : Sat w0 (w.setCell ⟨b, 0, none⟩ v) (pt b (.cells #[v] 64 (0, 0)) * F) := Sat.store (T := 64) (cs := #[.slice none 0 0]) h v
theorem z_hand {w : World} {z b b2 : Nat} {x x2 : Option Addr} (h : w.cell? ⟨z, 0, none⟩ = some (.slice none 0 0)) (hb : w.cell? ⟨b, 0, none⟩ = some (.pointer x) ∧ w.cell? ⟨b2, 0, none⟩ = some (.pointer x2)) : ¬ z = b ∧ ¬ z = b2 :=
  ⟨by rintro rfl; rw [h] at hb; simp at hb, by rintro rfl; rw [h] at hb; simp at hb⟩
theorem two_set {w : World} {z b b2 : Nat} {v v2 v3 : Value} (hz : ¬ z = b ∧ ¬ z = b2) (h : w.cell? ⟨b, 0, none⟩ = some v ∧ w.cell? ⟨b2, 0, none⟩ = some v2) : (w.setCell ⟨z, 0, none⟩ v3).cell? ⟨b, 0, none⟩ = some v ∧ (w.setCell ⟨z, 0, none⟩ v3).cell? ⟨b2, 0, none⟩ = some v2 := by
  have key : ∀ c, ¬ z = c → (w.setCell ⟨z, 0, none⟩ v3).cell? ⟨c, 0, none⟩ = w.cell? ⟨c, 0, none⟩ := fun c hc => by
    refine World.cell?_of_block ?_
    unfold World.setCell
    show (w.heap.modify z _)[c]? = _
    rw [Array.getElem?_modify, if_neg hc]
  rw [key b hz.1, key b2 hz.2]; exact h
theorem new_two {w : World} {b b2 : Nat} {v v2 : Value} (hb : w.cell? ⟨b, 0, none⟩ = some v ∧ w.cell? ⟨b2, 0, none⟩ = some v2) : ¬ w.heap.size = b ∧ ¬ w.heap.size = b2 := by
  have h1 : b < w.heap.size := World.block_lt_of_cell? w _ hb.1
  have h2 : b2 < w.heap.size := World.block_lt_of_cell? w _ hb.2
  exact ⟨by omega, by omega⟩
theorem sz_drew (w : World) : w.drew.heap.size = w.heap.size := rfl
theorem two_alloc {w : World} {a a2 : Addr} {v v2 : Value} {o : Obj} (h : w.cell? a = some v ∧ w.cell? a2 = some v2) : (w.alloc o).cell? a = some v ∧ (w.alloc o).cell? a2 = some v2 := ⟨cell_alloc h.1, cell_alloc h.2⟩
set_option maxRecDepth 100000 in
set_option maxHeartbeats 40000000 in
theorem walk (a0 : Option Addr) (len0 cap0 : Nat) (ms : List Mv) (sa sb : Int) (w : World) (w0 : IsMoves w a0 len0 cap0 ms) (r1 : (Lit.int .u8 sa).wf = true) (r2 : (Lit.int .u8 sb).wf = true) :
    Calls Try.prog 8 #[.slice a0 len0 cap0, .int .u8 sa, .int .u8 sb] w fun e w' => e = .returned (.bool true) ∧ Below w.heap.size w w' := by
  have h0 := Sat.refl w
  obtain ⟨na, rfl, hna⟩ := wf_u8 r1
  obtain ⟨nb, rfl, hnb⟩ := wf_u8 r2
  obtain ⟨hl, hc1, hc2, hms, hA⟩ := w0
  have hlen : len0 ≤ 9223372036854775807 := by unfold maxLen at hc2; omega
  have HP := Lib.hid (fun (w1 : World) (F : HP) (h : Sat w w1 (Old w * F)) => hd_play (c := cap0) hl hlen hms hA h)
  obtain ⟨i1, i2⟩ := playK_hw ms 60
  have i1 : HW (playM ms).1 61 := i1
  have hadd := drainN_add na nb (playM ms).1
  generalize hA1 : (playM ms).1 = A1 at *
  have i2 := i1.drain na
  have i3 := i2.drain nb
  have hl1 := drainN_le na A1
  have hl2 := drainN_le nb (drainN na A1).2
  generalize hn1 : (drainN na A1).1 = n1 at *
  generalize hn2 : (drainN nb (drainN na A1).2).1 = n2 at *
  generalize hA3 : (drainN nb (drainN na A1).2).2 = A3 at *
  have i4 : HW (drainN (na + nb) A1).2 61 := by rw [hadd]; exact i3
  have HA := Lib.hid (And.intro i1 (And.intro i2 (And.intro i3 (And.intro hadd (And.intro hn1 (And.intro hn2 hA3))))))
  generalize hL2 : (playM ms).2 = l2 at *
  generalize hQ : A3.queue = Q at *
  generalize hFf : A3.fins.map (·.1) = FF at *
  generalize hN : lastT A3.T = N at *
  generalize hG : graphL A3 N = L at *
  have hgl : L.length = N := by rw [← hG]; simp [graphL]
  have hT3 := i3.t
  have hlast := lastT_le A3.T
  have hql := i3.ql
  have hfl := i3.fl
  rw [hQ] at hql
  have hfl2 : (FF.length : Int) ≤ 61 := by rw [← hFf, List.length_map]; exact hfl
  have hNb : N ≤ 61 := by omega
  have hsl : ∀ (k : Nat) (x : AObj), L[k]? = some x → x.slots.length ≤ 61 := fun k x hx => by
    rw [← hG] at hx
    unfold graphL at hx
    rw [List.getElem?_map] at hx
    cases hr : (List.range N)[k]? with
    | none => rw [hr] at hx; cases hx
    | some i =>
      rw [hr] at hx; cases hx
      show (A3.obj _).slots.length ≤ 61
      unfold AHeap.obj
      cases ho : A3.objs ((i : Int) + 1) with
      | none => simp [AObj.none]
      | some o => have := i3.c _ o ho; show o.slots.length ≤ 61; omega
  have HB := Lib.hid (And.intro hQ (And.intro hFf (And.intro hN (And.intro hG (And.intro hgl (And.intro hsl (And.intro hA1 hL2)))))))
  have hw1 : IntKind.i64.wrap (na : Int) = na := IntWalk.i64_in _ (by omega)
  have hw2 : IntKind.i64.wrap (nb : Int) = nb := IntWalk.i64_in _ (by omega)
  have hw3 : IntKind.i64.wrap ((na : Int) + (nb : Int)) = (na : Int) + (nb : Int) := IntWalk.i64_in _ (by omega)
  have hw4 : IntKind.i64.wrap ((n1 : Int) + (n2 : Int)) = (n1 : Int) + (n2 : Int) := IntWalk.i64_in _ (by omega)
  clear i1 i2 i3 i4 hadd hn1 hn2 hA3 hms hA hl hsl hgl hG hN hFf hQ hA1 hL2 hfl hT3 hlast
  go_enter Try.func8, Try.ntmps8
  go_wp2_with fail
  refine (law_works14 h0).mono ?_
  rintro e w1 ⟨rfl, h1⟩
  clear h0
  go_wp2_with fail
  refine (HP.out w1 1 (h1.cast (mul_one _).symm)).mono ?_
  rintro e w2 ⟨b, p, rfl, h2⟩
  clear h1
  go_wp2_with fail
  refine (HP.out w2 _ h2.p3).mono ?_
  rintro e w3 ⟨b2, p2, rfl, h3⟩
  clear h2
  have h4 : Sat w w3 (heapR mN p A1 * (handL b p l2 * (heapR mN p2 A1 * (handL b2 p2 l2 * Old w)))) := h3.cast (by rw [mul_one]; ac_rfl)
  clear h3
  have c0 := h4.p2.handH
  go_wp2_with fail
  refine (c_Drain HA.out.1 (by omega) ((na : Int) + (nb : Int)) (by omega) h4 (k := (n1 : Int) + (n2 : Int)) (A' := A3) (by rw [show ((na : Int) + (nb : Int)).toNat = na + nb by omega, HA.out.2.2.2.1]; show ((n1 + n2 : Nat) : Int) = _; omega) (by rw [show ((na : Int) + (nb : Int)).toNat = na + nb by omega, HA.out.2.2.2.1])).mono ?_
  rintro e w4 ⟨rfl, h5⟩
  have c1 := h5.p4.handH
  clear h4
  go_wp2_with fail
  refine (c_Drain HA.out.1 (by omega) (na : Int) (by omega) h5.p3 (k := n1) (A' := (drainN na A1).2) (by rw [Int.toNat_natCast, HA.out.2.2.2.2.1]) (by rw [Int.toNat_natCast])).mono ?_
  rintro e w5 ⟨rfl, h6⟩
  have c2 := h6.p4.handH
  clear h5
  go_wp2_with fail
  refine (c_Drain HA.out.2.1 (by omega) (nb : Int) (by omega) h6 (k := n2) (A' := A3) (by rw [Int.toNat_natCast, HA.out.2.2.2.2.2.1]) (by rw [Int.toNat_natCast, HA.out.2.2.2.2.2.2])).mono ?_
  rintro e w6 ⟨rfl, h7⟩
  clear h6
  have c3 := h7.p3.handH
  have c4 := h7.p4.handH
  go_wp2_with fail
  have h8 : Sat w w6 (handL b p l2 * (handL b2 p2 l2 * (heapR mN p A3 * (heapR mN p2 A3 * Old w)))) := h7.cast (by ac_rfl)
  clear h7
  refine wp_gen fun a0 ha => ?_
  have hb7 : base a0 7 = .pointer (some ⟨b, 0, none⟩) := by rw [ha]; rfl
  have hb8 : base a0 8 = .pointer (some ⟨b2, 0, none⟩) := by rw [ha]; rfl
  have HA0 := Lib.hid ha
  clear ha
  refine GW.start (X := Option Addr × Nat) (w0 := w) (B := [handL b p l2, handL b2 p2 l2, heapR mN p A3, heapR mN p2 A3, Old w]) (a0 := a0) ?_
  refine GW.det (d := (some 46)) [] [] rfl (fun e => by rfl) ?_; apply Exists.intro; refine ⟨fun e w' F hs => ?_, ?_, ?_⟩
  · first | (go_simp; done) | (go_simp; rfl)
  · exact (fun _ _ _ => rfl)
  refine GW.det (d := (some 47)) [] [] rfl (fun e => by rfl) ?_; apply Exists.intro; refine ⟨fun e w' F hs => ?_, ?_, ?_⟩
  · first | (go_simp; done) | (go_simp; rfl)
  · exact (fun _ _ _ => rfl)
  refine GW.det (d := (some 48)) [] [] rfl (fun e => by rfl) ?_; apply Exists.intro; refine ⟨fun e w' F hs => ?_, ?_, ?_⟩
  · first | (go_simp; done) | (go_simp; rfl)
  · exact (fun _ _ _ => rfl)
  refine GW.det (d := (some 49)) [0] [] rfl (fun e => by rfl) ?_; apply Exists.intro; refine ⟨fun e w' F hs => ?_, ?_, ?_⟩
  · have y0 := Sat.handH (show Sat w w' (handL b p l2 * F) from hs); first | (go_simp; done) | (go_simp; rfl)
  · exact (fun _ _ _ => rfl)
  refine GW.new (d := (some 50)) 4 (fun x => .agg #[.slice x.1 N x.2]) (fun x => objsV x.1 N x.2 L) [2] rfl rfl (fun e => by rfl) (fun e w' F K hs hK => ?_) ?_
  · go_simp; go_at_call 30; refine (c_Graph (p := p) (A := A3) HA.out.2.2.1 (by omega) (show Sat w w' (heapR mN p A3 * F) from hs) HB.out.2.2.1 HB.out.2.2.2.1).mono ?_; rintro e1 w1 ⟨ga, gc, rfl, hv⟩; exact ⟨_, rfl, hK (ga, gc) _ (hv.cast (mul_left_comm _ _ _))⟩
  refine GW.det (d := (some 51)) [] [] rfl (fun e => by rfl) ?_; apply Exists.intro; refine ⟨fun e w' F hs => ?_, ?_, ?_⟩
  · first | (go_simp; done) | (go_simp; rfl)
  · exact (fun _ _ _ => rfl)
  refine GW.det (d := (some 52)) [] [] rfl (fun e => by rfl) ?_; apply Exists.intro; refine ⟨fun e w' F hs => ?_, ?_, ?_⟩
  · first | (go_simp; done) | (go_simp; rfl)
  · exact (fun _ _ _ => rfl)
  refine GW.det (d := (some 53)) [] [] rfl (fun e => by rfl) ?_; apply Exists.intro; refine ⟨fun e w' F hs => ?_, ?_, ?_⟩
  · first | (go_simp; done) | (go_simp; rfl)
  · exact (fun _ _ _ => rfl)
  refine GW.det (d := (some 54)) [1] [] rfl (fun e => by rfl) ?_; apply Exists.intro; refine ⟨fun e w' F hs => ?_, ?_, ?_⟩
  · have y0 := Sat.handH (show Sat w w' (handL b2 p2 l2 * F) from hs); first | (go_simp; done) | (go_simp; rfl)
  · exact (fun _ _ _ => rfl)
  refine GW.new (d := (some 55)) 9 (fun x => .agg #[.slice x.1 N x.2]) (fun x => objsV x.1 N x.2 L) [3] rfl rfl (fun e => by rfl) (fun e w' F K hs hK => ?_) ?_
  · go_simp; go_at_call 30; refine (c_Graph (p := p2) (A := A3) HA.out.2.2.1 (by omega) (show Sat w w' (heapR mN p2 A3 * F) from hs) HB.out.2.2.1 HB.out.2.2.2.1).mono ?_; rintro e1 w1 ⟨ga, gc, rfl, hv⟩; exact ⟨_, rfl, hK (ga, gc) _ (hv.cast (mul_left_comm _ _ _))⟩
  refine GW.new (d := (some 11)) 10 (fun x => .pointer (some ⟨x.2, 0, none⟩)) (fun x => pt x.2 (.cells #[.slice none 0 0] 64 (0, 0))) [] rfl rfl (fun e => by rfl) (fun e w' F K hs hK => ?_) ?_
  · go_simp; exact hK (none, _) _ ((hs.alloc (.cells #[.slice none 0 0] 64 (0, 0))).cast (mul_left_comm _ _ _))
  refine GW.new (d := (some 12)) 11 (fun x => .pointer (some ⟨x.2, 0, none⟩)) (fun x => pt x.2 (.cells #[.slice none 0 0] 64 (0, 0))) [] rfl rfl (fun e => by rfl) (fun e w' F K hs hK => ?_) ?_
  · go_simp; exact hK (none, _) _ ((hs.alloc (.cells #[.slice none 0 0] 64 (0, 0))).cast (mul_left_comm _ _ _))
  refine GW.take (d := none) 12 (fun e => undef) (fun e => pt (e 10).2 (.cells #[.slice (e 4).1 N (e 4).2] 64 (0, 0))) [] [15] [4, 10] rfl rfl (fun e => by rfl) (fun e e' hl => by simp only [hl 4 (by decide), hl 10 (by decide)]; exact ⟨trivial, trivial⟩) (fun e w' F K hs hK => ?_) ?_
  · have hz := z_facts (show Sat w w' (pt (e 10).2 (.cells #[.slice none 0 0] 64 (0, 0)) * F) from drop_one hs); have z0 := hz.1; have z1 := hz.2.1; go_simp; exact hK default _ (add_one (z_store (show Sat w w' (pt (e 10).2 (.cells #[.slice none 0 0] 64 (0, 0)) * F) from drop_one hs) _))
  refine GW.take (d := none) 13 (fun e => undef) (fun e => pt (e 11).2 (.cells #[.slice (e 9).1 N (e 9).2] 64 (0, 0))) [] [16] [9, 11] rfl rfl (fun e => by rfl) (fun e e' hl => by simp only [hl 9 (by decide), hl 11 (by decide)]; exact ⟨trivial, trivial⟩) (fun e w' F K hs hK => ?_) ?_
  · have hz := z_facts (show Sat w w' (pt (e 11).2 (.cells #[.slice none 0 0] 64 (0, 0)) * F) from drop_one hs); have z0 := hz.1; have z1 := hz.2.1; go_simp; exact hK default _ (add_one (z_store (show Sat w w' (pt (e 11).2 (.cells #[.slice none 0 0] 64 (0, 0)) * F) from drop_one hs) _))
  refine GW.done (sz := 148) [5 + 12, 5 + 13, 5 + 4, 5 + 9, 0, 1, 2, 3, 4] (by kernel_rfl) (by kernel_rfl) (by rw [HA0.out]; rfl) (by rfl) h8 (by rfl) fun e w7 gg => ?_
  have ha := HA0.out
  subst ha
  clear HA0 hb7 hb8 h8 c3 c4
  simp only [putL, Act.put, List.setIfInBounds_toArray, List.set_cons_zero, List.set_cons_succ]
  have g7 : Sat w w7 (pt (e 10).2 (.cells #[.slice (e 4).1 N (e 4).2] 64 (0, 0)) * (pt (e 11).2 (.cells #[.slice (e 9).1 N (e 9).2] 64 (0, 0)) * (objsV (e 4).1 N (e 4).2 L * (objsV (e 9).1 N (e 9).2 L * (handL b p l2 * (handL b2 p2 l2 * (heapR mN p A3 * (heapR mN p2 A3 * (Old w))))))))) := gg
  clear gg
  generalize e 4 = y1 at *
  generalize e 9 = y2 at *
  generalize (e 10).2 = x1 at *
  generalize (e 11).2 = x2 at *
  obtain ⟨ga, gc⟩ := y1
  obtain ⟨gb, gd⟩ := y2
  clear e
  dsimp only at g7 ⊢
  go_wp2_with fail
  generalize hnQ : Q.length = nQ at *
  generalize hnF : FF.length = nF at *
  have HN := Lib.hid (And.intro hnQ hnF)
  clear hnQ hnF
  refine wp_gen fun a0 ha => ?_
  have hb7 : base a0 7 = .pointer (some ⟨b, 0, none⟩) := by rw [ha]; rfl
  have hb8 : base a0 8 = .pointer (some ⟨b2, 0, none⟩) := by rw [ha]; rfl
  have hb9 : base a0 9 = .int .i64 ((n1 : Int) + (n2 : Int)) := by rw [ha]; rfl
  have hb10 : base a0 10 = .int .i64 ((n1 : Int) + (n2 : Int)) := by rw [ha]; rfl
  have hb11 : base a0 11 = .pointer (some ⟨x1, 0, none⟩) := by rw [ha]; rfl
  have hb12 : base a0 12 = .pointer (some ⟨x2, 0, none⟩) := by rw [ha]; rfl
  have HA0 := Lib.hid ha
  clear ha
  refine GW.start (X := Option Addr × Nat) (w0 := w) (B := [pt x1 (.cells #[.slice ga N gc] 64 (0, 0)), pt x2 (.cells #[.slice gb N gd] 64 (0, 0)), objsV ga N gc L, objsV gb N gd L, handL b p l2, handL b2 p2 l2, heapR mN p A3, heapR mN p2 A3, Old w]) (a0 := a0) ?_
  refine GW.det (d := (some 56)) [] [] rfl (fun e => by rfl) ?_; apply Exists.intro; refine ⟨fun e w' F hs => ?_, ?_, ?_⟩
  · first | (go_simp; done) | (go_simp; rfl)
  · exact (fun _ _ _ => rfl)
  refine GW.det (d := (some 57)) [] [] rfl (fun e => by rfl) ?_; apply Exists.intro; refine ⟨fun e w' F hs => ?_, ?_, ?_⟩
  · first | (go_simp; done) | (go_simp; rfl)
  · exact (fun _ _ _ => rfl)
  refine GW.det (d := (some 58)) [] [] rfl (fun e => by rfl) ?_; apply Exists.intro; refine ⟨fun e w' F hs => ?_, ?_, ?_⟩
  · first | (go_simp; done) | (go_simp; rfl)
  · exact (fun _ _ _ => rfl)
  refine GW.det (d := (some 59)) [] [] rfl (fun e => by rfl) ?_; apply Exists.intro; refine ⟨fun e w' F hs => ?_, ?_, ?_⟩
  · first | (go_simp; done) | (go_simp; rfl)
  · exact (fun _ _ _ => rfl)
  refine GW.det (d := (some 60)) [] [] rfl (fun e => by rfl) ?_; apply Exists.intro; refine ⟨fun e w' F hs => ?_, ?_, ?_⟩
  · first | (go_simp; done) | (go_simp; rfl)
  · exact (fun _ _ _ => rfl)
  refine GW.det (d := (some 61)) [0] [] rfl (fun e => by rfl) ?_; apply Exists.intro; refine ⟨fun e w' F hs => ?_, ?_, ?_⟩
  · have y0 : w'.cell? ⟨x1, 0, none⟩ = some (.slice ga N gc) := Sat.cell (T := 64) (cs := #[.slice ga N gc]) (show Sat w w' (pt x1 (.cells #[.slice ga N gc] 64 (0, 0)) * F) from hs) 0 rfl; first | (go_simp; done) | (go_simp; rfl)
  · exact (fun _ _ _ => rfl)
  refine GW.det (d := (some 62)) [] [] rfl (fun e => by rfl) ?_; apply Exists.intro; refine ⟨fun e w' F hs => ?_, ?_, ?_⟩
  · first | (go_simp; done) | (go_simp; rfl)
  · exact (fun _ _ _ => rfl)
  refine GW.det (d := (some 63)) [] [] rfl (fun e => by rfl) ?_; apply Exists.intro; refine ⟨fun e w' F hs => ?_, ?_, ?_⟩
  · first | (go_simp; done) | (go_simp; rfl)
  · exact (fun _ _ _ => rfl)
  refine GW.det (d := (some 64)) [1] [] rfl (fun e => by rfl) ?_; apply Exists.intro; refine ⟨fun e w' F hs => ?_, ?_, ?_⟩
  · have y0 : w'.cell? ⟨x2, 0, none⟩ = some (.slice gb N gd) := Sat.cell (T := 64) (cs := #[.slice gb N gd]) (show Sat w w' (pt x2 (.cells #[.slice gb N gd] 64 (0, 0)) * F) from hs) 0 rfl; first | (go_simp; done) | (go_simp; rfl)
  · exact (fun _ _ _ => rfl)
  refine GW.det (d := (some 65)) [] [] rfl (fun e => by rfl) ?_; apply Exists.intro; refine ⟨fun e w' F hs => ?_, ?_, ?_⟩
  · first | (go_simp; done) | (go_simp; rfl)
  · exact (fun _ _ _ => rfl)
  refine GW.det (d := (some 66)) [] [] rfl (fun e => by rfl) ?_; apply Exists.intro; refine ⟨fun e w' F hs => ?_, ?_, ?_⟩
  · first | (go_simp; done) | (go_simp; rfl)
  · exact (fun _ _ _ => rfl)
  refine GW.det (d := (some 67)) [] [] rfl (fun e => by rfl) ?_; apply Exists.intro; refine ⟨fun e w' F hs => ?_, ?_, ?_⟩
  · first | (go_simp; done) | (go_simp; rfl)
  · exact (fun _ _ _ => rfl)
  refine GW.det (d := (some 68)) [] [] rfl (fun e => by rfl) ?_; apply Exists.intro; refine ⟨fun e w' F hs => ?_, ?_, ?_⟩
  · first | (go_simp; done) | (go_simp; rfl)
  · exact (fun _ _ _ => rfl)
  refine GW.det (d := (some 69)) [] [] rfl (fun e => by rfl) ?_; apply Exists.intro; refine ⟨fun e w' F hs => ?_, ?_, ?_⟩
  · first | (go_simp; done) | (go_simp; rfl)
  · exact (fun _ _ _ => rfl)
  refine GW.det (d := (some 70)) [] [] rfl (fun e => by rfl) ?_; apply Exists.intro; refine ⟨fun e w' F hs => ?_, ?_, ?_⟩
  · first | (go_simp; done) | (go_simp; rfl)
  · exact (fun _ _ _ => rfl)
  refine GW.det (d := (some 71)) [] [] rfl (fun e => by rfl) ?_; apply Exists.intro; refine ⟨fun e w' F hs => ?_, ?_, ?_⟩
  · first | (go_simp; done) | (go_simp; rfl)
  · exact (fun _ _ _ => rfl)
  refine GW.det (d := (some 72)) [4] [] rfl (fun e => by rfl) ?_; apply Exists.intro; refine ⟨fun e w' F hs => ?_, ?_, ?_⟩
  · have y0 := Sat.handH (show Sat w w' (handL b p l2 * F) from hs); first | (go_simp; done) | (go_simp; rfl)
  · exact (fun _ _ _ => rfl)
  refine GW.new (d := (some 73)) 17 (fun x => .slice x.1 nQ x.2) (fun x => slc 3 1 x.1 nQ x.2 (Q.map ival)) [6] rfl rfl (fun e => by rfl) (fun e w' F K hs hK => ?_) ?_
  · go_simp; go_at_call 35; refine (c_Queue (p := p) (A := A3) HA.out.2.2.1 (by omega) (show Sat w w' (heapR mN p A3 * F) from hs) (L := Q) (n := nQ) HB.out.1 HN.out.1).mono ?_; rintro e1 w1 ⟨ga, gc, rfl, hv⟩; exact ⟨_, rfl, hK (ga, gc) _ (hv.cast (mul_left_comm _ _ _))⟩
  refine GW.det (d := (some 74)) [] [] rfl (fun e => by rfl) ?_; apply Exists.intro; refine ⟨fun e w' F hs => ?_, ?_, ?_⟩
  · first | (go_simp; done) | (go_simp; rfl)
  · exact (fun _ _ _ => rfl)
  refine GW.det (d := (some 75)) [] [] rfl (fun e => by rfl) ?_; apply Exists.intro; refine ⟨fun e w' F hs => ?_, ?_, ?_⟩
  · first | (go_simp; done) | (go_simp; rfl)
  · exact (fun _ _ _ => rfl)
  refine GW.det (d := (some 76)) [] [] rfl (fun e => by rfl) ?_; apply Exists.intro; refine ⟨fun e w' F hs => ?_, ?_, ?_⟩
  · first | (go_simp; done) | (go_simp; rfl)
  · exact (fun _ _ _ => rfl)
  refine GW.det (d := (some 77)) [5] [] rfl (fun e => by rfl) ?_; apply Exists.intro; refine ⟨fun e w' F hs => ?_, ?_, ?_⟩
  · have y0 := Sat.handH (show Sat w w' (handL b2 p2 l2 * F) from hs); first | (go_simp; done) | (go_simp; rfl)
  · exact (fun _ _ _ => rfl)
  refine GW.new (d := (some 78)) 22 (fun x => .slice x.1 nQ x.2) (fun x => slc 3 1 x.1 nQ x.2 (Q.map ival)) [7] rfl rfl (fun e => by rfl) (fun e w' F K hs hK => ?_) ?_
  · go_simp; go_at_call 35; refine (c_Queue (p := p2) (A := A3) HA.out.2.2.1 (by omega) (show Sat w w' (heapR mN p2 A3 * F) from hs) (L := Q) (n := nQ) HB.out.1 HN.out.1).mono ?_; rintro e1 w1 ⟨ga, gc, rfl, hv⟩; exact ⟨_, rfl, hK (ga, gc) _ (hv.cast (mul_left_comm _ _ _))⟩
  refine GW.keep (d := (some 79)) (fun e => .bool true) [26, 31] [] rfl (fun e => by rfl) (fun _ _ _ => rfl) (fun e w' F K hs hK => ?_) ?_
  · go_simp; go_at_call 39; have hs := show Sat w w' (slc 3 1 (e 17).1 nQ (e 17).2 (Q.map ival) * (slc 3 1 (e 22).1 nQ (e 22).2 (Q.map ival) * F)) from hs.cast (mul_assoc _ _ _); refine (law_ints hs HN.out.1 HN.out.1 (by omega) (by omega)).mono ?_; rintro e1 w1 ⟨rfl, hv⟩; refine ⟨_, rfl, ?_⟩; rw [decide_eq_true rfl]; exact hK _ (hv.cast (mul_assoc _ _ _).symm)
  refine GW.det (d := (some 80)) [] [] rfl (fun e => by rfl) ?_; apply Exists.intro; refine ⟨fun e w' F hs => ?_, ?_, ?_⟩
  · first | (go_simp; done) | (go_simp; rfl)
  · exact (fun _ _ _ => rfl)
  refine GW.det (d := (some 81)) [] [] rfl (fun e => by rfl) ?_; apply Exists.intro; refine ⟨fun e w' F hs => ?_, ?_, ?_⟩
  · first | (go_simp; done) | (go_simp; rfl)
  · exact (fun _ _ _ => rfl)
  refine GW.det (d := (some 82)) [] [] rfl (fun e => by rfl) ?_; apply Exists.intro; refine ⟨fun e w' F hs => ?_, ?_, ?_⟩
  · first | (go_simp; done) | (go_simp; rfl)
  · exact (fun _ _ _ => rfl)
  refine GW.det (d := (some 83)) [] [] rfl (fun e => by rfl) ?_; apply Exists.intro; refine ⟨fun e w' F hs => ?_, ?_, ?_⟩
  · first | (go_simp; done) | (go_simp; rfl)
  · exact (fun _ _ _ => rfl)
  refine GW.det (d := (some 84)) [] [] rfl (fun e => by rfl) ?_; apply Exists.intro; refine ⟨fun e w' F hs => ?_, ?_, ?_⟩
  · first | (go_simp; done) | (go_simp; rfl)
  · exact (fun _ _ _ => rfl)
  refine GW.det (d := (some 85)) [] [] rfl (fun e => by rfl) ?_; apply Exists.intro; refine ⟨fun e w' F hs => ?_, ?_, ?_⟩
  · first | (go_simp; done) | (go_simp; rfl)
  · exact (fun _ _ _ => rfl)
  refine GW.det (d := (some 86)) [4] [] rfl (fun e => by rfl) ?_; apply Exists.intro; refine ⟨fun e w' F hs => ?_, ?_, ?_⟩
  · have y0 := Sat.handH (show Sat w w' (handL b p l2 * F) from hs); first | (go_simp; done) | (go_simp; rfl)
  · exact (fun _ _ _ => rfl)
  refine GW.new (d := (some 87)) 31 (fun x => .slice x.1 nF x.2) (fun x => slc 3 1 x.1 nF x.2 (FF.map ival)) [6] rfl rfl (fun e => by rfl) (fun e w' F K hs hK => ?_) ?_
  · go_simp; go_at_call 40; refine (c_Fins (p := p) (A := A3) HA.out.2.2.1 (by omega) (show Sat w w' (heapR mN p A3 * F) from hs) (L := FF) (n := nF) HB.out.2.1 HN.out.2).mono ?_; rintro e1 w1 ⟨ga, gc, rfl, hv⟩; exact ⟨_, rfl, hK (ga, gc) _ (hv.cast (mul_left_comm _ _ _))⟩
  refine GW.det (d := (some 88)) [] [] rfl (fun e => by rfl) ?_; apply Exists.intro; refine ⟨fun e w' F hs => ?_, ?_, ?_⟩
  · first | (go_simp; done) | (go_simp; rfl)
  · exact (fun _ _ _ => rfl)
  refine GW.det (d := (some 89)) [] [] rfl (fun e => by rfl) ?_; apply Exists.intro; refine ⟨fun e w' F hs => ?_, ?_, ?_⟩
  · first | (go_simp; done) | (go_simp; rfl)
  · exact (fun _ _ _ => rfl)
  refine GW.det (d := (some 90)) [] [] rfl (fun e => by rfl) ?_; apply Exists.intro; refine ⟨fun e w' F hs => ?_, ?_, ?_⟩
  · first | (go_simp; done) | (go_simp; rfl)
  · exact (fun _ _ _ => rfl)
  refine GW.det (d := (some 91)) [5] [] rfl (fun e => by rfl) ?_; apply Exists.intro; refine ⟨fun e w' F hs => ?_, ?_, ?_⟩
  · have y0 := Sat.handH (show Sat w w' (handL b2 p2 l2 * F) from hs); first | (go_simp; done) | (go_simp; rfl)
  · exact (fun _ _ _ => rfl)
  refine GW.new (d := (some 92)) 36 (fun x => .slice x.1 nF x.2) (fun x => slc 3 1 x.1 nF x.2 (FF.map ival)) [7] rfl rfl (fun e => by rfl) (fun e w' F K hs hK => ?_) ?_
  · go_simp; go_at_call 40; refine (c_Fins (p := p2) (A := A3) HA.out.2.2.1 (by omega) (show Sat w w' (heapR mN p2 A3 * F) from hs) (L := FF) (n := nF) HB.out.2.1 HN.out.2).mono ?_; rintro e1 w1 ⟨ga, gc, rfl, hv⟩; exact ⟨_, rfl, hK (ga, gc) _ (hv.cast (mul_left_comm _ _ _))⟩
  refine GW.keep (d := (some 93)) (fun e => .bool true) [40, 45] [] rfl (fun e => by rfl) (fun _ _ _ => rfl) (fun e w' F K hs hK => ?_) ?_
  · go_simp; go_at_call 39; have hs := show Sat w w' (slc 3 1 (e 31).1 nF (e 31).2 (FF.map ival) * (slc 3 1 (e 36).1 nF (e 36).2 (FF.map ival) * F)) from hs.cast (mul_assoc _ _ _); refine (law_ints hs HN.out.2 HN.out.2 (by omega) (by omega)).mono ?_; rintro e1 w1 ⟨rfl, hv⟩; refine ⟨_, rfl, ?_⟩; rw [decide_eq_true rfl]; exact hK _ (hv.cast (mul_assoc _ _ _).symm)
  refine GW.det (d := (some 94)) [] [] rfl (fun e => by rfl) ?_; apply Exists.intro; refine ⟨fun e w' F hs => ?_, ?_, ?_⟩
  · first | (go_simp; done) | (go_simp; rfl)
  · exact (fun _ _ _ => rfl)
  refine GW.det (d := (some 95)) [] [] rfl (fun e => by rfl) ?_; apply Exists.intro; refine ⟨fun e w' F hs => ?_, ?_, ?_⟩
  · first | (go_simp; done) | (go_simp; rfl)
  · exact (fun _ _ _ => rfl)
  refine GW.done (sz := 148) [0, 1, 2, 3, 4, 5, 6, 7, 8] (by kernel_rfl) (by kernel_rfl) (by rw [HA0.out]; rfl) (by rfl) g7 (by rfl) fun e w8 gg => ?_
  have ha := HA0.out
  subst ha
  clear HA0 hb7 hb8 hb9 hb10 hb11 hb12 g7
  simp only [putL, Act.put, List.setIfInBounds_toArray, List.set_cons_zero, List.set_cons_succ]
  have g8 : Sat w w8 (pt x1 (.cells #[.slice ga N gc] 64 (0, 0)) * (pt x2 (.cells #[.slice gb N gd] 64 (0, 0)) * (objsV ga N gc L * (objsV gb N gd L * (handL b p l2 * (handL b2 p2 l2 * (heapR mN p A3 * (heapR mN p2 A3 * (Old w))))))))) := gg
  clear gg
  generalize e 17 = z1
  generalize e 22 = z2
  generalize e 31 = z3
  generalize e 36 = z4
  clear e
  obtain ⟨X, ⟨hX1, hX2⟩, g9⟩ := (g8.p3).openObjs
  obtain ⟨Y, ⟨hY1, hY2⟩, g10⟩ := (g9.p5).openObjs
  have g11 : Sat w w8 (pt x1 (.cells #[.slice ga N gc] 64 (0, 0)) * (pt x2 (.cells #[.slice gb N gd] 64 (0, 0)) * (slc 39 5 ga N gc (xscells X) * (slc 39 5 gb N gd (xscells Y) * (xslotsR X * (xslotsR Y * (Old w))))))) := Sat.drop_r (F := handL b p l2 * (handL b2 p2 l2 * (heapR mN p A3 * (heapR mN p2 A3)))) (g10.cast (by ac_rfl))
  have HX := Lib.hid (And.intro hX1 hY1)
  have H9 := Lib.hid g11
  clear g8 g9 g10 g11 hX1 hX2 hY1 hY2
  go_wp2
  go_loopw [13] (fun iv wr => ∃ k : Nat, iv = .int .i64 k ∧ k ≤ N ∧ Sat w wr (pt x1 (.cells #[.slice ga N gc] 64 (0, 0)) * (pt x2 (.cells #[.slice gb N gd] 64 (0, 0)) * (slc 39 5 ga N gc (xscells X) * (slc 39 5 gb N gd (xscells Y) * (xslotsR X * (xslotsR Y * (Old w)))))))) (fun iv _ => N - (intOf iv).toNat)
  case atStart => exact ⟨0, rfl, by omega, H9.out⟩
  case round =>
    obtain ⟨k, rfl, hk, hs⟩ := hrel
    have g0 : wr.cell? ⟨x1, 0, none⟩ = some (.slice ga N gc) := Sat.cell (T := 64) (cs := #[.slice ga N gc]) hs 0 rfl
    by_cases hlt : k < N
    · have hXl : X.length = N := by have e := HB.out.2.2.2.2.1; rw [← HX.out.1, List.length_map] at e; exact e
      have hYl : Y.length = N := by have e := HB.out.2.2.2.2.1; rw [← HX.out.2, List.length_map] at e; exact e
      have hx : X[k]? = some (X[k]'(by omega)) := List.getElem?_eq_getElem _
      have hy : Y[k]? = some (Y[k]'(by omega)) := List.getElem?_eq_getElem _
      generalize X[k]'(by omega) = x at hx
      generalize Y[k]'(by omega) = y at hy
      have hxy : x.1 = y.1 := by
        have e1 : L[k]? = some x.1 := by rw [← HX.out.1, List.getElem?_map, hx]; rfl
        have e2 : L[k]? = some y.1 := by rw [← HX.out.2, List.getElem?_map, hy]; rfl
        rw [e1] at e2; exact Option.some.inj e2
      obtain ⟨⟨ok, oc, osl, otx, om⟩, sa1, sc1⟩ := x
      obtain ⟨y1, sa2, sc2⟩ := y
      dsimp only at hxy
      subst hxy
      obtain ⟨g, off, e1, d00, d01, d02, _⟩ := objAtX hs.p3 hx
      obtain ⟨g', off', e2, d10, d11, d12, _⟩ := objAtX hs.p4 hy
      cases e1
      cases e2
      have HG : ∀ w', Sat w w' (pt x1 (.cells #[.slice (some ⟨g, off, none⟩) N gc] 64 (0, 0)) * (pt x2 (.cells #[.slice (some ⟨g', off', none⟩) N gd] 64 (0, 0)) * (slc 39 5 (some ⟨g, off, none⟩) N gc (xscells X) * (slc 39 5 (some ⟨g', off', none⟩) N gd (xscells Y) * (xslotsR X * (xslotsR Y * (Old w))))))) → _ := fun w' hq => And.intro (Sat.cell (T := 64) (cs := #[.slice (some ⟨g, off, none⟩) N gc]) hq 0 rfl : w'.cell? ⟨x1, 0, none⟩ = some (.slice (some ⟨g, off, none⟩) N gc)) (And.intro (Sat.cell (T := 64) (cs := #[.slice (some ⟨g', off', none⟩) N gd]) hq.p2 0 rfl : w'.cell? ⟨x2, 0, none⟩ = some (.slice (some ⟨g', off', none⟩) N gd)) (And.intro (objAtX hq.p3 hx) (objAtX hq.p4 hy)))
      have HG := Lib.hid HG
      have hN64 : (N : Int) ≤ 61 := by omega
      have hkN : (k : Int) < (N : Int) := by omega
      have hk0 : (0 : Int) ≤ (k : Int) := by omega
      clear hXl hYl hx hy d00 d01 d02 d10 d11 d12 g0
      generalize osl.length = on at *
      go_wp2_with fail
      refine wp_region_qq (fun w' => Sat w w' (pt x1 (.cells #[.slice (some ⟨g, off, none⟩) N gc] 64 (0, 0)) * (pt x2 (.cells #[.slice (some ⟨g', off', none⟩) N gd] 64 (0, 0)) * (slc 39 5 (some ⟨g, off, none⟩) N gc (xscells X) * (slc 39 5 (some ⟨g', off', none⟩) N gd (xscells Y) * (xslotsR X * (xslotsR Y * (Old w)))))))) (by kernel_rfl) (by kernel_rfl) hs ?_
      iterate 45 (first
        | (refine QQ.skip (by rfl) ?_; simp only [Act.put, List.setIfInBounds_toArray, List.set_cons_zero, List.set_cons_succ])
        | (refine QQ.want (by rfl) ?_
           apply Exists.intro
           refine ⟨?_, ?_⟩
           · intro w hw
             have ⟨c0, c1, ⟨_, _, q0, q1, q2, q3, _⟩, ⟨_, _, r0, r1, r2, r3, _⟩⟩ := HG.out w hw; cases q0; cases r0
             first
               | (go_simp; done)
               | (go_simp; rfl)
               | (go_simp; fail)
           simp only [Act.put, List.setIfInBounds_toArray, List.set_cons_zero, List.set_cons_succ]))
      refine QQ.nil ?_
      intro w9 h9
      go_wp2_with fail
      go_roundw
      case rel => exact ⟨k + 1, by go_num, by omega, h9⟩
      case measure => simp [intOf]; omega
    · have hkn : k = N := by omega
      subst hkn
      go_wp2
      go_ret
      exact ⟨rfl, Sat.below (F := 1) ((hs.drop.drop.drop.drop.drop.drop).cast (mul_one _).symm)⟩
theorem own : ownKnob Try.prog.godebug = none := by kernel_rfl
theorem laidOut : laidOutB Try.prog = true := by kernel_rfl
set_option maxRecDepth 100000 in
theorem lifted (os : Os) (started : os.Started) (H : Type) (enc : TypeId × Value → H) :
    ReturnsInHanded {} Try.checked os 8 .any (Rows.drainSplitsSpec.pre6 enc Try.prog Try.f8 Rows.drainSplitsRow.domain false) (Rows.drainSplitsSpec.post enc Try.prog Try.f8 false true false false) := by
  refine returnsInHanded_of_change (C := Try.checked) own started (by kernel_rfl) Try.func8
    (ChangeSpec.witness6 (enc := enc) (C := Try.checked) false ⟨#[], #[.slice none 0 0, .int .u8 0, .int .u8 0], []⟩ 8 (by kernel_rfl) (by kernel_rfl) (by kernel_rfl) (by kernel_rfl)) ?_
  intro W base args ds gs before hval0 hW hcnd _
  have hval : ∀ (j : Nat) t v, Try.f8.params[j]? = some t → args[j]? = some v → Value.okWide Try.prog W .any base t v := hval0
  have hW' := hW
  obtain ⟨p, q, hA0, hV, rfl, hfz, hnd⟩ := hW
  have hA : DataW.TrodAll enc Try.prog W 0 (fun _ => true) true Try.f8.params.toList args.toList ds p := hA0
  rw [Try.params8] at hA hval
  obtain ⟨v0, vs0, d0, ds0, p0, q0, hargs, rfl, rfl, h0, r0⟩ := trodAll_cons hA
  obtain ⟨v1, vs1, d1, ds1, p1, q1, rfl, rfl, rfl, h1, r1⟩ := trodAll_cons r0
  obtain ⟨v2, vs2, d2, ds2, p2, q2, rfl, rfl, rfl, h2, r2⟩ := trodAll_cons r1
  obtain ⟨rfl, rfl, rfl⟩ := trodAll_nil r2
  obtain rfl : args = #[v0, v1, v2] := by cases args; simp_all
  obtain ⟨rfl, rfl⟩ := trodVars_none hV
  obtain ⟨a0, len0, cap0, rfl⟩ := okWide_slice Try.underlying72 (hval 0 72 v0 rfl rfl)
  have k0 := h0
  have lt0 : ∀ x ∈ p0, x.block < W.heap.size := by obtain ⟨m, hm⟩ := k0; exact DataW.trod_lt m _ _ _ hm
  obtain ⟨z0, w0⟩ : ∃ zs, IsMoves W a0 len0 cap0 zs := by
    obtain ⟨fuel, hf⟩ := h0
    exact open_moves hf
  obtain ⟨a1, rfl, rfl, rfl, w1⟩ := open_int Try.underlying5 (hval 1 5 v1 rfl rfl) h1
  obtain ⟨a2, rfl, rfl, rfl, w2⟩ := open_int Try.underlying5 (hval 2 5 v2 rfl rfl) h2
  clear hA0 hval0
  refine (walk a0 len0 cap0 z0 a1 a2 W w0 w1 w2).mono fun e W' ⟨he, bel⟩ => ?_
  subst he
  exact ⟨_, rfl, _, _, _, [], _, [], hW', trodAll_mk1 (shut_bool Try.underlying4 _), (trodAll_cons_mk (Below.trod laidOut (by kernel_rfl) (of_decide_eq_true (by kernel_rfl)) k0 bel lt0) (trodAll_cons_mk (shut_int Try.underlying5 w1) (trodAll_cons_mk (shut_int Try.underlying5 w2) trodAll_mk0))), rfl, bel.frame _, fun h => by cases h⟩
theorem over : Rows.drainSplitsRow.holds Try.pinned (OpenSpec.ofChange Rows.drainSplitsSpec) :=
  OpenClaim.holds_of_wide 8 Try.f8 rfl rfl rfl rfl rfl rfl rfl ⟨rfl, rfl, rfl, rfl, rfl⟩ rfl rfl rfl rfl rfl (by kernel_rfl) Try.func8 (by kernel_rfl)
    (of_decide_eq_true (by kernel_rfl)) (by unfold Func.isWrapper; first | (rw [if_pos (by decide +kernel)]; kernel_rfl) | (rw [if_neg (by decide +kernel)]; exact ⟨rfl, rfl⟩))
    (fun os started H enc _ => lifted os started H enc)
theorem drainSplits_holds : Rows.DrainSplitsSaid := over
#print axioms drainSplits_holds
end Go.Proofs.Ytkpcngcegipalaa.DSplits
