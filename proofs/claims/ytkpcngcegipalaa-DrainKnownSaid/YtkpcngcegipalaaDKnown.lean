/- DrainKnown: the chapter's examples, and heaps that are none: a closed statement, proved without a condition. -/
import Derived.Test.YtkpcngcegipalaaDr17
import Derived.Test.YtkpcngcegipalaaDr16
namespace Go.Proofs.Ytkpcngcegipalaa.DKnown
set_option linter.unusedVariables false
set_option linter.unusedSimpArgs false
open Go Go.RowKit Go.MapKept Go.Proofs.Ytkpcngcegipalaa.Tw
open Go.ChangeShapes Go.WideShapes Go.ChangeAt

section
variable {w0 w : World} {p : Nat} {A : AHeap} {F : HP} {B : Int}
theorem c_Next (H : HW A B) (hB : B ≤ 1000000) (h : Sat w0 w (heapR mN p A * F)) {v : AVal} {k : Int} {b : Bool} (hv : A.nextV = v) (hk : A.nextM = k) (hb : (!A.fins.isEmpty) = b) :
    Calls Try.prog 42 #[.pointer (some ⟨p, 0, none⟩)] w fun e w' => e = .returned (.tuple #[.agg #[.int .i64 v.kind, .int .i64 v.n], .int .i64 k, .bool b]) ∧ Sat w0 w' (heapR mN p A.nextF * F) := by
  subst hv hk hb; exact t_Next H hB h
theorem g_none (H : HW A B) (hB : B ≤ 1000000) (h : Sat w0 w (heapR mN p A * F)) (hl : lastT A.T = 0) :
    Calls Try.prog 30 #[.pointer (some ⟨p, 0, none⟩)] w fun e w' => ∃ ga gc, e = .returned (.agg #[.slice ga 0 gc]) ∧ Sat w0 w' (heapR mN p A * F) := by
  have hT := H.t
  have HG := heap_Graph h (by omega) fun n o ho => by have := H.c n o ho; omega
  rw [hl] at HG
  refine HG.mono ?_
  rintro e w' ⟨a, c, rfl, h2⟩
  exact ⟨a, c, rfl, h2.drop⟩
end
def txx : ByteArray := ByteArray.mk #[120]
def k1 : AHeap := (drainN 10 (twoA true)).2
def k2 : AHeap := k1.nextF.drop ⟨6, 1⟩
def k3 : AHeap := (drainN 100 k2).2
def s1 : AHeap := AHeap.empty.makeF 5 txx
def s2 : AHeap := s1.drop ⟨5, 1⟩
def s3 : AHeap := (drainN 5 s2).2
theorem hk1 : HW k1 5 := (hw_twoA true).drain 10
theorem hk2 : HW k2 5 := hk1.next.drop _
theorem hk3 : HW k3 5 := hk2.drain 100
theorem h0 : HW AHeap.empty 1 := HW.empty.mono (by omega)
theorem hs1 : HW s1 2 := h0.make (by omega) 5 txx
theorem hs2 : HW s2 2 := hs1.drop _
theorem hs3 : HW s3 2 := hs2.drain 5
set_option maxRecDepth 100000 in
set_option maxHeartbeats 4000000 in
theorem walk (w : World) :
    Calls Try.prog 9 #[] w fun e w' => e = .returned (.bool true) ∧ Below w.heap.size w w' := by
  have hs0 := Sat.refl w
  go_enter Try.func9, Try.ntmps9
  go_wp2_with fail
  refine (law_two true hs0).mono ?_
  rintro e w1 ⟨p, rfl, h1⟩
  clear hs0
  go_wp2_with fail
  refine (c_Drain (hw_twoA true) (by omega) 10 (by decide) h1 (k := 1) (A' := k1) (by decide +kernel) rfl).mono ?_
  rintro e w2 ⟨rfl, h2⟩
  clear h1
  go_wp2_with fail
  refine (c_Next hk1 (by omega) h2 (v := ⟨6, 1⟩) (k := 1) (b := true) (by decide +kernel) (by decide +kernel) (by decide +kernel)).mono ?_
  rintro e w3 ⟨rfl, h3⟩
  have h4 := h3.alloc (.cells #[.int .i64 6, .int .i64 1] 28)
  have y0 := (val2' h4).1
  have y1 := (val2' h4).2.1
  generalize hvb : w3.heap.size = vb at *
  clear h2 h3
  go_wp2_with fail
  refine (t_Drop hk1.next (by omega) (knowsN _) h4.p2 ⟨6, 1⟩).mono ?_
  rintro e w5 ⟨rfl, h5⟩
  clear h4
  go_wp2_with fail
  refine (c_Drain hk2 (by omega) 100 (by decide) h5 (k := 3) (A' := k3) (by decide +kernel) rfl).mono ?_
  rintro e w6 ⟨rfl, h6⟩
  clear h5
  go_wp2_with fail
  refine (heap_New h6).mono ?_
  rintro e w7 ⟨q, rfl, h7⟩
  clear h6
  go_wp2_with fail
  refine (c_Make h0 (by omega) (h7 mN) 5 txx (v := ⟨5, 1⟩) (by decide +kernel)).mono ?_
  rintro e w8 ⟨rfl, h8⟩
  clear h7
  go_wp2_with fail
  refine (t_Drop hs1 (by omega) (knowsN _) h8 ⟨5, 1⟩).mono ?_
  rintro e w9 ⟨rfl, h9⟩
  clear h8
  go_wp2_with fail
  refine (c_Bound hs2 (by omega) h9 (k := 2) (by decide +kernel)).mono ?_
  rintro e w10 ⟨rfl, h10⟩
  clear h9
  go_wp2_with fail
  refine (c_Drain hs2 (by omega) 5 (by decide) h10 (k := 1) (A' := s3) (by decide +kernel) rfl).mono ?_
  rintro e w11 ⟨rfl, h11⟩
  clear h10
  go_wp2_with fail
  refine (law_works14 h11).mono ?_
  rintro e w12 ⟨rfl, h12⟩
  clear h11
  go_wp2_with fail
  refine (g_none hk3 (by omega) h12.p2 (by decide +kernel)).mono ?_
  rintro e w13 ⟨ga, gc, rfl, h13⟩
  have hf := run_field_graph ga 0 gc w13
  clear h12
  go_wp2_with fail
  refine (c_Bound hs3 (by omega) h13.p2 (k := 0) (by decide +kernel)).mono ?_
  rintro e w14 ⟨rfl, h14⟩
  clear h13 hf
  go_wp2_with fail
  refine (idle_Step idle_nil (h14.cast (one_mul _).symm)).mono ?_
  rintro e w15 ⟨rfl, h15⟩
  clear h14
  go_wp2_with fail
  refine (idle_Drain idle_nil 5 (by decide) h15).mono ?_
  rintro e w16 ⟨rfl, h16⟩
  clear h15
  go_wp2_with fail
  refine (idle_Bound (ptr := none) ((heap_Graph_nil w16 h16))).mono ?_
  rintro e w17 ⟨rfl, h17⟩
  have h18 : Sat w _ (zeroH w17.heap.size * _) := h17.alloc (.cells #[.pointer none, .map none, .slice none 0 0, .slice none 0 0, .slice none 0 0, .int .i64 0, .nilFunc, .bool false] 90)
  clear h16 h17
  go_wp2_with fail
  refine (idle_Step (idle_zero _) h18).mono ?_
  rintro e w19 ⟨rfl, h19⟩
  have h20 : Sat w _ (zeroH w19.heap.size * _) := h19.alloc (.cells #[.pointer none, .map none, .slice none 0 0, .slice none 0 0, .slice none 0 0, .int .i64 0, .nilFunc, .bool false] 90)
  clear h18 h19
  go_wp2_with fail
  refine (idle_Bound (zero_Graph h20)).mono ?_
  rintro e w21 ⟨rfl, h21⟩
  go_wp2
  go_ret
  exact ⟨rfl, Sat.below (F := 1) (h21.drop.drop.drop.drop.drop.drop.cast (mul_one _).symm)⟩
theorem own : ownKnob Try.prog.godebug = none := by kernel_rfl
theorem laidOut : laidOutB Try.prog = true := by kernel_rfl
set_option maxRecDepth 100000 in
theorem lifted (os : Os) (started : os.Started) (H : Type) (enc : TypeId × Value → H) :
    ReturnsInHanded {} Try.checked os 9 .any (Rows.drainKnownSpec.pre6 enc Try.prog Try.f9 Rows.drainKnownRow.domain false) (Rows.drainKnownSpec.post enc Try.prog Try.f9 false true false false) := by
  refine returnsInHanded_of_change (C := Try.checked) own started (by kernel_rfl) Try.func9
    (ChangeSpec.witness6 (enc := enc) (C := Try.checked) false ⟨#[], #[], []⟩ 8 (by kernel_rfl) (by kernel_rfl) (by kernel_rfl) (by kernel_rfl)) ?_
  intro W base args ds gs before hval0 hW hcnd _
  have hval : ∀ (j : Nat) t v, Try.f9.params[j]? = some t → args[j]? = some v → Value.okWide Try.prog W .any base t v := hval0
  have hW' := hW
  obtain ⟨p, q, hA0, hV, rfl, hfz, hnd⟩ := hW
  have hA : DataW.TrodAll enc Try.prog W 0 (fun _ => true) true Try.f9.params.toList args.toList ds p := hA0
  rw [Try.params9] at hA hval
  obtain ⟨hargs, rfl, rfl⟩ := trodAll_nil hA
  obtain rfl : args = #[] := by cases args; simp_all
  obtain ⟨rfl, rfl⟩ := trodVars_none hV
  clear hA0 hval0
  refine (walk W).mono fun e W' ⟨he, bel⟩ => ?_
  subst he
  exact ⟨_, rfl, _, _, _, [], _, [], hW', trodAll_mk1 (shut_bool Try.underlying4 _), trodAll_mk0, rfl, bel.frame _, fun h => by cases h⟩
theorem over : Rows.drainKnownRow.holds Try.pinned (OpenSpec.ofChange Rows.drainKnownSpec) :=
  OpenClaim.holds_of_wide 9 Try.f9 rfl rfl rfl rfl rfl rfl rfl ⟨rfl, rfl, rfl, rfl, rfl⟩ rfl rfl rfl rfl rfl (by kernel_rfl) Try.func9 (by kernel_rfl)
    (of_decide_eq_true (by kernel_rfl)) (by unfold Func.isWrapper; first | (rw [if_pos (by decide +kernel)]; kernel_rfl) | (rw [if_neg (by decide +kernel)]; exact ⟨rfl, rfl⟩))
    (fun os started H enc _ => lifted os started H enc)
theorem drainKnown_holds : Rows.DrainKnownSaid := over
#print axioms drainKnown_holds
end Go.Proofs.Ytkpcngcegipalaa.DKnown
