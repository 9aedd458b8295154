/- the laws of drain: works. No condition. -/
import Derived.Test.YtkpcngcegipalaaZPDw42
namespace Go.Proofs.Ytkpcngcegipalaa.Tw
set_option linter.unusedVariables false
set_option linter.unusedSimpArgs false
open Go Go.RowKit Go.MapKept

section
variable {w0 w : World} {p : Nat} {A : AHeap} {F : HP} {B : Int}
theorem c_Obj (h : Sat w0 w (heapR mN p A * F)) (n : Int) {o : AObj} (ho : A.obj n = o) (hs : o.slots.length ≤ 1000000) :
    Calls Try.prog 23 #[.pointer (some ⟨p, 0, none⟩), .int .i64 n] w fun e w' => ∃ a c, e = .returned (.agg #[.int .i64 o.kind, .int .i64 o.count, .slice a o.slots.length c, .string o.text, .int .i64 o.mark]) ∧ Sat w0 w' (slc 28 2 a o.slots.length c (avcells o.slots) * (heapR mN p A * F)) := by
  subst ho
  refine (heap_Obj h n (by omega)).mono ?_
  rintro e w' ⟨a, c, rfl, h2⟩
  exact ⟨a, c, rfl, h2.p2⟩
theorem c_Step (H : HW A B) (hB : B ≤ 1000000) (h : Sat w0 w (heapR mN p A * F)) {b : Bool} (hb : (!A.queue.isEmpty) = b) :
    Calls Try.prog 38 #[.pointer (some ⟨p, 0, none⟩)] w fun e w' => e = .returned (.bool b) ∧ Sat w0 w' (heapR mN p A.stepF * F) := by
  subst hb; exact w_Step H hB h
theorem c_Bound (H : HW A B) (hB : B ≤ 100000) (h : Sat w0 w (heapR mN p A * F)) {k : Int} (hk : (A.boundF : Int) = k) :
    Calls Try.prog 37 #[.pointer (some ⟨p, 0, none⟩)] w fun e w' => e = .returned (.int .i64 k) ∧ Sat w0 w' (heapR mN p A * F) := by
  subst hk; exact w_Bound H hB h
end
def wA1 : AHeap := (twoA false).stepF
def wA2 : AHeap := (drainN 1 wA1).2
def wA3 : AHeap := (drainN 9 wA2).2
def wA : Nat → AHeap
  | 0 => twoA false
  | 1 => wA1
  | 2 => wA2
  | _ => wA3
theorem hw_wA1 : HW wA1 5 := (hw_twoA false).step
theorem hw_wA2 : HW wA2 5 := hw_wA1.drain 1
theorem hw_wA3 : HW wA3 5 := hw_wA2.drain 9
theorem hw_wA : ∀ k, HW (wA k) 5
  | 0 => hw_twoA false
  | 1 => hw_wA1
  | 2 => hw_wA2
  | _ + 3 => hw_wA3
def wO : AObj := (twoA true).stepF.obj 1
section
variable {w0 w : World} {F : HP}
set_option maxRecDepth 100000 in
set_option maxHeartbeats 2000000 in
theorem law_works14 (h : Sat w0 w F) : Calls Try.prog 32 #[] w fun e w' => e = .returned (.bool true) ∧ Sat w0 w' F := by
  have hsl : wO.slots.length = 1 := by decide +kernel
  have hct : wO.count = 1 := by decide +kernel
  have hmk : wO.mark = -1 := by decide +kernel
  have E1 : (drainN (1 : Int).toNat (wA 1)).2 = wA 2 := rfl
  have E2 : (drainN (9 : Int).toNat (wA 2)).2 = wA 3 := rfl
  have E3 : (drainN (-1 : Int).toNat (wA 3).stepF).2 = (wA 3).stepF := rfl
  have K1 : ((drainN (1 : Int).toNat (wA 1)).1 : Int) = 1 := by decide +kernel
  have K2 : ((drainN (9 : Int).toNat (wA 2)).1 : Int) = 1 := by decide +kernel
  have HH := Lib.hid (And.intro hsl (And.intro hct (And.intro hmk (And.intro E1 (And.intro E2 (And.intro E3 (And.intro K1 K2)))))))
  clear hsl hct hmk E1 E2 E3 K1 K2
  go_enter Try.func32, Try.ntmps32
  go_wp2_with fail
  refine (law_two false h).mono ?_
  rintro e w1 ⟨p, rfl, h1⟩
  go_wp2_with fail
  refine (c_Bound (hw_wA 0) (by omega) h1 (k := 5) (by decide +kernel)).mono ?_
  rintro e w2 ⟨rfl, h2⟩
  clear h1
  go_wp2_with fail
  refine (c_Step (hw_wA 0) (by omega) h2 (b := true) (by decide +kernel)).mono ?_
  rintro e w3 ⟨rfl, h3⟩
  clear h2
  go_wp2_with fail
  refine (c_Queue (hw_wA 1) (by omega) h3 (L := [1, 2]) (n := 2) (by decide +kernel) rfl).mono ?_
  rintro e w4 ⟨a, c, rfl, h4⟩
  have h5 := Sat.lit (L := [1, 2]) (n := 2) (h4.alloc (.cells #[.int .i64 1, .int .i64 2] 3)) rfl (by decide)
  clear h3 h4
  go_wp2_with fail
  refine (ints_same h5 rfl (by decide)).mono ?_
  rintro e w5 ⟨rfl, h6⟩
  clear h5
  go_wp2_with fail
  refine (c_Drain (hw_wA 1) (by omega) 1 (by decide) h6 HH.out.2.2.2.2.2.2.1 HH.out.2.2.2.1).mono ?_
  rintro e w6 ⟨rfl, h7⟩
  clear h6
  go_wp2_with fail
  refine (c_Queue (hw_wA 2) (by omega) h7 (L := [2]) (n := 1) (by decide +kernel) rfl).mono ?_
  rintro e w7 ⟨a2, c2, rfl, h8⟩
  have h9 := Sat.lit (L := [2]) (n := 1) (h8.alloc (.cells #[.int .i64 2] 3)) rfl (by decide)
  clear h7 h8
  go_wp2_with fail
  refine (ints_same h9 rfl (by decide)).mono ?_
  rintro e w8 ⟨rfl, h10⟩
  clear h9
  go_wp2_with fail
  refine (c_Drain (hw_wA 2) (by omega) 9 (by decide) h10 HH.out.2.2.2.2.2.2.2 HH.out.2.2.2.2.1).mono ?_
  rintro e w9 ⟨rfl, h11⟩
  clear h10
  go_wp2_with fail
  refine (law_two true h11).mono ?_
  rintro e w10 ⟨q, rfl, h12⟩
  clear h11
  go_wp2_with fail
  refine (c_Step (hw_twoA true) (by omega) h12 (b := true) (by decide +kernel)).mono ?_
  rintro e w11 ⟨rfl, h13⟩
  clear h12
  have HM := (hw_twoA true).step
  go_wp2_with fail
  refine (c_Obj h13 1 (o := wO) rfl (by rw [HH.out.1]; decide)).mono ?_
  rintro e w12 ⟨sa, sc, rfl, h14⟩
  rw [HH.out.1, HH.out.2.1, HH.out.2.2.1] at *
  have h15 := (h14.drop.alloc (.cells #[.int .i64 wO.kind, .int .i64 1, .slice sa 1 sc, .string wO.text, .int .i64 (-1)] 39))
  clear h13 h14
  generalize hob : w12.heap.size = ob at *
  go_wp2_with fail
  refine (c_Queue (hw_wA 3) (by omega) h15.p3 (L := []) (n := 0) (by decide +kernel) rfl).mono ?_
  rintro e w13 ⟨a3, c3, rfl, h16⟩
  clear h15
  go_wp2_with fail
  refine (ints_same (L := []) h16.nilSlc rfl (by decide)).mono ?_
  rintro e w14 ⟨rfl, h17⟩
  clear h16
  go_wp2_with fail
  refine (c_Step (hw_wA 3) (by omega) h17 (b := false) (by decide +kernel)).mono ?_
  rintro e w15 ⟨rfl, h18⟩
  clear h17
  go_wp2_with fail
  refine (c_Drain (hw_wA 3).step (by omega) (-1) (by decide) h18 (k := 0) rfl HH.out.2.2.2.2.2.1).mono ?_
  rintro e w16 ⟨rfl, h19⟩
  clear h18
  go_wp2_with fail
  refine (c_Fins HM (by omega) h19.p3 (L := [1]) (n := 1) (by decide +kernel) rfl).mono ?_
  rintro e w17 ⟨a4, c4, rfl, h20⟩
  have h21 := Sat.lit (L := [1]) (n := 1) (h20.alloc (.cells #[.int .i64 1] 3)) rfl (by decide)
  clear h19 h20
  go_wp2_with fail
  refine (ints_same h21 rfl (by decide)).mono ?_
  rintro e w18 ⟨rfl, h22⟩
  clear h21
  go_wp2_with fail
  refine (c_Queue HM (by omega) h22 (L := []) (n := 0) (by decide +kernel) rfl).mono ?_
  rintro e w19 ⟨a5, c5, rfl, h23⟩
  clear h22
  go_wp2_with fail
  refine (ints_same (L := []) h23.nilSlc rfl (by decide)).mono ?_
  rintro e w20 ⟨rfl, h24⟩
  clear h23
  have d1 : w20.cell? ⟨ob, 1, none⟩ = some (.int .i64 1) := Sat.cell (T := 39) (cs := #[.int .i64 wO.kind, .int .i64 1, .slice sa 1 sc, .string wO.text, .int .i64 (-1)]) h24.p3 1 rfl
  have d2 : w20.cell? ⟨ob, 2, none⟩ = some (.slice sa 1 sc) := Sat.cell (T := 39) (cs := #[.int .i64 wO.kind, .int .i64 1, .slice sa 1 sc, .string wO.text, .int .i64 (-1)]) h24.p3 2 rfl
  have d4 : w20.cell? ⟨ob, 4, none⟩ = some (.int .i64 (-1)) := Sat.cell (T := 39) (cs := #[.int .i64 wO.kind, .int .i64 1, .slice sa 1 sc, .string wO.text, .int .i64 (-1)]) h24.p3 4 rfl
  go_wp2
  go_ret
  exact ⟨rfl, h24.drop.drop.drop⟩
end
end Go.Proofs.Ytkpcngcegipalaa.Tw
