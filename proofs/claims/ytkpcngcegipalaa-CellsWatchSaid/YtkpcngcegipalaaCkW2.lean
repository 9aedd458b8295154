/- the laws of cells: works. No condition. -/
import Derived.Test.YtkpcngcegipalaaCkW
namespace Go.Proofs.Ytkpcngcegipalaa.Tw
set_option linter.unusedVariables false
set_option linter.unusedSimpArgs false
open Go Go.RowKit Go.MapKept

namespace CW
def mI : Hp := fun _ => none
theorem kI (F : HP) : Knows mI F := Knows.none F
def tE : ByteArray := ByteArray.mk #[]
def E : AHeap := AHeap.empty
def A1 : AHeap := E.makeF 6 tE
def A2 : AHeap := A1.keep ⟨6, 1⟩
def A3 : AHeap := A2.drop ⟨6, 1⟩
def A4 : AHeap := A3.drop ⟨6, 1⟩
theorem hE : HW E 1 := HW.empty.mono (by omega)
theorem h1 : HW A1 2 := hE.make (by omega) _ _
theorem h2 : HW A2 3 := h1.keep _
theorem h3 : HW A3 3 := h2.drop _
theorem h4 : HW A4 3 := h3.drop _
theorem o3 : ∃ k tx mk, A3.obj 1 = ⟨k, 1, [], tx, mk⟩ := ⟨(A3.obj 1).kind, (A3.obj 1).text, (A3.obj 1).mark, by
  have h2 : (A3.obj 1).count = 1 := by decide +kernel
  have h3 : (A3.obj 1).slots = [] := by decide +kernel
  generalize A3.obj 1 = o at *
  obtain ⟨a, b, c, d, e⟩ := o
  subst h2 h3; rfl⟩
end CW
theorem run_count13 (w : World) (v0 v1 v2 v3 v4 : Value) : (Instr.field 39 (.agg #[v0, v1, v2, v3, v4]) 1).run Try.prog w = .ok v1 w := by kernel_rfl
section
variable {w0 w : World} {F : HP}
set_option maxRecDepth 100000 in
set_option maxHeartbeats 4000000 in
theorem law_works13 (h : Sat w0 w F) : Calls Try.prog 49 #[] w fun e w' => e = .returned (.bool true) ∧ Sat w0 w' F := by
  obtain ⟨k3, t3, m3, ho3⟩ := CW.o3
  have HO := Lib.hid ho3
  clear ho3
  go_enter Try.func49, Try.ntmps49
  go_wp2_with fail
  refine (heap_New h).mono ?_
  rintro e w1 ⟨p, rfl, h1⟩
  go_wp2_with fail
  refine (x_Make CW.hE (by omega) (h1 CW.mI) 6 CW.tE (v := ⟨6, 1⟩) (by decide +kernel)).mono ?_
  rintro e w2 ⟨rfl, h2⟩
  have h3 := h2.alloc (.cells #[.int .i64 6, .int .i64 1] 28)
  generalize hvb : w2.heap.size = vb at *
  have sA := And.intro (val2' h3).1 (val2' h3).2.1
  clear h1 h2
  have h3 := h3.p2
  go_wp2_with fail
  have hfc := fun (w : World) (a : Option Addr) (c : Nat) => run_count13 w (.int .i64 k3) (.int .i64 1) (.slice a 0 c) (.string t3) (.int .i64 m3)
  go_region_held3 (fun w' => w'.cell? ⟨vb, 0, none⟩ = some (.int .i64 6) ∧ w'.cell? ⟨vb, 1, none⟩ = some (.int .i64 1)) (first | assumption | exact sA) (first
    | (go_at_call 59; refine (x_Keep CW.h1 (by omega) (CW.kI _) h3.drew 6 1 (e0 := 0) (by decide +kernel)).mono ?_; rintro e w4 ⟨rfl, h4⟩; have s4 := And.intro (val2' h4.p2).1 (val2' h4.p2).2.1)
    | (go_at_call 19; refine (x_Drop CW.h2 (by omega) (CW.kI _) h4 6 1 (e0 := 0) (by decide +kernel)).mono ?_; rintro e w5 ⟨rfl, h5⟩; have s5 := And.intro (val2' h5.p2).1 (val2' h5.p2).2.1)
    | (go_at_call 23; refine (x_Obj CW.h3 (by omega) h5 1 HO.out (sn := 0) rfl).mono ?_; rintro e w6 ⟨oa, oc, rfl, h6⟩; have s6 := And.intro (val2' h6.p3).1 (val2' h6.p3).2.1))
  clear h3 h4 h5 s4 s5 hfc
  have h7 := h6.drop
  clear h6
  go_wp2_with fail
  go_region_held3 (fun w' => w'.cell? ⟨vb, 0, none⟩ = some (.int .i64 6) ∧ w'.cell? ⟨vb, 1, none⟩ = some (.int .i64 1)) (repeat (first | assumption | refine two_alloc ?_)) (first
    | (go_at_call 58; with_reducible refine (law_of13 h7.drew 6 1).mono ?_; rintro e w8 ⟨rfl, h8⟩; have s8 := And.intro (val2' h8.p2).1 (val2' h8.p2).2.1)
    | (go_at_call 51; with_reducible refine (x_Buf CW.h3 (by omega) h8 (L := [1]) (n := 1) (by decide +kernel) rfl).mono ?_; rintro e w9 ⟨a9, c9, rfl, h9⟩; have s9 := And.intro (val2' h9.p3).1 (val2' h9.p3).2.1; have i9 := Sat.litI (L := [1]) (n := 1) (h9.alloc (.cells #[.int .i64 1] 3)) rfl (by decide))
    | (go_at_call 51; with_reducible refine (x_Buf CW.h3 (by omega) (h8.alloc (.cells #[.int .i64 1] 3)).p2 (L := [1]) (n := 1) (by decide +kernel) rfl).mono ?_; rintro e w9 ⟨a9, c9, rfl, h9⟩; have s9 := And.intro (val2' h9.p4).1 (val2' h9.p4).2.1; have i9 := Sat.litI (L := [1]) (n := 1) h9.p3 rfl (by decide))
    | (go_at_call 60; with_reducible refine (ints_same13 i9 rfl (by decide)).mono ?_; rintro e w10 ⟨rfl, h10⟩; have s10 := And.intro (val2' h10.p2).1 (val2' h10.p2).2.1)
    | (go_at_call 19; with_reducible refine (x_Drop CW.h3 (by omega) (CW.kI _) h10 6 1 (e0 := 0) (by decide +kernel)).mono ?_; rintro e w11 ⟨rfl, h11⟩; have s11 := And.intro (val2' h11.p2).1 (val2' h11.p2).2.1)
    | (go_at_call 35; with_reducible refine (x_Queue CW.h4 (by omega) h11 (L := [1]) (n := 1) (by decide +kernel) rfl).mono ?_; rintro e w12 ⟨a12, c12, rfl, h12⟩; have s12 := And.intro (val2' h12.p3).1 (val2' h12.p3).2.1; have i12 := Sat.litI (L := [1]) (n := 1) (h12.alloc (.cells #[.int .i64 1] 3)) rfl (by decide))
    | (go_at_call 35; with_reducible refine (x_Queue CW.h4 (by omega) (h11.alloc (.cells #[.int .i64 1] 3)).p2 (L := [1]) (n := 1) (by decide +kernel) rfl).mono ?_; rintro e w12 ⟨a12, c12, rfl, h12⟩; have s12 := And.intro (val2' h12.p4).1 (val2' h12.p4).2.1; have i12 := Sat.litI (L := [1]) (n := 1) h12.p3 rfl (by decide))
    | (go_at_call 60; with_reducible refine (ints_same13 i12 rfl (by decide)).mono ?_; rintro e w13 ⟨rfl, h13⟩; have s13 := And.intro (val2' h13.p2).1 (val2' h13.p2).2.1)
    | (go_at_call 51; with_reducible refine (x_Buf CW.h4 (by omega) h13 (L := []) (n := 0) (by decide +kernel) rfl).mono ?_; rintro e w14 ⟨a14, c14, rfl, h14⟩; have s14 := And.intro (val2' h14.p3).1 (val2' h14.p3).2.1; have j14 : Sat w0 w14 (slc 3 1 none 0 0 (([] : List Int).map ival) * _) := h14.nilSlc)
    | (go_at_call 60; with_reducible refine (ints_same13 (L := []) (n := 0) j14 rfl (by decide)).mono ?_; rintro e w15 ⟨rfl, h15⟩; have s15 := And.intro (val2' h15.p2).1 (val2' h15.p2).2.1))
  all_goals
    go_wp2_with fail
    go_ret
    exact ⟨rfl, h15.drop.drop⟩
end
end Go.Proofs.Ytkpcngcegipalaa.Tw
