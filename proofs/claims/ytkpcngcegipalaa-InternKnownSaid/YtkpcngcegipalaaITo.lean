/- The contracts of intern and cells at known states. No condition. -/
import Derived.Test.YtkpcngcegipalaaIOne1
import Derived.Test.YtkpcngcegipalaaCell7
namespace Go.Proofs.Ytkpcngcegipalaa.Tw
set_option linter.unusedVariables false
set_option linter.unusedSimpArgs false
open Go Go.RowKit Go.MapKept

section
variable {w0 w : World} {m : Hp} {s p : Nat} {A : AHeap} {M : ByteArray → Option Int} {F : HP}
theorem of_made (A' : AHeap) (M' : ByteArray → Option Int) (n : Int) (t : ByteArray) (h : Sat w0 w (heapR m p A * (strR s p M * F))) (hB : (strO A ⟨5, findN M t⟩).slots = []) (hf : findOk A M t = false) (hT : A.T.length < 1000000000) (hok : makeOk 5 t = true)
    (hn : A.fresh = n) (hA : A.make 5 t = A') (hM : (fun u => if u = t then some n else M u) = M') :
    Calls Try.prog 18 #[.pointer (some ⟨s, 0, none⟩), .string t] w fun e w' => e = .returned (.agg #[.int .i64 5, .int .i64 n]) ∧ Sat w0 w' (heapR m p A' * (strR s p M' * F)) := by
  subst hn; subst hA; subst hM
  exact str_Of_made t h (by rw [hB]; simp) hf hT hok
theorem of_found (A' : AHeap) (n : Int) (t : ByteArray) (K : Knows m F) (h : Sat w0 w (heapR m p A * (strR s p M * F))) (hB : (strO A ⟨5, n⟩).slots = []) (hf : findOk A M t = true) (hW : ∀ o, cntO A ⟨5, n⟩ = some o → IntKind.i64.wrap (o.count + 1) = o.count + 1)
    (hn : findN M t = n) (hA : A.keep ⟨5, n⟩ = A') :
    Calls Try.prog 18 #[.pointer (some ⟨s, 0, none⟩), .string t] w fun e w' => e = .returned (.agg #[.int .i64 5, .int .i64 n]) ∧ Sat w0 w' (heapR m p A' * (strR s p M * F)) := by
  subst hn; subst hA
  exact str_Of_found t K h (by rw [hB]; simp) hf hW
theorem find_to (n : Int) (b : Bool) (t : ByteArray) (h : Sat w0 w (heapR m p A * (strR s p M * F))) (hB : (strO A ⟨5, n⟩).slots = []) (hn : findN M t = n) (hb : findOk A M t = b) :
    Calls Try.prog 20 #[.pointer (some ⟨s, 0, none⟩), .string t] w fun e w' => e = .returned (.tuple #[foundV n b, .bool b]) ∧ Sat w0 w' (heapR m p A * (strR s p M * F)) := by
  subst hn; subst hb
  exact str_Find t h (by rw [hB]; simp)
theorem text_to (n : Int) (o : AObj) (h : Sat w0 w (heapR m p A * (strR s p M * F))) (hB : o.slots = []) (ho : strO A ⟨5, n⟩ = o) (hk : o.kind = 5) :
    Calls Try.prog 22 #[.pointer (some ⟨s, 0, none⟩), .agg #[.int .i64 5, .int .i64 n]] w fun e w' => e = .returned (.tuple #[.string o.text, .bool true]) ∧ Sat w0 w' (heapR m p A * (strR s p M * F)) := by
  have hT := str_Text (A := A) (m := m) (s := s) (M := M) ⟨5, n⟩ h (by rw [ho, hB]; simp)
  have e : strIs A ⟨5, n⟩ = true := by unfold strIs; rw [ho, hk]; rfl
  rw [e, ho, if_pos rfl] at hT
  exact hT
theorem drop_to (A' : AHeap) (k n e' : Int) (K : Knows m F) (h : Sat w0 w (heapR m p A * F)) (hB : ∀ o, cntO A ⟨k, n⟩ = some o → IntKind.i64.wrap (o.count - 1) = o.count - 1) (hq : A.queue.length ≤ 1000000000) (hb : A.buf.length ≤ 1000000000) (hE : cntE A ⟨k, n⟩ = e') (hA : A.drop ⟨k, n⟩ = A') :
    Calls Try.prog 19 #[.pointer (some ⟨p, 0, none⟩), .agg #[.int .i64 k, .int .i64 n]] w fun e w' => e = .returned (.int .i64 e') ∧ Sat w0 w' (heapR m p A' * F) := by
  subst hE; subst hA
  exact heap_Drop h K ⟨k, n⟩ hB hq hb
theorem obj_to (n : Int) (o : AObj) (h : Sat w0 w (heapR m p A * F)) (hB : o.slots.length ≤ 2000000000) (ho : A.obj n = o) :
    Calls Try.prog 23 #[.pointer (some ⟨p, 0, none⟩), .int .i64 n] w fun e w' => ∃ a c, e = .returned (objV o a c) ∧ Sat w0 w' (heapR m p A * (slc 28 2 a o.slots.length c (avcells o.slots) * F)) := by
  subst ho
  exact heap_Obj h n hB
theorem obj_at (n : Int) (k ct mk : Int) (t : ByteArray) (h : Sat w0 w (heapR m p A * F)) (ho : A.obj n = ⟨k, ct, [], t, mk⟩) :
    Calls Try.prog 23 #[.pointer (some ⟨p, 0, none⟩), .int .i64 n] w fun e w' => ∃ a c, e = .returned (.agg #[.int .i64 k, .int .i64 ct, .slice a 0 c, .string t, .int .i64 mk]) ∧ Sat w0 w' (heapR m p A * F) := by
  refine (obj_to n _ h (by simp) ho).mono ?_
  rintro e w' ⟨a, c, rfl, h1⟩
  exact ⟨a, c, rfl, h1.p2.drop⟩
theorem make_to (A' : AHeap) (k n : Int) (t : ByteArray) (h : Sat w0 w (heapR m p A * F)) (hT : A.T.length < 1000000000) (hok : makeOk k t = true) (hn : A.fresh = n) (hA : A.make k t = A') :
    Calls Try.prog 25 #[.pointer (some ⟨p, 0, none⟩), .int .i64 k, .string t] w fun e w' => e = .returned (.agg #[.int .i64 k, .int .i64 n]) ∧ Sat w0 w' (heapR m p A' * F) := by
  subst hn; subst hA
  exact heap_Make h hT k t hok
theorem free_to (A' : AHeap) (n : Int) {q : List Int} {o : AObj} (K : Knows m F) (h : Sat w0 w (heapR m p A * F)) (hQ : A.queue = n :: q) (ho : A.objs n = some o) (hsl : o.slots = []) (hq : A.queue.length ≤ 1000000000) (hf : A.fins.length ≤ 1000000000) (hT : A.T.length < 1000000000) (hA : A.free n = A') :
    Calls Try.prog 21 #[.pointer (some ⟨p, 0, none⟩), .int .i64 n] w fun e w' => e = .returned (.int .i64 0) ∧ Sat w0 w' (heapR m p A' * F) := by
  subst hA
  exact heap_Free h K n hQ ho hsl hq hf hT
theorem val2 {b : Nat} {k n : Int} (h : Sat w0 w (pt b (.cells #[.int .i64 k, .int .i64 n] 28) * F)) : w.cell? ⟨b, 0, none⟩ = some (.int .i64 k) ∧ w.cell? ⟨b, 1, none⟩ = some (.int .i64 n) :=
  ⟨Sat.cell (T := 28) (cs := #[.int .i64 k, .int .i64 n]) h 0 rfl, Sat.cell (T := 28) (cs := #[.int .i64 k, .int .i64 n]) h 1 rfl⟩
theorem Sat.belowOld (h : Sat w0 w (Old w0)) : Below w0.heap.size w0 w := (h.cast (mul_one _).symm).below
theorem foundV_yes (n : Int) : foundV n true = .agg #[.int .i64 5, .int .i64 n] := rfl
theorem foundV_no (n : Int) : foundV n false = .agg #[.int .i64 0, .int .i64 0] := rfl
end
end Go.Proofs.Ytkpcngcegipalaa.Tw
