/- tallowref17: the document's strings: row, Find, Of, Text, Copy. No condition. -/
import Derived.Test.YtkpcngcegipalaaZPIn28
import Derived.Test.YtkpcngcegipalaaZPIn31
namespace Go.Proofs.Ytkpcngcegipalaa.Tw
set_option linter.unusedVariables false
set_option linter.unusedSimpArgs false
open Go Go.RowKit Go.MapKept

/-! rows, plainly -/
abbrev ARow := ByteArray × Int
def rowCells (R : List ARow) : List Value := R.flatMap fun x => [.string x.1, .int .i64 x.2]
def rowI (R : List ARow) (t : ByteArray) : Option Nat := R.findIdx? fun x => decide (x.1 = t)
def rowN (R : List ARow) (t : ByteArray) : Int := match rowI R t with | some k => (k : Int) | none => -1
def rowM (R : List ARow) (t : ByteArray) : Option Int := (R.find? fun x => decide (x.1 = t)).map (·.2)
def rowSet (R : List ARow) (t : ByteArray) (n : Int) : List ARow := match rowI R t with | some k => R.set k (t, n) | none => R ++ [(t, n)]
theorem rowI_some {R : List ARow} {t : ByteArray} {k : Nat} (h : rowI R t = some k) : ∃ n, R[k]? = some (t, n) ∧ rowM R t = some n := by
  unfold rowI at h
  rw [List.findIdx?_eq_some_iff_findIdx_eq] at h
  obtain ⟨h1, h2⟩ := h
  have h3 : (R[k]).1 = t := by
    have := List.findIdx_getElem (xs := R) (p := fun x : ARow => decide (x.1 = t)) (w := by rw [h2]; exact h1)
    simp only [h2] at this
    simpa using this
  refine ⟨(R[k]).2, ?_, ?_⟩
  · rw [List.getElem?_eq_getElem h1, ← h3]
  · unfold rowM
    have hf : R.find? (fun x : ARow => decide (x.1 = t)) = some R[k] := by
      rw [List.find?_eq_some_iff_getElem]
      refine ⟨by simpa using h3, k, h1, rfl, fun j hj => ?_⟩
      have := List.not_of_lt_findIdx (xs := R) (p := fun x : ARow => decide (x.1 = t)) (i := j) (by rw [h2]; exact hj)
      simpa using this
    rw [hf]; rfl
theorem rowI_none {R : List ARow} {t : ByteArray} (h : rowI R t = none) : rowM R t = none ∧ ∀ x ∈ R, x.1 ≠ t := by
  unfold rowI at h
  rw [List.findIdx?_eq_none_iff] at h
  have h2 : ∀ x ∈ R, x.1 ≠ t := fun x hx => by have := h x hx; simpa using this
  refine ⟨?_, h2⟩
  unfold rowM
  rw [List.find?_eq_none.2 fun x hx => by have := h2 x hx; simpa using this]; rfl
theorem rowI_at {R : List ARow} {t : ByteArray} {k : Nat} {n : Int} (h : R[k]? = some (t, n)) (hb : ∀ j x, j < k → R[j]? = some x → x.1 ≠ t) : rowI R t = some k := by
  obtain ⟨hk, he⟩ := List.getElem?_eq_some_iff.1 h
  unfold rowI
  rw [List.findIdx?_eq_some_iff_getElem]
  refine ⟨hk, by simp [he], fun j hj => ?_⟩
  have := hb j _ hj (List.getElem?_eq_getElem (by omega))
  simpa using this
theorem rowI_no {R : List ARow} {t : ByteArray} (hb : ∀ j x, j < R.length → R[j]? = some x → x.1 ≠ t) : rowI R t = none := by
  unfold rowI
  rw [List.findIdx?_eq_none_iff]
  intro x hx
  obtain ⟨j, hj⟩ := List.mem_iff_getElem?.1 hx
  have := hb j x (List.getElem?_eq_some_iff.1 hj).1 hj
  simpa using this
theorem rowM_set (R : List ARow) (t : ByteArray) (n : Int) : rowM (rowSet R t n) = fun u => if u = t then some n else rowM R u := by
  funext u
  unfold rowSet
  cases h : rowI R t with
  | none =>
    obtain ⟨_, h2⟩ := rowI_none h
    unfold rowM
    dsimp only
    rw [List.find?_append]
    by_cases e : u = t
    · subst e
      rw [List.find?_eq_none.2 fun x hx => by have := h2 x hx; simpa using this]
      simp
    · rw [if_neg e]
      have : ¬ t = u := fun q => e q.symm
      simp [this]
  | some k =>
    obtain ⟨n0, h1, -⟩ := rowI_some h
    have hfirst : ∀ j x, j < k → R[j]? = some x → x.1 ≠ t := fun j x hj hx => by
      unfold rowI at h
      rw [List.findIdx?_eq_some_iff_getElem] at h
      obtain ⟨_, _, h3⟩ := h
      have hjl := (List.getElem?_eq_some_iff.1 hx)
      have := h3 j hj
      rw [hjl.2] at this
      simpa using this
    clear h
    dsimp only
    induction R generalizing k with
    | nil => simp at h1
    | cons y R ih =>
      cases k with
      | zero =>
        simp at h1; subst h1
        unfold rowM
        by_cases e : u = t
        · subst e; simp
        · have : ¬ t = u := fun q => e q.symm
          simp [this, e]
      | succ k =>
        have hy : y.1 ≠ t := hfirst 0 y (by omega) rfl
        have := ih k (by simpa using h1) (fun j x hj hx => hfirst (j + 1) x (by omega) (by simpa using hx))
        unfold rowM at this ⊢
        by_cases eu : y.1 = u
        · have : ¬ u = t := fun q => hy (eu.trans q)
          simp [eu, this]
        · simpa [eu] using this
theorem rowCells_len : ∀ R : List ARow, (rowCells R).length = R.length * 2
  | [] => rfl
  | y :: r => by
    have := rowCells_len r
    simp only [rowCells, List.flatMap_cons, List.length_append, List.length_cons, List.length_nil] at this ⊢
    omega
theorem oneCell_rowCells (l : List ARow) : ∀ v ∈ rowCells l, v.oneCell' = true := by
  intro v hv
  simp only [rowCells, List.mem_flatMap] at hv
  obtain ⟨x, _, h⟩ := hv
  simp at h
  rcases h with rfl | rfl <;> rfl
theorem rowCells_get (l : List ARow) : ∀ (i : Nat) (x : ARow), l[i]? = some x → (rowCells l)[i * 2]? = some (.string x.1) ∧ (rowCells l)[i * 2 + 1]? = some (.int .i64 x.2) := by
  induction l with
  | nil => intro i x h; simp at h
  | cons y l ih =>
    intro i x h
    have e : rowCells (y :: l) = .string y.1 :: .int .i64 y.2 :: rowCells l := rfl
    rw [e]
    cases i with
    | zero => simp at h; subst h; exact ⟨rfl, rfl⟩
    | succ i =>
      have := ih i x (by simpa using h)
      rw [show (i + 1) * 2 = i * 2 + 1 + 1 by omega]
      simpa using this
theorem rowCells_set (l : List ARow) : ∀ (i : Nat) (x : ARow) (n : Int), l[i]? = some x → (rowCells l).set (i * 2 + 1) (.int .i64 n) = rowCells (l.set i (x.1, n)) := by
  induction l with
  | nil => intro i x n h; simp at h
  | cons y l ih =>
    intro i x n h
    have e : rowCells (y :: l) = .string y.1 :: .int .i64 y.2 :: rowCells l := rfl
    rw [e]
    cases i with
    | zero => simp at h; subst h; rfl
    | succ i =>
      rw [show (i + 1) * 2 + 1 = i * 2 + 1 + 1 + 1 by omega]
      simp only [List.set_cons_succ]
      rw [ih i x n (by simpa using h)]
      rfl
section
variable {w0 w : World} {F : HP}
theorem rowAt {a : Option Addr} {c n : Nat} {l : List ARow} (h : Sat w0 w (slc 172 2 a n c (rowCells l) * F)) {k : Nat} {x : ARow} (hk : l[k]? = some x) :
    ∃ g off, a = some ⟨g, off, none⟩ ∧ w.cell? ⟨g, off + k * 2, none⟩ = some (.string x.1) ∧ w.cell? ⟨g, off + k * 2 + 1, none⟩ = some (.int .i64 x.2) ∧ w.frozen? ⟨g, off + k * 2 + 1, none⟩ = false := by
  obtain ⟨e0, e1⟩ := rowCells_get l k x hk
  obtain ⟨g, off, ha, h0, f0⟩ := h.slcAt e0
  obtain ⟨g', off', ha', h1, f1⟩ := h.slcAt e1
  rw [ha] at ha'
  cases ha'
  exact ⟨g, off, ha, h0, by rw [Nat.add_assoc]; exact h1, by rw [Nat.add_assoc]; exact f1⟩
end
/-- the document's strings at s, of the heap at q, with the rows R -/
def refS (s q : Nat) (R : List ARow) : HP := fun h => ∃ ra rc, (row s 56 #[.pointer (some ⟨q, 0, none⟩), .slice ra R.length rc] * slc 172 2 ra R.length rc (rowCells R)) h
section
variable {w0 w : World} {F : HP} {s q : Nat} {R : List ARow} {A : AHeap} {B : Int}
theorem Sat.openS (h : Sat w0 w (refS s q R * F)) : ∃ ra rc, Sat w0 w (row s 56 #[.pointer (some ⟨q, 0, none⟩), .slice ra R.length rc] * (slc 172 2 ra R.length rc (rowCells R) * F)) := by
  obtain ⟨h1, x, ⟨y, z, dj, rfl, ⟨ra, rc, hp⟩, hq⟩, r⟩ := h
  have h2 : Sat w0 w ((row s 56 #[.pointer (some ⟨q, 0, none⟩), .slice ra R.length rc] * slc 172 2 ra R.length rc (rowCells R)) * F) := ⟨h1, _, ⟨y, z, dj, rfl, hp, hq⟩, r⟩
  exact ⟨ra, rc, h2.cast (mul_assoc _ _ _)⟩
theorem Sat.shutS {ra : Option Addr} {rc : Nat} (h : Sat w0 w (row s 56 #[.pointer (some ⟨q, 0, none⟩), .slice ra R.length rc] * (slc 172 2 ra R.length rc (rowCells R) * F))) : Sat w0 w (refS s q R * F) :=
  (h.cast (mul_assoc _ _ _).symm).mono_l fun _ hq => ⟨ra, rc, hq⟩
set_option maxHeartbeats 1000000 in
theorem ref_row {ra : Option Addr} {rc : Nat} (h : Sat w0 w (row s 56 #[.pointer (some ⟨q, 0, none⟩), .slice ra R.length rc] * (slc 172 2 ra R.length rc (rowCells R) * F))) (hn : R.length ≤ 1000000) (t : ByteArray) {r : Int} (hr : rowN R t = r) :
    Calls Try.prog 128 #[.pointer (some ⟨s, 0, none⟩), .string t] w fun e w' => e = .returned (.int .i64 r) ∧ w = w' := by
  subst hr
  have c1 : w.cell? ⟨s, 1, none⟩ = some (.slice ra R.length rc) := h.cell 1 rfl
  have HR := Lib.hid (fun (k : Nat) (x : ARow) (hk : R[k]? = some x) => rowAt h.p2 hk)
  have HL := Lib.hid (show R.length = R.length from rfl)
  obtain ⟨n, hRn⟩ : ∃ n, R.length = n := ⟨_, rfl⟩
  rw [hRn] at c1 hn
  have HN := Lib.hid hRn
  clear h hRn HL
  go_enter Try.func128, Try.ntmps128
  go_wp2_with fail
  go_loop [5] (fun iv => ∃ k : Nat, iv = .int .i64 k ∧ k ≤ n ∧ Hid (∀ j x, j < k → R[j]? = some x → x.1 ≠ t)) (fun iv => n - (intOf iv).toNat)
  case atStart => exact ⟨0, rfl, by omega, Lib.hid (fun j x hj => by omega)⟩
  case round =>
    obtain ⟨k, rfl, hk, hb⟩ := hrel
    by_cases hlt : k < n
    · have ex : R[k]? = some (R[k]'(by rw [HN.out]; exact hlt)) := List.getElem?_eq_getElem _
      generalize R[k]'(by rw [HN.out]; exact hlt) = x at ex
      obtain ⟨g, off, rfl, d0, _, _⟩ := HR.out k x ex
      obtain ⟨tx, m⟩ := x
      dsimp only at d0
      have HX := Lib.hid ex
      clear ex
      by_cases he : tx = t
      · subst he
        have hq : (tx.toList == tx.toList) = true := by simp
        have hI := Lib.hid (rowI_at HX.out hb.out)
        go_wp2_with fail
        go_ret
        exact ⟨by unfold rowN; rw [hI.out]; rfl, rfl⟩
      · have hq : (tx.toList == t.toList) = false := by rw [bytes_eq]; simpa using he
        have HE := Lib.hid he
        clear he
        go_wp2_with fail
        go_round
        case rel =>
          refine ⟨k + 1, by go_num, by omega, Lib.hid (fun j y hj hy => ?_)⟩
          rcases Nat.lt_or_ge j k with h1 | h1
          · exact hb.out j y h1 hy
          · obtain rfl : j = k := by omega
            rw [HX.out] at hy
            cases hy
            exact HE.out
        case measure => simp [intOf]; omega
    · obtain rfl : k = n := by omega
      have hI := Lib.hid (rowI_no (R := R) (t := t) (by rw [HN.out]; exact hb.out))
      go_wp2_with fail
      go_ret
      exact ⟨by unfold rowN; rw [hI.out]; rfl, rfl⟩
end
attribute [local go_sem] lookE lkE valUpon
section
variable {w0 w : World} {F : HP} {s q : Nat} {R : List ARow} {A : AHeap} {B : Int}
def rfB (A : AHeap) (R : List ARow) (t : ByteArray) : Bool := match rowM R t with
  | none => false
  | some n => decide ((A.obj n).kind = 5) && (decide ((A.obj n).text = t) && !decide ((A.obj n).count = 0))
set_option maxRecDepth 100000 in
set_option maxHeartbeats 4000000 in
theorem ref_Find (H0 : HW A B) (hB : B ≤ 1000000) (h : Sat w0 w (refR13 q A * (refS s q R * F))) (hn : R.length ≤ 1000000) (t : ByteArray) {b : Bool} (hb : rfB A R t = b) {n : Int} (hN : (rowM R t).getD 0 = n) :
    Calls Try.prog 88 #[.pointer (some ⟨s, 0, none⟩), .string t] w fun e w' => e = .returned (.tuple #[foundV n b, .bool b]) ∧ Sat w0 w' (refR13 q A * (refS s q R * F)) := by
  have hz := h.alloc (.cells #[.int .i64 0, .int .i64 0] 28)
  generalize hvb : w.heap.size = vb at *
  obtain ⟨ra, rc, hs⟩ := (hz.cast (show _ = refS s q R * (refR13 q A * (pt vb (.cells #[.int .i64 0, .int .i64 0] 28 (0, 0)) * F)) by ac_rfl)).openS
  cases hI : rowI R t with
  | none =>
    obtain ⟨h1, _⟩ := rowI_none hI
    have hbf : b = false := by rw [← hb]; unfold rfB; rw [h1]
    subst hbf
    have HC := Lib.hid (ref_row hs hn t (r := -1) (by unfold rowN; rw [hI]))
    have ⟨v0, v1, vf0, vf1⟩ := val2' hz
    have HZ := Lib.hid hz
    clear h hs hb hI h1 hz
    go_enter Try.func88, Try.ntmps88
    go_wp2_with fail
    refine HC.out.mono ?_
    rintro e w1 ⟨rfl, rfl⟩
    go_wp2_with fail
    exact bodyPost_cell_tmp rfl rfl rfl (load_val HZ.out) rfl ⟨rfl, HZ.out.drop⟩
  | some k =>
    obtain ⟨n', hk, hM⟩ := rowI_some hI
    obtain rfl : n = n' := by rw [← hN, hM]; rfl
    have HC := Lib.hid (ref_row hs hn t (r := (k : Int)) (by unfold rowN; rw [hI]))
    obtain ⟨g, off, era, _, _, _⟩ := rowAt hs.p2 hk
    subst era
    have hkl := (List.getElem?_eq_some_iff.1 hk).1
    obtain ⟨⟨ok, oc, sl, tx, om⟩, hob⟩ : ∃ o, A.obj n = o := ⟨_, rfl⟩
    have hbe : b = (decide (ok = 5) && (decide (tx = t) && !decide (oc = 0))) := by rw [← hb]; unfold rfB; rw [hM]; dsimp only; rw [hob]
    have HK := Lib.hid hk
    have HO := Lib.hid hob
    have H := Lib.hid H0
    have HBE := Lib.hid hbe
    obtain ⟨RR, hRR⟩ : ∃ R : HP, R = pt vb (.cells #[.int .i64 0, .int .i64 0] 28 (0, 0)) * F := ⟨_, rfl⟩
    have HRR := Lib.hid hRR
    have HS := Lib.hid (show Sat w0 _ (refR13 q A * (row s 56 #[.pointer (some ⟨q, 0, none⟩), .slice (some ⟨g, off, none⟩) R.length rc] * (slc 172 2 (some ⟨g, off, none⟩) R.length rc (rowCells R) * RR))) from hs.cast (by rw [hRR]; ac_rfl))
    clear h hs hb hI hM hN hz hk hob hbe H0 hRR
    have hk1 : (0 : Int) ≤ (k : Int) := by omega
    have hk2 : (k : Int) < (R.length : Int) := by omega
    go_enter Try.func88, Try.ntmps88
    go_wp2_with fail
    refine HC.out.mono ?_
    rintro e w1 ⟨rfl, rfl⟩
    go_wp2_with fail
    refine wp_gen fun a0 ha => ?_
    have hb0 : base a0 0 = .pointer (some ⟨s, 0, none⟩) := by rw [ha]; rfl
    have hb6 : base a0 6 = .int .i64 k := by rw [ha]; rfl
    have hsz0 : a0.tmps.size = 51 := by rw [ha]; rfl
    have HA0 := Lib.hid (And.intro hsz0 ha)
    clear ha hsz0
    refine GW.start (X := Option Addr × Nat) (w0 := w0) (B := [refR13 q A, row s 56 #[.pointer (some ⟨q, 0, none⟩), .slice (some ⟨g, off, none⟩) R.length rc], slc 172 2 (some ⟨g, off, none⟩) R.length rc (rowCells R), RR]) (a0 := a0) ?_
    refine GW.det (d := (some 14)) [] [] rfl (fun e => by rfl) ?_; apply Exists.intro; refine ⟨fun e w' F hs => ?_, ?_, ?_⟩
    · first | (go_simp; done) | (go_simp; rfl)
    · exact (fun _ _ _ => rfl)
    refine GW.det (d := (some 15)) [] [] rfl (fun e => by rfl) ?_; apply Exists.intro; refine ⟨fun e w' F hs => ?_, ?_, ?_⟩
    · first | (go_simp; done) | (go_simp; rfl)
    · exact (fun _ _ _ => rfl)
    refine GW.det (d := (some 16)) [] [] rfl (fun e => by rfl) ?_; apply Exists.intro; refine ⟨fun e w' F hs => ?_, ?_, ?_⟩
    · first | (go_simp; done) | (go_simp; rfl)
    · exact (fun _ _ _ => rfl)
    refine GW.det (d := (some 17)) [1] [] rfl (fun e => by rfl) ?_; apply Exists.intro; refine ⟨fun e w' F hs => ?_, ?_, ?_⟩
    · have y0 : w'.cell? ⟨s, 0, none⟩ = some (.pointer (some ⟨q, 0, none⟩)) := (show Sat w0 w' (row s 56 #[.pointer (some ⟨q, 0, none⟩), .slice (some ⟨g, off, none⟩) R.length rc] * F) from hs).cell 0 rfl; first | (go_simp; done) | (go_simp; rfl)
    · exact (fun _ _ _ => rfl)
    refine GW.det (d := (some 18)) [] [] rfl (fun e => by rfl) ?_; apply Exists.intro; refine ⟨fun e w' F hs => ?_, ?_, ?_⟩
    · first | (go_simp; done) | (go_simp; rfl)
    · exact (fun _ _ _ => rfl)
    refine GW.det (d := (some 19)) [] [] rfl (fun e => by rfl) ?_; apply Exists.intro; refine ⟨fun e w' F hs => ?_, ?_, ?_⟩
    · first | (go_simp; done) | (go_simp; rfl)
    · exact (fun _ _ _ => rfl)
    refine GW.det (d := (some 20)) [] [] rfl (fun e => by rfl) ?_; apply Exists.intro; refine ⟨fun e w' F hs => ?_, ?_, ?_⟩
    · first | (go_simp; done) | (go_simp; rfl)
    · exact (fun _ _ _ => rfl)
    refine GW.det (d := (some 21)) [1] [] rfl (fun e => by rfl) ?_; apply Exists.intro; refine ⟨fun e w' F hs => ?_, ?_, ?_⟩
    · have y0 : w'.cell? ⟨s, 1, none⟩ = some (.slice (some ⟨g, off, none⟩) R.length rc) := (show Sat w0 w' (row s 56 #[.pointer (some ⟨q, 0, none⟩), .slice (some ⟨g, off, none⟩) R.length rc] * F) from hs).cell 1 rfl; first | (go_simp; done) | (go_simp; rfl)
    · exact (fun _ _ _ => rfl)
    refine GW.det (d := (some 22)) [] [] rfl (fun e => by rfl) ?_; apply Exists.intro; refine ⟨fun e w' F hs => ?_, ?_, ?_⟩
    · first | (go_simp; done) | (go_simp; rfl)
    · exact (fun _ _ _ => rfl)
    refine GW.det (d := (some 23)) [] [] rfl (fun e => by rfl) ?_; apply Exists.intro; refine ⟨fun e w' F hs => ?_, ?_, ?_⟩
    · first | (go_simp; done) | (go_simp; rfl)
    · exact (fun _ _ _ => rfl)
    refine GW.det (d := (some 24)) [] [] rfl (fun e => by rfl) ?_; apply Exists.intro; refine ⟨fun e w' F hs => ?_, ?_, ?_⟩
    · first | (go_simp; done) | (go_simp; rfl)
    · exact (fun _ _ _ => rfl)
    refine GW.det (d := (some 25)) [2] [] rfl (fun e => by rfl) ?_; apply Exists.intro; refine ⟨fun e w' F hs => ?_, ?_, ?_⟩
    · obtain ⟨g', off', e', _, y1, _⟩ := rowAt (show Sat w0 w' (slc 172 2 (some ⟨g, off, none⟩) R.length rc (rowCells R) * F) from hs) HK.out; cases e'; dsimp only at y1; first | (go_simp; done) | (go_simp; rfl)
    · exact (fun _ _ _ => rfl)
    refine GW.new (d := (some 26)) 12 (fun x => .agg #[.int .i64 ok, .int .i64 oc, .slice x.1 sl.length x.2, .string tx, .int .i64 om]) (fun x => slc 28 2 x.1 sl.length x.2 (avcells sl)) [0] rfl rfl (fun e => by rfl) (fun e w' F K hs hK => ?_) ?_
    · go_simp; (refine (r_Obj H.out hB (show Sat w0 w' (refR13 q A * F) from hs) n HO.out rfl).mono ?_; rintro e2 w2 ⟨a2, c2, rfl, h2⟩; exact ⟨_, rfl, hK (a2, c2) _ h2.p2⟩)
    refine GW.new (d := (some 7)) 13 (fun x => .pointer (some ⟨x.2, 0, none⟩)) (fun x => pt x.2 (.cells #[.int .i64 0, .int .i64 0, .slice none 0 0, .string (ByteArray.mk #[]), .int .i64 0] 39)) [] rfl rfl (fun e => by rfl) (fun e w' F K hs hK => ?_) ?_
    · go_simp; exact hK (none, _) _ ((hs.alloc (.cells #[.int .i64 0, .int .i64 0, .slice none 0 0, .string (ByteArray.mk #[]), .int .i64 0] 39)).cast (mul_left_comm _ _ _))
    refine GW.take (d := none) 14 (fun e => undef) (fun e => pt (e 13).2 (.cells #[.int .i64 ok, .int .i64 oc, .slice (e 12).1 sl.length (e 12).2, .string tx, .int .i64 om] 39 (0, 0))) [] [17] [12, 13] rfl rfl (fun e => by rfl) (fun e e' hl => by simp only [hl 12 (by decide), hl 13 (by decide)]; exact ⟨trivial, trivial⟩) (fun e w' F K hs hK => ?_) ?_
    · have hs := show Sat w0 w' (pt (e 13).2 (.cells #[.int .i64 0, .int .i64 0, .slice none 0 0, .string (ByteArray.mk #[]), .int .i64 0] 39 (0, 0)) * F) from one_out hs; have ⟨f0, f1, f2, f3, f4⟩ := ofree hs; have ⟨c0, c1, c2, c3, c4, _⟩ := ocells hs; go_simp; exact hK default _ (one_in (setObj5 (k' := ok) (c' := oc) (xa' := (e 12).1) (n' := sl.length) (xc' := (e 12).2) (tx' := tx) (mk' := om) hs))
    refine GW.done (sz := 51) [4 + 14, 0, 1, 2, 3] (by kernel_rfl) (by kernel_rfl) HA0.out.1 (by rfl) HS.out (by rfl) fun e w3 gg => ?_
    have ha := HA0.out.2
    subst ha
    clear HA0 HS hb0 hb6
    simp only [putL, Act.put, List.setIfInBounds_toArray, List.set_cons_zero, List.set_cons_succ]
    replace gg : Sat w0 w3 (pt (e 13).2 (.cells #[.int .i64 ok, .int .i64 oc, .slice (e 12).1 sl.length (e 12).2, .string tx, .int .i64 om] 39 (0, 0)) * (refR13 q A * (row s 56 #[.pointer (some ⟨q, 0, none⟩), .slice (some ⟨g, off, none⟩) R.length rc] * (slc 172 2 (some ⟨g, off, none⟩) R.length rc (rowCells R) * RR)))) := gg
    generalize (e 13).2 = ob at *
    generalize e 12 = y at *
    obtain ⟨ya, yc⟩ := y
    dsimp only at gg ⊢
    have ⟨y0, y1, y2, y3, y4, _⟩ := ocells gg
    have c1 : w3.cell? ⟨s, 1, none⟩ = some (.slice (some ⟨g, off, none⟩) R.length rc) := gg.p3.cell 1 rfl
    obtain ⟨g', off', e', _, r1, _⟩ := rowAt gg.p4 HK.out
    cases e'
    dsimp only at r1
    have h4 : Sat w0 w3 (pt vb (.cells #[.int .i64 0, .int .i64 0] 28 (0, 0)) * (refR13 q A * (row s 56 #[.pointer (some ⟨q, 0, none⟩), .slice (some ⟨g, off, none⟩) R.length rc] * (slc 172 2 (some ⟨g, off, none⟩) R.length rc (rowCells R) * F)))) := gg.drop.cast (by rw [HRR.out]; ac_rfl)
    have ⟨_, _, vf0, vf1⟩ := val2' h4
    have HZ0 := Lib.hid (h4.setVal 0 0)
    have HZ1 := Lib.hid (h4.setVal 5 n)
    clear gg h4
    by_cases k5 : ok = 5
    · have t1 : (ok != 5) = false := by simpa using k5
      have t1b : ok = 5 := k5
      clear t1b
      by_cases et : tx = t
      · have t2 : (tx.toList != t.toList) = false := by rw [et]; simp
        have t2b : (tx.toList == t.toList) = true := by rw [et]; simp
        by_cases ec : oc = 0
        · have t3 : (oc == 0) = true := by simpa using ec
          have hbf := Lib.hid (show b = false from by rw [HBE.out]; simp [ec])
          clear k5 et ec
          go_wp2_with fail
          all_goals exact bodyPost_cell_tmp rfl rfl rfl (load_val HZ0.out) rfl ⟨by rw [hbf.out]; rfl, (Sat.shutS (HZ0.out.drop.cast (show _ = row s 56 #[.pointer (some ⟨q, 0, none⟩), .slice (some ⟨g, off, none⟩) R.length rc] * (slc 172 2 (some ⟨g, off, none⟩) R.length rc (rowCells R) * (refR13 q A * F)) by ac_rfl))).p2⟩
        · have t3 : (oc == 0) = false := by simpa using ec
          have hbf := Lib.hid (show b = true from by rw [HBE.out]; simp [k5, et, ec])
          clear k5 et ec
          go_wp2_with fail
          all_goals exact bodyPost_cell_tmp rfl rfl rfl (load_val HZ1.out) rfl ⟨by rw [hbf.out]; rfl, (Sat.shutS (HZ1.out.drop.cast (show _ = row s 56 #[.pointer (some ⟨q, 0, none⟩), .slice (some ⟨g, off, none⟩) R.length rc] * (slc 172 2 (some ⟨g, off, none⟩) R.length rc (rowCells R) * (refR13 q A * F)) by ac_rfl))).p2⟩
      · have t2 : (tx.toList != t.toList) = true := by rw [bne, bytes_eq]; simpa using et
        have t2b : (tx.toList == t.toList) = false := by rw [bytes_eq]; simpa using et
        have hbf := Lib.hid (show b = false from by rw [HBE.out]; simp [et])
        clear k5 et
        go_wp2_with fail
        all_goals exact bodyPost_cell_tmp rfl rfl rfl (load_val HZ0.out) rfl ⟨by rw [hbf.out]; rfl, (Sat.shutS (HZ0.out.drop.cast (show _ = row s 56 #[.pointer (some ⟨q, 0, none⟩), .slice (some ⟨g, off, none⟩) R.length rc] * (slc 172 2 (some ⟨g, off, none⟩) R.length rc (rowCells R) * (refR13 q A * F)) by ac_rfl))).p2⟩
    · have t1 : (ok != 5) = true := by simpa using k5
      have hbf := Lib.hid (show b = false from by rw [HBE.out]; simp [k5])
      clear k5
      go_wp2_with fail
      exact bodyPost_cell_tmp rfl rfl rfl (load_val HZ0.out) rfl ⟨by rw [hbf.out]; rfl, (Sat.shutS (HZ0.out.drop.cast (show _ = row s 56 #[.pointer (some ⟨q, 0, none⟩), .slice (some ⟨g, off, none⟩) R.length rc] * (slc 172 2 (some ⟨g, off, none⟩) R.length rc (rowCells R) * (refR13 q A * F)) by ac_rfl))).p2⟩
end
end Go.Proofs.Ytkpcngcegipalaa.Tw
