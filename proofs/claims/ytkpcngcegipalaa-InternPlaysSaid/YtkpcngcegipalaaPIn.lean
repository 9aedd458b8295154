/- InternPlays: whatever is done with strings and their heap, they answer as the document says, and the heap is as it says: proved for every slice of acts, without a condition. -/
import Derived.Test.YtkpcngcegipalaaZPIn40
import Derived.Test.YtkpcngcegipalaaZPIn31
namespace Go.Proofs.Ytkpcngcegipalaa.PIn
set_option linter.unusedVariables false
set_option linter.unusedSimpArgs false
open Go Go.RowKit Go.MapKept Go.Proofs.Ytkpcngcegipalaa.Tw
open Go.ChangeShapes Go.WideShapes Go.ChangeAt Go.Deep

attribute [local go_sem] lookE lkE valUpon
def cells17 (x : Act17) : List Value := [.int .i64 x.what, .string x.tx, .int .i64 x.v.kind, .int .i64 x.v.n]
def acells17 (l : List Act17) : List Value := (l.map cells17).flatten
theorem acells17_get : ∀ {rs : List Act17} {k : Nat} {r : Act17}, rs[k]? = some r → ∀ j v, (cells17 r)[j]? = some v → (acells17 rs)[k * 4 + j]? = some v
  | [], k, r, h, _, _, _ => by simp at h
  | y :: rs, 0, r, h, j, v, hj => by
    simp at h; subst h
    show (cells17 y ++ acells17 rs)[0 * 4 + j]? = _
    rw [List.getElem?_append_left (by have := (List.getElem?_eq_some_iff.1 hj).1; omega), Nat.zero_mul, Nat.zero_add]; exact hj
  | y :: rs, k + 1, r, h, j, v, hj => by
    simp at h
    have := acells17_get h j v hj
    show (cells17 y ++ acells17 rs)[(k + 1) * 4 + j]? = _
    rw [List.getElem?_append_right (by show 4 ≤ _; omega)]
    show (acells17 rs)[(k + 1) * 4 + j - 4]? = _
    rw [show (k + 1) * 4 + j - 4 = k * 4 + j by omega]; exact this
section
variable {H : Type} {enc : TypeId × Value → H} {w : World} {base : Nat} {held : Bool} {fuel : Nat} {cs : List Value} {x : DataW H × List MemPlace}
theorem act17_cells (h : DataW.trod enc Try.prog w base (fun _ => true) held fuel 61 cs = some x) : ∃ r : Act17, True ∧ cs = cells17 r := by
  obtain ⟨y0, y1, y2, n, _, hl, g0, g1, g2⟩ := trod_struct3 Try.underlying61 h
  have h3 : Try.prog.cellsOf 61 = 4 := by kernel_rfl
  have h1 : Try.prog.cellsOf 3 = 1 := by kernel_rfl
  have h4 : Try.prog.cellsOf 9 = 1 := by kernel_rfl
  have h2 : Try.prog.cellsOf 28 = 2 := by kernel_rfl
  rw [h3] at hl
  obtain ⟨v0, v1, v2, v3, rfl⟩ : ∃ v0 v1 v2 v3, cs = [v0, v1, v2, v3] := by
    rcases cs with _ | ⟨v0, _ | ⟨v1, _ | ⟨v2, _ | ⟨v3, _ | ⟨v4, r⟩⟩⟩⟩⟩ <;> simp at hl
    exact ⟨v0, v1, v2, v3, rfl⟩
  simp only [h1, h2, h4, List.drop_zero, List.drop_succ_cons, List.take_succ_cons, List.take_zero] at g0 g1 g2
  obtain ⟨p, e0, _, _⟩ := DataW.trod_int Try.underlying3 g0
  obtain ⟨s, e1, _⟩ := DataW.trod_string Try.underlying9 g1
  obtain ⟨v, e2⟩ := val_cells g2
  simp [AVal.cells] at e0 e1 e2
  exact ⟨⟨p, s, v⟩, trivial, by rw [e0, e1, e2.1, e2.2]; rfl⟩
end
def IsActs17 (w : World) (a : Option Addr) (len cap : Nat) (rs : List Act17) : Prop :=
  rs.length = len ∧ len ≤ cap ∧ cap ≤ maxLen ∧ ArgAt w (Old w) a (acells17 rs)
theorem open_acts17 {H : Type} {enc : TypeId × Value → H} {w : World} {base : Nat} {held : Bool} {fuel : Nat} {x : DataW H × List MemPlace} {a : Option Addr} {len cap : Nat} (h : DataW.trod enc Try.prog w base (fun _ => true) held fuel 45 [.slice a len cap] = some x) : ∃ rs, IsActs17 w a len cap rs := by
  obtain ⟨h1, h2, css, h3, h4, h5⟩ := open_recs Try.underlying45 (show Try.prog.cellsOf 61 = 4 by kernel_rfl) (by omega) (fun _ _ _ hh => act17_cells hh) h
  obtain ⟨rs, rfl, hr⟩ := of_forall_ex (f := cells17) (R := fun _ => True) css h4
  rw [List.length_map] at h3
  exact ⟨rs, h3, h1, h2, h5⟩
set_option maxRecDepth 100000 in
set_option maxHeartbeats 4000000 in
theorem walk (a0 : Option Addr) (len0 cap0 : Nat) (rs : List Act17) (w0 : World) (wa : IsActs17 w0 a0 len0 cap0 rs) :
    Calls Try.prog 5 #[.slice a0 len0 cap0] w0 fun e w' => e = .returned (.bool true) ∧ Below w0.heap.size w0 w' := by
  have h0 := (Sat.refl w0).cast (mul_one _).symm
  obtain ⟨hl, hc1, hc2, hAA⟩ := wa
  have hlen : len0 ≤ 9223372036854775807 := by unfold maxLen at hc2; omega
  have HAL := Lib.hid (And.intro hl hAA)
  have HPL := Lib.hid (play17_ok rs)
  clear hl hAA hc1 hc2
  go_enter Try.func5, Try.ntmps5
  go_wp2_with fail
  refine (heap_New h0).mono ?_
  rintro e w1 ⟨p, rfl, h1⟩
  have h2 := empty_ref ((h1 mN).alloc (.cells #[.slice none 0 0, .slice none 0 0, .slice none 0 0, .slice none 0 0, .int .i64 0, .slice none 0 0, .bool false] 51))
  generalize hq : w1.heap.size = q at *
  have HN := Lib.hid (str_New h2 p)
  clear h0 h1 h2
  go_wp2_with fail
  refine HN.out.mono ?_
  rintro e w2 ⟨s, rfl, h3⟩
  have h4 := h3.alloc (.cells #[.pointer (some ⟨q, 0, none⟩), .slice none 0 0] 56)
  generalize hqs : w2.heap.size = qs at *
  have h5 := (h4.nilSlc (T := 172) (sz := 2)).cast (show _ = row qs 56 #[.pointer (some ⟨q, 0, none⟩), .slice none ([] : List ARow).length 0] * (slc 172 2 none ([] : List ARow).length 0 (rowCells []) * (strR s p (fun _ => none) * (refR13 q AHeap.empty * (heapR mN p AHeap.empty * (Old w0 * 1))))) by unfold row; ac_rfl)
  have h6 := (Sat.shutS h5).alloc (.cells #[.pointer (some ⟨p, 0, none⟩), .pointer (some ⟨s, 0, none⟩), .pointer (some ⟨q, 0, none⟩), .pointer (some ⟨qs, 0, none⟩)] 58)
  rw [size_alloc, hqs] at h6
  generalize hbb : qs + 1 = bb at *
  have H4 := Lib.hid (show Sat w0 _ (inX bb (play17 rs 0).1 (play17 rs 0).2 0 (p, s, q, qs) * (Old w0 * 1)) from Sat.shutIn (R := []) ⟨rfl, by simp, by simp⟩ (h6.cast (show _ = (row bb 58 #[.pointer (some ⟨p, 0, none⟩), .pointer (some ⟨s, 0, none⟩), .pointer (some ⟨q, 0, none⟩), .pointer (some ⟨qs, 0, none⟩)] * (heapR mN p AHeap.empty * (strR s p (fun _ => none) * (refR13 q AHeap.empty * refS qs q [])))) * (Old w0 * 1) by unfold row; ac_rfl)))
  have c1 : _ = some (Value.pointer (some ⟨s, 0, none⟩)) := (it_cell H4.out).2.1
  clear h3 h4 h5 h6
  go_wp2_with fail
  go_loopw [6] (fun iv wr => ∃ (k : Nat) (x : Nat × Nat × Nat × Nat), iv = .int .i64 k ∧ k ≤ len0 ∧ k ≤ 60 ∧ Sat w0 wr (inX bb (play17 rs k).1 (play17 rs k).2 k x * (Old w0 * 1))) (fun iv _ => len0 - (intOf iv).toNat)
  case atStart => exact ⟨0, (p, s, q, qs), rfl, by omega, by omega, H4.out⟩
  case round =>
    clear H4 c1
    obtain ⟨k, x, rfl, hk, hk6, hs⟩ := hrel
    by_cases hlt : k < len0
    · by_cases hl6 : k < 60
      · have hx : rs[k]? = some (rs[k]'(by rw [HAL.out.1]; exact hlt)) := List.getElem?_eq_getElem _
        generalize rs[k]'(by rw [HAL.out.1]; exact hlt) = r at hx
        have hget := acells17_get hx
        have hsucc := play17_succ hx
        have i1 := HPL.out k
        have j1 := HPL.out (k + 1)
        obtain ⟨what, tx, ⟨vk, vn⟩⟩ := r
        obtain ⟨g, off, rfl, _⟩ := HAL.out.2 _ _ _ _ hs.p2 (hget 0 _ rfl)
        have HD := Lib.hid (fun (w' : World) (F : HP) (hh : Sat w0 w' (Old w0 * F)) => (show w'.cell? ⟨g, off + k * 4, none⟩ = some (.int .i64 what) ∧ w'.cell? ⟨g, off + k * 4 + 1, none⟩ = some (.string tx) ∧ w'.cell? ⟨g, off + k * 4 + 2, none⟩ = some (.int .i64 vk) ∧ w'.cell? ⟨g, off + k * 4 + 3, none⟩ = some (.int .i64 vn) from by
          have cc : ∀ j v, (cells17 ⟨what, tx, ⟨vk, vn⟩⟩)[j]? = some v → w'.cell? ⟨g, off + k * 4 + j, none⟩ = some v := fun j v hj => by
            obtain ⟨g', off', e', h'⟩ := HAL.out.2 _ _ _ _ hh (hget j v hj)
            cases e'
            rw [Nat.add_assoc]; exact h'
          exact ⟨cc 0 _ rfl, cc 1 _ rfl, cc 2 _ rfl, cc 3 _ rfl⟩))
        obtain ⟨⟨A1, M1⟩, hA1⟩ : ∃ s, play17 rs (k + 1) = s := ⟨_, rfl⟩
        obtain ⟨⟨A, M⟩, hA⟩ : ∃ s, play17 rs k = s := ⟨_, rfl⟩
        rw [hA1, hA] at hsucc
        rw [hA] at i1 hs
        rw [hA1] at j1
        dsimp only at i1 j1 hs
        obtain ⟨n, hn⟩ : ∃ n, lastT A1.T = n := ⟨_, rfl⟩
        obtain ⟨L, hL⟩ : ∃ L, graphL A1 n = L := ⟨_, rfl⟩
        have hlast := lastT_le A1.T
        have hT := j1.H.t
        have HL := Lib.hid (And.intro hn (And.intro hL (And.intro (show n ≤ 1000000 by omega) (show ∀ o ∈ L, o.slots.length ≤ 1000000 from hL ▸ graphL_sl j1.H (by omega)))))
        have IA0 := Lib.hid i1
        have IA1 := Lib.hid j1
        have HA1 := Lib.hid hsucc.symm
        have HAK := Lib.hid hA1
        have HS := Lib.hid hs
        clear hget hsucc i1 j1 hA1 hA hx hs hn hL hlast hT
        go_wp2_with fail
        refine wp_gen fun a0 ha => ?_
        have hb0 : base a0 0 = .slice (some ⟨g, off, none⟩) len0 cap0 := by rw [ha]; rfl
        have hb5 : base a0 5 = .pointer (some ⟨bb, 0, none⟩) := by rw [ha]; rfl
        have hb6 : base a0 6 = .int .i64 k := by rw [ha]; rfl
        have hsz0 : a0.tmps.size = 56 := by rw [ha]; rfl
        have HA0 := Lib.hid (And.intro hsz0 ha)
        clear ha hsz0
        refine GW.start (X := (Nat × Nat × Nat × Nat) × Option Addr × Nat) (w0 := w0) (B := [inX bb A M k x, Old w0, 1]) (a0 := a0) ?_
        refine GW.det (d := (some 34)) [] [] rfl (fun e => by rfl) ?_; apply Exists.intro; refine ⟨fun e w' F hs => ?_, ?_, ?_⟩
        · first | (go_simp; done) | (go_simp; rfl)
        · exact (fun _ _ _ => rfl)
        refine GW.det (d := (some 35)) [] [] rfl (fun e => by rfl) ?_; apply Exists.intro; refine ⟨fun e w' F hs => ?_, ?_, ?_⟩
        · first | (go_simp; done) | (go_simp; rfl)
        · exact (fun _ _ _ => rfl)
        refine GW.det (d := (some 36)) [] [] rfl (fun e => by rfl) ?_; apply Exists.intro; refine ⟨fun e w' F hs => ?_, ?_, ?_⟩
        · first | (go_simp; done) | (go_simp; rfl)
        · exact (fun _ _ _ => rfl)
        refine GW.det (d := (some 37)) [] [] rfl (fun e => by rfl) ?_; apply Exists.intro; refine ⟨fun e w' F hs => ?_, ?_, ?_⟩
        · first | (go_simp; done) | (go_simp; rfl)
        · exact (fun _ _ _ => rfl)
        refine GW.det (d := (some 38)) [1] [] rfl (fun e => by rfl) ?_; apply Exists.intro; refine ⟨fun e w' F hs => ?_, ?_, ?_⟩
        · have ⟨d0, d1, d2, d3⟩ := HD.out w' _ (show Sat w0 w' (Old w0 * F) from hs); first | (go_simp; done) | (go_simp; rfl)
        · exact (fun _ _ _ => rfl)
        refine GW.take (d := (some 39)) 5 (fun e => .bool true) (fun e => inX bb A1 M1 (k + 1) (e 5).1) [] [0] [5] rfl rfl (fun e => by rfl) (fun e e' hl => by simp only [hl 5 (by decide)]; exact ⟨trivial, trivial⟩) (fun e w' F K hs hK => ?_) ?_
        · go_simp; (refine (it_do IA0.out (by omega) (by omega) (show Sat w0 w' (inX bb A M k x * F) from one_out hs) what tx vk vn).mono ?_; rintro e2 w2 ⟨rfl, y, h2⟩; rw [HA1.out] at h2; exact ⟨_, rfl, hK (y, none, 0) _ (one_in (show Sat w0 w2 (inX bb A1 M1 (k + 1) y * F) from h2))⟩)
        refine GW.det (d := (some 40)) [] [5] rfl (fun e => by rfl) ?_; apply Exists.intro; refine ⟨fun e w' F hs => ?_, ?_, ?_⟩
        · first | (go_simp; done) | (go_simp; rfl)
        · exact (fun e e' hl => by first | rfl | simp only [hl 5 (by decide)])
        refine GW.det (d := (some 41)) [] [5] rfl (fun e => by rfl) ?_; apply Exists.intro; refine ⟨fun e w' F hs => ?_, ?_, ?_⟩
        · first | (go_simp; done) | (go_simp; rfl)
        · exact (fun e e' hl => by first | rfl | simp only [hl 5 (by decide)])
        refine GW.det (d := (some 42)) [] [] rfl (fun e => by rfl) ?_; apply Exists.intro; refine ⟨fun e w' F hs => ?_, ?_, ?_⟩
        · first | (go_simp; done) | (go_simp; rfl)
        · exact (fun _ _ _ => rfl)
        refine GW.det (d := (some 43)) [] [] rfl (fun e => by rfl) ?_; apply Exists.intro; refine ⟨fun e w' F hs => ?_, ?_, ?_⟩
        · first | (go_simp; done) | (go_simp; rfl)
        · exact (fun _ _ _ => rfl)
        refine GW.det (d := (some 44)) [] [] rfl (fun e => by rfl) ?_; apply Exists.intro; refine ⟨fun e w' F hs => ?_, ?_, ?_⟩
        · first | (go_simp; done) | (go_simp; rfl)
        · exact (fun _ _ _ => rfl)
        refine GW.det (d := (some 45)) [8] [5] rfl (fun e => by rfl) ?_; apply Exists.intro; refine ⟨fun e w' F hs => ?_, ?_, ?_⟩
        · have ⟨y0, y1, y2⟩ := it_cell (show Sat w0 w' (inX bb A1 M1 (k + 1) (e 5).1 * F) from hs); first | (go_simp; done) | (go_simp; rfl)
        · exact (fun e e' hl => by first | rfl | simp only [hl 5 (by decide)])
        refine GW.new (d := (some 46)) 12 (fun x => .agg #[.slice x.2.1 n x.2.2]) (fun x => objsV x.2.1 n x.2.2 L) [8] rfl rfl (fun e => by rfl) (fun e w' F K hs hK => ?_) ?_
        · go_simp; (refine (it_Graph IA1.out (by omega) (show Sat w0 w' (inX bb A1 M1 (k + 1) (e 5).1 * F) from hs) HL.out.1 HL.out.2.1).mono ?_; rintro e2 w2 ⟨a2, c2, rfl, h2⟩; exact ⟨_, rfl, hK ((0, 0, 0, 0), a2, c2) _ h2.p2⟩)
        refine GW.det (d := (some 47)) [] [] rfl (fun e => by rfl) ?_; apply Exists.intro; refine ⟨fun e w' F hs => ?_, ?_, ?_⟩
        · first | (go_simp; done) | (go_simp; rfl)
        · exact (fun _ _ _ => rfl)
        refine GW.det (d := (some 48)) [] [] rfl (fun e => by rfl) ?_; apply Exists.intro; refine ⟨fun e w' F hs => ?_, ?_, ?_⟩
        · first | (go_simp; done) | (go_simp; rfl)
        · exact (fun _ _ _ => rfl)
        refine GW.det (d := (some 49)) [] [] rfl (fun e => by rfl) ?_; apply Exists.intro; refine ⟨fun e w' F hs => ?_, ?_, ?_⟩
        · first | (go_simp; done) | (go_simp; rfl)
        · exact (fun _ _ _ => rfl)
        refine GW.det (d := (some 50)) [8] [5] rfl (fun e => by rfl) ?_; apply Exists.intro; refine ⟨fun e w' F hs => ?_, ?_, ?_⟩
        · have ⟨y0, y1, y2⟩ := it_cell (show Sat w0 w' (inX bb A1 M1 (k + 1) (e 5).1 * F) from hs); first | (go_simp; done) | (go_simp; rfl)
        · exact (fun e e' hl => by first | rfl | simp only [hl 5 (by decide)])
        refine GW.new (d := (some 51)) 17 (fun x => .agg #[.slice x.2.1 n x.2.2]) (fun x => objsV x.2.1 n x.2.2 L) [8] rfl rfl (fun e => by rfl) (fun e w' F K hs hK => ?_) ?_
        · go_simp; (refine (it_rGraph IA1.out (by omega) (show Sat w0 w' (inX bb A1 M1 (k + 1) (e 5).1 * F) from hs) HL.out.1 HL.out.2.1).mono ?_; rintro e2 w2 ⟨a2, c2, rfl, h2⟩; exact ⟨_, rfl, hK ((0, 0, 0, 0), a2, c2) _ h2.p2⟩)
        refine GW.keep (d := (some 52)) (fun e => .bool true) [15, 20] [] rfl (fun e => by rfl) (fun _ _ _ => rfl) (fun e w' F K hs hK => ?_) ?_
        · go_simp; (refine (ref_Same ((show Sat w0 w' ((objsV (e 12).2.1 n (e 12).2.2 L * objsV (e 17).2.1 n (e 17).2.2 L) * F) from hs).assoc) HL.out.2.2.1 HL.out.2.2.2).mono ?_; rintro e2 w2 ⟨rfl, h2⟩; exact ⟨_, rfl, hK _ h2.unassoc⟩)
        refine GW.det (d := (some 53)) [] [] rfl (fun e => by rfl) ?_; apply Exists.intro; refine ⟨fun e w' F hs => ?_, ?_, ?_⟩
        · first | (go_simp; done) | (go_simp; rfl)
        · exact (fun _ _ _ => rfl)
        refine GW.det (d := (some 54)) [] [5] rfl (fun e => by rfl) ?_; apply Exists.intro; refine ⟨fun e w' F hs => ?_, ?_, ?_⟩
        · first | (go_simp; done) | (go_simp; rfl)
        · exact (fun e e' hl => by first | rfl | simp only [hl 5 (by decide)])
        refine GW.done (sz := 56) [3 + 5, 1, 2] (by kernel_rfl) (by kernel_rfl) HA0.out.1 (by rfl) HS.out (by rfl) fun e w8 gg => ?_
        have ha := HA0.out.2
        subst ha
        clear HA0 HS hb0 hb5 hb6
        simp only [putL, Act.put, List.setIfInBounds_toArray, List.set_cons_zero, List.set_cons_succ]
        have h9 := Lib.hid (show Sat w0 w8 (inX bb A1 M1 (k + 1) (e 5).1 * (Old w0 * 1)) from gg)
        clear gg
        go_wp2_with fail
        go_roundw
        case rel => exact ⟨k + 1, (e 5).1, by go_num, by omega, by omega, by rw [HAK.out]; exact h9.out⟩
        case measure => simp [intOf]; omega
      · obtain rfl : k = 60 := by omega
        have HS := Lib.hid hs
        clear hs
        go_wp2_with fail
        refine (law_works HS.out).mono ?_
        rintro e w5 ⟨rfl, h5⟩
        go_wp2_with fail
        go_ret
        exact ⟨rfl, Sat.below (F := 1) h5.drop⟩
    · obtain rfl : k = len0 := by omega
      have HS := Lib.hid hs
      clear hs
      go_wp2_with fail
      refine (law_works HS.out).mono ?_
      rintro e w5 ⟨rfl, h5⟩
      go_wp2_with fail
      go_ret
      exact ⟨rfl, Sat.below (F := 1) h5.drop⟩
theorem own : ownKnob Try.prog.godebug = none := by kernel_rfl
theorem laidOut : laidOutB Try.prog = true := by kernel_rfl
set_option maxRecDepth 100000 in
theorem lifted (os : Os) (started : os.Started) (H : Type) (enc : TypeId × Value → H) :
    ReturnsInHanded {} Try.checked os 5 .any (Rows.internPlaysSpec.pre6 enc Try.prog Try.f5 Rows.internPlaysRow.domain false) (Rows.internPlaysSpec.post enc Try.prog Try.f5 false true false false) := by
  refine returnsInHanded_of_change (C := Try.checked) own started (by kernel_rfl) Try.func5
    (ChangeSpec.witness6 (enc := enc) (C := Try.checked) false ⟨#[], #[.slice none 0 0], []⟩ 8 (by kernel_rfl) (by kernel_rfl) (by kernel_rfl) (by kernel_rfl)) ?_
  intro W base args ds gs before hval0 hW hcnd _
  have hval : ∀ (j : Nat) t v, Try.f5.params[j]? = some t → args[j]? = some v → Value.okWide Try.prog W .any base t v := hval0
  have hW' := hW
  obtain ⟨p, q, hA0, hV, rfl, hfz, hnd⟩ := hW
  have hA : DataW.TrodAll enc Try.prog W 0 (fun _ => true) true Try.f5.params.toList args.toList ds p := hA0
  rw [Try.params5] at hA hval
  obtain ⟨v0, vs0, d0, ds0, p0, q0, hargs, rfl, rfl, h0, r0⟩ := trodAll_cons hA
  obtain ⟨rfl, rfl, rfl⟩ := trodAll_nil r0
  obtain rfl : args = #[v0] := by cases args; simp_all
  obtain ⟨rfl, rfl⟩ := trodVars_none hV
  obtain ⟨a0, len0, cap0, rfl⟩ := okWide_slice Try.underlying45 (hval 0 45 v0 rfl rfl)
  have k0 := h0
  have lt0 : ∀ x ∈ p0, x.block < W.heap.size := by obtain ⟨m, hm⟩ := k0; exact DataW.trod_lt m _ _ _ hm
  obtain ⟨z0, w0⟩ : ∃ zs, IsActs17 W a0 len0 cap0 zs := by
    obtain ⟨fuel, hf⟩ := h0
    exact open_acts17 hf
  clear hA0 hval0
  refine (walk a0 len0 cap0 z0 W w0).mono fun e W' ⟨he, bel⟩ => ?_
  subst he
  exact ⟨_, rfl, _, _, _, [], _, [], hW', trodAll_mk1 (shut_bool Try.underlying4 _), (trodAll_cons_mk (Below.trod laidOut (by kernel_rfl) (of_decide_eq_true (by kernel_rfl)) k0 bel lt0) trodAll_mk0), rfl, bel.frame _, fun h => by cases h⟩
theorem over : Rows.internPlaysRow.holds Try.pinned (OpenSpec.ofChange Rows.internPlaysSpec) :=
  OpenClaim.holds_of_wide 5 Try.f5 rfl rfl rfl rfl rfl rfl rfl ⟨rfl, rfl, rfl, rfl, rfl⟩ rfl rfl rfl rfl rfl (by kernel_rfl) Try.func5 (by kernel_rfl)
    (of_decide_eq_true (by kernel_rfl)) (by unfold Func.isWrapper; first | (rw [if_pos (by decide +kernel)]; kernel_rfl) | (rw [if_neg (by decide +kernel)]; exact ⟨rfl, rfl⟩))
    (fun os started H enc _ => lifted os started H enc)
theorem internPlays_holds : Rows.InternPlaysSaid := over
#print axioms internPlays_holds
end Go.Proofs.Ytkpcngcegipalaa.PIn
