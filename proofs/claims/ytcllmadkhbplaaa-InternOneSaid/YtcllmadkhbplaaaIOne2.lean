/- InternOne: two are the same object just if they are the same text: the walk. No condition. -/
import Derived.Test.YtcllmadkhbplaaaIOne1
import Derived.ProofKit
import Derived.OpenShut
import Derived.ShutString
import Derived.ChangeOld
import Derived.SliceStrings
import Derived.Lib.MinMax
namespace Go.Proofs.Ytcllmadkhbplaaa.IOne
set_option linter.unusedVariables false
set_option linter.unusedSimpArgs false
open Go Go.RowKit Go.MapKept Go.Proofs.Ytcllmadkhbplaaa.Tw
open Go.ChangeShapes Go.WideShapes Go.ChangeAt
open Go.ChangeMaps (open_string shut_string)

def IsStrs (w : World) (a : Option Addr) (len cap : Nat) (ss : List ByteArray) : Prop :=
  (a = none ∧ len = 0 ∧ cap = 0 ∧ ss = []) ∨ ∃ x, a = some x ∧ len ≤ cap ∧ cap ≤ maxLen ∧ ss.length = cap ∧ (∀ i, i < ss.length → w.cell? (x.add i) = some (.string (ss.getD i ByteArray.empty))) ∧ ∀ s ∈ ss, s.size ≤ maxLen

theorem addr_of_cell {w : World} {x : Addr} {v : Value} (h : w.cell? (x.add 0) = some v) : ∃ b off, x = ⟨b, off, none⟩ := by
  obtain ⟨b, off, sp⟩ := x
  cases sp with
  | none => exact ⟨b, off, rfl⟩
  | some s =>
    simp [Addr.add, World.cell?] at h
    split at h <;> simp at h

def cut (t : ByteArray) : ByteArray := t.extract 0 (min t.size 4096)
theorem cut_size (t : ByteArray) : (cut t).size ≤ 4096 := by unfold cut; simp [ByteArray.size_extract]; omega
/-- what is held of the strings and of the list of values -/
def gotL (M : ByteArray → Option Int) (l : List ByteArray) : List AVal := l.map fun t => ⟨5, (M t).getD 0⟩
def held (p s : Nat) (A : AHeap) (M : ByteArray → Option Int) (a : Option Addr) (c : Nat) (l : List ByteArray) (F : HP) : HP :=
  heapR (fun _ => none) p A * (strR s p M * (slc 29 2 a l.length c (avcells (gotL M l)) * F))
theorem sR1 (V H S C F : HP) : V * (H * (S * (C * F))) = C * (V * (H * (S * F))) := by ac_rfl
theorem sR2 (C V H S F : HP) : C * (V * (H * (S * F))) = V * (H * (S * (C * F))) := by ac_rfl
theorem sR3 (C H S F : HP) : C * (H * (S * F)) = H * (S * (C * F)) := by ac_rfl
theorem sR4 (H S C O : HP) : H * (S * (C * O)) = (H * (S * C)) * O := by simp only [mul_assoc]
theorem sR5 (V H S C O : HP) : V * (H * (S * (C * O))) = (V * (H * (S * C))) * O := by simp only [mul_assoc]
theorem sR6 (C V H S O : HP) : C * (V * (H * (S * O))) = (C * (V * (H * S))) * O := by simp only [mul_assoc]
theorem cells2 {w : World} (x0 x1 : Value) (T : TypeId) : ∀ j u, [x0, x1][j]? = some u → (w.alloc (.cells #[x0, x1] T)).cell? ((⟨w.heap.size, 0, none⟩ : Addr).add j) = some u := by
  intro j u h
  rw [addr_add, Nat.zero_add]
  have hw : Sat w (w.alloc (.cells #[x0, x1] T)) (row w.heap.size T #[x0, x1] * Old w) := (Sat.refl w).alloc _
  match j, h with
  | 0, h => cases h; exact hw.cell 0 rfl
  | 1, h => cases h; exact hw.cell 1 rfl
  | j + 2, h => simp at h
theorem sR7 (C V H S O : HP) : C * (V * (H * (S * O))) = V * (H * (S * (C * O))) := by ac_rfl
theorem sR10 (V H S C O : HP) : V * (H * (S * (C * O))) = C * (V * (H * (S * O))) := by ac_rfl
theorem sR11 (V H S C O : HP) : V * (H * (S * (C * O))) = H * (V * (S * (C * O))) := by ac_rfl
theorem sR12 (H X V S C O : HP) : H * (X * (V * (S * (C * O)))) = C * (H * (X * (V * (S * O)))) := by ac_rfl
theorem sR13 (H X V S C O : HP) : H * (X * (V * (S * (C * O)))) = V * (H * (X * (S * (C * O)))) := by ac_rfl
theorem sR14 (H X V S C O : HP) : H * (X * (V * (S * (C * O)))) = X * (V * (C * (H * (S * O)))) := by ac_rfl
theorem gotL_congr {M M' : ByteArray → Option Int} {l : List ByteArray} (h : ∀ u ∈ l, M' u = M u) : gotL M' l = gotL M l := by
  unfold gotL
  exact List.map_congr_left fun u hu => by rw [h u hu]
theorem gotL_snoc (M : ByteArray → Option Int) (l : List ByteArray) (t : ByteArray) : avcells (gotL M (l ++ [t])) = avcells (gotL M l) ++ [.int .i64 5, .int .i64 ((M t).getD 0)] := by
  simp [gotL, avcells, AVal.cells]
theorem sR8 (H S C O : HP) : H * (S * (C * O)) = C * (H * (S * O)) := by ac_rfl
theorem sR9 (C H S O : HP) : C * (H * (S * O)) = (C * (H * S)) * O := by simp only [mul_assoc]
theorem avcells_get (l : List AVal) : ∀ (i : Nat) (x : AVal), l[i]? = some x → (avcells l)[i * 2]? = some (.int .i64 x.kind) ∧ (avcells l)[i * 2 + 1]? = some (.int .i64 x.n) := by
  induction l with
  | nil => intro i x h; simp at h
  | cons y l ih =>
    intro i x h
    have e : avcells (y :: l) = .int .i64 y.kind :: .int .i64 y.n :: avcells l := rfl
    rw [e]
    cases i with
    | zero => simp at h; subst h; exact ⟨rfl, rfl⟩
    | succ i =>
      have := ih i x (by simpa using h)
      rw [show (i + 1) * 2 = i * 2 + 1 + 1 by omega]
      simpa using this
theorem got_cells {w0 w : World} {a : Option Addr} {k c : Nat} {M : ByteArray → Option Int} {ts : List ByteArray} {F : HP} (h : Sat w0 w (slc 29 2 a k c (avcells (gotL M ts)) * F)) (hk : k = ts.length) {i : Nat} {t : ByteArray} (ht : ts[i]? = some t) :
    ∃ g off, a = some ⟨g, off, none⟩ ∧ w.cell? ⟨g, off + i * 2, none⟩ = some (.int .i64 5) ∧ w.cell? ⟨g, off + i * 2 + 1, none⟩ = some (.int .i64 ((M t).getD 0)) := by
  have hx : (gotL M ts)[i]? = some ⟨5, (M t).getD 0⟩ := by unfold gotL; rw [List.getElem?_map, ht]; rfl
  obtain ⟨e0, e1⟩ := avcells_get _ i _ hx
  obtain ⟨g, off, ha, h0, _⟩ := h.slcAt e0
  obtain ⟨g', off', ha', h1, _⟩ := h.slcAt e1
  rw [ha] at ha'
  cases ha'
  exact ⟨g, off, ha, h0, by rw [Nat.add_assoc]; exact h1⟩
set_option maxRecDepth 100000 in
set_option maxHeartbeats 4000000 in
theorem walk (a0 : Option Addr) (len0 cap0 : Nat) (z0 : List ByteArray) (w : World) (w0 : IsStrs w a0 len0 cap0 z0) :
    Calls Try.prog 3 #[.slice a0 len0 cap0] w fun e w' => e = .returned (.bool true) ∧ Below w.heap.size w w' := by
  have h0 := Sat.refl w
  have hlc : len0 ≤ cap0 ∧ cap0 ≤ maxLen := by
    rcases w0 with ⟨_, rfl, rfl, _⟩ | ⟨x, rfl, h1, h2, _⟩
    · exact ⟨Nat.le_refl _, Nat.zero_le _⟩
    · exact ⟨h1, h2⟩
  obtain ⟨hlc1, hlc2⟩ := hlc
  obtain ⟨n, hmin, hn1, hn2⟩ : ∃ n : Nat, min (len0 : Int) 40 = (n : Int) ∧ n ≤ 40 ∧ n ≤ len0 := ⟨min len0 40, by omega, by omega, by omega⟩
  have hn3 : (n : Int) ≤ cap0 := by omega
  obtain ⟨ts, hts, htl⟩ : ∃ ts : List ByteArray, ts.length = n ∧ ∀ k, k < n → ∃ b off t, a0 = some ⟨b, off, none⟩ ∧ ts[k]? = some (cut t) ∧ ∀ w' (G : HP), Sat w w' (G * Old w) → w'.cell? ⟨b, off + k, none⟩ = some (.string t) := by
    rcases w0 with ⟨_, rfl, _⟩ | ⟨x, rfl, h1, h2, h3, h4, h5⟩
    · exact ⟨[], by simp; omega, fun k hk => by omega⟩
    · refine ⟨(z0.take n).map cut, by simp; omega, fun k hk => ?_⟩
      have hk' : k < z0.length := by omega
      have hv := h4 k hk'
      obtain ⟨b, off, rfl⟩ := addr_of_cell (h4 0 (by omega))
      rw [addr_add] at hv
      refine ⟨b, off, z0.getD k ByteArray.empty, rfl, ?_, fun w' G hs => (hs.cast (mul_comm _ _)).oldCell hv⟩
      rw [List.getElem?_map, List.getElem?_take_of_lt hk, List.getD, List.getElem?_eq_getElem hk']
      rfl
  have HTS := Lib.hid htl
  clear htl w0
  obtain ⟨i0, hi, hz0, hz1, hz2⟩ := info_parts info_val
  go_enter Try.func3, Try.ntmps3
  go_wp2_with fail
  refine (heap_New h0).mono ?_
  rintro e w1 ⟨p, rfl, h1⟩
  have h1 := h1 (fun _ => none)
  clear h0
  go_wp2_with fail
  refine (str_New h1 p).mono ?_
  rintro e w2 ⟨s, rfl, h2⟩
  clear h1
  have h3 : Sat w w2 (held p s AHeap.empty (fun _ => none) none 0 [] (Old w)) := (((h2.cast (sW1 _ _ _)).nilSlc (T := 29) (sz := 2)).cast (sR3 _ _ _ _))
  go_wp2
  go_loopw [5, 6] (fun gv i wr => ∃ (k d : Nat) (A : AHeap) (M : ByteArray → Option Int) (a : Option Addr) (c : Nat), i = .int .i64 k ∧ k ≤ n ∧ gv = .slice a k c ∧ Asked (ts.take k) d A M ∧ Sat w wr (held p s A M a c (ts.take k) (Old w))) (fun _ i _ => (n - intOf i).toNat)
  case atStart => exact ⟨0, 0, AHeap.empty, fun _ => none, none, 0, rfl, by omega, rfl, Asked.empty, h3⟩
  case round =>
    obtain ⟨k, d, A, M, a, c, rfl, hk, rfl, hA, hs⟩ := hrel
    by_cases hlt : k < n
    · obtain ⟨b, off, t, rfl, htk, hc⟩ := HTS.out k hlt
      have cx := hc wr _ (hs.cast (sR4 _ _ _ _))
      obtain ⟨mm, hmm, hmm1⟩ : ∃ mm : Nat, min (t.size : Int) 4096 = (mm : Int) ∧ mm = min t.size 4096 := ⟨min t.size 4096, by omega, rfl⟩
      have hmm2 : (mm : Int) ≤ t.size := by omega
      have hlk : (ts.take k).length = k := by rw [List.length_take]; omega
      obtain ⟨d', nn, hA', hv, hm', hkk⟩ := hA.step (by rw [hlk]; omega) (cut_size t)
      have hO := str_Of (cut t) (Knows.none _) hs.drew (hA.slots (by rw [hlk]; omega) _) (by rw [hA.hT, List.length_replicate]; have := hA.hd; omega) (hA.wraps (by rw [hlk]; omega) _)
      rw [hv] at hO
      have ecut : cut t = t.extract 0 mm := by unfold cut; rw [hmm1]
      rw [ecut] at hO
      have HO := Lib.hid hO
      have HA' := Lib.hid hA'
      have HM' := Lib.hid hm'
      have HKK := Lib.hid hkk
      have HTK := Lib.hid htk
      have HC := Lib.hid hc
      have HS := Lib.hid hs
      have HLK := Lib.hid hlk
      have EC := Lib.hid ecut
      clear hO hA' hm' hkk htk hs hlk hA hv hc hmm1 ecut
      have hk0 : (0 : Int) ≤ (k : Int) := by omega
      have hkn : (k : Int) < (n : Int) := by omega
      go_wp2_with fail
      go_region_held3 (fun w' => w'.cell? ⟨b, off + k, none⟩ = some (.string t)) (assumption) (first
        | (go_at_call 9; refine HO.out.mono ?_; rintro e w3 ⟨rfl, h3⟩; rw [HLK.out] at h3; have c3 := HC.out w3 _ (h3.cast (sR4 _ _ _ _)); have c3a := HC.out _ _ ((h3.alloc (.cells #[.int .i64 5, .int .i64 nn] 29)).cast (sR5 _ _ _ _ _)))
        | (refine step_of rfl (wp_append _ _ 27 rfl i0 (.agg #[.int .i64 0, .int .i64 0]) 16 Try.underlying27 hi hz0 hz1 hz2 rfl a k c (avcells (gotL M (ts.take k))) (by simp [Act.eval, Act.put]) ((h3.alloc (.cells #[.int .i64 5, .int .i64 nn] 29)).cast (sR1 _ _ _ _ _)) ⟨w3.heap.size, 0, none⟩ 1 1 [.int .i64 5, .int .i64 nn] (by simp [Act.eval, Act.put]) rfl (cells2 _ _ _) (by simp [Value.oneCell']) (by unfold maxLen; omega) (by omega) ?_); intro a' c' w4 h4 _; have c4 := HC.out w4 _ (h4.cast (sR6 _ _ _ _ _))))
      go_wp2_with fail
      have htk1 : ts.take (k + 1) = ts.take k ++ [cut t] := by rw [List.take_add_one, HTK.out]; rfl
      have hlk1 : (ts.take (k + 1)).length = k + 1 := by rw [List.length_take]; omega
      rw [← EC.out] at h4
      have eg : avcells (gotL M (ts.take k)) ++ [Value.int .i64 5, .int .i64 nn] = avcells (gotL (ofM A M (cut t)) (ts.take (k + 1))) := by
        rw [htk1, gotL_snoc, gotL_congr HKK.out, HM'.out]; rfl
      rw [eg] at h4
      refine ⟨⟨k + 1, d', A.of M (cut t), ofM A M (cut t), a', c', by go_num, by omega, rfl, ?_, ?_⟩, by simp [intOf]; omega⟩
      · rw [htk1]; exact HA'.out
      · unfold held
        rw [hlk1]
        exact (h4.cast (sR7 _ _ _ _ _)).drop
    · have hkn : k = n := by omega
      subst hkn
      have htt : ts.take k = ts := List.take_of_length_le (by omega)
      rw [htt] at hA hs
      have HA := Lib.hid hA
      have hs0 := hs.cast (sR8 _ _ _ _)
      rw [hts] at hs0
      have hnum : ∀ t, t ∈ ts → ∃ x : Int, M t = some x := hA.hI
      clear htt hk hlt
      have HNUM := Lib.hid hnum
      have HSS := Lib.hid hts
      clear hnum hA hts hs
      go_wp2
      go_loopw [7] (fun iv wr => ∃ i : Nat, iv = .int .i64 i ∧ i ≤ k ∧ Sat w wr (slc 29 2 a k c (avcells (gotL M ts)) * (heapR (fun _ => none) p A * (strR s p M * Old w)))) (fun iv _ => (k - intOf iv).toNat)
      case atStart => exact ⟨0, rfl, by omega, hs0⟩
      case round =>
        obtain ⟨i, rfl, hi9, hs⟩ := hrel
        by_cases hlt : i < k
        · obtain ⟨b, off, ti, rfl, hti, hc⟩ := HTS.out i hlt
          have cx := hc wr _ (hs.cast (sR9 _ _ _ _))
          obtain ⟨mi, hmi, hmi1⟩ : ∃ mm : Nat, min (ti.size : Int) 4096 = (mm : Int) ∧ mm = min ti.size 4096 := ⟨min ti.size 4096, by omega, rfl⟩
          have hmi2 : (mi : Int) ≤ ti.size := by omega
          have eci : cut ti = ti.extract 0 mi := by unfold cut; rw [hmi1]
          obtain ⟨g, goff, rfl, gi0, gi1⟩ := got_cells (ts := ts) hs (by rw [HSS.out]) hti
          have hi0 : (0 : Int) ≤ (i : Int) := by omega
          have hin : (i : Int) < (k : Int) := by omega
          have HTI := Lib.hid hti
          have HCI := Lib.hid hc
          have ECI := Lib.hid eci
          clear hti hc eci hmi1
          go_wp2_with fail
          go_region
          go_wp2
          go_loopw [9, 10] (fun tv jv wx => ∃ j : Nat, jv = .int .i64 j ∧ j ≤ k ∧ tv = .int .i64 (cntL (ts.take j) (cut ti) : Nat) ∧ Sat w wx (slc 29 2 (some ⟨g, goff, none⟩) k c (avcells (gotL M ts)) * (heapR (fun _ => none) p A * (strR s p M * Old w)))) (fun _ jv _ => (k - intOf jv).toNat)
          case atStart => exact ⟨0, rfl, by omega, by simp [cntL], hs⟩
          case round =>
            obtain ⟨j, rfl, hj9, rfl, hsj⟩ := hrel
            by_cases hjl : j < k
            · obtain ⟨b', off', tj, e', htj, hcj⟩ := HTS.out j hjl
              cases e'
              have cy := hcj wr _ (hsj.cast (sR9 _ _ _ _))
              obtain ⟨mj, hmj, hmj1⟩ : ∃ mm : Nat, min (tj.size : Int) 4096 = (mm : Int) ∧ mm = min tj.size 4096 := ⟨min tj.size 4096, by omega, rfl⟩
              have hmj2 : (mj : Int) ≤ tj.size := by omega
              have ecj : cut tj = tj.extract 0 mj := by unfold cut; rw [hmj1]
              obtain ⟨g', goff', ea, gj0, gj1⟩ := got_cells (ts := ts) hsj (by rw [HSS.out]) htj
              cases ea
              obtain ⟨g', goff', ea, gk0, gk1⟩ := got_cells (ts := ts) hsj (by rw [HSS.out]) HTI.out
              cases ea
              obtain ⟨x, ex⟩ := HNUM.out (cut ti) (List.mem_of_getElem? HTI.out)
              obtain ⟨y, ey⟩ := HNUM.out (cut tj) (List.mem_of_getElem? htj)
              have hxy := HA.out.same ex ey
              rw [ey] at gj1
              rw [ex] at gk1
              have gj1' : wr.cell? ⟨g, goff + j * 2 + 1, none⟩ = some (.int .i64 y) := gj1
              have gk1' : wr.cell? ⟨g, goff + i * 2 + 1, none⟩ = some (.int .i64 x) := gk1
              have hj0 : (0 : Int) ≤ (j : Int) := by omega
              have hjk : (j : Int) < (k : Int) := by omega
              have htk1 : ts.take (j + 1) = ts.take j ++ [cut tj] := by rw [List.take_add_one, htj]; rfl
              have hcn := cntL_snoc (ts.take j) (cut tj) (cut ti)
              rw [← htk1] at hcn
              have HCN := Lib.hid hcn
              have hcb : cntL (ts.take j) (cut ti) ≤ 40 := by have := cntL_le (ts.take j) (cut ti); rw [List.length_take] at this; omega
              by_cases hsm : cut ti = cut tj
              · have hbe : ((ti.extract 0 mi).toList == (tj.extract 0 mj).toList) = true := by rw [bytes_eq, ← ECI.out, ← ecj]; simpa using hsm
                have hxe : (x == y) = true := by rw [hsm] at hxy; simp at hxy; simp [hxy]
                have HSM := Lib.hid hsm
                clear hxy gj1 gk1 htk1 hcn htj hcj ecj ex ey hmj1 hsm
                go_wp2_with fail
                go_region
                go_wp2_with fail
                go_region
                go_wp2
                exact ⟨⟨j + 1, by go_num, by omega, by rw [HCN.out, if_pos HSM.out.symm]; go_num, hsj⟩, by simp [intOf]; omega⟩
              · have hbe : ((ti.extract 0 mi).toList == (tj.extract 0 mj).toList) = false := by rw [bytes_eq, ← ECI.out, ← ecj]; simpa using hsm
                have hxe : (x == y) = false := by
                  have : decide (cut ti = cut tj) = false := by simpa using hsm
                  rw [this] at hxy; simpa using hxy.symm
                have HSM := Lib.hid hsm
                clear hxy gj1 gk1 htk1 hcn htj hcj ecj ex ey hmj1 hsm
                go_wp2_with fail
                go_region
                go_wp2_with fail
                go_region
                go_wp2
                exact ⟨⟨j + 1, by go_num, by omega, by rw [HCN.out, if_neg fun q => HSM.out q.symm]; rfl, hsj⟩, by simp [intOf]; omega⟩
            · have hjk : j = k := by omega
              subst hjk
              have htt : ts.take j = ts := List.take_of_length_le (by rw [HSS.out]; omega)
              rw [htt]
              obtain ⟨x, ex⟩ := HNUM.out (cut ti) (List.mem_of_getElem? HTI.out)
              obtain ⟨g', goff', ea, gk0, gk1⟩ := got_cells (ts := ts) hsj (by rw [HSS.out]) HTI.out
              cases ea
              rw [ex] at gk1
              have gk1' : wr.cell? ⟨g, goff + i * 2 + 1, none⟩ = some (.int .i64 x) := gk1
              have hlen : ts.length ≤ 1000 := by rw [HSS.out]; omega
              obtain ⟨eo, eob⟩ := HA.out.objOf hlen ex
              obtain ⟨ef, efo⟩ := HA.out.found hlen ex
              have hcb : cntL ts (cut ti) ≤ 40 := by have := cntL_le ts (cut ti); rw [HSS.out] at this; omega
              generalize hct : cntL ts (cut ti) = ct at *
              have hT := str_Text (A := A) ⟨5, x⟩ (hsj.cast (sR3 _ _ _ _)) (by rw [eo]; simp)
              have eis : strIs A ⟨5, x⟩ = true := by unfold strIs; rw [eo]; rfl
              rw [eis, eo] at hT
              rw [if_pos rfl, ECI.out] at hT
              have hF : ∀ wz, Sat w wz (heapR (fun _ => none) p A * (strR s p M * (slc 29 2 (some ⟨g, goff, none⟩) j c (avcells (gotL M ts)) * Old w))) → _ := fun wz hz => str_Find (cut ti) hz (by rw [ef, eo]; simp)
              rw [ef, efo, ECI.out] at hF
              have efv : foundV x true = .agg #[.int .i64 5, .int .i64 x] := rfl
              rw [efv] at hF
              have HT := Lib.hid hT
              have HF := Lib.hid hF
              have HOB := Lib.hid eob
              have HSJ := Lib.hid hsj
              have HEX := Lib.hid ex
              clear hT hF eob eo ef efo efv eis ex htt gk1 hct
              go_wp2_with fail
              refine HT.out.mono ?_
              rintro e w5 ⟨rfl, h5⟩
              clear gk0 gk1'
              go_wp2_with fail
              refine (HF.out _ h5).mono ?_
              rintro e w6 ⟨rfl, h6⟩
              go_wp2_with fail
              have h7 := h6.alloc (.cells #[.int .i64 5, .int .i64 x] 29)
              have hgl : ∀ wz (G : HP), Sat w wz (slc 29 2 (some ⟨g, goff, none⟩) j c (avcells (gotL M ts)) * G) → wz.cell? ⟨g, goff + i * 2, none⟩ = some (.int .i64 5) ∧ wz.cell? ⟨g, goff + i * 2 + 1, none⟩ = some (.int .i64 x) := by
                intro wz G hz
                obtain ⟨g', goff', ea, z0, z1⟩ := got_cells (ts := ts) hz (by rw [HSS.out]) HTI.out
                cases ea
                rw [HEX.out] at z1
                exact ⟨z0, z1⟩
              have HGL := Lib.hid hgl
              clear hgl
              have c7 := HGL.out _ _ (h7.cast (sR10 _ _ _ _ _))
              have v0 : (w6.alloc (.cells #[.int .i64 5, .int .i64 x] 29)).cell? ⟨w6.heap.size, 0, none⟩ = some (.int .i64 5) := h7.cell 0 rfl
              have v1 : (w6.alloc (.cells #[.int .i64 5, .int .i64 x] 29)).cell? ⟨w6.heap.size, 1, none⟩ = some (.int .i64 x) := h7.cell 1 rfl
              have h8 := (h7.cast (sR11 _ _ _ _ _)).drew
              have hrc := run_count
              generalize w6.heap.size = ob at *
              generalize (w6.alloc (.cells #[.int .i64 5, .int .i64 x] 29)) = w7 at *
              have c70 := c7.1
              have c71 := c7.2
              go_region_held3 (fun w' => w'.cell? ⟨ob, 0, none⟩ = some (.int .i64 5) ∧ w'.cell? ⟨ob, 1, none⟩ = some (.int .i64 x) ∧ w'.cell? ⟨g, goff + i * 2, none⟩ = some (.int .i64 5) ∧ w'.cell? ⟨g, goff + i * 2 + 1, none⟩ = some (.int .i64 x)) (first | exact ⟨v0, v1, c70, c71⟩ | exact ⟨y0, y1, c8.1, c8.2⟩)
                ((first
                  | (go_at_call 12; refine (heap_Obj h8 x (by rw [HOB.out]; simp)).mono ?_; unfold objV; rw [HOB.out]; rintro e w8 ⟨ao, co, rfl, h9⟩; have c8 := HGL.out _ _ (h9.cast (sR12 _ _ _ _ _ _)); have hv := h9.cast (sR13 _ _ _ _ _ _); have y0 : w8.cell? ⟨ob, 0, none⟩ = some (.int .i64 5) := Sat.cell (T := 29) (cs := #[.int .i64 5, .int .i64 x]) hv 0 rfl; have y1 : w8.cell? ⟨ob, 1, none⟩ = some (.int .i64 x) := Sat.cell (T := 29) (cs := #[.int .i64 5, .int .i64 x]) hv 1 rfl)))
              go_wp2
              exact ⟨⟨i + 1, by go_num, by omega, (h9.cast (sR14 _ _ _ _ _ _)).drop.drop⟩, by simp [intOf]; omega⟩
        · go_wp2_with fail
          refine (law_works hs).mono ?_
          rintro e w9 ⟨rfl, h9⟩
          go_wp2_with fail
          go_ret
          exact ⟨rfl, ((h9.cast (sR9 _ _ _ _)).cast (mul_comm _ _)).below⟩
theorem own : ownKnob Try.prog.godebug = none := by kernel_rfl
theorem laidOut : laidOutB Try.prog = true := by kernel_rfl
set_option maxRecDepth 100000 in
theorem lifted (os : Os) (started : os.Started) (H : Type) (enc : TypeId × Value → H) :
    ReturnsInHanded {} Try.checked os 3 .any (Rows.internOneSpec.pre6 enc Try.prog Try.f3 Rows.internOneRow.domain false) (Rows.internOneSpec.post enc Try.prog Try.f3 false true false false) := by
  refine returnsInHanded_of_change (C := Try.checked) own started (by kernel_rfl) Try.func3
    (ChangeSpec.witness6 (enc := enc) (C := Try.checked) false ⟨#[], #[.slice none 0 0], []⟩ 8 (by kernel_rfl) (by kernel_rfl) (by kernel_rfl) (by kernel_rfl)) ?_
  intro W base args ds gs before hval0 hW hcnd _
  have hval : ∀ (j : Nat) t v, Try.f3.params[j]? = some t → args[j]? = some v → Value.okWide Try.prog W .any base t v := hval0
  have hW' := hW
  obtain ⟨p, q, hA0, hV, rfl, hfz, hnd⟩ := hW
  have hA : DataW.TrodAll enc Try.prog W 0 (fun _ => true) true Try.f3.params.toList args.toList ds p := hA0
  rw [Try.params3] at hA hval
  obtain ⟨v0, vs0, d0, ds0, p0, q0, hargs, rfl, rfl, h0, r0⟩ := trodAll_cons hA
  obtain ⟨rfl, rfl, rfl⟩ := trodAll_nil r0
  obtain rfl : args = #[v0] := by cases args; simp_all
  obtain ⟨rfl, rfl⟩ := trodVars_none hV
  obtain ⟨a0, len0, cap0, rfl⟩ := okWide_slice Try.underlying22 (hval 0 22 v0 rfl rfl)
  have k0 := h0
  have lt0 : ∀ x ∈ p0, x.block < W.heap.size := by obtain ⟨m, hm⟩ := k0; exact DataW.trod_lt m _ _ _ hm
  obtain ⟨z0, w0⟩ : ∃ zs, IsStrs W a0 len0 cap0 zs := by
    obtain ⟨fuel, hf⟩ := h0
    rcases open_strings Try.underlying22 Try.underlying9 (by kernel_rfl) hf with ⟨hcs, _⟩ | ⟨x, l, c, zs, hcs, _, hl, hm, hz, _, hcell, hwz⟩
    · simp [Value.cells] at hcs
      obtain ⟨rfl, rfl, rfl⟩ := hcs
      exact ⟨[], .inl ⟨rfl, rfl, rfl, rfl⟩⟩
    · simp [Value.cells] at hcs
      obtain ⟨rfl, rfl, rfl⟩ := hcs
      exact ⟨zs, .inr ⟨_, rfl, hl, hm, by simpa using hz, hcell, hwz⟩⟩
  clear hA0 hval0
  refine (walk a0 len0 cap0 z0 W w0).mono fun e W' ⟨he, bel⟩ => ?_
  subst he
  exact ⟨_, rfl, _, _, _, [], _, [], hW', trodAll_mk1 (shut_bool Try.underlying4 _), (trodAll_cons_mk (Below.trod laidOut (by kernel_rfl) (of_decide_eq_true (by kernel_rfl)) k0 bel lt0) trodAll_mk0), rfl, bel.frame _, fun h => by cases h⟩
theorem over : Rows.internOneRow.holds Try.pinned (OpenSpec.ofChange Rows.internOneSpec) :=
  OpenClaim.holds_of_wide 3 Try.f3 rfl rfl rfl rfl rfl rfl rfl ⟨rfl, rfl, rfl, rfl, rfl⟩ rfl rfl rfl rfl rfl (by kernel_rfl) Try.func3 (by kernel_rfl)
    (of_decide_eq_true (by kernel_rfl)) (by unfold Func.isWrapper; first | (rw [if_pos (by decide +kernel)]; kernel_rfl) | (rw [if_neg (by decide +kernel)]; exact ⟨rfl, rfl⟩))
    (fun os started H enc _ => lifted os started H enc)
theorem internOne_holds : Rows.InternOneSaid := over
#print axioms internOne_holds
end Go.Proofs.Ytcllmadkhbplaaa.IOne
