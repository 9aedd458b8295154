/- the honest hand of drain's laws: take. No condition. -/
import Derived.Test.YtkpcngcegipalaaDr8
namespace Go.Proofs.Ytkpcngcegipalaa.Tw
set_option linter.unusedVariables false
set_option linter.unusedSimpArgs false
open Go Go.RowKit Go.MapKept

section
variable {P : Program} {w0 w : World} {F : HP} {ops : Array Oper} {rest : List Oper} {o : Oper} {a : Act} {Q : Exit → Act → World → Prop} {K : Act → World → Prop}
/-- values behind an owned slice -/
theorem wpList_catVal (hg : o.guard = none) (s x : Operand) (hop : o.op = .call { callee := .builtin .append, args := #[s, x], argTypes := #[37, 37] })
    (sa : Option Addr) (n c : Nat) (l : List AVal) (hs : a.eval s = .slice sa n c) (h : Sat w0 w (slc 28 2 sa n c (avcells l) * F)) (xa : Option Addr) (m c' : Nat) (r : List AVal) (hx : a.eval x = .slice xa m c') (hr : r.length = m)
    (hsrc : (∀ ad, xa = some ad → ∀ j u, (avcells r)[j]? = some u → w.cell? (ad.add j) = some u) ∧ (xa = none → m = 0 ∧ c' = 0)) (hn : n + m ≤ 1000000000)
    (hK : ∀ a' c'' w', Sat w0 w' (slc 28 2 a' (n + m) c'' (avcells (l ++ r)) * F) → wpList Try.prog ops Q rest (a.put o.dst (.slice a' (n + m) c'')) w') : wpList Try.prog ops Q (o :: rest) a w := by
  obtain ⟨i0, hi, hz0, hz1, hz2⟩ := info_parts info_val
  refine wpList_append_any hg s x 37 hop i0 (.agg #[.int .i64 0, .int .i64 0]) 16 Try.underlying37 hi hz0 hz1 hz2 rfl sa n c (avcells l) hs h xa m c' (avcells r) hx (by rw [avcells_length, hr]) hsrc (oneCell_avcells r) (by unfold maxLen; omega) (by omega) fun a' c'' w' h2 _ => ?_
  refine hK a' c'' w' ?_
  rw [avcells_append]; exact h2
/-- a part of an owned slice, as a source -/
theorem srcPart {sa : Option Addr} {n c g off : Nat} {l r : List AVal} {k : Nat} (h : Sat w0 w (slc 28 2 sa n c (avcells l) * F)) (hsa : sa = some ⟨g, off, none⟩) (hr : ∀ j x, r[j]? = some x → l[k + j]? = some x) (xa : Option Addr) (m c' : Nat) (hxa : xa = some ⟨g, off + k * 2, none⟩) :
    (∀ ad, xa = some ad → ∀ j u, (avcells r)[j]? = some u → w.cell? (ad.add j) = some u) ∧ (xa = none → m = 0 ∧ c' = 0) := by
  subst hxa hsa
  refine ⟨?_, fun e => by cases e⟩
  rintro ad e j u hj
  cases e
  rw [addr_add]
  have hjl : j < (avcells r).length := (List.getElem?_eq_some_iff.1 hj).1
  rw [avcells_length] at hjl
  have hx : r[j / 2]? = some (r[j / 2]'(by omega)) := List.getElem?_eq_getElem _
  obtain ⟨e0, e1⟩ := avcells_at hx
  obtain ⟨f0, f1⟩ := avcells_at (hr _ _ hx)
  obtain ⟨g1, o1, q1, d0, _⟩ := h.slcAt f0
  obtain ⟨g2, o2, q2, d1, _⟩ := h.slcAt f1
  cases q1; cases q2
  rcases Nat.mod_two_eq_zero_or_one j with hm | hm
  · have : j = j / 2 * 2 := by omega
    rw [this] at hj ⊢
    rw [e0] at hj; cases hj
    rw [show off + k * 2 + j / 2 * 2 = off + (k + j / 2) * 2 by omega]; exact d0
  · have : j = j / 2 * 2 + 1 := by omega
    rw [this] at hj ⊢
    rw [e1] at hj; cases hj
    rw [show off + k * 2 + (j / 2 * 2 + 1) = off + ((k + j / 2) * 2 + 1) by omega]; exact d1
end
section
variable {w0 w : World} {b p : Nat} {l : List AVal} {F : HP}
theorem hd_cast {a : Option Addr} {k c : Nat} {r : List AVal} {w : World} (h : Sat w0 w (slc 28 2 a (0 + k) c (avcells ([] ++ r)) * F)) : Sat w0 w (slc 28 2 a k c (avcells r) * F) := by rw [Nat.zero_add, List.nil_append] at h; exact h
set_option maxRecDepth 100000 in
set_option maxHeartbeats 2000000 in
theorem hd_take (h : Sat w0 w (handL b p l * F)) (hl : l.length ≤ 1000000) (n : Nat) (hn : n < 256) :
    Calls Try.prog 139 #[.pointer (some ⟨b, 0, none⟩), .int .u8 n] w fun e w' => e = .returned (.agg #[.int .i64 (lookV l n).kind, .int .i64 (lookV l n).n]) ∧ Sat w0 w' (handL b p (takeL l n) * F) := by
  obtain ⟨la, lc, h1⟩ := h.openHand
  have h2 := h1.alloc (.cells #[.int .i64 0, .int .i64 0] 28)
  have c1 : (w.alloc (.cells #[.int .i64 0, .int .i64 0] 28)).cell? ⟨b, 1, none⟩ = some (.slice la l.length lc) := h2.p2.cell 1 rfl
  generalize hrb : w.heap.size = rb at *
  have f0 := h2.free 0
  have f1 := h2.free 1
  unfold lookV takeL
  by_cases hnil : l = []
  · subst hnil
    rw [if_pos rfl]
    have h3 := (h2.store (i := 0) (.int .i64 1)).store (i := 1) (.int .i64 0)
    have H3 := Lib.hid h3
    have H4 := Lib.hid (h1.alloc (.cells #[.int .i64 1, .int .i64 0] 28))
    rw [hrb] at H4
    simp only [List.length_nil] at c1
    clear h1 h2 h3 h
    go_enter Try.func139, Try.ntmps139
    try rw [hrb]
    go_wp2_with fail
    first
      | exact bodyPost_cell rfl rfl (load_val H3.out) rfl ⟨rfl, H3.out.drop.shutHand rfl⟩
      | exact bodyPost_cell rfl rfl (load_val H4.out) rfl ⟨rfl, H4.out.drop.shutHand rfl⟩
  · rw [if_neg hnil]
    have hpos : 0 < l.length := List.length_pos_iff.2 hnil
    have hk : n % l.length < l.length := Nat.mod_lt _ hpos
    have hx : l[n % l.length]? = some (l[n % l.length]'hk) := List.getElem?_eq_getElem _
    have hxd : l.getD (n % l.length) ⟨0, 0⟩ = l[n % l.length]'hk := by simp [List.getD, hx]
    rw [hxd]
    generalize l[n % l.length]'hk = x at *
    obtain ⟨g, off, rfl, d0, d1⟩ := slcVal h2.p3 hx
    have h3 := h2.alloc (.cells #[.int .i64 x.kind, .int .i64 x.n] 28)
    rw [size_alloc, hrb] at h3
    have c2 : ((w.alloc (.cells #[.int .i64 0, .int .i64 0] 28)).alloc (.cells #[.int .i64 x.kind, .int .i64 x.n] 28)).cell? ⟨b, 1, none⟩ = some (.slice (some ⟨g, off, none⟩) l.length lc) := h3.p3.cell 1 rfl
    have H3 := Lib.hid h3
    have HN := Lib.hid (h3.nilSlc (T := 28) (sz := 2))
    have HS1 := Lib.hid (srcPart (k := 0) (r := l.take (n % l.length)) h3.p4 rfl (fun j y hy => by rw [Nat.zero_add]; rw [List.getElem?_take] at hy; split at hy; exact hy; cases hy) (some ⟨g, off, none⟩) (n % l.length) lc (by simp))
    have HX := Lib.hid hx
    clear h1 h2 h3 h hxd hx
    have hmod : (n : Int).tmod (l.length : Int) = ((n % l.length : Nat) : Int) := by rw [Int.tmod_eq_emod_of_nonneg (by omega)]; rfl
    generalize hkk : n % l.length = k at *
    generalize hll : l.length = ll at *
    have hz : ¬ ll = 0 := by omega
    have hw : IntKind.i64.wrap (n : Int) = n := IntWalk.i64_in _ (by omega)
    have hcap := H3.out.p4.slcCap.1
    by_cases hc0 : lc - (k + 1) = 0
    · have hll1 : ll - (k + 1) = 0 := by omega
      go_enter Try.func139, Try.ntmps139
      try rw [hrb]
      go_wp2_with (at_builtin; first
        | (refine wpList_catVal rfl _ _ rfl none 0 0 [] rfl HN.out (some ⟨g, off, none⟩) k lc (l.take k) rfl (by rw [List.length_take]; omega) HS1.out (by omega) ?_; intro a4 c4 w4 h4; have e1 : w4.cell? ⟨b, 1, none⟩ = some (.slice (some ⟨g, off, none⟩) ll lc) := h4.p4.cell 1 rfl; have H4 := Lib.hid (hd_cast h4); clear h4)
        | (refine wpList_catVal rfl _ _ rfl a4 k c4 (l.take k) rfl H4.out (some ⟨g, off, none⟩) 0 0 [] rfl rfl ⟨fun _ _ j u hj => by simp [avcells] at hj, fun e => by cases e⟩ (by omega) ?_; intro a5 c5 w5 h5; have e5 : w5.cell? ⟨b, 1, none⟩ = some (.slice (some ⟨g, off, none⟩) ll lc) := h5.p4.cell 1 rfl; have f5 := h5.p4.free 1; have H6 := Lib.hid (h5.p4.store (i := 1) (.slice a5 k c5)); have k0 : (w5.setCell ⟨b, 1, none⟩ (.slice a5 k c5)).cell? ⟨rb + 1, 0, none⟩ = some (.int .i64 x.kind) := Sat.cell (T := 28) (cs := #[.int .i64 x.kind, .int .i64 x.n]) H6.out.p3 0 rfl; have k1 : (w5.setCell ⟨b, 1, none⟩ (.slice a5 k c5)).cell? ⟨rb + 1, 1, none⟩ = some (.int .i64 x.n) := Sat.cell (T := 28) (cs := #[.int .i64 x.kind, .int .i64 x.n]) H6.out.p3 1 rfl; have z0 := H6.out.p4.free 0; have z1 := H6.out.p4.free 1; have zc0 : (w5.setCell ⟨b, 1, none⟩ (.slice a5 k c5)).cell? ⟨rb, 0, none⟩ = some (.int .i64 0) := Sat.cell (T := 28) (cs := #[.int .i64 0, .int .i64 0]) H6.out.p4 0 rfl; have zc1 : (w5.setCell ⟨b, 1, none⟩ (.slice a5 k c5)).cell? ⟨rb, 1, none⟩ = some (.int .i64 0) := Sat.cell (T := 28) (cs := #[.int .i64 0, .int .i64 0]) H6.out.p4 1 rfl; clear h5))
      rw [List.eraseIdx_eq_take_drop_succ]
      have h8 : Sat w0 (((w5.setCell ⟨b, 1, none⟩ (.slice a5 k c5)).setCell ⟨rb, 0, none⟩ (.int .i64 x.kind)).setCell ⟨rb, 1, none⟩ (.int .i64 x.n)) (row rb 28 #[.int .i64 x.kind, .int .i64 x.n] * (row b 77 #[.pointer (some ⟨p, 0, none⟩), .slice a5 k c5] * (slc 28 2 a5 k c5 (avcells (l.take k ++ [])) * (row (rb + 1) 28 #[.int .i64 x.kind, .int .i64 x.n] * (slc 28 2 (some ⟨g, off, none⟩) ll lc (avcells l) * F))))) := (H6.out.p4.store (i := 0) (.int .i64 x.kind)).store (i := 1) (.int .i64 x.n)
      have e9 : l.drop (k + 1) = [] := List.drop_eq_nil_of_le (by omega)
      rw [e9]
      exact bodyPost_cell rfl rfl (load_val h8) rfl ⟨rfl, h8.drop.p3.drop.p3.drop.shutHand (by rw [List.length_append, List.length_take, List.length_nil]; omega)⟩
    · go_enter Try.func139, Try.ntmps139
      try rw [hrb]
      go_wp2_with (at_builtin; first
        | (refine wpList_catVal rfl _ _ rfl none 0 0 [] rfl HN.out (some ⟨g, off, none⟩) k lc (l.take k) rfl (by rw [List.length_take]; omega) HS1.out (by omega) ?_; intro a4 c4 w4 h4; have e1 : w4.cell? ⟨b, 1, none⟩ = some (.slice (some ⟨g, off, none⟩) ll lc) := h4.p4.cell 1 rfl; have H4 := Lib.hid (hd_cast h4); clear h4)
        | (refine wpList_catVal rfl _ _ rfl a4 k c4 (l.take k) rfl H4.out (some ⟨g, off + (k + 1) * 2, none⟩) (ll - (k + 1)) (lc - (k + 1)) (l.drop (k + 1)) rfl (by rw [List.length_drop]; omega) (srcPart (k := k + 1) H4.out.p5 rfl (fun j y hy => by rw [List.getElem?_drop] at hy; exact hy) _ _ _ rfl) (by omega) ?_; intro a5 c5 w5 h5; have e5 : w5.cell? ⟨b, 1, none⟩ = some (.slice (some ⟨g, off, none⟩) ll lc) := h5.p4.cell 1 rfl; have f5 := h5.p4.free 1; have H6 := Lib.hid (h5.p4.store (i := 1) (.slice a5 (k + (ll - (k + 1))) c5)); have k0 : (w5.setCell ⟨b, 1, none⟩ (.slice a5 (k + (ll - (k + 1))) c5)).cell? ⟨rb + 1, 0, none⟩ = some (.int .i64 x.kind) := Sat.cell (T := 28) (cs := #[.int .i64 x.kind, .int .i64 x.n]) H6.out.p3 0 rfl; have k1 : (w5.setCell ⟨b, 1, none⟩ (.slice a5 (k + (ll - (k + 1))) c5)).cell? ⟨rb + 1, 1, none⟩ = some (.int .i64 x.n) := Sat.cell (T := 28) (cs := #[.int .i64 x.kind, .int .i64 x.n]) H6.out.p3 1 rfl; have z0 := H6.out.p4.free 0; have z1 := H6.out.p4.free 1; have zc0 : (w5.setCell ⟨b, 1, none⟩ (.slice a5 (k + (ll - (k + 1))) c5)).cell? ⟨rb, 0, none⟩ = some (.int .i64 0) := Sat.cell (T := 28) (cs := #[.int .i64 0, .int .i64 0]) H6.out.p4 0 rfl; have zc1 : (w5.setCell ⟨b, 1, none⟩ (.slice a5 (k + (ll - (k + 1))) c5)).cell? ⟨rb, 1, none⟩ = some (.int .i64 0) := Sat.cell (T := 28) (cs := #[.int .i64 0, .int .i64 0]) H6.out.p4 1 rfl; clear h5))
      rw [List.eraseIdx_eq_take_drop_succ]
      have h8 : Sat w0 (((w5.setCell ⟨b, 1, none⟩ (.slice a5 (k + (ll - (k + 1))) c5)).setCell ⟨rb, 0, none⟩ (.int .i64 x.kind)).setCell ⟨rb, 1, none⟩ (.int .i64 x.n)) (row rb 28 #[.int .i64 x.kind, .int .i64 x.n] * (row b 77 #[.pointer (some ⟨p, 0, none⟩), .slice a5 (k + (ll - (k + 1))) c5] * (slc 28 2 a5 (k + (ll - (k + 1))) c5 (avcells (l.take k ++ l.drop (k + 1))) * (row (rb + 1) 28 #[.int .i64 x.kind, .int .i64 x.n] * (slc 28 2 (some ⟨g, off, none⟩) ll lc (avcells l) * F))))) := (H6.out.p4.store (i := 0) (.int .i64 x.kind)).store (i := 1) (.int .i64 x.n)
      exact bodyPost_cell rfl rfl (load_val h8) rfl ⟨rfl, h8.drop.p3.drop.p3.drop.shutHand (by rw [List.length_append, List.length_take, List.length_drop]; omega)⟩
end
end Go.Proofs.Ytkpcngcegipalaa.Tw
