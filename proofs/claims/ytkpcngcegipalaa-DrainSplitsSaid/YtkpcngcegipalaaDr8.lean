/- the honest hand of drain's laws: look, take. No condition. -/
import Derived.Test.YtkpcngcegipalaaDr7
namespace Go.Proofs.Ytkpcngcegipalaa.Tw
set_option linter.unusedVariables false
set_option linter.unusedSimpArgs false
open Go Go.RowKit Go.MapKept

def handL (b p : Nat) (l : List AVal) : HP := fun h => ∃ la lc, (row b 77 #[.pointer (some ⟨p, 0, none⟩), .slice la l.length lc] * slc 28 2 la l.length lc (avcells l)) h
def lookV (l : List AVal) (n : Nat) : AVal := if l = [] then ⟨1, 0⟩ else l.getD (n % l.length) ⟨0, 0⟩
def takeL (l : List AVal) (n : Nat) : List AVal := l.eraseIdx (n % l.length)
theorem avcells_append (l r : List AVal) : avcells (l ++ r) = avcells l ++ avcells r := by simp [avcells]
theorem avcells_at {l : List AVal} {k : Nat} {x : AVal} (h : l[k]? = some x) : (avcells l)[k * 2]? = some (.int .i64 x.kind) ∧ (avcells l)[k * 2 + 1]? = some (.int .i64 x.n) := by
  induction l generalizing k with
  | nil => simp at h
  | cons y l ih =>
    cases k with
    | zero => simp at h; subst h; exact ⟨rfl, rfl⟩
    | succ k =>
      simp at h
      have := ih h
      have e : avcells (y :: l) = [.int .i64 y.kind, .int .i64 y.n] ++ avcells l := rfl
      rw [e, List.getElem?_append_right (by simp; omega), List.getElem?_append_right (by simp; omega)]
      simp only [List.length_cons, List.length_nil]
      rw [show (k + 1) * 2 - (0 + 1 + 1) = k * 2 by omega, show (k + 1) * 2 + 1 - (0 + 1 + 1) = k * 2 + 1 by omega]
      exact this
section
variable {w0 w : World} {b p : Nat} {l : List AVal} {F : HP}
theorem Sat.openHand (h : Sat w0 w (handL b p l * F)) : ∃ la lc, Sat w0 w (row b 77 #[.pointer (some ⟨p, 0, none⟩), .slice la l.length lc] * (slc 28 2 la l.length lc (avcells l) * F)) := by
  obtain ⟨h1, x, ⟨y, z, dj, rfl, ⟨a, c, hp⟩, hq⟩, r⟩ := h
  exact ⟨a, c, Sat.cast ⟨h1, _, ⟨y, z, dj, rfl, hp, hq⟩, r⟩ (mul_assoc _ _ _)⟩
theorem Sat.shutHand {la : Option Addr} {n lc : Nat} (h : Sat w0 w (row b 77 #[.pointer (some ⟨p, 0, none⟩), .slice la n lc] * (slc 28 2 la n lc (avcells l) * F))) (hn : n = l.length) : Sat w0 w (handL b p l * F) := by
  subst hn
  rw [← mul_assoc] at h
  exact h.mono_l fun _ hq => ⟨la, lc, hq⟩
theorem slcVal {a : Option Addr} {n c k : Nat} {x : AVal} (h : Sat w0 w (slc 28 2 a n c (avcells l) * F)) (hx : l[k]? = some x) :
    ∃ g off, a = some ⟨g, off, none⟩ ∧ w.cell? ⟨g, off + k * 2, none⟩ = some (.int .i64 x.kind) ∧ w.cell? ⟨g, off + k * 2 + 1, none⟩ = some (.int .i64 x.n) := by
  obtain ⟨e0, e1⟩ := avcells_at hx
  obtain ⟨g, off, ha, h0, _⟩ := h.slcAt e0
  obtain ⟨g', off', ha', h1, _⟩ := h.slcAt e1
  rw [ha] at ha'; cases ha'
  exact ⟨g, off, ha, h0, by rw [Nat.add_assoc]; exact h1⟩
set_option maxRecDepth 100000 in
set_option maxHeartbeats 1000000 in
theorem hd_look (h : Sat w0 w (handL b p l * F)) (hl : l.length ≤ 1000000) (n : Nat) (hn : n < 256) :
    Calls Try.prog 138 #[.pointer (some ⟨b, 0, none⟩), .int .u8 n] w fun e w' => e = .returned (.agg #[.int .i64 (lookV l n).kind, .int .i64 (lookV l n).n]) ∧ Sat w0 w' (handL b p l * F) := by
  obtain ⟨la, lc, h1⟩ := h.openHand
  have h2 := h1.alloc (.cells #[.int .i64 0, .int .i64 0] 28)
  have c1 : (w.alloc (.cells #[.int .i64 0, .int .i64 0] 28)).cell? ⟨b, 1, none⟩ = some (.slice la l.length lc) := h2.p2.cell 1 rfl
  generalize hrb : w.heap.size = rb at *
  have f0 := h2.free 0
  have f1 := h2.free 1
  unfold lookV
  by_cases hnil : l = []
  · subst hnil
    rw [if_pos rfl]
    have h3 := (h2.store (i := 0) (.int .i64 1)).store (i := 1) (.int .i64 0)
    have H3 := Lib.hid h3
    have H4 := Lib.hid (h1.alloc (.cells #[.int .i64 1, .int .i64 0] 28))
    rw [hrb] at H4
    simp only [List.length_nil] at c1
    clear h1 h2 h3 h
    go_enter Try.func138, Try.ntmps138
    try rw [hrb]
    go_wp2_with fail
    first
      | exact bodyPost_cell rfl rfl (load_val H3.out) rfl ⟨rfl, H3.out.drop.shutHand rfl⟩
      | exact bodyPost_cell rfl rfl (load_val H4.out) rfl ⟨rfl, H4.out.drop.shutHand rfl⟩
  · rw [if_neg hnil]
    have hpos : 0 < l.length := List.length_pos_iff.2 hnil
    have hk : n % l.length < l.length := Nat.mod_lt _ hpos
    have hx : l[n % l.length]? = some (l[n % l.length]'hk) := List.getElem?_eq_getElem _
    have hxd : l.getD (n % l.length) ⟨0, 0⟩ = l[n % l.length]'hk := by simp [List.getD, hx]
    rw [hxd]
    generalize l[n % l.length]'hk = x at *
    obtain ⟨g, off, rfl, d0, d1⟩ := slcVal h2.p3 hx
    have h3 := (h2.store (i := 0) (.int .i64 x.kind)).store (i := 1) (.int .i64 x.n)
    have H3 := Lib.hid h3
    have H4 := Lib.hid (h1.alloc (.cells #[.int .i64 x.kind, .int .i64 x.n] 28))
    rw [hrb] at H4
    have HX := Lib.hid hx
    clear h1 h2 h3 h hxd hx
    have hmod : (n : Int).tmod (l.length : Int) = ((n % l.length : Nat) : Int) := by rw [Int.tmod_eq_emod_of_nonneg (by omega)]; rfl
    generalize hkk : n % l.length = k at *
    generalize hll : l.length = ll at *
    have hz : ¬ ll = 0 := by omega
    have hw : IntKind.i64.wrap (n : Int) = n := IntWalk.i64_in _ (by omega)
    go_enter Try.func138, Try.ntmps138
    try rw [hrb]
    go_wp2_with fail
    refine wp_region_tail 14 (by kernel_rfl) (by kernel_rfl) ?_
    simp only [List.take_succ_cons, List.take_zero, List.drop_succ_cons, List.drop_zero]
    iterate 14 still_step
    refine wpStill_nil ?_
    go_wp2_with fail
    all_goals first
      | exact bodyPost_cell rfl rfl (load_val H3.out.drew) rfl ⟨rfl, H3.out.drew.drop.shutHand hll.symm⟩
      | exact bodyPost_cell rfl rfl (load_val H4.out.drew) rfl ⟨rfl, H4.out.drew.drop.shutHand hll.symm⟩
end
end Go.Proofs.Ytkpcngcegipalaa.Tw
