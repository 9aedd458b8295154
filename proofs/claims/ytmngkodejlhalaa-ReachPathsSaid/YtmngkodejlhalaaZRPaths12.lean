/- 'for x := range seq': the statement's law in the small separation logic: what is held goes from round to round; all else is a frame. No condition. -/
import Derived.Test.YtmngkodejlhalaaZRPaths3
import Derived.RangeFuncNested
import Derived.RangeFuncBound
import Derived.RangeFuncCalls
import Derived.RangeFuncLeaves
import Derived.RangeFuncWrites
import Derived.Shelf.Abstract
import Derived.Shelf.RegionOpen
import Derived.OwnWalkIn
import Derived.TacticsInMore
import Derived.LoopNIn
import Derived.LoopIn
import Derived.Test.YtmngkodejlhalaaZRPaths11
namespace Go.Proofs.Ytmngkodejlhalaa.Tw
set_option linter.unusedVariables false
set_option linter.unusedSimpArgs false
open Go Go.RowKit Go.MapKept

theorem Sat.putObj {w0 w : World} {b : Nat} {o : Obj} {F : HP} (h : Sat w0 w (pt b o * F)) (o' : Obj) : Sat w0 (w.putObj b o') (pt b o' * F) := h.setObj o'

/-- an iterator, whatever is held beside: Sh what it shares with the rounds, J what the rounds hold beside; ok: what comes next -/
def SeqS {α : Type} (w0 : World) (n : Nat) (P : Program) (g : Nat) (lb : Array Value) (encs : α → Array Value) (Sh : List α → HP) (ok : List α → α → Prop) (S Sp : List α → Prop) : Prop :=
  ∀ (l : Nat) (J Jx : List α → HP) (W : World) (F : HP),
    (∀ pre x W1 G, Sat w0 W1 (J pre * (Sh pre * G)) → ok pre x → YieldAt Fence.wide (n - 1) P l (encs x) W1 fun e W' =>
      (e = .returned (.bool true) ∧ Sat w0 W' (J (pre ++ [x]) * (Sh (pre ++ [x]) * G))) ∨ (e = .returned (.bool false) ∧ Sat w0 W' (Jx (pre ++ [x]) * (Sh (pre ++ [x]) * G)))) →
    Sat w0 W (J [] * (Sh [] * F)) →
    CallsIn Fence.wide n P g (#[.func (.yield l) #[] #[]] ++ lb) W fun e W' => (∃ v, e = .returned v) ∧ ((∃ xs, S xs ∧ Sat w0 W' (J xs * (Sh xs * F))) ∨ (∃ pre, Sp pre ∧ Sat w0 W' (Jx pre * (Sh pre * F))))

/-- how the body of a round may be left -/
def sepPost {α : Type} (w0 : World) (I : List α → HP) (Ix : Code → List α → HP) (xs : List α) (G : HP) : Exit → Act → World → Prop
  | .normal, _, W' => Sat w0 W' (I xs * G)
  | .ret, _, W' => Sat w0 W' (Ix .ret xs * G)
  | .exit id, _, W' => Sat w0 W' (Ix (.exit id) xs * G)
  | .goto t, _, W' => Sat w0 W' (Ix (.goto t) xs * G)
  | .panic _, _, _ => False
  | .outgrown, _, _ => False

theorem wpIn_rangeFunc_sep {α : Type} {n : Nat} {P : Program} {g : Operand} {ps : Array Tmp} {assign body : Code} {Q : Exit → Act → World → Prop} {a : Act} {w0 w : World}
    (h1 : 1 ≤ n) {gf : Nat} {lb : Array Value} (hg : a.eval g = .func (.func gf) #[] lb) (eg : ∀ args w, (callFunc gf args).run P w = .ok (.enter gf args) w)
    {encs : α → Array Value} {Sh : List α → HP} {F : HP} {ok : List α → α → Prop} {S Sp : List α → Prop} (hseq : SeqS w0 (n - 1) P gf lb encs Sh ok S Sp) (hps : ∀ x, (encs x).size = ps.size)
    (I : List α → HP) (Ix : Code → List α → HP) (h0 : Sat w0 w (I [] * (Sh [] * F))) (a₁ : α → Act)
    (hassign : ∀ (l : Nat) (x : α) (W : World) (K : Act → World → Prop), K (a₁ x) W →
      assign.wpIn (Fence.wide.inRound l) (n - 1 - 1) P (Exit.then K (fun _ _ _ => False)) { tmps := (ps.zip (encs x)).foldl (fun t (p, v) => t.setIfInBounds p v) a.tmps, defers := [] } W)
    (hbody : ∀ (l : Nat) (pre : List α) (x : α) (W : World) (G : HP), Sat w0 W (I pre * (Sh pre * G)) → ok pre x → body.wpIn (Fence.wide.inRound l) (n - 1 - 1) P (sepPost w0 I Ix (pre ++ [x]) (Sh (pre ++ [x]) * G)) (a₁ x) W)
    (hdone : ∀ (D : Nat) (xs : List α) (W : World), S xs → Sat w0 W (pt D (.deferred (some [])) * (I xs * (Sh xs * F))) → Q .normal { a with defers := { target := .collected D, args := #[] } :: a.defers } W)
    (hstop : ∀ (D : Nat) (c : Code) (pre : List α) (W : World), Sp pre → Sat w0 W (pt D (.deferred (some [])) * (Ix c pre * (Sh pre * F))) → c.wpIn Fence.wide n P Q { a with defers := { target := .collected D, args := #[] } :: a.defers } W) :
    (Code.rangeFunc g ps assign body).wpIn Fence.wide n P Q a w := by
  refine wpIn_rangeFunc ?_
  intro fn hfn
  obtain ⟨rec, hrec⟩ : ∃ rec : LoopState → Option Code → Loop, rec = fun st pe => { state := st, pending := pe, fn, tmps := a.tmps, params := ps, assign, body, defers := w.heap.size } := ⟨_, rfl⟩
  obtain ⟨W1, hW1⟩ : ∃ W1, (w.alloc (.deferred (some []))).alloc (.loop (rec .ready none)) = W1 := ⟨_, rfl⟩
  have hs1 : Sat w0 W1 (pt (w.heap.size + 1) (.loop (rec .ready none)) * (pt w.heap.size (.deferred (some [])) * (I [] * (Sh [] * F)))) := by
    have := (h0.alloc (.deferred (some []))).alloc (.loop (rec .ready none))
    rw [World.size_alloc] at this
    rw [← hW1]; exact this
  refine ⟨w.heap.size + 1, [{ target := .collected w.heap.size, args := #[] }], W1, { target := .fn (.func gf) lb, args := #[.func (.yield (w.heap.size + 1)) #[] #[]] }, W1, gf,
    #[.func (.yield (w.heap.size + 1)) #[] #[]] ++ lb, W1, ?_, ?_, ?_, ?_, fun _ => h1, ?_⟩
  · rw [← hW1, hrec]; exact run_enterLoop_outer _ _ _ _ _
  · simp only [resolve, hg]
    simp [go_sem]
  · intro f' hf'; trivial
  · simp [invoke, go_sem, eg]
  · generalize hL : w.heap.size + 1 = L at *
    generalize hD : w.heap.size = D at *
    refine (hseq L (fun pre => pt L (.loop (rec .ready none)) * (pt D (.deferred (some [])) * I pre)) (fun pre => ex fun c => pt L (.loop (rec .done (some c))) * (pt D (.deferred (some [])) * Ix c pre)) W1 F ?_ (hs1.cast (by simp only [mul_assoc]))).mono ?_
    · rintro pre x W G hs hlen
      have hs2 : Sat w0 W (pt L (.loop (rec .ready none)) * (pt D (.deferred (some [])) * (I pre * (Sh pre * G)))) := hs.cast (by simp only [mul_assoc])
      have hl := hs2.blk
      have hy := run_yield (P := P) (args := encs x) hl (by rw [hrec]; exact hps x)
      rw [hrec] at hy
      have hs3 := hs2.putObj (.loop { rec .ready none with state := .busy })
      refine ⟨fn, _, assign, body, hy, roundIn_of_wpIn hfn (hassign _ x W _ ⟨_, run_beginRound hl (by rw [hrec]), ?_⟩)⟩
      have hp3 : Sat w0 (W.putObj L (.loop { rec .ready none with state := .busy })) (I pre * (Sh pre * (pt L (.loop { rec .ready none with state := .busy }) * (pt D (.deferred (some [])) * G)))) := hs3.cast (by ac_rfl)
      refine wpIn_mono (hbody _ pre x _ _ hp3 hlen) ?_
      have fin : ∀ (jump : Option Code) (W3 : World) (X : HP), Sat w0 W3 (X * (Sh (pre ++ [x]) * (pt L (.loop { rec .ready none with state := .busy }) * (pt D (.deferred (some [])) * G)))) →
          (Instr.endRound L jump).run P W3 = .ok (.bool jump.isNone) (W3.putObj L (.loop (rec (if jump.isNone then .ready else .done) jump))) ∧
          Sat w0 (W3.putObj L (.loop (rec (if jump.isNone then .ready else .done) jump))) (pt L (.loop (rec (if jump.isNone then .ready else .done) jump)) * (pt D (.deferred (some [])) * (X * (Sh (pre ++ [x]) * G)))) := fun jump W3 X h3 => by
        have h4 : Sat w0 W3 (pt L (.loop { rec .ready none with state := .busy }) * (pt D (.deferred (some [])) * (X * (Sh (pre ++ [x]) * G)))) := h3.cast (by ac_rfl)
        have := run_endRound (P := P) jump h4.blk
        refine ⟨?_, h4.putObj _⟩
        rw [hrec] at this ⊢
        exact this
      rintro e a3 W3 hp
      cases e with
      | normal =>
        obtain ⟨hr, h5⟩ := fin none W3 _ hp
        exact ⟨_, _, hr, .inl ⟨rfl, h5.cast (by simp only [Option.isNone_none, if_true, mul_assoc])⟩⟩
      | ret =>
        obtain ⟨hr, h5⟩ := fin (some .ret) W3 _ hp
        refine ⟨_, _, hr, .inr ⟨rfl, Sat.intro_ex Code.ret ?_⟩⟩
        exact h5.cast (by simp only [mul_assoc]; rfl)
      | exit id =>
        obtain ⟨hr, h5⟩ := fin (some (.exit id)) W3 _ hp
        refine ⟨_, _, hr, .inr ⟨rfl, Sat.intro_ex (Code.exit id) ?_⟩⟩
        exact h5.cast (by simp only [mul_assoc]; rfl)
      | goto t =>
        obtain ⟨hr, h5⟩ := fin (some (.goto t)) W3 _ hp
        refine ⟨_, _, hr, .inr ⟨rfl, Sat.intro_ex (Code.goto t) ?_⟩⟩
        exact h5.cast (by simp only [mul_assoc]; rfl)
      | panic ch => exact hp.elim
      | outgrown => exact hp.elim
    · rintro e W2 ⟨⟨v, rfl⟩, (⟨xs, hS, hs⟩ | ⟨pre, hSp, hs⟩)⟩
      · have hs2 : Sat w0 W2 (pt L (.loop (rec .ready none)) * (pt D (.deferred (some [])) * (I xs * (Sh xs * F)))) := hs.cast (by simp only [mul_assoc])
        have := run_endLoop (P := P) hs2.blk (by rw [hrec]; simp)
        refine ⟨none, _, ?_, hdone D xs _ hS (hs2.putObj (.loop { rec .ready none with state := .exhausted })).drop⟩
        rw [hrec] at this ⊢; exact this
      · obtain ⟨c, hc⟩ := hs.elim_ex
        have hs2 : Sat w0 W2 (pt L (.loop (rec .done (some c))) * (pt D (.deferred (some [])) * (Ix c pre * (Sh pre * F)))) := hc.cast (by simp only [mul_assoc])
        have := run_endLoop (P := P) hs2.blk (by rw [hrec]; simp)
        refine ⟨some c, _, ?_, hstop D c pre _ hSp (hs2.putObj (.loop { rec .done (some c) with state := .exhausted })).drop⟩
        rw [hrec] at this ⊢; exact this
end Go.Proofs.Ytmngkodejlhalaa.Tw
namespace Go.Proofs.Ytmngkodejlhalaa.Tw
set_option linter.unusedVariables false
set_option linter.unusedSimpArgs false
open Go Go.RowKit Go.MapKept
attribute [local go_sem] Oper.semAt_some

open Classical in
/-- a loop with a number that no slot holds, in a walk within -/
theorem wpIn_loop_ghost' {F' : Fence} {nn : Nat} {P : Program} {Q : Exit → Act → World → Prop} {c : Code} (I : Nat → Act → World → Prop) {f : Nat} {a : Act} {w : World} (h0 : I f a w)
    (round : ∀ f a w, I f a w → c.wpIn F' nn P (Exit.then (fun a' w' => ∃ f', f' < f ∧ I f' a' w') Q) a w) : (Code.loop c).wpIn F' nn P Q a w := by
  have least : ∀ a w, (∃ f, I f a w) → ∃ m, I m a w ∧ ∀ k, k < m → ¬ I k a w := by
    intro a w ⟨f, hf⟩
    induction f using Nat.strongRecOn with
    | _ f ih =>
      by_cases h : ∃ k, k < f ∧ I k a w
      · obtain ⟨k, hk, hI⟩ := h
        exact ih k hk hI
      · exact ⟨f, hf, fun k hk hI => h ⟨k, hk, hI⟩⟩
  refine wpIn_loop (fun a w => ∃ f, I f a w) (fun a w => if h : ∃ f, I f a w then (least a w h).choose else 0) ⟨f, h0⟩ ?_
  intro a w h
  have hm := (least a w h).choose_spec
  refine wpIn_mono (round _ a w hm.1) ?_
  intro e a' w' q
  cases e <;> try exact q
  obtain ⟨f', hlt, hI⟩ := q
  refine ⟨⟨f', hI⟩, ?_⟩
  have h' : ∃ f, I f a' w' := ⟨f', hI⟩
  have hm' := (least a' w' h').choose_spec
  show (if h : ∃ f, I f a' w' then (least a' w' h).choose else 0) < (if h : ∃ f, I f a w then (least a w h).choose else 0)
  rw [dif_pos h', dif_pos h]
  refine Nat.lt_of_le_of_lt ?_ hlt
  exact Nat.le_of_not_lt fun hlt2 => hm'.2 _ hlt2 hI
theorem yield_any' {P : Program} {W : World} {m m' lid : Nat} {args : Array Value} {R : Ending → World → Prop} (h : YieldAt Fence.wide m P lid args W R) : YieldAt Fence.wide m' P lid args W R := by
  obtain ⟨fn, tmps, assign, body, hy, hR⟩ := h
  exact ⟨fn, tmps, assign, body, hy, hR.1, fun c cs _ => hR.2 c cs (room_wide _)⟩
section
variable {w0 w : World} {F : HP} {a : Option Addr} {n c : Nat} {l : List Int} {J Jx : List Int → HP}
def valsR (sb : Nat) (a : Option Addr) (n c : Nat) (l : List Int) : HP := pt sb (.cells #[.slice a n c] 28 (0, 0)) * slc 3 1 a n c (l.map ival)
def VPost (w0 : World) (J Jx : List Int → HP) (Sh F : HP) (L : List Int) (e : Ending) (W' : World) : Prop :=
  (∃ v, e = .returned v) ∧ ((∃ xs, xs = L ∧ Sat w0 W' (J xs * (Sh * F))) ∨ (∃ pre, pre <+: L ∧ Sat w0 W' (Jx pre * (Sh * F))))
def VIt (yf sb : Value) (sl : Value) (len : Value) (k : Value) (u4 u8 u9 u10 u11 u12 u13 u14 u15 : Value) : Act :=
  { tmps := #[yf, sb, undef, undef, u4, sl, len, k, u8, u9, u10, u11, u12, u13, u14, u15], defers := [] }
def VInv (w0 : World) (sb : Nat) (a : Option Addr) (n c : Nat) (l : List Int) (J : List Int → HP) (F : HP) (lid : Nat) (f : Nat) (x : Act) (W : World) : Prop :=
  ∃ (k : Nat) (u4 u8 u9 u10 u11 u12 u13 u14 u15 : Value), x = VIt (.func (.yield lid) #[] #[]) (.pointer (some ⟨sb, 0, none⟩)) (.slice a n c) (.int .i64 n) (.int .i64 k) u4 u8 u9 u10 u11 u12 u13 u14 u15 ∧ (k ≤ n ∧ f = n - k) ∧ Sat w0 W (J (l.take k) * (valsR sb a n c l * F))
set_option maxRecDepth 100000 in
set_option maxHeartbeats 4000000 in
theorem values_seq {M : Nat} (hl : l.length = n) (hn : n ≤ 1000000000) (sb : Nat) :
    SeqS w0 (M + 2) Try.prog 91 #[.pointer (some ⟨sb, 0, none⟩)] (fun x : Int => #[.int .i64 x]) (fun _ => valsR sb a n c l) (fun pre x => ∃ post, l = pre ++ x :: post) (fun xs => xs = l) (fun pre => pre <+: l) := by
  intro lid J Jx W F hY hs
  show CallsIn Fence.wide (M + 2) Try.prog 91 #[.func (.yield lid) #[] #[], .pointer (some ⟨sb, 0, none⟩)] W (VPost w0 J Jx (valsR sb a n c l) F l)
  have HYY := Lib.hid hY
  clear hY
  have box : ∀ W1 Y Z, Sat w0 W1 (Y * (valsR sb a n c l * Z)) → W1.cell? ⟨sb, 0, none⟩ = some (.slice a n c) := fun W1 Y Z h => by
    have h' : Sat w0 W1 (pt sb (.cells #[.slice a n c] 28 (0, 0)) * (slc 3 1 a n c (l.map ival) * (Y * Z))) := h.cast (by unfold valsR; ac_rfl)
    exact Sat.cell (T := 28) (cs := #[.slice a n c]) h' 0 rfl
  have c0 := box _ _ _ hs
  refine callsIn_of_wp Try.func91 rfl trivial ?_
  simp only [Try.ntmps91, List.size_toArray, List.length_cons, List.length_nil, Nat.reduceAdd, Nat.reduceSub, Array.replicate_succ, Array.replicate_zero, List.push_toArray, List.append_toArray, List.nil_append, List.cons_append]
  gi_wp2
  refine wpIn_loop_ghost' (VInv w0 sb a n c l J F lid) (f := n) ⟨0, _, _, _, _, _, _, _, _, _, rfl, ⟨by omega, by omega⟩, hs⟩ ?_
  rintro f x W2 ⟨k, u4, u8, u9, u10, u11, u12, u13, u14, u15, rfl, ⟨hk, rfl⟩, hs2⟩
  unfold VIt
  clear hs c0 box
  by_cases hlt : k < n
  · obtain ⟨y, hy⟩ : ∃ y, l[k]? = some y := ⟨l[k]'(by omega), List.getElem?_eq_getElem _⟩
    have h' : Sat w0 W2 (slc 3 1 a n c (l.map ival) * (pt sb (.cells #[.slice a n c] 28 (0, 0)) * (J (l.take k) * F))) := hs2.cast (by unfold valsR; ac_rfl)
    obtain ⟨g, off, rfl, e0, _⟩ := intCells h' hy
    have hcap := h'.slcCap
    have htk : l.take (k + 1) = l.take k ++ [y] := by rw [List.take_add_one, hy]; rfl
    have hok : ∃ post, l = l.take k ++ y :: post := ⟨l.drop (k + 1), by
      have := List.take_append_drop (k + 1) l
      rw [htk, List.append_assoc] at this
      exact this.symm⟩
    have hYm := yield_any' (m' := M + 1) (HYY.out (l.take k) y _ _ hs2 hok)
    obtain ⟨fn, tmps, assign, body, hy2, hR⟩ := hYm
    have HR := Lib.hid hR
    have HTK := Lib.hid htk
    clear hR htk hok h' hs2 hy
    gi_wp2
    refine HR.out.mono ?_
    rintro e W4 (⟨rfl, h5⟩ | ⟨rfl, h5⟩)
    · rw [← HTK.out] at h5
      gi_wp2
      exact ⟨n - (k + 1), by omega, k + 1, _, _, _, _, _, _, _, _, _, rfl, ⟨by omega, rfl⟩, h5⟩
    · rw [← HTK.out] at h5
      gi_wp2
      go_end0
      exact ⟨⟨_, rfl⟩, .inr ⟨l.take (k + 1), List.take_prefix _ _, h5⟩⟩
  · have hkn : k = n := by omega
    subst hkn
    rw [List.take_of_length_le (by omega)] at hs2
    gi_wp2
    go_end0
    exact ⟨⟨_, rfl⟩, .inl ⟨l, rfl, hs2⟩⟩
end
theorem info_intF : (Try.prog.info? 3).map (fun i => (i.zero, i.size, i.bytes)) = some (some (.int .i64 0), 1, 8) := by kernel_rfl
theorem one_cell {w : World} {bx : Nat} {v : Value} (hc : w.cell? ⟨bx, 0, none⟩ = some v) : ∀ j u, [v][j]? = some u → w.cell? ((⟨bx, 0, none⟩ : Addr).add j) = some u := by
  intro j u hj
  rw [addr_add, Nat.zero_add]
  match j, hj with
  | 0, hj => cases hj; exact hc
  | j + 1, hj => simp at hj
section
variable {F' : Fence} {nn : Nat} {w0 w : World} {F : HP} {ops : Array Oper} {rest : List Oper} {o : Oper} {a : Act} {Q : Exit → Act → World → Prop} {K : Act → World → Prop}
/-- one number more behind an owned slice, in a round -/
theorem wpListIn_push (hg : o.guard = none) (s x : Operand) (hop : o.op = .call { callee := .builtin .append, args := #[s, x], argTypes := #[28, 28] })
    (sa : Option Addr) (n c : Nat) (l : List Int) (hs : a.eval s = .slice sa n c) (h : Sat w0 w (slc 3 1 sa n c (l.map ival) * F)) (bx c' : Nat) (v : Int) (hx : a.eval x = .slice (some ⟨bx, 0, none⟩) 1 c') (hc : w.cell? ⟨bx, 0, none⟩ = some (.int .i64 v)) (hn : n ≤ 1000000000)
    (hK : ∀ a' c'' w', Sat w0 w' (slc 3 1 a' (n + 1) c'' ((l ++ [v]).map ival) * F) → wpListIn F' nn Try.prog ops Q rest (a.put o.dst (.slice a' (n + 1) c'')) w') : wpListIn F' nn Try.prog ops Q (o :: rest) a w := by
  obtain ⟨i0, hi, hz0, hz1, hz2⟩ := info_parts info_intF
  refine wpListIn_plain hg fun K hK' => ?_
  obtain ⟨a', c'', w', hr, h2, _⟩ := run_append_sep 28 o.type i0 (.int .i64 0) 8 Try.underlying28 hi hz0 hz1 hz2 rfl h ⟨bx, 0, none⟩ 1 c' [.int .i64 v] rfl (one_cell hc) (by simp [Value.oneCell']) (by unfold maxLen; omega) (by omega)
  unfold Oper.wpIn
  refine ⟨?_, ?_⟩
  · simp [Oper.about, hop, resolve, Target.leads, Sem.run_pure]
  · rw [Oper.semAt_plain F' _ _ (by rw [hop]; intro c hc'; cases hc')]
    simp [execOp, hop, resolve, invoke, builtin, hs, hx, hr, Result.andThen]
    exact hK' _ _ (hK a' c'' w' (by rw [List.map_append]; exact h2))
end
section
variable {w0 w : World} {CR F : HP} {a : Option Addr} {n c : Nat} {l : List Int}
/-- what a loop has collected, in a box -/
def outR (ob : Nat) (L : List Int) : HP := ex fun a : Option Addr => ex fun c : Nat => pt ob (.cells #[.slice a L.length c] 28 (0, 0)) * slc 3 1 a L.length c (L.map ival)
theorem Sat.openOut {ob : Nat} {L : List Int} (h : Sat w0 w (outR ob L * F)) : ∃ a c, Sat w0 w (pt ob (.cells #[.slice a L.length c] 28 (0, 0)) * (slc 3 1 a L.length c (L.map ival) * F)) := by
  obtain ⟨a, h⟩ := h.elim_ex
  obtain ⟨c, h⟩ := h.elim_ex
  exact ⟨a, c, h.assoc⟩
theorem Sat.shutOut {ob : Nat} {L : List Int} {a : Option Addr} {k c : Nat} (hk : L.length = k) (h : Sat w0 w (pt ob (.cells #[.slice a k c] 28 (0, 0)) * (slc 3 1 a k c (L.map ival) * F))) : Sat w0 w (outR ob L * F) := by
  subst hk
  exact Sat.intro_ex a (Sat.intro_ex c h.unassoc)
theorem values_fn (h : Sat w0 w (slc 3 1 a n c (l.map ival) * F)) :
    Calls Try.prog 54 #[.slice a n c] w fun e w' => ∃ sb, e = .returned (.func (.func 91) #[] #[.pointer (some ⟨sb, 0, none⟩)]) ∧ Sat w0 w' (valsR sb a n c l * F) := by
  have h1 := h.alloc (.cells #[.slice a n c] 28)
  go_enter Try.func54, Try.ntmps54
  go_wp2
  go_ret
  exact ⟨_, rfl, h1.unassoc⟩
set_option maxRecDepth 100000 in
set_option maxHeartbeats 4000000 in
theorem appendSeq_int (sb : Nat) (hl : l.length = n) (hn : n ≤ 1000000000) (h : Sat w0 w (valsR sb a n c l * F)) :
    CallsIn Fence.wide 6 Try.prog 109 #[.slice none 0 0, .func (.func 91) #[] #[.pointer (some ⟨sb, 0, none⟩)]] w fun e w' => ∃ ra rc, e = .returned (.slice ra n rc) ∧ Sat w0 w' (slc 3 1 ra n rc (l.map ival) * (valsR sb a n c l * F)) := by
  have h1 : 1 ≤ 6 := by omega
  have ha := h.alloc (.cells #[.slice none 0 0] 28)
  generalize hob : w.heap.size = ob at *
  have h3 : Sat w0 (w.alloc (.cells #[.slice none 0 0] 28)) (outR ob [] * (valsR sb a n c l * F)) := by
    refine Sat.shutOut (a := none) (k := 0) (c := 0) rfl ?_
    exact ((ha.nilSlc (T := 3) (sz := 1)).cast (by simp only [List.map_nil]; ac_rfl))
  refine callsIn_of_wp_marks Try.func109 rfl trivial ?_
  simp only [Try.ntmps109, List.size_toArray, List.length_cons, List.length_nil, Nat.reduceAdd, Nat.reduceSub, Array.replicate_succ, Array.replicate_zero, List.push_toArray, List.append_toArray, List.nil_append, List.cons_append]
  try rw [hob]
  gi_wp2
  refine wpIn_rangeFunc_sep (w0 := w0) (n := 6) h1 (gf := 91) (lb := #[.pointer (some ⟨sb, 0, none⟩)]) rfl (enters_of Try.func91 (by kernel_rfl) rfl)
    (values_seq (M := 3) hl hn sb) (fun _ => rfl) (fun pre => outR ob pre) (fun _ _ => wh False 1) h3
    (fun x => { tmps := #[.slice none 0 0, .func (.func 91) #[] #[.pointer (some ⟨sb, 0, none⟩)], .pointer (some ⟨ob, 0, none⟩), undef, .slice none 0 0, .int .i64 x, .func (.func 91) #[] #[.pointer (some ⟨sb, 0, none⟩)], .int .i64 x, undef, undef, undef, undef, undef], defers := [] }) ?assign ?body ?done ?stop
  case assign =>
    intro l x W K hK
    gi_wp2
    exact hK
  case body =>
    intro lid pre x W G hs hok
    obtain ⟨a, c', h4⟩ := hs.openOut
    have hlen : pre.length ≤ 1000000000 := by
      obtain ⟨post, e⟩ := hok
      have : pre.length ≤ l.length := by rw [e, List.length_append]; omega
      omega
    have c0 : W.cell? ⟨ob, 0, none⟩ = some (.slice a pre.length c') := Sat.cell (T := 28) (cs := #[.slice a pre.length c']) h4 0 rfl
    have f0 : W.frozen? ⟨ob, 0, none⟩ = false := Sat.free (T := 28) (cs := #[.slice a pre.length c']) h4 0
    have h5 := h4.alloc (.cells #[.int .i64 x] 3)
    have b0 : (W.alloc (.cells #[.int .i64 x] 3)).cell? ⟨W.heap.size, 0, none⟩ = some (.int .i64 x) := Sat.cell (T := 3) (cs := #[.int .i64 x]) h5 0 rfl
    gi_wp2_with (gi_at_builtin; refine wpListIn_push rfl _ _ rfl a pre.length c' pre rfl h5.p3 W.heap.size 1 x rfl b0 (by omega) ?_; intro a2 c2 w4 h6; have c4 : w4.cell? ⟨ob, 0, none⟩ = some (.slice a pre.length c') := Sat.cell (T := 28) (cs := #[.slice a pre.length c']) h6.p3 0 rfl; have f4 : w4.frozen? ⟨ob, 0, none⟩ = false := Sat.free (T := 28) (cs := #[.slice a pre.length c']) h6.p3 0)
    have h7 := (Sat.store (T := 28) (cs := #[.slice a pre.length c']) h6.p3 (i := 0) (.slice a2 (pre.length + 1) c2)).p3.drop
    show Sat w0 _ _
    exact Sat.shutOut (by simp) h7
  case done =>
    intro D xs W hS hs
    subst hS
    obtain ⟨ra, rc, h4⟩ := hs.p2.openOut
    rw [hl] at h4
    have c0 : W.cell? ⟨ob, 0, none⟩ = some (.slice ra n rc) := Sat.cell (T := 28) (cs := #[.slice ra n rc]) h4 0 rfl
    have hK := h4.p3.blk
    gi_wp2
    have h6 := (h4.p3.putObj (.deferred none)).drop.drop
    refine ⟨by simp, .inl ⟨_, _, rfl, run_takeDeferred hK, ?_⟩⟩
    refine ⟨_, results_tmp rfl _ _ _, ?_⟩
    exact ⟨ra, rc, rfl, h6⟩
  case stop =>
    intro D c2 pre W _ hs
    exact (hs.p2.elim_wh).1.elim
theorem collect_int (sb : Nat) (hl : l.length = n) (hn : n ≤ 1000000000) (h : Sat w0 w (valsR sb a n c l * F)) :
    Calls Try.prog 89 #[.func (.func 91) #[] #[.pointer (some ⟨sb, 0, none⟩)]] w fun e w' => ∃ ra rc, e = .returned (.slice ra n rc) ∧ Sat w0 w' (slc 3 1 ra n rc (l.map ival) * (valsR sb a n c l * F)) := by
  have HA := Lib.hid (callsIn_wide (n := 6) |>.1 (appendSeq_int sb hl hn h))
  go_enter Try.func89, Try.ntmps89
  go_wp2_with fail
  refine HA.out.mono ?_
  rintro e w1 ⟨ra, rc, rfl, h2⟩
  go_wp2_with fail
  go_ret
  exact ⟨ra, rc, rfl, h2⟩
theorem sorted_int (sb : Nat) (hl : l.length = n) (hn : n ≤ 1000000000) (h : Sat w0 w (valsR sb a n c l * F)) :
    Calls Try.prog 53 #[.func (.func 91) #[] #[.pointer (some ⟨sb, 0, none⟩)]] w fun e w' => ∃ ra rc, e = .returned (.slice ra n rc) ∧ Sat w0 w' (slc 3 1 ra n rc ((sortI l).map ival) * F) := by
  have HA := Lib.hid (collect_int sb hl hn h)
  go_enter Try.func53, Try.ntmps53
  go_wp2_with fail
  refine HA.out.mono ?_
  rintro e w1 ⟨ra, rc, rfl, h2⟩
  have HS := Lib.hid (sort_sat h2 hl hn)
  go_wp2_with fail
  refine HS.out.mono ?_
  rintro e w2 ⟨rfl, h3⟩
  go_wp2_with fail
  go_ret
  exact ⟨ra, rc, rfl, h3.p2.drop⟩
end
end Go.Proofs.Ytmngkodejlhalaa.Tw
namespace Go.Proofs.Ytmngkodejlhalaa.Tw
set_option linter.unusedVariables false
set_option linter.unusedSimpArgs false
open Go Go.RowKit Go.MapKept

/-- is m the next one of a way? -/
def nextB (L : List AObj) (to at_ m : Int) : Bool := decide ((distG L to m : Int) = (distG L to at_ : Int) - 1)
def nextG (L : List AObj) (to at_ : Int) : Int := ((sortI (kids L at_))[(idxF (nextB L to at_) (sortI (kids L at_))).toNat]?).getD 0
def pathF (L : List AObj) (to : Int) : Nat → Int → List Int
  | 0, x => [x]
  | f + 1, x => x :: pathF L to f (nextG L to x)
def pathG (L : List AObj) (root : AVal) (to : Int) : List Int :=
  if okG L && (refV root && (thereG L root.n && (thereG L to && !decide (distG L to root.n = 0)))) then pathF L to (distG L to root.n - 1) root.n else []
theorem mem_sortI {l : List Int} {x : Int} : x ∈ sortI l ↔ x ∈ l := by unfold sortI; exact (List.mergeSort_perm _ _).mem_iff
theorem nextG_spec {L : List AObj} {to x : Int} (ht : thereG L to = true) (hx : 2 ≤ distG L to x) : ∃ k : Nat, idxF (nextB L to x) (sortI (kids L x)) = k ∧ (sortI (kids L x))[k]? = some (nextG L to x) ∧ nextG L to x ∈ kids L x ∧ distG L to (nextG L to x) + 1 = distG L to x := by
  obtain ⟨j, hj⟩ : ∃ j, distG L to x = j + 2 := ⟨distG L to x - 2, by omega⟩
  obtain ⟨m, hm, hd⟩ := distG_next ht hj
  rcases idxF_cases (nextB L to x) (sortI (kids L x)) with ⟨_, h⟩ | ⟨k, y, e, hy, hp, _⟩
  · have := h m (mem_sortI.2 hm)
    unfold nextB at this
    simp at this; omega
  · have hn : nextG L to x = y := by unfold nextG; rw [e, Int.toNat_natCast, hy]; rfl
    refine ⟨k, e, by rw [hn]; exact hy, by rw [hn]; exact mem_sortI.1 (List.mem_of_getElem? hy), ?_⟩
    rw [hn]
    unfold nextB at hp
    simp at hp; omega
theorem pathF_len (L : List AObj) (to : Int) : ∀ (f : Nat) (x : Int), (pathF L to f x).length = f + 1
  | 0, x => rfl
  | f + 1, x => by unfold pathF; rw [List.length_cons, pathF_len L to f]
section
variable {w0 w : World} {SR F : HP} {ga : Option Addr} {n c : Nat} {X : List XObj}
theorem litS {b k : Nat} {l : List Int} (h : Sat w0 w (pt b (.cells (l.map ival).toArray 3 (0, 0)) * F)) (hl : l.length = k) (hk : k ≤ 1000000000) : Sat w0 w (slc 3 1 (some ⟨b, 0, none⟩) k k (l.map ival) * F) :=
  Sat.shutSlc (g := b) (off := 0) (cur := (l.map ival).toArray) h (Nat.le_refl _) (by unfold maxLen; omega) (by simp [hl]) (by simp only [List.drop_zero, Nat.mul_one]; exact List.take_of_length_le (by simp [hl]))
theorem boxI {b : Nat} {x : Int} (h : Sat w0 w (pt b (.cells #[.int .i64 x] 3 (0, 0)) * F)) : w.cell? ⟨b, 0, none⟩ = some (.int .i64 x) ∧ w.frozen? ⟨b, 0, none⟩ = false :=
  ⟨Sat.cell (T := 3) (cs := #[.int .i64 x]) h 0 rfl, Sat.free (T := 3) (cs := #[.int .i64 x]) h 0⟩
theorem look_far {m : Nat} {O : List (Int × Value)} {L : List AObj} {to : Int} (h : Sat w0 w (mII m O * F)) (hd : farDone L to O) (x : Int) : (Instr.lookup 60 (.map (some m)) (.int .i64 x) false).run Try.prog w = .ok (.int .i64 (distG L to x)) w := by
  have := run_lookup (keys_int .i64) h Try.underlying60 Try.underlying3 (zero_int w) x
  rw [this, hd x]
  by_cases hx : distG L to x = 0
  · simp [hx]
  · simp [hx, ival]
theorem way_one {a : Option Addr} {k mb mc : Nat} {l : List Int} {x : Int} (h : Sat w0 w (slc 3 1 a l.length k (l.map ival) * F)) (hc : w.cell? ⟨mb, 0, none⟩ = some (.int .i64 x)) (hl : l.length ≤ 100000000) :
    Calls Try.prog 52 #[.slice a l.length k, .slice (some ⟨mb, 0, none⟩) 1 mc] w fun e w' => ∃ a' k', e = .returned (.slice a' (l.length + 1) k') ∧ Sat w0 w' (slc 3 1 a' (l.length + 1) k' ((l ++ [x]).map ival) * F) := by
  go_enter Try.func52, Try.ntmps52
  go_wp2_with (at_builtin; refine wpList_push rfl _ _ rfl a l.length k l rfl h mb mc x rfl hc (by omega) ?_; intro a' c' w7 h7)
  go_ret
  exact ⟨a', c', rfl, h7⟩
/-- what Path has captured -/
def pathC (lb ab m : Nat) (at_ : Int) (O : List (Int × Value)) : HP := pt lb (.cells #[.map (some m)] 60 (0, 0)) * (pt ab (.cells #[.int .i64 at_] 3 (0, 0)) * mII m O)
theorem pathC_cells {lb ab m : Nat} {at_ : Int} {O : List (Int × Value)} (h : Sat w0 w (pathC lb ab m at_ O * F)) : w.cell? ⟨lb, 0, none⟩ = some (.map (some m)) ∧ w.cell? ⟨ab, 0, none⟩ = some (.int .i64 at_) ∧ w.frozen? ⟨ab, 0, none⟩ = false ∧ Sat w0 w (mII m O * (pt lb (.cells #[.map (some m)] 60 (0, 0)) * (pt ab (.cells #[.int .i64 at_] 3 (0, 0)) * F))) := by
  have h' : Sat w0 w (pt lb (.cells #[.map (some m)] 60 (0, 0)) * (pt ab (.cells #[.int .i64 at_] 3 (0, 0)) * (mII m O * F))) := h.cast (by unfold pathC; ac_rfl)
  exact ⟨boxM h', (boxI h'.p2).1, (boxI h'.p2).2, h'.p3⟩
theorem path_fn {lb ab m : Nat} {at_ to : Int} {O : List (Int × Value)} {L : List AObj} (hd : farDone L to O) (hdl : ∀ x, distG L to x ≤ 1000000) : Asks w0 56 #[.pointer (some ⟨lb, 0, none⟩), .pointer (some ⟨ab, 0, none⟩)] (pathC lb ab m at_ O) (nextB L to at_) := by
  intro w1 G x h
  obtain ⟨c0, c1, _, h2⟩ := pathC_cells h
  have hl1 := look_far h2 hd x
  have hl2 := look_far h2 hd at_
  have hb1 := hdl x
  have hb2 := hdl at_
  have HB := Lib.hid (show nextB L to at_ x = ((distG L to x : Int) == (distG L to at_ : Int) - 1) by unfold nextB; rw [Bool.eq_iff_iff]; simp)
  clear hd hdl
  generalize distG L to x = dx at *
  generalize distG L to at_ = da at *
  have hw : IntKind.i64.wrap ((da : Int) - 1) = (da : Int) - 1 := IntWalk.i64_in _ (by omega)
  show Calls Try.prog 56 #[.int .i64 x, .pointer (some ⟨lb, 0, none⟩), .pointer (some ⟨ab, 0, none⟩)] w1 _
  go_enter Try.func56, Try.ntmps56
  go_wp2
  go_ret
  exact ⟨by rw [HB.out]; rfl, h⟩
end
end Go.Proofs.Ytmngkodejlhalaa.Tw
