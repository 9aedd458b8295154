/- The heap's plain model: what each method makes of it, whatever it is asked; what always holds of it. No condition. -/
import Derived.Test.YtkpcngcegipalaaZPIn12
import Derived.Test.YtkpcngcegipalaaZPIn11
import Derived.IntWalk
namespace Go.Proofs.Ytkpcngcegipalaa.Tw
set_option linter.unusedVariables false
set_option linter.unusedSimpArgs false
open Go Go.RowKit Go.MapKept

def AVal.zero : AVal := ⟨0, 0⟩
def AHeap.makeF (A : AHeap) (k : Int) (tx : ByteArray) : AHeap := if makeOk k tx then A.make k tx else A
def AHeap.makeV (A : AHeap) (k : Int) (tx : ByteArray) : AVal := if makeOk k tx then ⟨k, A.fresh⟩ else ⟨0, 0⟩
def AHeap.pushF (A : AHeap) (n : Int) (v : AVal) : AHeap := match A.objs n with
  | none => A
  | some o => if pushB A o v then A.push n o v else A
def AHeap.pushE (A : AHeap) (n : Int) (v : AVal) : Int := match A.objs n with
  | none => 5
  | some o => if pushB A o v then 0 else 2
def AHeap.popF (A : AHeap) (n : Int) : AHeap := match A.objs n with
  | none => A
  | some o => if o.slots = [] then A else (A.upd n { o with slots := o.slots.dropLast }).touch n
def AHeap.popV (A : AHeap) (n : Int) : AVal := match A.objs n with
  | none => ⟨0, 0⟩
  | some o => (o.slots.getLast?).getD ⟨0, 0⟩
def AHeap.popE (A : AHeap) (n : Int) : Int := match A.objs n with
  | none => 5
  | some o => if o.slots = [] then 5 else 0
def AHeap.freeB (A : AHeap) (n : Int) : Bool := decide (A.queue.head? = some n) && decide ((A.obj n).slots = [])
def AHeap.freeF (A : AHeap) (n : Int) : AHeap := if A.freeB n then A.free n else A
def AHeap.freeE (A : AHeap) (n : Int) : Int := if A.freeB n then 0 else 2
def AHeap.finF (A : AHeap) (n : Int) : AHeap := match A.objs n with
  | none => A
  | some o => if 1 ≤ o.mark then A.fin n o else A
def AHeap.finE (A : AHeap) (n : Int) : Int := if finB A n then 0 else 2
def AHeap.nextF (A : AHeap) : AHeap := { A with fins := A.fins.tail }
def AHeap.nextV (A : AHeap) : AVal := match A.fins with
  | [] => ⟨0, 0⟩
  | f :: _ => ⟨(A.obj f.1).kind, f.1⟩
def AHeap.nextM (A : AHeap) : Int := match A.fins with
  | [] => 0
  | f :: _ => f.2
def AHeap.suspF (A : AHeap) (n : Int) : AHeap := if suspB A n then { A with buf := A.buf ++ [n] } else A

/-- what always holds: no number is above B -/
structure HW (A : AHeap) (B : Int) : Prop where
  q1 : ∀ n ∈ A.queue, ∃ o, A.objs n = some o ∧ o.count = 0
  q2 : ∀ n o, A.objs n = some o → o.count = 0 → n ∈ A.queue
  qn : A.queue.Nodup
  b1 : ∀ n ∈ A.buf, ∃ o, A.objs n = some o ∧ o.kind ≠ 5 ∧ o.count ≠ 0
  bn : A.buf.Nodup
  f1 : ∀ f ∈ A.fins, ∃ o, A.objs f.1 = some o ∧ o.mark = -1
  fn : (A.fins.map (·.1)).Nodup
  c : ∀ n o, A.objs n = some o → 0 ≤ o.count ∧ o.count + (if 1 ≤ o.mark then 1 else 0) ≤ B ∧ (o.slots.length : Int) ≤ B ∧ 5 ≤ o.kind ∧ o.kind ≤ 9
  t : (A.T.length : Int) ≤ B
  ht : ∀ n, (A.objs n).isSome = tk A.T n
  m : 0 ≤ A.marks ∧ A.marks ≤ B
theorem HW.mono {A : AHeap} {B C : Int} (h : HW A B) (hBC : B ≤ C) : HW A C :=
  ⟨h.q1, h.q2, h.qn, h.b1, h.bn, h.f1, h.fn, fun n o ho => by have := h.c n o ho; refine ⟨this.1, ?_, ?_, this.2.2.2⟩ <;> omega, by have := h.t; omega, h.ht, by have := h.m; omega⟩
theorem HW.empty : HW AHeap.empty 0 := by
  refine ⟨?_, ?_, ?_, ?_, ?_, ?_, ?_, ?_, ?_, ?_, ?_⟩ <;> simp [AHeap.empty, tk]
theorem nodup_len : ∀ (k : Nat) (l : List Int), l.Nodup → (∀ x ∈ l, 1 ≤ x ∧ x ≤ k) → l.length ≤ k
  | 0, [], _, _ => Nat.le_refl _
  | 0, x :: l, _, h => by have := h x (by simp); omega
  | k + 1, l, hn, h => by
    by_cases hm : ((k + 1 : Nat) : Int) ∈ l
    · have h1 := nodup_len k (l.erase ((k + 1 : Nat) : Int)) (hn.erase _) (fun x hx => by
        have h1 := (hn.mem_erase_iff).1 hx
        have h2 := h x h1.2
        have h3 := h1.1
        omega)
      rw [List.length_erase_of_mem hm] at h1
      omega
    · have h1 := nodup_len k l hn (fun x hx => by
        have h2 := h x hx
        have : x ≠ ((k + 1 : Nat) : Int) := fun e => hm (e ▸ hx)
        omega)
      omega
theorem HW.rng {A : AHeap} {B : Int} (h : HW A B) {n : Int} {o : AObj} (ho : A.objs n = some o) : 1 ≤ n ∧ n ≤ A.T.length := by
  have h1 := h.ht n
  rw [ho] at h1
  have := tk_lt h1.symm
  omega
theorem HW.ql {A : AHeap} {B : Int} (h : HW A B) : (A.queue.length : Int) ≤ B := by
  have := nodup_len A.T.length A.queue h.qn fun n hn => by obtain ⟨o, ho, _⟩ := h.q1 n hn; exact h.rng ho
  have := h.t
  omega
theorem HW.bl {A : AHeap} {B : Int} (h : HW A B) : (A.buf.length : Int) ≤ B := by
  have := nodup_len A.T.length A.buf h.bn fun n hn => by obtain ⟨o, ho, _⟩ := h.b1 n hn; exact h.rng ho
  have := h.t
  omega
theorem HW.fl {A : AHeap} {B : Int} (h : HW A B) : (A.fins.length : Int) ≤ B := by
  have := nodup_len A.T.length (A.fins.map (·.1)) h.fn fun n hn => by
    obtain ⟨f, hf, rfl⟩ := List.mem_map.1 hn
    obtain ⟨o, ho, _⟩ := h.f1 f hf; exact h.rng ho
  rw [List.length_map] at this
  have := h.t
  omega
theorem HW.make {A : AHeap} {B : Int} (h : HW A B) (hB : 1 ≤ B) (k : Int) (tx : ByteArray) : HW (A.makeF k tx) (B + 1) := by
  unfold AHeap.makeF
  split
  · rename_i hok
    have hk : 5 ≤ k ∧ k ≤ 9 := by simp [makeOk] at hok; omega
    have hfr : A.objs A.fresh = none := by
      have h1 := h.ht A.fresh
      rw [show tk A.T A.fresh = false from firstFree_free A.T] at h1
      cases e : A.objs A.fresh with
      | none => rfl
      | some o => rw [e] at h1; cases h1
    have hne : ∀ n o, A.objs n = some o → n ≠ A.fresh := fun n o ho e => by rw [e, hfr] at ho; cases ho
    have hobj : ∀ n o, A.objs n = some o → (A.make k tx).objs n = some o := fun n o ho => by
      show (if n = A.fresh then _ else A.objs n) = _
      rw [if_neg (hne n o ho)]; exact ho
    refine ⟨fun n hn => ?_, fun n o ho hc => ?_, h.qn, fun n hn => ?_, h.bn, fun f hf => ?_, h.fn, fun n o ho => ?_, ?_, fun n => ?_, by have := h.m; show 0 ≤ A.marks ∧ A.marks ≤ _; omega⟩
    · obtain ⟨o, ho, hc⟩ := h.q1 n hn
      exact ⟨o, hobj n o ho, hc⟩
    · have ho' : (if n = A.fresh then some _ else A.objs n) = some o := ho
      split at ho'
      · cases ho'; simp at hc
      · exact h.q2 n o ho' hc
    · obtain ⟨o, ho, hc⟩ := h.b1 n hn
      exact ⟨o, hobj n o ho, hc⟩
    · obtain ⟨o, ho, hc⟩ := h.f1 f hf
      exact ⟨o, hobj _ o ho, hc⟩
    · have ho' : (if n = A.fresh then some _ else A.objs n) = some o := ho
      split at ho'
      · cases ho'
        simp; omega
      · have := h.c n o ho'; omega
    · show (((takeT A.T).length : Nat) : Int) ≤ _
      rw [takeT_length]
      have := firstFree_le A.T
      have := h.t
      omega
    · show (if n = A.fresh then some _ else A.objs n).isSome = tk (takeT A.T) n
      rw [tk_takeT, ← h.ht n]
      by_cases e : n = A.fresh
      · rw [if_pos e]
        have : n = (firstFree A.T : Int) + 1 := e
        simp [this]
      · rw [if_neg e]
        have : ¬ n = (firstFree A.T : Int) + 1 := e
        simp [this]
  · exact h.mono (by omega)
/-- an object's counts and slots turned, the lists as they were -/
theorem HW.upd {A A' : AHeap} {B C : Int} (h : HW A B) (hBC : B ≤ C) {n : Int} {o o' : AObj} (ho : A.objs n = some o) (hobj : A'.objs = fun k => if k = n then some o' else A.objs k) (hT : A'.T = A.T) (hm : 0 ≤ A'.marks ∧ A'.marks ≤ C)
    (hk : o'.kind = o.kind) (hc : 0 ≤ o'.count ∧ o'.count + (if 1 ≤ o'.mark then 1 else 0) ≤ C ∧ (o'.slots.length : Int) ≤ C)
    (hq : ∀ x, x ∈ A'.queue ↔ (x = n ∧ o'.count = 0) ∨ (x ≠ n ∧ x ∈ A.queue)) (hqn : A'.queue.Nodup)
    (hb : ∀ x, x ∈ A'.buf → (x = n ∧ o.kind ≠ 5 ∧ o'.count ≠ 0) ∨ (x ≠ n ∧ x ∈ A.buf)) (hbn : A'.buf.Nodup)
    (hf : ∀ f, f ∈ A'.fins → (f.1 = n ∧ o'.mark = -1) ∨ (f.1 ≠ n ∧ f ∈ A.fins)) (hfn : (A'.fins.map (·.1)).Nodup) : HW A' C := by
  have get : ∀ x, A'.objs x = if x = n then some o' else A.objs x := fun x => by rw [hobj]
  refine ⟨fun x hx => ?_, fun x p hp hc0 => ?_, hqn, fun x hx => ?_, hbn, fun f hff => ?_, hfn, fun x p hp => ?_, by rw [hT]; have := h.t; omega, fun x => ?_, hm⟩
  · rw [get x]
    rcases (hq x).1 hx with ⟨rfl, e⟩ | ⟨e, hx⟩
    · rw [if_pos rfl]; exact ⟨o', rfl, e⟩
    · rw [if_neg e]; exact h.q1 x hx
  · rw [get x] at hp
    rw [hq]
    split at hp
    · rename_i e; cases hp; exact .inl ⟨e, hc0⟩
    · rename_i e; exact .inr ⟨e, h.q2 x p hp hc0⟩
  · rw [get x]
    rcases hb x hx with ⟨rfl, e1, e2⟩ | ⟨e, hx⟩
    · rw [if_pos rfl]; exact ⟨o', rfl, by rw [hk]; exact e1, e2⟩
    · rw [if_neg e]; exact h.b1 x hx
  · rw [get f.1]
    rcases hf f hff with ⟨e, e1⟩ | ⟨e, hx⟩
    · rw [if_pos e]; exact ⟨o', rfl, e1⟩
    · rw [if_neg e]; exact h.f1 f hx
  · rw [get x] at hp
    split at hp
    · cases hp; have := h.c n o ho; exact ⟨hc.1, hc.2.1, hc.2.2, by rw [hk]; exact this.2.2.2.1, by rw [hk]; exact this.2.2.2.2⟩
    · have := h.c x p hp; refine ⟨this.1, ?_, ?_, this.2.2.2⟩ <;> omega
  · rw [get x, hT]
    split
    · rename_i e; rw [e, ← h.ht n, ho]; rfl
    · exact h.ht x
theorem HW.qmem {A : AHeap} {B : Int} (h : HW A B) {n : Int} {o : AObj} (ho : A.objs n = some o) : n ∈ A.queue ↔ o.count = 0 :=
  ⟨fun hn => by obtain ⟨p, hp, hc⟩ := h.q1 n hn; rw [ho] at hp; cases hp; exact hc, h.q2 n o ho⟩
theorem HW.bmem {A : AHeap} {B : Int} (h : HW A B) {n : Int} {o : AObj} (ho : A.objs n = some o) (hn : n ∈ A.buf) : o.kind ≠ 5 ∧ o.count ≠ 0 := by
  obtain ⟨p, hp, hc⟩ := h.b1 n hn; rw [ho] at hp; cases hp; exact hc
theorem HW.fmem {A : AHeap} {B : Int} (h : HW A B) {n : Int} {o : AObj} (ho : A.objs n = some o) {f : Int × Int} (hf : f ∈ A.fins) (e : f.1 = n) : o.mark = -1 := by
  obtain ⟨p, hp, hc⟩ := h.f1 f hf; rw [e, ho] at hp; cases hp; exact hc
/-- an object whose Count stays 0 or stays above 0, no list turned -/
theorem HW.same {A A' : AHeap} {B C : Int} (h : HW A B) (hBC : B ≤ C) {n : Int} {o o' : AObj} (ho : A.objs n = some o) (hobj : A'.objs = fun k => if k = n then some o' else A.objs k) (hT : A'.T = A.T) (hm : 0 ≤ A'.marks ∧ A'.marks ≤ C)
    (hk : o'.kind = o.kind) (hc : 0 ≤ o'.count ∧ o'.count + (if 1 ≤ o'.mark then 1 else 0) ≤ C ∧ (o'.slots.length : Int) ≤ C) (h0 : o'.count = 0 ↔ o.count = 0) (hmk : o.mark = -1 → o'.mark = -1)
    (hq : A'.queue = A.queue) (hb : A'.buf = A.buf) (hf : A'.fins = A.fins) : HW A' C := by
  refine h.upd hBC ho hobj hT hm hk hc (fun x => ?_) (by rw [hq]; exact h.qn) (fun x hx => ?_) (by rw [hb]; exact h.bn) (fun f hff => ?_) (by rw [hf]; exact h.fn)
  · rw [hq, h0]
    by_cases e : x = n
    · subst e; simp [h.qmem ho]
    · simp [e]
  · rw [hb] at hx
    by_cases e : x = n
    · subst e
      have := h.bmem ho hx
      exact .inl ⟨rfl, this.1, fun e2 => this.2 (h0.1 e2)⟩
    · exact .inr ⟨e, hx⟩
  · rw [hf] at hff
    by_cases e : f.1 = n
    · exact .inl ⟨e, hmk (h.fmem ho hff e)⟩
    · exact .inr ⟨e, hff⟩
theorem HW.keep {A : AHeap} {B : Int} (h : HW A B) (v : AVal) : HW (A.keep v) (B + 1) := by
  unfold AHeap.keep
  cases hc : cntO A v with
  | none => exact h.mono (by omega)
  | some o =>
    have ho := cntO_some hc
    have hne : o.count ≠ 0 := by
      unfold cntO at hc
      split at hc
      · rw [ho] at hc
        intro e
        simp [e] at hc
      · cases hc
    have hcc := h.c _ o ho
    refine h.same (by omega) ho rfl rfl (by have := h.m; show 0 ≤ A.marks ∧ A.marks ≤ _; omega) rfl ?_ ?_ (fun e => e) rfl rfl rfl
    · show 0 ≤ o.count + 1 ∧ o.count + 1 + _ ≤ _ ∧ (o.slots.length : Int) ≤ _
      dsimp only
      omega
    · show o.count + 1 = 0 ↔ _
      omega
theorem HW.drop {A : AHeap} {B : Int} (h : HW A B) (v : AVal) : HW (A.drop v) B := by
  unfold AHeap.drop
  cases hc : cntO A v with
  | none => exact h
  | some o =>
    have ho := cntO_some hc
    have hne : o.count ≠ 0 := by
      unfold cntO at hc
      split at hc
      · rw [ho] at hc
        intro e
        simp [e] at hc
      · cases hc
    have hcc := h.c _ o ho
    have hnq : v.n ∉ A.queue := fun hn => hne ((h.qmem ho).1 hn)
    dsimp only
    split
    · rename_i e0
      refine h.upd (Int.le_refl _) ho (o' := { o with count := o.count - 1 }) rfl rfl h.m rfl (by dsimp only; omega) (fun x => ?_) ?_ (fun x hx => ?_) (h.bn.filter _) (fun f hf => ?_) h.fn
      · show x ∈ A.queue ++ [v.n] ↔ _
        rw [List.mem_append]
        by_cases e : x = v.n
        · subst e; simp [e0]
        · simp [e]
      · exact List.nodup_append.2 ⟨h.qn, by simp, fun a ha b hb => by simp at hb; subst hb; rintro rfl; exact hnq ha⟩
      · have hx' : x ∈ A.buf.filter fun x => !decide (v.n = x) := hx
        rw [List.mem_filter] at hx'
        have : ¬ v.n = x := by simpa using hx'.2
        exact .inr ⟨fun e => this e.symm, hx'.1⟩
      · have hf' : f ∈ A.fins := hf
        by_cases e : f.1 = v.n
        · exact .inl ⟨e, (h.fmem ho hf' e : o.mark = -1)⟩
        · exact .inr ⟨e, hf'⟩
    · rename_i e0
      split
      · rename_i hb
        refine h.upd (Int.le_refl _) ho (o' := { o with count := o.count - 1 }) rfl rfl h.m rfl (by dsimp only; omega) (fun x => ?_) h.qn (fun x hx => ?_) ?_ (fun f hf => ?_) h.fn
        · show x ∈ A.queue ↔ _
          by_cases e : x = v.n
          · subst e; simp [e0, hnq]
          · simp [e]
        · have hx' : x ∈ A.buf ++ [v.n] := hx
          rcases List.mem_append.1 hx' with hx' | hx'
          · by_cases e : x = v.n
            · exact .inl ⟨e, hb.1, e0⟩
            · exact .inr ⟨e, hx'⟩
          · simp at hx'; exact .inl ⟨hx', hb.1, e0⟩
        · exact List.nodup_append.2 ⟨h.bn, by simp, fun a ha b hb2 => by simp at hb2; subst hb2; rintro rfl; exact hb.2 ha⟩
        · have hf' : f ∈ A.fins := hf
          by_cases e : f.1 = v.n
          · exact .inl ⟨e, (h.fmem ho hf' e : o.mark = -1)⟩
          · exact .inr ⟨e, hf'⟩
      · refine h.same (Int.le_refl _) ho (o' := { o with count := o.count - 1 }) rfl rfl h.m rfl (by dsimp only; omega) ?_ (fun e => e) rfl rfl rfl
        show o.count - 1 = 0 ↔ _
        constructor
        · intro e; exact absurd e e0
        · intro e; exact absurd e hne
theorem HW.free {A : AHeap} {B : Int} (h : HW A B) (n : Int) : HW (A.freeF n) B := by
  unfold AHeap.freeF
  split
  · rename_i hb
    unfold AHeap.freeB at hb
    simp only [Bool.and_eq_true, decide_eq_true_eq] at hb
    obtain ⟨hq, hs⟩ := hb
    obtain ⟨q, hQ⟩ : ∃ q, A.queue = n :: q := by
      cases e : A.queue with
      | nil => rw [e] at hq; cases hq
      | cons x q => rw [e] at hq; simp at hq; exact ⟨q, by rw [hq]⟩
    have hqn := h.qn
    rw [hQ] at hqn
    have hnq : n ∉ q := (List.nodup_cons.1 hqn).1
    obtain ⟨o, ho, hc0⟩ := h.q1 n (by rw [hQ]; simp)
    have get : ∀ x, (A.free n).objs x = if x = n then none else A.objs x := fun x => rfl
    have hqt : (A.free n).queue = q := by show A.queue.tail = q; rw [hQ]; rfl
    refine ⟨fun x hx => ?_, fun x p hp hc => ?_, by rw [hqt]; exact (List.nodup_cons.1 hqn).2, fun x hx => ?_, h.bn, fun f hf => ?_, ?_, fun x p hp => ?_, ?_, fun x => ?_, h.m⟩
    · rw [hqt] at hx
      have hxn : x ≠ n := by rintro rfl; exact hnq hx
      rw [get x, if_neg hxn]
      exact h.q1 x (by rw [hQ]; simp [hx])
    · rw [get x] at hp
      split at hp
      · cases hp
      · rename_i e
        have := h.q2 x p hp hc
        rw [hQ] at this
        rw [hqt]
        rcases List.mem_cons.1 this with h1 | h1
        · exact absurd h1 e
        · exact h1
    · have hx' : x ∈ A.buf := hx
      rw [get x, if_neg (fun e => by
        obtain ⟨p, hp, _, hcp⟩ := h.b1 x hx'
        rw [e, ho] at hp; cases hp; exact hcp hc0)]
      exact h.b1 x hx'
    · have hf' : f ∈ A.fins.filter fun f => !decide (f.1 = n) := hf
      rw [List.mem_filter] at hf'
      have hne : ¬ f.1 = n := by simpa using hf'.2
      rw [get f.1, if_neg hne]
      exact h.f1 f hf'.1
    · have : (A.free n).fins = A.fins.filter fun f => !decide (f.1 = n) := rfl
      rw [this]
      exact h.fn.sublist ((List.filter_sublist).map _)
    · rw [get x] at hp
      split at hp
      · cases hp
      · exact h.c x p hp
    · show ((giveT A.T n).length : Int) ≤ B
      rw [giveT_length]; exact h.t
    · rw [get x]
      show _ = tk (giveT A.T n) x
      rw [tk_giveT, ← h.ht x]
      split
      · rename_i e; simp [e]
      · rename_i e; simp [e]
  · exact h
theorem HW.mark {A : AHeap} {B : Int} (h : HW A B) (n : Int) : HW (A.mark n) (B + 1) := by
  unfold AHeap.mark
  cases ho : A.objs n with
  | none => exact h.mono (by omega)
  | some o =>
    dsimp only
    split
    · rename_i e0
      have hcc := h.c _ o ho
      have hm := h.m
      refine h.same (by omega) ho (o' := { o with mark := A.marks + 1 }) rfl rfl (by show 0 ≤ A.marks + 1 ∧ A.marks + 1 ≤ _; omega) rfl ?_ Iff.rfl (fun e => by omega) rfl rfl rfl
      rw [if_neg (by omega)] at hcc
      dsimp only
      split <;> omega
    · exact h.mono (by omega)
theorem HW.fin {A : AHeap} {B : Int} (h : HW A B) (n : Int) : HW (A.finF n) B := by
  unfold AHeap.finF
  cases ho : A.objs n with
  | none => exact h
  | some o =>
    dsimp only
    split
    · rename_i hmk
      have hcc := h.c _ o ho
      rw [if_pos hmk] at hcc
      refine h.upd (Int.le_refl _) ho (o' := { o with count := o.count + 1, mark := -1 }) rfl rfl h.m rfl (by dsimp only; rw [if_neg (by omega)]; omega) (fun x => ?_) (h.qn.filter _) (fun x hx => ?_) h.bn (fun f hf => ?_) ?_
      · show x ∈ A.queue.filter (fun x => !decide (n = x)) ↔ _
        rw [List.mem_filter]
        by_cases e : x = n
        · subst e; simp; omega
        · have e' : ¬ n = x := fun q => e q.symm
          simp [e, e']
      · have hx' : x ∈ A.buf := hx
        by_cases e : x = n
        · subst e
          exact .inl ⟨rfl, (h.bmem ho hx').1, by dsimp only; omega⟩
        · exact .inr ⟨e, hx'⟩
      · have hf' : f ∈ A.fins ++ [(n, o.mark)] := hf
        rcases List.mem_append.1 hf' with hf' | hf'
        · by_cases e : f.1 = n
          · exact .inl ⟨e, rfl⟩
          · exact .inr ⟨e, hf'⟩
        · simp at hf'; subst hf'; exact .inl ⟨rfl, rfl⟩
      · show ((A.fins ++ [(n, o.mark)]).map (·.1)).Nodup
        rw [List.map_append]
        refine List.nodup_append.2 ⟨h.fn, by simp, fun a ha b hb => ?_⟩
        simp at hb; subst hb
        rintro rfl
        obtain ⟨f, hf, e⟩ := List.mem_map.1 ha
        have := h.fmem ho hf e
        omega
    · exact h
theorem HW.next {A : AHeap} {B : Int} (h : HW A B) : HW A.nextF B := by
  refine ⟨h.q1, h.q2, h.qn, h.b1, h.bn, fun f hf => h.f1 f (List.mem_of_mem_tail hf), ?_, h.c, h.t, h.ht, h.m⟩
  show (A.fins.tail.map (·.1)).Nodup
  exact h.fn.sublist ((List.tail_sublist _).map _)
theorem HW.take {A : AHeap} {B : Int} (h : HW A B) : HW { A with buf := [] } B :=
  ⟨h.q1, h.q2, h.qn, fun n hn => by simp at hn, List.nodup_nil, h.f1, h.fn, h.c, h.t, h.ht, h.m⟩
theorem HW.susp {A : AHeap} {B : Int} (h : HW A B) (n : Int) : HW (A.suspF n) B := by
  unfold AHeap.suspF
  split
  · rename_i hb
    unfold suspB at hb
    cases ho : A.objs n with
    | none => rw [ho] at hb; cases hb
    | some o =>
      rw [ho] at hb
      simp only [Bool.and_eq_true, Bool.not_eq_true', decide_eq_false_iff_not] at hb
      obtain ⟨⟨h1, h2⟩, h3⟩ := hb
      refine ⟨h.q1, h.q2, h.qn, fun x hx => ?_, ?_, h.f1, h.fn, h.c, h.t, h.ht, h.m⟩
      · have hx' : x ∈ A.buf ++ [n] := hx
        rcases List.mem_append.1 hx' with hx' | hx'
        · exact h.b1 x hx'
        · simp at hx'; subst hx'; exact ⟨o, ho, h1, h2⟩
      · exact List.nodup_append.2 ⟨h.bn, by simp, fun a ha b hb => by simp at hb; subst hb; rintro rfl; exact h3 ha⟩
  · exact h
theorem HW.push {A : AHeap} {B : Int} (h : HW A B) (n : Int) (v : AVal) : HW (A.pushF n v) (B + 1) := by
  unfold AHeap.pushF
  cases ho : A.objs n with
  | none => exact h.mono (by omega)
  | some o =>
    dsimp only
    split
    · have hcc := h.c _ o ho
      refine h.same (by omega) ho (o' := { o with slots := o.slots ++ [v] }) rfl rfl (by have := h.m; show 0 ≤ A.marks ∧ A.marks ≤ _; omega) rfl ?_ Iff.rfl (fun e => e) rfl rfl rfl
      dsimp only
      rw [List.length_append]
      refine ⟨hcc.1, by omega, ?_⟩
      simp only [List.length_cons, List.length_nil]
      omega
    · exact h.mono (by omega)
theorem HW.pop {A : AHeap} {B : Int} (h : HW A B) (n : Int) : HW (A.popF n) B := by
  unfold AHeap.popF
  cases ho : A.objs n with
  | none => exact h
  | some o =>
    dsimp only
    split
    · exact h
    · have hcc := h.c _ o ho
      refine h.same (Int.le_refl _) ho (o' := { o with slots := o.slots.dropLast }) rfl rfl h.m rfl ?_ Iff.rfl (fun e => e) rfl rfl rfl
      dsimp only
      rw [List.length_dropLast]
      refine ⟨hcc.1, hcc.2.1, ?_⟩
      omega
end Go.Proofs.Ytkpcngcegipalaa.Tw
namespace Go.Proofs.Ytkpcngcegipalaa.Tw
set_option linter.unusedVariables false
set_option linter.unusedSimpArgs false
open Go Go.RowKit Go.MapKept

def graphL (A : AHeap) (k : Nat) : List AObj := (List.range k).map fun (i : Nat) => A.obj (i + 1)
theorem load_graph {w0 w : World} {F : HP} {b : Nat} {x : Value} {a : Option Addr} {n c : Nat} (hx : x = .slice a n c) (h : Sat w0 w (row b 64 #[x] * F)) :
    (loadVar 64 ⟨b, 0, none⟩).run Try.prog w = .ok (.agg #[x]) w := by
  have c0 : w.cell? ⟨b, 0, none⟩ = some x := h.cell 0 rfl
  subst hx
  go_simp
theorem heap_Graph_nil (w : World) {w0 : World} {F : HP} (h : Sat w0 w F) : Calls Try.prog 30 #[.pointer none] w fun e w' => e = .returned (.agg #[.slice none 0 0]) ∧ Sat w0 w' F := by
  have h1 := h.alloc (.cells #[.slice none 0 0] 64)
  have h2 := h1.alloc (.cells #[.slice none 0 0] 64)
  go_enter Try.func30, Try.ntmps30
  go_wp2
  exact bodyPost_cell rfl rfl (load_graph rfl h2.p2) rfl ⟨rfl, h2.drop.drop⟩
set_option maxRecDepth 100000 in
set_option maxHeartbeats 4000000 in
theorem heap_Graph {w0 w : World} {m : Hp} {p : Nat} {A : AHeap} {F : HP} (h : Sat w0 w (heapR m p A * F)) (hT : A.T.length < 1000000000) (hS : ∀ n o, A.objs n = some o → o.slots.length ≤ 1000000000) :
    Calls Try.prog 30 #[.pointer (some ⟨p, 0, none⟩)] w fun e w' => ∃ ga gc, e = .returned (.agg #[.slice ga (lastT A.T) gc]) ∧ Sat w0 w' (objsV ga (lastT A.T) gc (graphL A (lastT A.T)) * (heapR m p A * F)) := by
  have hlast := lastT_le A.T
  generalize hN : lastT A.T = N at *
  have hB : ∀ n, (A.obj n).slots.length ≤ 2000000000 := fun n => by
    unfold AHeap.obj
    cases ho : A.objs n with
    | none => simp [AObj.none]
    | some o => have := hS n o ho; simp; omega
  have HB := Lib.hid hB
  clear hB hS
  have h1 := h.alloc (.cells #[.slice none 0 0] 64)
  have h2 := h1.alloc (.cells #[.slice none 0 0] 64)
  rw [size_alloc] at h2
  generalize hrb : w.heap.size = rb at *
  obtain ⟨pb, mb, O, qa, qc, ba, bc, fa, fc, fv, op⟩ := h2.p3.openHeap
  have c0 : ((w.alloc (.cells #[.slice none 0 0] 64)).alloc (.cells #[.slice none 0 0] 64)).cell? ⟨p, 0, none⟩ = some (.pointer (some ⟨pb, 0, none⟩)) := op.hs.cell 0 rfl
  have hL := pool_Last op.hs.p2 hT
  rw [hN] at hL
  have HL := Lib.hid hL
  clear hL
  go_enter Try.func30, Try.ntmps30
  try rw [hrb]
  go_wp2_with fail
  refine HL.out.mono ?_
  rintro e w1 ⟨rfl, h3⟩
  have op3 := op.to (G := pt (rb + 1) (.cells #[.slice none 0 0] 64) * (pt rb (.cells #[.slice none 0 0] 64) * F)) (h3.cast (by ac_rfl))
  have h4 := op3.shut
  have h5 := ((h4.nilSlc (T := 39) (sz := 5)).cast (show _ = slc 39 5 none 0 0 (xscells []) * (xslotsR [] * (pt (rb + 1) (.cells #[.slice none 0 0] 64 (0, 0)) * (heapR m p A * (pt rb (.cells #[.slice none 0 0] 64 (0, 0)) * F)))) by rw [xslotsR, one_mul]; simp only [xscells, List.flatMap_nil]; ac_rfl))
  clear op op3 h3 h4 c0 HL
  have hgr : ∀ k, graphL A (k + 1) = graphL A k ++ [A.obj (k + 1)] := fun k => by unfold graphL; rw [List.range_succ, List.map_append]; rfl
  have HGR := Lib.hid hgr
  clear hgr
  go_wp2
  go_loopw [13] (fun iv wr => ∃ (k : Nat) (ga : Option Addr) (gc : Nat) (X : List XObj), iv = .int .i64 k ∧ k ≤ N ∧ Hid (X.map (·.1) = graphL A k) ∧ Sat w0 wr (slc 39 5 ga k gc (xscells X) * (xslotsR X * (pt (rb + 1) (.cells #[.slice ga k gc] 64 (0, 0)) * (heapR m p A * (pt rb (.cells #[.slice none 0 0] 64 (0, 0)) * F)))))) (fun iv _ => N - (intOf iv).toNat)
  case atStart => exact ⟨0, none, 0, [], rfl, by omega, Lib.hid rfl, h5⟩
  case round =>
    obtain ⟨k, ga, gc, X, rfl, hk, HX, hs⟩ := hrel
    by_cases hlt : k < N
    · have g0 : wr.cell? ⟨rb + 1, 0, none⟩ = some (.slice ga k gc) := Sat.cell (T := 64) (cs := #[.slice ga k gc]) hs.p3 0 rfl
      have HO : ∀ w', Sat w0 w' _ → _ := fun w' hs' => heap_Obj (w0 := w0) (w := w') (m := m) (p := p) (A := A) (F := slc 39 5 ga k gc (xscells X) * (xslotsR X * (pt (rb + 1) (.cells #[.slice ga k gc] 64 (0, 0)) * (pt rb (.cells #[.slice none 0 0] 64 (0, 0)) * F)))) hs' ((k : Int) + 1) (HB.out _)
      have HO2 := Lib.hid (HO wr.drew (hs.drew.p4))
      clear HO
      unfold objV at HO2
      generalize hob : A.obj ((k : Int) + 1) = ob at *
      have hw1 : IntKind.i64.wrap ((k : Int) + 1) = (k : Int) + 1 := IntWalk.i64_in _ (by omega)
      go_wp2_with fail
      go_region_law (first
        | (refine step_of rfl (wp_pushObj _ _ rfl ga k gc X (by simp [Act.eval, Act.put]) h7.p4 w2.heap.size 1 (ob, oa, oc) (by simp [Act.eval, Act.put]) (five_cells h7) (by omega) ?_); intro a' c' w4 h9; have f4 : w4.frozen? ⟨rb + 1, 0, none⟩ = false := Sat.free (T := 64) (cs := #[.slice ga k gc]) h9.p6 0; have q4 : w4.cell? ⟨rb + 1, 0, none⟩ = some (.slice ga k gc) := Sat.cell (T := 64) (cs := #[.slice ga k gc]) h9.p6 0 rfl)
        | (refine step_of rfl ?_; go_simp; go_at_call 23; refine HO2.out.mono ?_; rintro e w2 ⟨oa, oc, rfl, h6⟩; have g2 : w2.cell? ⟨rb + 1, 0, none⟩ = some (.slice ga k gc) := Sat.cell (T := 64) (cs := #[.slice ga k gc]) h6.p5 0 rfl; have h7 := h6.alloc (.cells (xcells (ob, oa, oc)).toArray 39); have g2a : (w2.alloc (.cells (xcells (ob, oa, oc)).toArray 39)).cell? ⟨rb + 1, 0, none⟩ = some (.slice ga k gc) := Sat.cell (T := 64) (cs := #[.slice ga k gc]) h7.p6 0 rfl; simp only [xcells] at g2a))
      all_goals
        have h10 := Sat.store (T := 64) (cs := #[.slice ga k gc]) h9.p6 (i := 0) (.slice a' (k + 1) c')
        have HXX : Hid ((X ++ [(ob, oa, oc)]).map (·.1) = graphL A (k + 1)) := Lib.hid (by rw [List.map_append, HX.out, HGR.out, hob]; rfl)
        go_wp2_with fail
        go_roundw
        case rel =>
          refine ⟨k + 1, a', c', X ++ [(ob, oa, oc)], by go_num, by omega, HXX, ?_⟩
          rw [show xslotsR (X ++ [(ob, oa, oc)]) = slc 28 2 oa ob.slots.length oc (avcells ob.slots) * xslotsR X by rw [xslotsR_split X [] (ob, oa, oc), List.append_nil]]
          exact (h10.p3.drop).cast (by show row _ _ _ * _ = _; unfold row; simp only [List.setIfInBounds_toArray, List.set_cons_zero]; ac_rfl)
        case measure => simp [intOf]; omega
    · obtain rfl : k = N := by omega
      have g0 : wr.cell? ⟨rb + 1, 0, none⟩ = some (.slice ga k gc) := Sat.cell (T := 64) (cs := #[.slice ga k gc]) hs.p3 0 rfl
      have r0 : wr.cell? ⟨rb, 0, none⟩ = some (.slice none 0 0) := Sat.cell (T := 64) (cs := #[.slice none 0 0]) hs.p5 0 rfl
      have rf0 : wr.frozen? ⟨rb, 0, none⟩ = false := Sat.free (T := 64) (cs := #[.slice none 0 0]) hs.p5 0
      have h7 := Sat.store (T := 64) (cs := #[.slice none 0 0]) hs.p5 (i := 0) (.slice ga k gc)
      go_wp2
      refine bodyPost_cell rfl rfl (load_graph (x := .slice ga k gc) rfl h7) rfl ?_
      refine ⟨ga, gc, rfl, ?_⟩
      exact Sat.shutObjs HX.out (by unfold graphL; simp) (h7.drop.p3.drop.cast (by ac_rfl))
end Go.Proofs.Ytkpcngcegipalaa.Tw
