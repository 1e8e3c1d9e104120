/- A range over a function, where the body may turn what a predicate on blocks and what lies there allows: iterators that keep boxes of their own. One law for the caller. -/
import Derived.Test.YtbbdkfadcafpfaaRangeR
set_option linter.unusedVariables false
namespace Go.Proofs.Ytbbdkfadcafpfaa
open Go Go.RowKit

/-- From A to B nothing of A has turned but what 'own' allows. -/
structure KeepO (own : Nat → Obj → Prop) (A B : World) : Prop where
  os : B.os = A.os
  tape : B.tape = A.tape
  output : B.output = A.output
  size : A.heap.size ≤ B.heap.size
  keep : ∀ k o, A.heap[k]? = some o → ¬ own k o → B.heap[k]? = some o
theorem KeepO.refl (own : Nat → Obj → Prop) (A : World) : KeepO own A A := ⟨rfl, rfl, rfl, Nat.le_refl _, fun _ _ h _ => h⟩
theorem KeepO.trans {own : Nat → Obj → Prop} {A B C : World} (h : KeepO own A B) (k : KeepO own B C) : KeepO own A C :=
  ⟨k.os.trans h.os, k.tape.trans h.tape, k.output.trans h.output, Nat.le_trans h.size k.size, fun i o hi ho => k.keep i o (h.keep i o hi ho) ho⟩
theorem KeepO.mono {own own' : Nat → Obj → Prop} {A B : World} (h : KeepO own A B) (hi : ∀ k o, own k o → own' k o) : KeepO own' A B := ⟨h.os, h.tape, h.output, h.size, fun k o hk ho => h.keep k o hk (fun h => ho (hi k o h))⟩
theorem KeepO.of_below {own : Nat → Obj → Prop} {A B : World} (h : Below A.heap.size A B) : KeepO own A B := ⟨h.os, h.tape, h.output, h.size, fun k o hk _ => (h.block k (Array.getElem?_eq_some_iff.1 hk).1).trans hk⟩
theorem KeepO.below {own : Nat → Obj → Prop} {N : Nat} {A B : World} (h : KeepO own A B) (hs : N ≤ A.heap.size) (ho : ∀ k o, own k o → N ≤ k) : Below N A B :=
  ⟨h.os, h.tape, h.output, h.size, fun k hk => by
    have hlt : k < A.heap.size := by omega
    rw [h.keep k _ (Array.getElem?_eq_getElem hlt) (fun h' => by have := ho _ _ h'; omega), Array.getElem?_eq_getElem hlt]⟩
theorem KeepO.setCell {own : Nat → Obj → Prop} {A B : World} (h : KeepO own A B) {p : Addr} (hp : ∀ o, own p.block o) (v : Value) : KeepO own A (B.setCell p v) :=
  ⟨h.os, h.tape, h.output, by have := h.size; simp [World.setCell]; omega, fun k o hk ho => by
    rw [Below.heap_setCell _ _ _ _ (fun e => by subst e; exact ho (hp o))]; exact h.keep k o hk ho⟩
theorem KeepO.alloc {own : Nat → Obj → Prop} {A B : World} (h : KeepO own A B) (o : Obj) : KeepO own A (B.alloc o) :=
  h.trans (KeepO.of_below ((Below.refl _ B).alloc (Nat.le_refl _) o))
theorem KeepO.grown {own : Nat → Obj → Prop} {A B C : World} {row : Option Nat} (h : KeepO own A B) (hg : B.grownBy C row) (hr : ∀ k o, row = some k → B.heap[k]? = some o → own k o) : KeepO own A C :=
  ⟨hg.os.trans h.os, hg.tape.trans h.tape, hg.output.trans h.output, Nat.le_trans h.size hg.size, fun k o hk ho => by
    have h1 := h.keep k o hk ho
    exact (hg.block k (Array.getElem?_eq_some_iff.1 h1).1 (fun e => ho (hr k o e.symm h1))).trans h1⟩
theorem KeepO.put {own : Nat → Obj → Prop} {A : World} (l : Nat) (o' : Obj) : KeepO (fun k o => own k o ∨ k = l) A (A.putObj l o') :=
  ⟨rfl, rfl, rfl, by simp, fun k o hk ho => (World.putObj_heap_other (fun e => ho (.inr e))).trans hk⟩
theorem KeepO.gr {own : Nat → Obj → Prop} {w A B : World} (h : KeepO own w A) (hg : Gr w.heap.size A B) : KeepO own w B :=
  ⟨hg.os.trans h.os, hg.tape.trans h.tape, hg.output.trans h.output, Nat.le_trans h.size hg.size, fun k o hk ho => hg.keep k o (h.keep k o hk ho) (.inl (Array.getElem?_eq_some_iff.1 hk).1)⟩
theorem KeepO.grT {own : Nat → Obj → Prop} {tt : Obj → Prop} {w A B : World} (h : KeepO own w A) (hg : KeepO (fun k o => w.heap.size ≤ k ∧ tt o) A B) : KeepO own w B :=
  ⟨hg.os.trans h.os, hg.tape.trans h.tape, hg.output.trans h.output, Nat.le_trans h.size hg.size, fun k o hk ho => hg.keep k o (h.keep k o hk ho) (fun h' => by have := (Array.getElem?_eq_some_iff.1 hk).1; omega)⟩
theorem KeepO.put_rec {tt : Obj → Prop} {N l : Nat} {A : World} {o : Obj} (o' : Obj) (hN : N ≤ l) (hl : A.heap[l]? = some o) (ho : tt o) : KeepO (fun k o => N ≤ k ∧ tt o) A (A.putObj l o') :=
  ⟨rfl, rfl, rfl, by simp, fun k o2 hk hn => (World.putObj_heap_other (fun e => by
    subst e
    rw [hl] at hk
    obtain rfl := Option.some.inj hk
    exact hn ⟨hN, ho⟩)).trans hk⟩
theorem KeepO.setBox {own : Nat → Obj → Prop} {A : World} {p : Addr} (hp : ∀ o, A.heap[p.block]? = some o → own p.block o) (v : Value) : KeepO own A (A.setCell p v) :=
  ⟨rfl, rfl, rfl, by simp [World.setCell], fun k o hk ho => by
    rw [Below.heap_setCell _ _ _ _ (fun e => by subst e; exact ho (hp o hk))]; exact hk⟩
theorem Gr.keepO {tt : Obj → Prop} (htt : ∀ o, isRec o = true → tt o) {N : Nat} {A B : World} (h : Gr N A B) : KeepO (fun k o => N ≤ k ∧ tt o) A B :=
  ⟨h.os, h.tape, h.output, h.size, fun k o hk ho => h.keep k o hk (by
    by_cases hN : k < N
    · exact .inl hN
    · refine .inr ?_
      cases hr : isRec o
      · rfl
      · exact absurd ⟨by omega, htt o hr⟩ ho)⟩
theorem KeepO.boxed {own : Nat → Obj → Prop} {A B : World} (h : KeepO own A B) {b t : Nat} {v : Value} (hx : Boxed A b t v) (ho : ¬ own b (.cells #[v] t (0, 0))) : Boxed B b t v := h.keep b _ hx ho

/-- The function value goes m rounds, the i-th with values that meet R i; what it reads, its own boxes among it, a body may not turn but where 'own' allows. -/
def SeqRelO (P : Program) (gf : Nat) (lb : Array Value) (m : Nat) (R : Nat → Array Value → World → Prop) (own : Nat → Obj → Prop) (tt : Obj → Prop) (w : World) : Prop :=
  ∀ (l : Nat) (J Jx : Nat → World → Prop) (W : World), Below w.heap.size w W → w.heap.size ≤ l → l < W.heap.size →
    (∀ i A B, J i A → KeepO (fun k o => l < k ∧ tt o) A B → J i B) → (∀ i A B, Jx i A → KeepO (fun k o => l < k ∧ tt o) A B → Jx i B) →
    (∀ i e W1, i < m → R i e W1 → J i W1 → YieldAt Fence.wide 0 P l e W1 fun r W' =>
      (r = .returned (.bool true) ∧ J (i + 1) W' ∧ KeepO (fun k o => own k o ∨ k = l) W1 W') ∨ (r = .returned (.bool false) ∧ Jx (i + 1) W' ∧ KeepO (fun k o => own k o ∨ k = l) W1 W')) →
    J 0 W →
    CallsIn Fence.wide 0 P gf (#[.func (.yield l) #[] #[]] ++ lb) W fun e W' => (∃ v, e = .returned v) ∧ (J m W' ∨ ∃ i, i ≤ m ∧ Jx i W')
theorem seqO_of {tt : Obj → Prop} {P : Program} {gf : Nat} {lb : Array Value} {m : Nat} {R : Nat → Array Value → World → Prop} {own : Nat → Obj → Prop} {w : World}
    (h : SeqRel P gf lb m R (fun k => ∃ o, w.heap[k]? = some o ∧ own k o) w) : SeqRelO P gf lb m R own tt w := by
  intro l J Jx W hW hl hlt hJ hJx hY h0
  refine (h l (fun i X => J i X ∧ KeepX (fun k => ∃ o, w.heap[k]? = some o ∧ own k o) w.heap.size w X) Jx W hW (fun i A B h hb => ⟨hJ i A B h.1 (KeepO.of_below hb), ?_⟩) (fun i A B h hb => hJx i A B h (KeepO.of_below hb)) ?_ ⟨h0, KeepX.of_below hW (Nat.le_refl _)⟩).mono ?_
  · exact h.2.trans (KeepX.of_below hb h.2.size)
  · rintro i e W1 him he ⟨hj, hk⟩
    refine YieldAt.mono (hY i e W1 him he hj) ?_
    rintro r W' (⟨h1, h2, h3⟩ | ⟨h1, h2, _⟩)
    · have hx : KeepX (fun k => ∃ o, w.heap[k]? = some o ∧ own k o) w.heap.size W1 W' := ⟨h3.os, h3.tape, h3.output, h3.size, fun k hlt ho => by
        have hw := Array.getElem?_eq_getElem hlt
        have h1 := (hk.keep k hlt ho).trans hw
        rw [h1]
        exact h3.keep k _ h1 (fun h => by
          rcases h with h | h
          · exact ho ⟨_, hw, h⟩
          · omega)⟩
      exact .inl ⟨h1, ⟨h2, hk.trans hx⟩, hx⟩
    · exact .inr ⟨h1, h2⟩
  · rintro e W' ⟨hv, h1 | h1⟩
    · exact ⟨hv, .inl h1.1⟩
    · exact ⟨hv, .inr h1⟩

/-- How the body of a round may be left. -/
def bodyEndO (own : Nat → Obj → Prop) (I : Nat → World → Prop) (Ix : Code → Nat → World → Prop) (i : Nat) (W : World) : Exit → Act → World → Prop
  | .normal, _, W' => KeepO own W W' ∧ I i W'
  | .ret, _, W' => KeepO own W W' ∧ Ix .ret i W'
  | .exit id, _, W' => KeepO own W W' ∧ Ix (.exit id) i W'
  | .goto t, _, W' => KeepO own W W' ∧ Ix (.goto t) i W'
  | .panic _, _, _ => False
  | .outgrown, _, _ => False
def asgPostO (P : Program) (body : Code) (own : Nat → Obj → Prop) (N : Nat) (I : Nat → World → Prop) (Ix : Code → Nat → World → Prop) (l i : Nat) (W : World) (a₁ : Act) (W₁ : World) : Prop :=
  Below W.heap.size W W₁ ∧ ∀ W₂, Gr N W₁ W₂ → W₂.heap.size = W₁.heap.size → body.wpIn (Fence.wide.inRound l) 0 P (bodyEndO own I Ix (i + 1) W₂) a₁ W₂

section
variable {P : Program}
/-- The statement over such an iterator. -/
theorem range_isO {g : Operand} {ps : Array Tmp} {assign body : Code} {Q : Exit → Act → World → Prop} {a : Act} {w : World}
    {gf : Nat} {lb : Array Value} (hg : a.eval g = .func (.func gf) #[] lb) (eg : ∀ args w, (callFunc gf args).run P w = .ok (.enter gf args) w)
    {m : Nat} {R : Nat → Array Value → World → Prop} {own : Nat → Obj → Prop} (ho1 : ∀ o, o.isCells = false → ¬ own w.heap.size o) (ho2 : ∀ o, o.isCells = false → ¬ own (w.heap.size + 1) o) {tt : Obj → Prop} (htt : ∀ o, isRec o = true → tt o) (hseq : SeqRelO P gf lb m R own tt w) (hps : ∀ i e W, R i e W → e.size = ps.size)
    (I : Nat → World → Prop) (Ix : Code → Nat → World → Prop)
    (hI : ∀ i A B, I i A → KeepO (fun k o => w.heap.size ≤ k ∧ tt o) A B → I i B) (hIx : ∀ c i A B, Ix c i A → KeepO (fun k o => w.heap.size ≤ k ∧ tt o) A B → Ix c i B) (h0 : I 0 w)
    (hround : ∀ (l : Nat) (i : Nat) (e : Array Value) (W : World), i < m → R i e W → I i W → w.heap.size + 2 ≤ W.heap.size →
      assign.wpIn (Fence.wide.inRound l) 0 P (Exit.then (fun a₁ W₁ => Below W.heap.size W W₁ ∧ ∀ W₂, Gr w.heap.size W₁ W₂ → W₂.heap.size = W₁.heap.size → body.wpIn (Fence.wide.inRound l) 0 P (bodyEndO own I Ix (i + 1) W₂) a₁ W₂) (fun _ _ _ => False))
        { tmps := (ps.zip e).foldl (fun t (p, v) => t.setIfInBounds p v) a.tmps, defers := [] } W)
    (hdone : ∀ (D : Nat) (W : World), D = w.heap.size → I m W → W.heap[D]? = some (.deferred (some [])) → Q .normal { a with defers := { target := .collected D, args := #[] } :: a.defers } W)
    (hstop : ∀ (D : Nat) (c : Code) (i : Nat) (W : World), D = w.heap.size → i ≤ m → Ix c i W → W.heap[D]? = some (.deferred (some [])) → c.wpIn Fence.wide 0 P Q { a with defers := { target := .collected D, args := #[] } :: a.defers } W) :
    (Code.rangeFunc g ps assign body).wpIn Fence.wide 0 P Q a w := by
  refine wpIn_rangeFunc fun fn hfn => ?_
  obtain ⟨rec, hrec⟩ : ∃ rec : LoopState → Option Code → Loop, rec = fun st pe => { state := st, pending := pe, fn, tmps := a.tmps, params := ps, assign, body, defers := w.heap.size } := ⟨_, rfl⟩
  obtain ⟨W1, hW1⟩ : ∃ W1, (w.alloc (.deferred (some []))).alloc (.loop (rec .ready none)) = W1 := ⟨_, rfl⟩
  have hL1 : W1.heap[w.heap.size + 1]? = some (.loop (rec .ready none)) := by
    rw [← hW1]; have := World.alloc_heap_new (w.alloc (.deferred (some []))) (.loop (rec .ready none)); rwa [World.size_alloc] at this
  have hK1 : W1.heap[w.heap.size]? = some (.deferred (some [])) := by
    rw [← hW1]; exact (Below.heap_alloc _ _ _ (by simp)).trans (World.alloc_heap_new w _)
  have hB1 : Below w.heap.size w W1 := by
    rw [← hW1]; exact ((Below.refl _ w).alloc (Nat.le_refl _) _).alloc (by simp) _
  have hS1 : W1.heap.size = w.heap.size + 2 := by rw [← hW1]; simp
  refine ⟨w.heap.size + 1, [{ target := .collected w.heap.size, args := #[] }], W1, { target := .fn (.func gf) lb, args := #[.func (.yield (w.heap.size + 1)) #[] #[]] }, W1, gf,
    #[.func (.yield (w.heap.size + 1)) #[] #[]] ++ lb, W1, ?_, ?_, ?_, ?_, (fun h => by cases h), ?_⟩
  · rw [← hW1, hrec]; exact run_enterLoop_outer _ _ _ _ _
  · simp only [resolve, hg]
    simp [go_sem]
  · intro f' _; exact trivial
  · simp [invoke, go_sem, eg]
  · refine (hseq (w.heap.size + 1)
      (fun i W => (I i W ∧ w.heap.size + 2 ≤ W.heap.size) ∧ W.heap[w.heap.size + 1]? = some (.loop (rec .ready none)) ∧ W.heap[w.heap.size]? = some (.deferred (some [])))
      (fun i W => ∃ c, Ix c i W ∧ W.heap[w.heap.size + 1]? = some (.loop (rec .done (some c))) ∧ W.heap[w.heap.size]? = some (.deferred (some [])))
      W1 hB1 (by omega) (by omega) ?_ ?_ ?_ ⟨⟨hI _ _ _ h0 (KeepO.of_below hB1), by omega⟩, hL1, hK1⟩).mono ?_
    · rintro i A B ⟨⟨h1, hs⟩, h2, h3⟩ hb
      exact ⟨⟨hI _ _ _ h1 (hb.mono fun k o h => ⟨by omega, h.2⟩), Nat.le_trans hs hb.size⟩, hb.keep _ _ h2 (fun h => by omega), hb.keep _ _ h3 (fun h => by omega)⟩
    · rintro i A B ⟨c, h1, h2, h3⟩ hb
      exact ⟨c, hIx _ _ _ _ h1 (hb.mono fun k o h => ⟨by omega, h.2⟩), hb.keep _ _ h2 (fun h => by omega), hb.keep _ _ h3 (fun h => by omega)⟩
    · rintro i e W him he ⟨⟨hi, hs⟩, hl, hk⟩
      have hy := run_yield (P := P) (args := e) hl (by rw [hrec]; exact hps i e W he)
      rw [hrec] at hy
      refine ⟨fn, _, assign, body, hy, roundIn_of_wpIn hfn (wpIn_mono (hround _ i e W him he hi hs) ?_)⟩
      rintro ex a₁ W₁ hq
      cases ex with
      | normal =>
        obtain ⟨hb1, hbody⟩ := hq
        have hl1 := (hb1.block _ (Array.getElem?_eq_some_iff.1 hl).1).trans hl
        have hk1 := (hb1.block _ (Array.getElem?_eq_some_iff.1 hk).1).trans hk
        obtain ⟨W₂, hW2⟩ : ∃ W₂, W₁.putObj (w.heap.size + 1) (.loop { rec .ready none with state := .busy }) = W₂ := ⟨_, rfl⟩
        have hg2 : Gr w.heap.size W₁ W₂ := by rw [← hW2]; exact Gr.put _ (by omega) hl1 rfl
        have hl2 : W₂.heap[w.heap.size + 1]? = some (.loop { rec .ready none with state := .busy }) := by
          rw [← hW2]; exact World.putObj_heap_same (Array.getElem?_eq_some_iff.1 hl1).1
        have hk2 : W₂.heap[w.heap.size]? = some (.deferred (some [])) := by rw [← hW2]; exact (World.putObj_heap_other (by omega)).trans hk1
        have hs2 : W₂.heap.size = W₁.heap.size := by rw [← hW2]; simp
        have hx2 : KeepO (fun k o => own k o ∨ k = w.heap.size + 1) W W₂ := by
          rw [← hW2]; exact (KeepO.of_below hb1).trans (KeepO.put _ _)
        refine ⟨W₂, by rw [← hW2]; exact run_beginRound hl1 (by rw [hrec]), wpIn_mono (hbody W₂ hg2 hs2) ?_⟩
        have fin : ∀ (jump : Option Code) (W3 : World), KeepO own W₂ W3 →
            (Instr.endRound (w.heap.size + 1) jump).run P W3 = .ok (.bool jump.isNone) (W3.putObj (w.heap.size + 1) (.loop (rec (if jump.isNone then .ready else .done) jump))) ∧
            KeepO (fun k o => w.heap.size ≤ k ∧ tt o) W3 (W3.putObj (w.heap.size + 1) (.loop (rec (if jump.isNone then .ready else .done) jump))) ∧
            (W3.putObj (w.heap.size + 1) (.loop (rec (if jump.isNone then .ready else .done) jump))).heap[w.heap.size + 1]? = some (.loop (rec (if jump.isNone then .ready else .done) jump)) ∧
            (W3.putObj (w.heap.size + 1) (.loop (rec (if jump.isNone then .ready else .done) jump))).heap[w.heap.size]? = some (.deferred (some [])) ∧
            w.heap.size + 2 ≤ W3.heap.size := fun jump W3 hk3 => by
          have hl3 := hk3.keep _ _ hl2 (ho2 _ rfl)
          have hd3 := hk3.keep _ _ hk2 (ho1 _ rfl)
          have := run_endRound (P := P) jump hl3
          rw [hrec] at this ⊢
          refine ⟨this, KeepO.put_rec _ (by omega) hl3 (htt _ rfl), World.putObj_heap_same (Array.getElem?_eq_some_iff.1 hl3).1, (World.putObj_heap_other (by omega)).trans hd3, ?_⟩
          have := (Array.getElem?_eq_some_iff.1 hl3).1
          omega
        rintro e₃ a₃ W3 hp
        cases e₃ with
        | normal =>
          obtain ⟨hk3, hi3⟩ := hp
          obtain ⟨hr, hg3, hl3, hd3, hs3⟩ := fin none W3 hk3
          exact ⟨_, _, hr, .inl ⟨rfl, ⟨⟨hI _ _ _ hi3 hg3, by simpa using hs3⟩, hl3, hd3⟩, (hx2.trans (hk3.mono fun _ _ => .inl)).trans (KeepO.put _ _)⟩⟩
        | ret =>
          obtain ⟨hk3, hi3⟩ := hp
          obtain ⟨hr, hg3, hl3, hd3, hs3⟩ := fin (some .ret) W3 hk3
          exact ⟨_, _, hr, .inr ⟨rfl, ⟨.ret, hIx _ _ _ _ hi3 hg3, hl3, hd3⟩, (hx2.trans (hk3.mono fun _ _ => .inl)).trans (KeepO.put _ _)⟩⟩
        | exit id =>
          obtain ⟨hk3, hi3⟩ := hp
          obtain ⟨hr, hg3, hl3, hd3, hs3⟩ := fin (some (.exit id)) W3 hk3
          exact ⟨_, _, hr, .inr ⟨rfl, ⟨.exit id, hIx _ _ _ _ hi3 hg3, hl3, hd3⟩, (hx2.trans (hk3.mono fun _ _ => .inl)).trans (KeepO.put _ _)⟩⟩
        | goto t =>
          obtain ⟨hk3, hi3⟩ := hp
          obtain ⟨hr, hg3, hl3, hd3, hs3⟩ := fin (some (.goto t)) W3 hk3
          exact ⟨_, _, hr, .inr ⟨rfl, ⟨.goto t, hIx _ _ _ _ hi3 hg3, hl3, hd3⟩, (hx2.trans (hk3.mono fun _ _ => .inl)).trans (KeepO.put _ _)⟩⟩
        | panic ch => exact hp.elim
        | outgrown => exact hp.elim
      | exit id => exact hq.elim
      | goto t => exact hq.elim
      | ret => exact hq.elim
      | panic ch => exact hq.elim
      | outgrown => exact hq.elim
    · rintro e W2 ⟨⟨v, rfl⟩, (⟨⟨hi, hs⟩, hl, hk⟩ | ⟨i, hle, c, hi, hl, hk⟩)⟩
      · exact ⟨none, _, by have := run_endLoop (P := P) hl (by rw [hrec]; simp); rw [hrec] at this; exact this, hdone _ _ rfl (hI _ _ _ hi (KeepO.put_rec _ (by omega) hl (htt _ rfl))) ((World.putObj_heap_other (by omega)).trans hk)⟩
      · exact ⟨some c, _, by have := run_endLoop (P := P) hl (by rw [hrec]; simp); rw [hrec] at this; exact this, hstop _ c i _ rfl hle (hIx _ _ _ _ hi (KeepO.put_rec _ (by omega) hl (htt _ rfl))) ((World.putObj_heap_other (by omega)).trans hk)⟩

/-- The statement over such an iterator; what is not the caller's own is kept. -/
theorem range_kO {g : Operand} {ps : Array Tmp} {assign body : Code} {Q : Exit → Act → World → Prop} {a : Act} {w : World}
    {gf : Nat} {lb : Array Value} (hg : a.eval g = .func (.func gf) #[] lb) (eg : ∀ args w, (callFunc gf args).run P w = .ok (.enter gf args) w)
    {m : Nat} {R : Nat → Array Value → World → Prop} {own : Nat → Obj → Prop} (ho1 : ∀ o, o.isCells = false → ¬ own w.heap.size o) (ho2 : ∀ o, o.isCells = false → ¬ own (w.heap.size + 1) o) {tt : Obj → Prop} (htt : ∀ o, isRec o = true → tt o) (hseq : SeqRelO P gf lb m R own tt w) (hps : ∀ i e W, R i e W → e.size = ps.size)
    (I : Nat → World → Prop) (Ix : Code → Nat → World → Prop)
    (hI : ∀ i A B, I i A → KeepO (fun k o => w.heap.size ≤ k ∧ tt o) A B → I i B) (hIx : ∀ c i A B, Ix c i A → KeepO (fun k o => w.heap.size ≤ k ∧ tt o) A B → Ix c i B) (h0 : I 0 w)
    (hround : ∀ (l : Nat) (i : Nat) (e : Array Value) (W : World), i < m → R i e W → I i W → KeepO own w W → w.heap.size + 2 ≤ W.heap.size →
      assign.wpIn (Fence.wide.inRound l) 0 P (Exit.then (asgPostO P body own w.heap.size I Ix l i W) (fun _ _ _ => False))
        { tmps := (ps.zip e).foldl (fun t (p, v) => t.setIfInBounds p v) a.tmps, defers := [] } W)
    (hdone : ∀ (W : World), I m W → KeepO own w W → W.heap[w.heap.size]? = some (.deferred (some [])) → Q .normal { a with defers := { target := .collected w.heap.size, args := #[] } :: a.defers } W)
    (hstop : ∀ (c : Code) (i : Nat) (W : World), i ≤ m → Ix c i W → KeepO own w W → W.heap[w.heap.size]? = some (.deferred (some [])) → c.wpIn Fence.wide 0 P Q { a with defers := { target := .collected w.heap.size, args := #[] } :: a.defers } W) :
    (Code.rangeFunc g ps assign body).wpIn Fence.wide 0 P Q a w := by
  refine range_isO hg eg (own := own) ho1 ho2 htt hseq hps
    (fun i W => I i W ∧ KeepO own w W) (fun c i W => Ix c i W ∧ KeepO own w W)
    (fun i A B h hg => ⟨hI i A B h.1 hg, h.2.grT hg⟩) (fun c i A B h hg => ⟨hIx c i A B h.1 hg, h.2.grT hg⟩) ⟨h0, KeepO.refl _ _⟩ ?_ ?_ ?_
  · rintro l i e W him he ⟨hi, hk⟩ hs
    refine wpIn_mono (hround l i e W him he hi hk hs) ?_
    rintro ex a₁ W₁ hq
    cases ex with
    | normal =>
      obtain ⟨hb, hbody⟩ := hq
      refine ⟨hb, fun W₂ hg2 hs2 => wpIn_mono (hbody W₂ hg2 hs2) ?_⟩
      have hk2 : KeepO own w W₂ := (hk.trans (KeepO.of_below hb)).gr hg2
      rintro e₃ a₃ W₃ hp
      cases e₃ with
      | normal => exact ⟨hp.1, hp.2, hk2.trans hp.1⟩
      | ret => exact ⟨hp.1, hp.2, hk2.trans hp.1⟩
      | exit id => exact ⟨hp.1, hp.2, hk2.trans hp.1⟩
      | goto t => exact ⟨hp.1, hp.2, hk2.trans hp.1⟩
      | panic ch => exact hp
      | outgrown => exact hp
    | exit id => exact hq
    | goto t => exact hq
    | ret => exact hq
    | panic ch => exact hq
    | outgrown => exact hq
  · rintro D W rfl ⟨hi, hk⟩ hd
    exact hdone W hi hk hd
  · rintro D c i W rfl hle ⟨hi, hk⟩ hd
    exact hstop c i W hle hi hk hd

end
end Go.Proofs.Ytbbdkfadcafpfaa
