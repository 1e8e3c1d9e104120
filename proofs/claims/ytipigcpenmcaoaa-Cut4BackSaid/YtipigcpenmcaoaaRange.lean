/- A range over a function whose iterator hands on a known list, in order: one law for the caller, at the wide fence; and what a function owes at its return. -/
import Derived.Test.YtipigcpenmcaoaaBase
import Derived.RangeFuncNested
import Derived.RangeFuncBound
import Derived.RangeFuncCalls
import Derived.RangeFuncLeaves
import Derived.RangeFuncBox
import Derived.OwnWalkIn
import Derived.TacticsInMore
import Derived.LoopNIn
import Derived.LoopIn
import Derived.Shelf.Abstract
import Derived.Shelf.RegionOpen
set_option linter.unusedVariables false
namespace Go.Proofs.Ytipigcpenmcaoaa
open Go.RowKit

theorem call_wide {P : Program} {f : FuncId} {args : Array Value} {w : World} {R : Ending → World → Prop} (h : Calls P f args w R) : Fence.wide.fn f ∧ Fence.wide.depth = none ∧ CallsIn Fence.wide 0 P f args w R := ⟨trivial, rfl, callsIn_wide.2 h⟩

theorem call_round {P : Program} {f : FuncId} {args : Array Value} {w : World} {R : Ending → World → Prop} (l : Nat) (h : Calls P f args w R) : Fence.wide.fn f ∧ Fence.wide.depth = none ∧ CallsIn (Fence.wide.inRound l) 0 P f args w R := ⟨trivial, rfl, CallsIn.inRound l (callsIn_wide.2 h)⟩

/-- The records of loops over functions, and the blocks for their rounds' deferred calls. -/
def isRec : Obj → Bool
  | .loop .. => true
  | .deferred .. => true
  | _ => false

/-- From A to B nothing turns but records from block N on; new blocks come. -/
structure Gr (N : Nat) (A B : World) : Prop where
  os : B.os = A.os
  tape : B.tape = A.tape
  output : B.output = A.output
  size : A.heap.size ≤ B.heap.size
  keep : ∀ k o, A.heap[k]? = some o → (k < N ∨ isRec o = false) → B.heap[k]? = some o

theorem Gr.refl (N : Nat) (A : World) : Gr N A A := ⟨rfl, rfl, rfl, Nat.le_refl _, fun _ _ h _ => h⟩
theorem Gr.trans {N : Nat} {A B C : World} (h : Gr N A B) (k : Gr N B C) : Gr N A C :=
  ⟨k.os.trans h.os, k.tape.trans h.tape, k.output.trans h.output, Nat.le_trans h.size k.size, fun i o hi hc => k.keep i o (h.keep i o hi hc) hc⟩
theorem Gr.of_below {N : Nat} {A B : World} (h : Below A.heap.size A B) : Gr N A B :=
  ⟨h.os, h.tape, h.output, h.size, fun k o hk _ => (h.block k (Array.getElem?_eq_some_iff.1 hk).1).trans hk⟩
theorem Gr.alloc (N : Nat) (A : World) (o : Obj) : Gr N A (A.alloc o) := Gr.of_below ((Below.refl _ A).alloc (Nat.le_refl _) o)
theorem Gr.put {N : Nat} {A : World} {l : Nat} {o : Obj} (o' : Obj) (hN : N ≤ l) (h : A.heap[l]? = some o) (hr : isRec o = true) : Gr N A (A.putObj l o') :=
  ⟨rfl, rfl, rfl, by simp, fun k o'' hk hc => by
    by_cases e : k = l
    · subst e
      rw [h] at hk; cases hk
      rcases hc with hc | hc
      · omega
      · rw [hr] at hc; cases hc
    · exact (World.putObj_heap_other e).trans hk⟩
theorem Gr.mono {N N' : Nat} {A B : World} (h : Gr N A B) (hN : N' ≤ N) : Gr N' A B :=
  ⟨h.os, h.tape, h.output, h.size, fun k o hk hc => h.keep k o hk (hc.elim (fun h => .inl (by omega)) .inr)⟩
theorem Gr.cell {N : Nat} {A B : World} (h : Gr N A B) {p : Addr} {v : Value} (hc : A.cell? p = some v) : B.cell? p = some v := by
  obtain ⟨o, ho, hr⟩ := cells_of_cell hc
  have := h.keep _ o ho (.inr (by cases o <;> simp_all [Obj.isCells, isRec]))
  exact (World.cell?_of_block (this.trans ho.symm)).trans hc
theorem Gr.frozen {N : Nat} {A B : World} (h : Gr N A B) {p : Addr} {v : Value} (hc : A.cell? p = some v) : B.frozen? p = A.frozen? p := by
  obtain ⟨o, ho, hr⟩ := cells_of_cell hc
  have := h.keep _ o ho (.inr (by cases o <;> simp_all [Obj.isCells, isRec]))
  exact World.frozen?_of_block (this.trans ho.symm)
theorem Gr.below {N n₀ : Nat} {w A B : World} (h : Gr N A B) (hn : n₀ ≤ N) (hb : Below n₀ w A) (hs : n₀ ≤ w.heap.size) : Below n₀ w B :=
  ⟨h.os.trans hb.os, h.tape.trans hb.tape, h.output.trans hb.output, Nat.le_trans hb.size h.size, fun k hk => by
    have hlt : k < A.heap.size := by have := hb.size; omega
    have := h.keep k _ (Array.getElem?_eq_getElem hlt) (.inl (by omega))
    rw [this, ← hb.block k hk, Array.getElem?_eq_getElem hlt]⟩
theorem Gr.boxed {N : Nat} {A B : World} (h : Gr N A B) {b t : Nat} {v : Value} (hx : Boxed A b t v) : Boxed B b t v := h.keep b _ hx (.inr rfl)
theorem Gr.rb {N : Nat} {A B : World} (h : Gr N A B) {a : Option Addr} {n c : Nat} {bs : List Int} (hx : RB A a n c bs) : RB B a n c bs :=
  ⟨hx.len, hx.nc, hx.cm, hx.byt, hx.niln, fun hn => by
    obtain ⟨b, off, e, hlt, hc⟩ := hx.mem hn
    exact ⟨b, off, e, by have := h.size; omega, fun j hj => h.cell (hc j hj)⟩⟩
theorem Gr.own {N : Nat} {A B : World} (h : Gr N A B) {base e size n : Nat} {v : Value} {xs : List Value} (hx : A.ownsRow base e size v n xs) : B.ownsRow base e size v n xs := by
  obtain ⟨h1, h2⟩ := hx
  refine ⟨h1, ?_⟩
  rcases h2 with h2 | ⟨g, cap, cur, hv, hg, hh, r⟩
  · exact Or.inl h2
  · exact Or.inr ⟨g, cap, cur, hv, hg, h.keep g _ hh (.inr rfl), r⟩

/-- Below block N nothing but what is the caller's own has turned. -/
structure KeepX (own : Nat → Prop) (N : Nat) (A B : World) : Prop where
  os : B.os = A.os
  tape : B.tape = A.tape
  output : B.output = A.output
  size : A.heap.size ≤ B.heap.size
  keep : ∀ k, k < N → ¬ own k → B.heap[k]? = A.heap[k]?
theorem KeepX.refl (own : Nat → Prop) (N : Nat) (A : World) : KeepX own N A A := ⟨rfl, rfl, rfl, Nat.le_refl _, fun _ _ _ => rfl⟩
theorem KeepX.trans {own : Nat → Prop} {N : Nat} {A B C : World} (h : KeepX own N A B) (k : KeepX own N B C) : KeepX own N A C :=
  ⟨k.os.trans h.os, k.tape.trans h.tape, k.output.trans h.output, Nat.le_trans h.size k.size, fun i hi ho => (k.keep i hi ho).trans (h.keep i hi ho)⟩
theorem KeepX.mono {own : Nat → Prop} {N N' : Nat} {A B : World} (h : KeepX own N A B) (hN : N' ≤ N) : KeepX own N' A B := ⟨h.os, h.tape, h.output, h.size, fun k hk ho => h.keep k (by omega) ho⟩
theorem KeepX.of_below {own : Nat → Prop} {N M : Nat} {A B : World} (h : Below M A B) (hN : N ≤ M) : KeepX own N A B := ⟨h.os, h.tape, h.output, h.size, fun k hk _ => h.block k (by omega)⟩
theorem KeepX.setCell {own : Nat → Prop} {N : Nat} {A B : World} (h : KeepX own N A B) {p : Addr} (hp : own p.block ∨ N ≤ p.block) (v : Value) : KeepX own N A (B.setCell p v) :=
  ⟨h.os, h.tape, h.output, by have := h.size; simp [World.setCell]; omega, fun k hk ho => by
    rw [Below.heap_setCell _ _ _ _ (fun e => by subst e; rcases hp with hp | hp; exact ho hp; omega)]; exact h.keep k hk ho⟩
theorem KeepX.alloc {own : Nat → Prop} {N : Nat} {A B : World} (h : KeepX own N A B) (hN : N ≤ B.heap.size) (o : Obj) : KeepX own N A (B.alloc o) :=
  h.trans (KeepX.of_below ((Below.refl _ B).alloc (Nat.le_refl _) o) hN)
theorem KeepX.grown {own : Nat → Prop} {N : Nat} {A B C : World} {row : Option Nat} (h : KeepX own N A B) (hg : B.grownBy C row) (hN : N ≤ B.heap.size) (hr : ∀ k, row = some k → own k ∨ N ≤ k) : KeepX own N A C :=
  h.trans ⟨hg.os, hg.tape, hg.output, hg.size, fun k hk ho => hg.block k (by omega) (fun e => by rcases hr k e.symm with h | h; exact ho h; omega)⟩
theorem KeepX.put {own : Nat → Prop} {N : Nat} {A : World} {l : Nat} (o' : Obj) (hN : N ≤ l) : KeepX own N A (A.putObj l o') :=
  ⟨rfl, rfl, rfl, by simp, fun k hk _ => World.putObj_heap_other (by omega)⟩
theorem KeepX.cell {own : Nat → Prop} {N : Nat} {A B : World} (h : KeepX own N A B) {p : Addr} (hp : p.block < N) (ho : ¬ own p.block) : B.cell? p = A.cell? p :=
  World.cell?_of_block (w := A) (h.keep p.block hp ho)
theorem KeepX.rb {own : Nat → Prop} {N : Nat} {A B : World} (h : KeepX own N A B) {b off n c : Nat} {bs : List Int} (hx : RB A (some ⟨b, off, none⟩) n c bs) (hp : b < N) (ho : ¬ own b) : RB B (some ⟨b, off, none⟩) n c bs :=
  ⟨hx.len, hx.nc, hx.cm, hx.byt, hx.niln, fun hn => by
    obtain ⟨b', off', e, hlt, hc⟩ := hx.mem hn
    cases e
    exact ⟨b, off, rfl, by have := h.size; omega, fun j hj => (h.cell (p := ⟨b, off + j, none⟩) hp ho).trans (hc j hj)⟩⟩

/-- The function value hands on the list es, in order; of what lay it reads nothing that is the caller's own. -/
def SeqIs (P : Program) (gf : Nat) (lb : Array Value) (es : List (Array Value)) (own : Nat → Prop) (w : World) : Prop :=
  ∀ (l : Nat) (J Jx : Nat → World → Prop) (W : World), Below w.heap.size w W →
    (∀ i A B, J i A → Below A.heap.size A B → J i B) → (∀ i A B, Jx i A → Below A.heap.size A B → Jx i B) →
    (∀ i e W1, es[i]? = some e → J i W1 → YieldAt Fence.wide 0 P l e W1 fun r W' =>
      (r = .returned (.bool true) ∧ J (i + 1) W' ∧ KeepX own w.heap.size W1 W') ∨ (r = .returned (.bool false) ∧ Jx (i + 1) W')) →
    J 0 W →
    CallsIn Fence.wide 0 P gf (#[.func (.yield l) #[] #[]] ++ lb) W fun e W' => (∃ v, e = .returned v) ∧ (J es.length W' ∨ ∃ i, i ≤ es.length ∧ Jx i W')

/-- How the body of a round may be left. -/
def bodyEnd (own : Nat → Prop) (N : Nat) (I : Nat → World → Prop) (Ix : Code → Nat → World → Prop) (i : Nat) (W : World) : Exit → Act → World → Prop
  | .normal, _, W' => KeepX own (N + 2) W W' ∧ I i W'
  | .ret, _, W' => KeepX own (N + 2) W W' ∧ Ix .ret i W'
  | .exit id, _, W' => KeepX own (N + 2) W W' ∧ Ix (.exit id) i W'
  | .goto t, _, W' => KeepX own (N + 2) W W' ∧ Ix (.goto t) i W'
  | .panic _, _, _ => False
  | .outgrown, _, _ => False

section
variable {P : Program}
/-- The statement over such an iterator. -/
theorem range_is {g : Operand} {ps : Array Tmp} {assign body : Code} {Q : Exit → Act → World → Prop} {a : Act} {w : World}
    {gf : Nat} {lb : Array Value} (hg : a.eval g = .func (.func gf) #[] lb) (eg : ∀ args w, (callFunc gf args).run P w = .ok (.enter gf args) w)
    {es : List (Array Value)} {own : Nat → Prop} (ho1 : ¬ own w.heap.size) (ho2 : ¬ own (w.heap.size + 1)) (hseq : SeqIs P gf lb es own w) (hps : ∀ e ∈ es, e.size = ps.size)
    (I : Nat → World → Prop) (Ix : Code → Nat → World → Prop)
    (hI : ∀ i A B, I i A → Gr w.heap.size A B → I i B) (hIx : ∀ c i A B, Ix c i A → Gr w.heap.size A B → Ix c i B) (h0 : I 0 w)
    (hround : ∀ (l : Nat) (i : Nat) (e : Array Value) (W : World), es[i]? = some e → I i W → w.heap.size + 2 ≤ W.heap.size →
      assign.wpIn (Fence.wide.inRound l) 0 P (Exit.then (fun a₁ W₁ => Below W.heap.size W W₁ ∧ ∀ W₂, Gr w.heap.size W₁ W₂ → W₂.heap.size = W₁.heap.size → body.wpIn (Fence.wide.inRound l) 0 P (bodyEnd own w.heap.size I Ix (i + 1) W₂) a₁ W₂) (fun _ _ _ => False))
        { tmps := (ps.zip e).foldl (fun t (p, v) => t.setIfInBounds p v) a.tmps, defers := [] } W)
    (hdone : ∀ (D : Nat) (W : World), D = w.heap.size → I es.length W → W.heap[D]? = some (.deferred (some [])) → Q .normal { a with defers := { target := .collected D, args := #[] } :: a.defers } W)
    (hstop : ∀ (D : Nat) (c : Code) (i : Nat) (W : World), D = w.heap.size → i ≤ es.length → Ix c i W → W.heap[D]? = some (.deferred (some [])) → c.wpIn Fence.wide 0 P Q { a with defers := { target := .collected D, args := #[] } :: a.defers } W) :
    (Code.rangeFunc g ps assign body).wpIn Fence.wide 0 P Q a w := by
  refine wpIn_rangeFunc fun fn hfn => ?_
  obtain ⟨rec, hrec⟩ : ∃ rec : LoopState → Option Code → Loop, rec = fun st pe => { state := st, pending := pe, fn, tmps := a.tmps, params := ps, assign, body, defers := w.heap.size } := ⟨_, rfl⟩
  obtain ⟨W1, hW1⟩ : ∃ W1, (w.alloc (.deferred (some []))).alloc (.loop (rec .ready none)) = W1 := ⟨_, rfl⟩
  have hL1 : W1.heap[w.heap.size + 1]? = some (.loop (rec .ready none)) := by
    rw [← hW1]; have := World.alloc_heap_new (w.alloc (.deferred (some []))) (.loop (rec .ready none)); rwa [World.size_alloc] at this
  have hK1 : W1.heap[w.heap.size]? = some (.deferred (some [])) := by
    rw [← hW1]; exact (Below.heap_alloc _ _ _ (by simp)).trans (World.alloc_heap_new w _)
  have hB1 : Below w.heap.size w W1 := by
    rw [← hW1]; exact ((Below.refl _ w).alloc (Nat.le_refl _) _).alloc (by simp) _
  have hS1 : W1.heap.size = w.heap.size + 2 := by rw [← hW1]; simp
  refine ⟨w.heap.size + 1, [{ target := .collected w.heap.size, args := #[] }], W1, { target := .fn (.func gf) lb, args := #[.func (.yield (w.heap.size + 1)) #[] #[]] }, W1, gf,
    #[.func (.yield (w.heap.size + 1)) #[] #[]] ++ lb, W1, ?_, ?_, ?_, ?_, (fun h => by cases h), ?_⟩
  · rw [← hW1, hrec]; exact run_enterLoop_outer _ _ _ _ _
  · simp only [resolve, hg]
    simp [go_sem]
  · intro f' _; exact trivial
  · simp [invoke, go_sem, eg]
  · refine (hseq (w.heap.size + 1)
      (fun i W => (I i W ∧ w.heap.size + 2 ≤ W.heap.size) ∧ W.heap[w.heap.size + 1]? = some (.loop (rec .ready none)) ∧ W.heap[w.heap.size]? = some (.deferred (some [])))
      (fun i W => ∃ c, Ix c i W ∧ W.heap[w.heap.size + 1]? = some (.loop (rec .done (some c))) ∧ W.heap[w.heap.size]? = some (.deferred (some [])))
      W1 hB1 ?_ ?_ ?_ ⟨⟨hI _ _ _ h0 (Gr.of_below hB1), by omega⟩, hL1, hK1⟩).mono ?_
    · rintro i A B ⟨⟨h1, hs⟩, h2, h3⟩ hb
      exact ⟨⟨hI _ _ _ h1 (Gr.of_below hb), Nat.le_trans hs hb.size⟩, (hb.block _ (Array.getElem?_eq_some_iff.1 h2).1).trans h2, (hb.block _ (Array.getElem?_eq_some_iff.1 h3).1).trans h3⟩
    · rintro i A B ⟨c, h1, h2, h3⟩ hb
      exact ⟨c, hIx _ _ _ _ h1 (Gr.of_below hb), (hb.block _ (Array.getElem?_eq_some_iff.1 h2).1).trans h2, (hb.block _ (Array.getElem?_eq_some_iff.1 h3).1).trans h3⟩
    · rintro i e W he ⟨⟨hi, hs⟩, hl, hk⟩
      have hy := run_yield (P := P) (args := e) hl (by rw [hrec]; exact hps e (List.mem_of_getElem? he))
      rw [hrec] at hy
      refine ⟨fn, _, assign, body, hy, roundIn_of_wpIn hfn (wpIn_mono (hround _ i e W he hi hs) ?_)⟩
      rintro ex a₁ W₁ hq
      cases ex with
      | normal =>
        obtain ⟨hb1, hbody⟩ := hq
        have hl1 := (hb1.block _ (Array.getElem?_eq_some_iff.1 hl).1).trans hl
        have hk1 := (hb1.block _ (Array.getElem?_eq_some_iff.1 hk).1).trans hk
        obtain ⟨W₂, hW2⟩ : ∃ W₂, W₁.putObj (w.heap.size + 1) (.loop { rec .ready none with state := .busy }) = W₂ := ⟨_, rfl⟩
        have hg2 : Gr w.heap.size W₁ W₂ := by rw [← hW2]; exact Gr.put _ (by omega) hl1 rfl
        have hl2 : W₂.heap[w.heap.size + 1]? = some (.loop { rec .ready none with state := .busy }) := by
          rw [← hW2]; exact World.putObj_heap_same (Array.getElem?_eq_some_iff.1 hl1).1
        have hk2 : W₂.heap[w.heap.size]? = some (.deferred (some [])) := by rw [← hW2]; exact (World.putObj_heap_other (by omega)).trans hk1
        have hs2 : W₂.heap.size = W₁.heap.size := by rw [← hW2]; simp
        have hx2 : KeepX own w.heap.size W W₂ := by
          rw [← hW2]; exact (KeepX.of_below hb1 (by omega)).trans (KeepX.put _ (by omega))
        refine ⟨W₂, by rw [← hW2]; exact run_beginRound hl1 (by rw [hrec]), wpIn_mono (hbody W₂ hg2 hs2) ?_⟩
        have fin : ∀ (jump : Option Code) (W3 : World), KeepX own (w.heap.size + 2) W₂ W3 →
            (Instr.endRound (w.heap.size + 1) jump).run P W3 = .ok (.bool jump.isNone) (W3.putObj (w.heap.size + 1) (.loop (rec (if jump.isNone then .ready else .done) jump))) ∧
            Gr w.heap.size W3 (W3.putObj (w.heap.size + 1) (.loop (rec (if jump.isNone then .ready else .done) jump))) ∧
            (W3.putObj (w.heap.size + 1) (.loop (rec (if jump.isNone then .ready else .done) jump))).heap[w.heap.size + 1]? = some (.loop (rec (if jump.isNone then .ready else .done) jump)) ∧
            (W3.putObj (w.heap.size + 1) (.loop (rec (if jump.isNone then .ready else .done) jump))).heap[w.heap.size]? = some (.deferred (some [])) ∧
            w.heap.size + 2 ≤ W3.heap.size := fun jump W3 hk3 => by
          have hl3 := (hk3.keep (w.heap.size + 1) (by omega) ho2).trans hl2
          have hd3 := (hk3.keep w.heap.size (by omega) ho1).trans hk2
          have := run_endRound (P := P) jump hl3
          rw [hrec] at this ⊢
          refine ⟨this, Gr.put _ (by omega) hl3 rfl, World.putObj_heap_same (Array.getElem?_eq_some_iff.1 hl3).1, (World.putObj_heap_other (by omega)).trans hd3, ?_⟩
          have := (Array.getElem?_eq_some_iff.1 hl3).1
          omega
        rintro e₃ a₃ W3 hp
        cases e₃ with
        | normal =>
          obtain ⟨hk3, hi3⟩ := hp
          obtain ⟨hr, hg3, hl3, hd3, hs3⟩ := fin none W3 hk3
          exact ⟨_, _, hr, .inl ⟨rfl, ⟨⟨hI _ _ _ hi3 hg3, by simpa using hs3⟩, hl3, hd3⟩, (hx2.trans (hk3.mono (by omega))).trans (KeepX.put _ (by omega))⟩⟩
        | ret =>
          obtain ⟨hk3, hi3⟩ := hp
          obtain ⟨hr, hg3, hl3, hd3, hs3⟩ := fin (some .ret) W3 hk3
          exact ⟨_, _, hr, .inr ⟨rfl, .ret, hIx _ _ _ _ hi3 hg3, hl3, hd3⟩⟩
        | exit id =>
          obtain ⟨hk3, hi3⟩ := hp
          obtain ⟨hr, hg3, hl3, hd3, hs3⟩ := fin (some (.exit id)) W3 hk3
          exact ⟨_, _, hr, .inr ⟨rfl, .exit id, hIx _ _ _ _ hi3 hg3, hl3, hd3⟩⟩
        | goto t =>
          obtain ⟨hk3, hi3⟩ := hp
          obtain ⟨hr, hg3, hl3, hd3, hs3⟩ := fin (some (.goto t)) W3 hk3
          exact ⟨_, _, hr, .inr ⟨rfl, .goto t, hIx _ _ _ _ hi3 hg3, hl3, hd3⟩⟩
        | panic ch => exact hp.elim
        | outgrown => exact hp.elim
      | exit id => exact hq.elim
      | goto t => exact hq.elim
      | ret => exact hq.elim
      | panic ch => exact hq.elim
      | outgrown => exact hq.elim
    · rintro e W2 ⟨⟨v, rfl⟩, (⟨⟨hi, hs⟩, hl, hk⟩ | ⟨i, hle, c, hi, hl, hk⟩)⟩
      · exact ⟨none, _, by have := run_endLoop (P := P) hl (by rw [hrec]; simp); rw [hrec] at this; exact this, hdone _ _ rfl (hI _ _ _ hi (Gr.put _ (by omega) hl rfl)) ((World.putObj_heap_other (by omega)).trans hk)⟩
      · exact ⟨some c, _, by have := run_endLoop (P := P) hl (by rw [hrec]; simp); rw [hrec] at this; exact this, hstop _ c i _ rfl hle (hIx _ _ _ _ hi (Gr.put _ (by omega) hl rfl)) ((World.putObj_heap_other (by omega)).trans hk)⟩

theorem Gr.keepX {own : Nat → Prop} {N : Nat} {w A B : World} (h : Gr N A B) (hw : w.heap.size = N) (hk : KeepX own N w A) : KeepX own N w B :=
  ⟨h.os.trans hk.os, h.tape.trans hk.tape, h.output.trans hk.output, Nat.le_trans hk.size h.size, fun k hk' ho => by
    have hlt : k < A.heap.size := by have := hk.size; omega
    rw [h.keep k _ (Array.getElem?_eq_getElem hlt) (.inl hk'), ← hk.keep k hk' ho, Array.getElem?_eq_getElem hlt]⟩

/-- What is owed behind the assignment to the loop's variables: the body, from whatever world in which the record has turned. -/
def asgPost (P : Program) (body : Code) (own : Nat → Prop) (N : Nat) (I : Nat → World → Prop) (Ix : Code → Nat → World → Prop) (l i : Nat) (W : World) (a₁ : Act) (W₁ : World) : Prop :=
  Below W.heap.size W W₁ ∧ ∀ W₂, Gr N W₁ W₂ → W₂.heap.size = W₁.heap.size → body.wpIn (Fence.wide.inRound l) 0 P (bodyEnd own N I Ix (i + 1) W₂) a₁ W₂

/-- The statement over such an iterator; what is not the caller's own is kept. -/
theorem range_k {g : Operand} {ps : Array Tmp} {assign body : Code} {Q : Exit → Act → World → Prop} {a : Act} {w : World}
    {gf : Nat} {lb : Array Value} (hg : a.eval g = .func (.func gf) #[] lb) (eg : ∀ args w, (callFunc gf args).run P w = .ok (.enter gf args) w)
    {es : List (Array Value)} {own : Nat → Prop} (ho : ∀ k, own k → k < w.heap.size) (hseq : SeqIs P gf lb es own w) (hps : ∀ e ∈ es, e.size = ps.size)
    (I : Nat → World → Prop) (Ix : Code → Nat → World → Prop)
    (hI : ∀ i A B, I i A → Gr w.heap.size A B → I i B) (hIx : ∀ c i A B, Ix c i A → Gr w.heap.size A B → Ix c i B) (h0 : I 0 w)
    (hround : ∀ (l : Nat) (i : Nat) (e : Array Value) (W : World), es[i]? = some e → I i W → KeepX own w.heap.size w W → w.heap.size + 2 ≤ W.heap.size →
      assign.wpIn (Fence.wide.inRound l) 0 P (Exit.then (asgPost P body own w.heap.size I Ix l i W) (fun _ _ _ => False))
        { tmps := (ps.zip e).foldl (fun t (p, v) => t.setIfInBounds p v) a.tmps, defers := [] } W)
    (hdone : ∀ (W : World), I es.length W → KeepX own w.heap.size w W → W.heap[w.heap.size]? = some (.deferred (some [])) → Q .normal { a with defers := { target := .collected w.heap.size, args := #[] } :: a.defers } W)
    (hstop : ∀ (c : Code) (i : Nat) (W : World), i ≤ es.length → Ix c i W → KeepX own w.heap.size w W → W.heap[w.heap.size]? = some (.deferred (some [])) → c.wpIn Fence.wide 0 P Q { a with defers := { target := .collected w.heap.size, args := #[] } :: a.defers } W) :
    (Code.rangeFunc g ps assign body).wpIn Fence.wide 0 P Q a w := by
  refine range_is hg eg (own := own) (fun h => by have := ho _ h; omega) (fun h => by have := ho _ h; omega) hseq hps
    (fun i W => I i W ∧ KeepX own w.heap.size w W) (fun c i W => Ix c i W ∧ KeepX own w.heap.size w W)
    (fun i A B h hg => ⟨hI i A B h.1 hg, hg.keepX rfl h.2⟩) (fun c i A B h hg => ⟨hIx c i A B h.1 hg, hg.keepX rfl h.2⟩) ⟨h0, KeepX.refl _ _ _⟩ ?_ ?_ ?_
  · rintro l i e W he ⟨hi, hk⟩ hs
    refine wpIn_mono (hround l i e W he hi hk hs) ?_
    rintro ex a₁ W₁ hq
    cases ex with
    | normal =>
      obtain ⟨hb, hbody⟩ := hq
      refine ⟨hb, fun W₂ hg2 hs2 => wpIn_mono (hbody W₂ hg2 hs2) ?_⟩
      have hk2 : KeepX own w.heap.size w W₂ := hg2.keepX rfl ((Gr.of_below hb).keepX rfl hk)
      rintro e₃ a₃ W₃ hp
      cases e₃ with
      | normal => exact ⟨hp.1, hp.2, hk2.trans (hp.1.mono (by omega))⟩
      | ret => exact ⟨hp.1, hp.2, hk2.trans (hp.1.mono (by omega))⟩
      | exit id => exact ⟨hp.1, hp.2, hk2.trans (hp.1.mono (by omega))⟩
      | goto t => exact ⟨hp.1, hp.2, hk2.trans (hp.1.mono (by omega))⟩
      | panic ch => exact hp
      | outgrown => exact hp
    | exit id => exact hq
    | goto t => exact hq
    | ret => exact hq
    | panic ch => exact hq
    | outgrown => exact hq
  · rintro D W rfl ⟨hi, hk⟩ hd
    exact hdone W hi hk hd
  · rintro D c i W rfl hle ⟨hi, hk⟩ hd
    exact hstop c i W hle hi hk hd

/-- The blocks that loops over functions have left on the list of deferred calls. -/
def Marks (N : Nat) (W : World) : List Deferred → Prop
  | [] => True
  | d :: ds => ∃ D, d = { target := .collected D, args := #[] } ∧ N ≤ D ∧ W.heap[D]? = some (.deferred (some [])) ∧ (∀ d' ∈ ds, ∀ D', d'.target = .collected D' → D' < D) ∧ Marks N W ds
theorem Marks.keep {N : Nat} {A B : World} : ∀ {ds : List Deferred}, Marks N A ds → (∀ d ∈ ds, ∀ D, d.target = .collected D → B.heap[D]? = A.heap[D]?) → Marks N B ds
  | [], _, _ => trivial
  | d :: ds, ⟨D, e, hN, hD, hlt, hr⟩, hk => ⟨D, e, hN, (hk d (by simp) D (by rw [e])).trans hD, hlt, Marks.keep hr (fun d' hd' => hk d' (by simp [hd']))⟩
theorem Marks.lt {N : Nat} {A : World} : ∀ {ds : List Deferred}, Marks N A ds → ∀ d ∈ ds, ∀ D, d.target = .collected D → N ≤ D ∧ D < A.heap.size
  | d :: ds, ⟨D, e, hN, hD, hlt, hr⟩, d', hd', D', e' => by
    rcases List.mem_cons.1 hd' with h | h
    · subst h; rw [e] at e'; cases e'; exact ⟨hN, (Array.getElem?_eq_some_iff.1 hD).1⟩
    · exact Marks.lt hr d' h D' e'

/-- At the function's return: the marks are taken up, the records are shut. -/
theorem leave_marks {F : Fence} {n N : Nat} {fn : Func} {tmps : Array Value} {R : Ending → World → Prop} : ∀ {ds : List Deferred} {W : World}, Marks N W ds →
    (∀ W', Gr N W W' → LeavesInM F n P fn tmps R [] .returning W') → LeavesInM F n P fn tmps R ds .returning W
  | [], W, _, h => h W (Gr.refl _ _)
  | d :: ds, W, ⟨D, e, hN, hD, hlt, hr⟩, h => by
    subst e
    have hg : Gr N W (W.putObj D (.deferred none)) := Gr.put _ hN hD rfl
    refine ⟨by simp, .inl ⟨D, _, rfl, run_takeDeferred hD, leave_marks (hr.keep fun d' hd' D' e' => ?_) fun W' h' => h W' (hg.trans h')⟩⟩
    have := hlt d' hd' D' e'
    exact World.putObj_heap_other (by omega)
end
end Go.Proofs.Ytipigcpenmcaoaa
