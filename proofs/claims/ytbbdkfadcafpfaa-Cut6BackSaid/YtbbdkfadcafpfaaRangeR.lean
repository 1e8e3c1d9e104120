/- A range over a function whose iterator goes a known number of rounds, each with values that a relation tells: one law for the caller. -/
import Derived.Test.YtbbdkfadcafpfaaRange
set_option linter.unusedVariables false
namespace Go.Proofs.Ytbbdkfadcafpfaa
open Go.RowKit

/-- The function value goes m rounds, the i-th with values that meet R i; of what lay it reads nothing that is the caller's own. -/
def SeqRel (P : Program) (gf : Nat) (lb : Array Value) (m : Nat) (R : Nat → Array Value → World → Prop) (own : Nat → Prop) (w : World) : Prop :=
  ∀ (l : Nat) (J Jx : Nat → World → Prop) (W : World), Below w.heap.size w W →
    (∀ i A B, J i A → Below A.heap.size A B → J i B) → (∀ i A B, Jx i A → Below A.heap.size A B → Jx i B) →
    (∀ i e W1, i < m → R i e W1 → J i W1 → YieldAt Fence.wide 0 P l e W1 fun r W' =>
      (r = .returned (.bool true) ∧ J (i + 1) W' ∧ KeepX own w.heap.size W1 W') ∨ (r = .returned (.bool false) ∧ Jx (i + 1) W')) →
    J 0 W →
    CallsIn Fence.wide 0 P gf (#[.func (.yield l) #[] #[]] ++ lb) W fun e W' => (∃ v, e = .returned v) ∧ (J m W' ∨ ∃ i, i ≤ m ∧ Jx i W')

section
variable {P : Program}
/-- The statement over such an iterator. -/
theorem range_isR {g : Operand} {ps : Array Tmp} {assign body : Code} {Q : Exit → Act → World → Prop} {a : Act} {w : World}
    {gf : Nat} {lb : Array Value} (hg : a.eval g = .func (.func gf) #[] lb) (eg : ∀ args w, (callFunc gf args).run P w = .ok (.enter gf args) w)
    {m : Nat} {R : Nat → Array Value → World → Prop} {own : Nat → Prop} (ho1 : ¬ own w.heap.size) (ho2 : ¬ own (w.heap.size + 1)) (hseq : SeqRel P gf lb m R own w) (hps : ∀ i e W, R i e W → e.size = ps.size)
    (I : Nat → World → Prop) (Ix : Code → Nat → World → Prop)
    (hI : ∀ i A B, I i A → Gr w.heap.size A B → I i B) (hIx : ∀ c i A B, Ix c i A → Gr w.heap.size A B → Ix c i B) (h0 : I 0 w)
    (hround : ∀ (l : Nat) (i : Nat) (e : Array Value) (W : World), i < m → R i e W → I i W → w.heap.size + 2 ≤ W.heap.size →
      assign.wpIn (Fence.wide.inRound l) 0 P (Exit.then (fun a₁ W₁ => Below W.heap.size W W₁ ∧ ∀ W₂, Gr w.heap.size W₁ W₂ → W₂.heap.size = W₁.heap.size → body.wpIn (Fence.wide.inRound l) 0 P (bodyEnd own w.heap.size I Ix (i + 1) W₂) a₁ W₂) (fun _ _ _ => False))
        { tmps := (ps.zip e).foldl (fun t (p, v) => t.setIfInBounds p v) a.tmps, defers := [] } W)
    (hdone : ∀ (D : Nat) (W : World), D = w.heap.size → I m W → W.heap[D]? = some (.deferred (some [])) → Q .normal { a with defers := { target := .collected D, args := #[] } :: a.defers } W)
    (hstop : ∀ (D : Nat) (c : Code) (i : Nat) (W : World), D = w.heap.size → i ≤ m → Ix c i W → W.heap[D]? = some (.deferred (some [])) → c.wpIn Fence.wide 0 P Q { a with defers := { target := .collected D, args := #[] } :: a.defers } W) :
    (Code.rangeFunc g ps assign body).wpIn Fence.wide 0 P Q a w := by
  refine wpIn_rangeFunc fun fn hfn => ?_
  obtain ⟨rec, hrec⟩ : ∃ rec : LoopState → Option Code → Loop, rec = fun st pe => { state := st, pending := pe, fn, tmps := a.tmps, params := ps, assign, body, defers := w.heap.size } := ⟨_, rfl⟩
  obtain ⟨W1, hW1⟩ : ∃ W1, (w.alloc (.deferred (some []))).alloc (.loop (rec .ready none)) = W1 := ⟨_, rfl⟩
  have hL1 : W1.heap[w.heap.size + 1]? = some (.loop (rec .ready none)) := by
    rw [← hW1]; have := World.alloc_heap_new (w.alloc (.deferred (some []))) (.loop (rec .ready none)); rwa [World.size_alloc] at this
  have hK1 : W1.heap[w.heap.size]? = some (.deferred (some [])) := by
    rw [← hW1]; exact (Below.heap_alloc _ _ _ (by simp)).trans (World.alloc_heap_new w _)
  have hB1 : Below w.heap.size w W1 := by
    rw [← hW1]; exact ((Below.refl _ w).alloc (Nat.le_refl _) _).alloc (by simp) _
  have hS1 : W1.heap.size = w.heap.size + 2 := by rw [← hW1]; simp
  refine ⟨w.heap.size + 1, [{ target := .collected w.heap.size, args := #[] }], W1, { target := .fn (.func gf) lb, args := #[.func (.yield (w.heap.size + 1)) #[] #[]] }, W1, gf,
    #[.func (.yield (w.heap.size + 1)) #[] #[]] ++ lb, W1, ?_, ?_, ?_, ?_, (fun h => by cases h), ?_⟩
  · rw [← hW1, hrec]; exact run_enterLoop_outer _ _ _ _ _
  · simp only [resolve, hg]
    simp [go_sem]
  · intro f' _; exact trivial
  · simp [invoke, go_sem, eg]
  · refine (hseq (w.heap.size + 1)
      (fun i W => (I i W ∧ w.heap.size + 2 ≤ W.heap.size) ∧ W.heap[w.heap.size + 1]? = some (.loop (rec .ready none)) ∧ W.heap[w.heap.size]? = some (.deferred (some [])))
      (fun i W => ∃ c, Ix c i W ∧ W.heap[w.heap.size + 1]? = some (.loop (rec .done (some c))) ∧ W.heap[w.heap.size]? = some (.deferred (some [])))
      W1 hB1 ?_ ?_ ?_ ⟨⟨hI _ _ _ h0 (Gr.of_below hB1), by omega⟩, hL1, hK1⟩).mono ?_
    · rintro i A B ⟨⟨h1, hs⟩, h2, h3⟩ hb
      exact ⟨⟨hI _ _ _ h1 (Gr.of_below hb), Nat.le_trans hs hb.size⟩, (hb.block _ (Array.getElem?_eq_some_iff.1 h2).1).trans h2, (hb.block _ (Array.getElem?_eq_some_iff.1 h3).1).trans h3⟩
    · rintro i A B ⟨c, h1, h2, h3⟩ hb
      exact ⟨c, hIx _ _ _ _ h1 (Gr.of_below hb), (hb.block _ (Array.getElem?_eq_some_iff.1 h2).1).trans h2, (hb.block _ (Array.getElem?_eq_some_iff.1 h3).1).trans h3⟩
    · rintro i e W him he ⟨⟨hi, hs⟩, hl, hk⟩
      have hy := run_yield (P := P) (args := e) hl (by rw [hrec]; exact hps i e W he)
      rw [hrec] at hy
      refine ⟨fn, _, assign, body, hy, roundIn_of_wpIn hfn (wpIn_mono (hround _ i e W him he hi hs) ?_)⟩
      rintro ex a₁ W₁ hq
      cases ex with
      | normal =>
        obtain ⟨hb1, hbody⟩ := hq
        have hl1 := (hb1.block _ (Array.getElem?_eq_some_iff.1 hl).1).trans hl
        have hk1 := (hb1.block _ (Array.getElem?_eq_some_iff.1 hk).1).trans hk
        obtain ⟨W₂, hW2⟩ : ∃ W₂, W₁.putObj (w.heap.size + 1) (.loop { rec .ready none with state := .busy }) = W₂ := ⟨_, rfl⟩
        have hg2 : Gr w.heap.size W₁ W₂ := by rw [← hW2]; exact Gr.put _ (by omega) hl1 rfl
        have hl2 : W₂.heap[w.heap.size + 1]? = some (.loop { rec .ready none with state := .busy }) := by
          rw [← hW2]; exact World.putObj_heap_same (Array.getElem?_eq_some_iff.1 hl1).1
        have hk2 : W₂.heap[w.heap.size]? = some (.deferred (some [])) := by rw [← hW2]; exact (World.putObj_heap_other (by omega)).trans hk1
        have hs2 : W₂.heap.size = W₁.heap.size := by rw [← hW2]; simp
        have hx2 : KeepX own w.heap.size W W₂ := by
          rw [← hW2]; exact (KeepX.of_below hb1 (by omega)).trans (KeepX.put _ (by omega))
        refine ⟨W₂, by rw [← hW2]; exact run_beginRound hl1 (by rw [hrec]), wpIn_mono (hbody W₂ hg2 hs2) ?_⟩
        have fin : ∀ (jump : Option Code) (W3 : World), KeepX own (w.heap.size + 2) W₂ W3 →
            (Instr.endRound (w.heap.size + 1) jump).run P W3 = .ok (.bool jump.isNone) (W3.putObj (w.heap.size + 1) (.loop (rec (if jump.isNone then .ready else .done) jump))) ∧
            Gr w.heap.size W3 (W3.putObj (w.heap.size + 1) (.loop (rec (if jump.isNone then .ready else .done) jump))) ∧
            (W3.putObj (w.heap.size + 1) (.loop (rec (if jump.isNone then .ready else .done) jump))).heap[w.heap.size + 1]? = some (.loop (rec (if jump.isNone then .ready else .done) jump)) ∧
            (W3.putObj (w.heap.size + 1) (.loop (rec (if jump.isNone then .ready else .done) jump))).heap[w.heap.size]? = some (.deferred (some [])) ∧
            w.heap.size + 2 ≤ W3.heap.size := fun jump W3 hk3 => by
          have hl3 := (hk3.keep (w.heap.size + 1) (by omega) ho2).trans hl2
          have hd3 := (hk3.keep w.heap.size (by omega) ho1).trans hk2
          have := run_endRound (P := P) jump hl3
          rw [hrec] at this ⊢
          refine ⟨this, Gr.put _ (by omega) hl3 rfl, World.putObj_heap_same (Array.getElem?_eq_some_iff.1 hl3).1, (World.putObj_heap_other (by omega)).trans hd3, ?_⟩
          have := (Array.getElem?_eq_some_iff.1 hl3).1
          omega
        rintro e₃ a₃ W3 hp
        cases e₃ with
        | normal =>
          obtain ⟨hk3, hi3⟩ := hp
          obtain ⟨hr, hg3, hl3, hd3, hs3⟩ := fin none W3 hk3
          exact ⟨_, _, hr, .inl ⟨rfl, ⟨⟨hI _ _ _ hi3 hg3, by simpa using hs3⟩, hl3, hd3⟩, (hx2.trans (hk3.mono (by omega))).trans (KeepX.put _ (by omega))⟩⟩
        | ret =>
          obtain ⟨hk3, hi3⟩ := hp
          obtain ⟨hr, hg3, hl3, hd3, hs3⟩ := fin (some .ret) W3 hk3
          exact ⟨_, _, hr, .inr ⟨rfl, .ret, hIx _ _ _ _ hi3 hg3, hl3, hd3⟩⟩
        | exit id =>
          obtain ⟨hk3, hi3⟩ := hp
          obtain ⟨hr, hg3, hl3, hd3, hs3⟩ := fin (some (.exit id)) W3 hk3
          exact ⟨_, _, hr, .inr ⟨rfl, .exit id, hIx _ _ _ _ hi3 hg3, hl3, hd3⟩⟩
        | goto t =>
          obtain ⟨hk3, hi3⟩ := hp
          obtain ⟨hr, hg3, hl3, hd3, hs3⟩ := fin (some (.goto t)) W3 hk3
          exact ⟨_, _, hr, .inr ⟨rfl, .goto t, hIx _ _ _ _ hi3 hg3, hl3, hd3⟩⟩
        | panic ch => exact hp.elim
        | outgrown => exact hp.elim
      | exit id => exact hq.elim
      | goto t => exact hq.elim
      | ret => exact hq.elim
      | panic ch => exact hq.elim
      | outgrown => exact hq.elim
    · rintro e W2 ⟨⟨v, rfl⟩, (⟨⟨hi, hs⟩, hl, hk⟩ | ⟨i, hle, c, hi, hl, hk⟩)⟩
      · exact ⟨none, _, by have := run_endLoop (P := P) hl (by rw [hrec]; simp); rw [hrec] at this; exact this, hdone _ _ rfl (hI _ _ _ hi (Gr.put _ (by omega) hl rfl)) ((World.putObj_heap_other (by omega)).trans hk)⟩
      · exact ⟨some c, _, by have := run_endLoop (P := P) hl (by rw [hrec]; simp); rw [hrec] at this; exact this, hstop _ c i _ rfl hle (hIx _ _ _ _ hi (Gr.put _ (by omega) hl rfl)) ((World.putObj_heap_other (by omega)).trans hk)⟩

/-- The statement over such an iterator; what is not the caller's own is kept. -/
theorem range_kR {g : Operand} {ps : Array Tmp} {assign body : Code} {Q : Exit → Act → World → Prop} {a : Act} {w : World}
    {gf : Nat} {lb : Array Value} (hg : a.eval g = .func (.func gf) #[] lb) (eg : ∀ args w, (callFunc gf args).run P w = .ok (.enter gf args) w)
    {m : Nat} {R : Nat → Array Value → World → Prop} {own : Nat → Prop} (ho : ∀ k, own k → k < w.heap.size) (hseq : SeqRel P gf lb m R own w) (hps : ∀ i e W, R i e W → e.size = ps.size)
    (I : Nat → World → Prop) (Ix : Code → Nat → World → Prop)
    (hI : ∀ i A B, I i A → Gr w.heap.size A B → I i B) (hIx : ∀ c i A B, Ix c i A → Gr w.heap.size A B → Ix c i B) (h0 : I 0 w)
    (hround : ∀ (l : Nat) (i : Nat) (e : Array Value) (W : World), i < m → R i e W → I i W → KeepX own w.heap.size w W → w.heap.size + 2 ≤ W.heap.size →
      assign.wpIn (Fence.wide.inRound l) 0 P (Exit.then (asgPost P body own w.heap.size I Ix l i W) (fun _ _ _ => False))
        { tmps := (ps.zip e).foldl (fun t (p, v) => t.setIfInBounds p v) a.tmps, defers := [] } W)
    (hdone : ∀ (W : World), I m W → KeepX own w.heap.size w W → W.heap[w.heap.size]? = some (.deferred (some [])) → Q .normal { a with defers := { target := .collected w.heap.size, args := #[] } :: a.defers } W)
    (hstop : ∀ (c : Code) (i : Nat) (W : World), i ≤ m → Ix c i W → KeepX own w.heap.size w W → W.heap[w.heap.size]? = some (.deferred (some [])) → c.wpIn Fence.wide 0 P Q { a with defers := { target := .collected w.heap.size, args := #[] } :: a.defers } W) :
    (Code.rangeFunc g ps assign body).wpIn Fence.wide 0 P Q a w := by
  refine range_isR hg eg (own := own) (fun h => by have := ho _ h; omega) (fun h => by have := ho _ h; omega) hseq hps
    (fun i W => I i W ∧ KeepX own w.heap.size w W) (fun c i W => Ix c i W ∧ KeepX own w.heap.size w W)
    (fun i A B h hg => ⟨hI i A B h.1 hg, hg.keepX rfl h.2⟩) (fun c i A B h hg => ⟨hIx c i A B h.1 hg, hg.keepX rfl h.2⟩) ⟨h0, KeepX.refl _ _ _⟩ ?_ ?_ ?_
  · rintro l i e W him he ⟨hi, hk⟩ hs
    refine wpIn_mono (hround l i e W him he hi hk hs) ?_
    rintro ex a₁ W₁ hq
    cases ex with
    | normal =>
      obtain ⟨hb, hbody⟩ := hq
      refine ⟨hb, fun W₂ hg2 hs2 => wpIn_mono (hbody W₂ hg2 hs2) ?_⟩
      have hk2 : KeepX own w.heap.size w W₂ := hg2.keepX rfl ((Gr.of_below hb).keepX rfl hk)
      rintro e₃ a₃ W₃ hp
      cases e₃ with
      | normal => exact ⟨hp.1, hp.2, hk2.trans (hp.1.mono (by omega))⟩
      | ret => exact ⟨hp.1, hp.2, hk2.trans (hp.1.mono (by omega))⟩
      | exit id => exact ⟨hp.1, hp.2, hk2.trans (hp.1.mono (by omega))⟩
      | goto t => exact ⟨hp.1, hp.2, hk2.trans (hp.1.mono (by omega))⟩
      | panic ch => exact hp
      | outgrown => exact hp
    | exit id => exact hq
    | goto t => exact hq
    | ret => exact hq
    | panic ch => exact hq
    | outgrown => exact hq
  · rintro D W rfl ⟨hi, hk⟩ hd
    exact hdone W hi hk hd
  · rintro D c i W rfl hle ⟨hi, hk⟩ hd
    exact hstop c i W hle hi hk hd

end
end Go.Proofs.Ytbbdkfadcafpfaa
