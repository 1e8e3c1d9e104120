/- A range over a function whose iterator writes one block of its own (its captured struct) between the rounds: one law for the caller. -/
import Derived.Test.YtipigcpenmcaoaaRange
set_option linter.unusedVariables false
namespace Go.Proofs.Ytipigcpenmcaoaa
open Go.RowKit

/-- From A on nothing that lay has turned but the block gp, in which no byte lay. -/
def Fw (gp : Nat) (A B : World) : Prop := KeepX (fun k => k = gp) A.heap.size A B ∧ ∀ j x, A.cell? ⟨gp, j, none⟩ ≠ some (.int .u8 x)
/-- The function value goes m rounds, the i-th with values that meet R i; it writes into the block gp; of what lay it reads nothing that is the caller's own. F: the blocks that the caller has made and writes. -/
def SeqRelW (P : Program) (gf : Nat) (lb : Array Value) (m : Nat) (R : Nat → Array Value → World → World → Prop) (own : Nat → Prop) (gp : Nat) (w : World) : Prop :=
  ∀ (l : Nat) (J : Nat → (Nat → Prop) → World → Prop) (Jx : Nat → World → Prop) (F0 : Nat → Prop) (W : World), Below w.heap.size w W → (∀ i F A, J i F A → ∀ k, F k → w.heap.size ≤ k ∧ k < A.heap.size) →
    (∀ i F e W0 W1, i < m → J i F W0 → Fw gp W0 W1 → R i e W0 W1 → YieldAt Fence.wide 0 P l e W1 fun r W' =>
      (r = .returned (.bool true) ∧ (∃ F', J (i + 1) F' W' ∧ ∀ k, F' k → F k ∨ W1.heap.size ≤ k) ∧ KeepX (fun k => own k ∨ F k) W1.heap.size W1 W') ∨ (r = .returned (.bool false) ∧ Jx (i + 1) W')) →
    J 0 F0 W →
    CallsIn Fence.wide 0 P gf (#[.func (.yield l) #[] #[]] ++ lb) W fun e W' => (∃ v, e = .returned v) ∧ ((∃ F W0, J m F W0 ∧ Fw gp W0 W') ∨ ∃ i, i ≤ m ∧ Jx i W')

def bodyEndW (own F : Nat → Prop) (M : Nat) (I : Nat → (Nat → Prop) → World → Prop) (Ix : Code → Nat → World → Prop) (i : Nat) (W : World) : Exit → Act → World → Prop
  | .normal, _, W' => KeepX (fun k => own k ∨ F k) M W W' ∧ ∃ F', I i F' W' ∧ ∀ k, F' k → F k ∨ M ≤ k
  | .ret, _, W' => KeepX (fun k => own k ∨ F k) M W W' ∧ Ix .ret i W'
  | .exit id, _, W' => KeepX (fun k => own k ∨ F k) M W W' ∧ Ix (.exit id) i W'
  | .goto t, _, W' => KeepX (fun k => own k ∨ F k) M W W' ∧ Ix (.goto t) i W'
  | .panic _, _, _ => False
  | .outgrown, _, _ => False

section
variable {P : Program}
/-- The statement over such an iterator. -/
theorem range_isW {g : Operand} {ps : Array Tmp} {assign body : Code} {Q : Exit → Act → World → Prop} {a : Act} {w : World}
    {gf : Nat} {lb : Array Value} (hg : a.eval g = .func (.func gf) #[] lb) (eg : ∀ args w, (callFunc gf args).run P w = .ok (.enter gf args) w)
    {m : Nat} {R : Nat → Array Value → World → World → Prop} {own : Nat → Prop} {gp : Nat} (hgp : gp < w.heap.size) (ho1 : ¬ own w.heap.size) (ho2 : ¬ own (w.heap.size + 1)) (hseq : SeqRelW P gf lb m R own gp w) (hps : ∀ i e W0 W, R i e W0 W → e.size = ps.size)
    (I : Nat → (Nat → Prop) → World → Prop) (Ix : Code → Nat → World → Prop)
    (hIF : ∀ i F A, I i F A → ∀ k, F k → w.heap.size + 2 ≤ k ∧ k < A.heap.size) (F0 : Nat → Prop) (hI : ∀ i F A B, I i F A → Gr w.heap.size A B → I i F B) (hIx : ∀ c i A B, Ix c i A → Gr w.heap.size A B → Ix c i B) (h0 : ∀ W, Gr w.heap.size w W → I 0 F0 W)
    (hround : ∀ (l : Nat) (i : Nat) (F : Nat → Prop) (e : Array Value) (W0 W : World), i < m → R i e W0 W → I i F W0 → Fw gp W0 W → w.heap.size + 2 ≤ W0.heap.size →
      assign.wpIn (Fence.wide.inRound l) 0 P (Exit.then (fun a₁ W₁ => Below W.heap.size W W₁ ∧ ∀ W₂, Gr w.heap.size W₁ W₂ → W₂.heap.size = W₁.heap.size → body.wpIn (Fence.wide.inRound l) 0 P (bodyEndW own F W.heap.size I Ix (i + 1) W₂) a₁ W₂) (fun _ _ _ => False))
        { tmps := (ps.zip e).foldl (fun t (p, v) => t.setIfInBounds p v) a.tmps, defers := [] } W)
    (hdone : ∀ (D : Nat) (F : Nat → Prop) (W0 W1 W : World), D = w.heap.size → I m F W0 → Fw gp W0 W1 → Gr w.heap.size W1 W → w.heap.size + 2 ≤ W0.heap.size → W.heap[D]? = some (.deferred (some [])) → Q .normal { a with defers := { target := .collected D, args := #[] } :: a.defers } W)
    (hstop : ∀ (D : Nat) (c : Code) (i : Nat) (W : World), D = w.heap.size → i ≤ m → Ix c i W → W.heap[D]? = some (.deferred (some [])) → c.wpIn Fence.wide 0 P Q { a with defers := { target := .collected D, args := #[] } :: a.defers } W) :
    (Code.rangeFunc g ps assign body).wpIn Fence.wide 0 P Q a w := by
  refine wpIn_rangeFunc fun fn hfn => ?_
  obtain ⟨rec, hrec⟩ : ∃ rec : LoopState → Option Code → Loop, rec = fun st pe => { state := st, pending := pe, fn, tmps := a.tmps, params := ps, assign, body, defers := w.heap.size } := ⟨_, rfl⟩
  obtain ⟨W1, hW1⟩ : ∃ W1, (w.alloc (.deferred (some []))).alloc (.loop (rec .ready none)) = W1 := ⟨_, rfl⟩
  have hL1 : W1.heap[w.heap.size + 1]? = some (.loop (rec .ready none)) := by
    rw [← hW1]; have := World.alloc_heap_new (w.alloc (.deferred (some []))) (.loop (rec .ready none)); rwa [World.size_alloc] at this
  have hK1 : W1.heap[w.heap.size]? = some (.deferred (some [])) := by
    rw [← hW1]; exact (Below.heap_alloc _ _ _ (by simp)).trans (World.alloc_heap_new w _)
  have hB1 : Below w.heap.size w W1 := by
    rw [← hW1]; exact ((Below.refl _ w).alloc (Nat.le_refl _) _).alloc (by simp) _
  have hS1 : W1.heap.size = w.heap.size + 2 := by rw [← hW1]; simp
  refine ⟨w.heap.size + 1, [{ target := .collected w.heap.size, args := #[] }], W1, { target := .fn (.func gf) lb, args := #[.func (.yield (w.heap.size + 1)) #[] #[]] }, W1, gf,
    #[.func (.yield (w.heap.size + 1)) #[] #[]] ++ lb, W1, ?_, ?_, ?_, ?_, (fun h => by cases h), ?_⟩
  · rw [← hW1, hrec]; exact run_enterLoop_outer _ _ _ _ _
  · simp only [resolve, hg]
    simp [go_sem]
  · intro f' _; exact trivial
  · simp [invoke, go_sem, eg]
  · refine (hseq (w.heap.size + 1)
      (fun i F W => (I i F W ∧ w.heap.size + 2 ≤ W.heap.size) ∧ W.heap[w.heap.size + 1]? = some (.loop (rec .ready none)) ∧ W.heap[w.heap.size]? = some (.deferred (some [])))
      (fun i W => ∃ c, Ix c i W ∧ W.heap[w.heap.size + 1]? = some (.loop (rec .done (some c))) ∧ W.heap[w.heap.size]? = some (.deferred (some [])))
      F0 W1 hB1 (fun i F A h k hk => ⟨by have := (hIF i F A h.1.1 k hk).1; omega, (hIF i F A h.1.1 k hk).2⟩) ?_ ⟨⟨h0 _ (Gr.of_below hB1), by omega⟩, hL1, hK1⟩).mono ?_
    · rintro i F e W0 W him ⟨⟨hi, hs⟩, hl0, hk0⟩ hfw he
      have hl := (hfw.1.keep _ (Array.getElem?_eq_some_iff.1 hl0).1 (by omega)).trans hl0
      have hk := (hfw.1.keep _ (Array.getElem?_eq_some_iff.1 hk0).1 (by omega)).trans hk0
      have hs1 := hfw.1.size
      have hy := run_yield (P := P) (args := e) hl (by rw [hrec]; exact hps i e W0 W he)
      rw [hrec] at hy
      refine ⟨fn, _, assign, body, hy, roundIn_of_wpIn hfn (wpIn_mono (hround _ i F e W0 W him he hi hfw hs) ?_)⟩
      rintro ex a₁ W₁ hq
      cases ex with
      | normal =>
        obtain ⟨hb1, hbody⟩ := hq
        have hl1 := (hb1.block _ (Array.getElem?_eq_some_iff.1 hl).1).trans hl
        have hk1 := (hb1.block _ (Array.getElem?_eq_some_iff.1 hk).1).trans hk
        obtain ⟨W₂, hW2⟩ : ∃ W₂, W₁.putObj (w.heap.size + 1) (.loop { rec .ready none with state := .busy }) = W₂ := ⟨_, rfl⟩
        have hg2 : Gr w.heap.size W₁ W₂ := by rw [← hW2]; exact Gr.put _ (by omega) hl1 rfl
        have hl2 : W₂.heap[w.heap.size + 1]? = some (.loop { rec .ready none with state := .busy }) := by
          rw [← hW2]; exact World.putObj_heap_same (Array.getElem?_eq_some_iff.1 hl1).1
        have hk2 : W₂.heap[w.heap.size]? = some (.deferred (some [])) := by rw [← hW2]; exact (World.putObj_heap_other (by omega)).trans hk1
        have hs2 : W₂.heap.size = W₁.heap.size := by rw [← hW2]; simp
        have hF := hIF i F W0 hi
        have hszl := (Array.getElem?_eq_some_iff.1 hl).1
        have hkp : ∀ k, k < W.heap.size → k ≠ w.heap.size + 1 → W₂.heap[k]? = W.heap[k]? := fun k hk hn => by
          rw [← hW2]; exact (World.putObj_heap_other hn).trans (hb1.block k hk)
        refine ⟨W₂, by rw [← hW2]; exact run_beginRound hl1 (by rw [hrec]), wpIn_mono (hbody W₂ hg2 hs2) ?_⟩
        have fin : ∀ (jump : Option Code) (W3 : World), KeepX (fun k => own k ∨ F k) W.heap.size W₂ W3 →
            (Instr.endRound (w.heap.size + 1) jump).run P W3 = .ok (.bool jump.isNone) (W3.putObj (w.heap.size + 1) (.loop (rec (if jump.isNone then .ready else .done) jump))) ∧
            Gr w.heap.size W3 (W3.putObj (w.heap.size + 1) (.loop (rec (if jump.isNone then .ready else .done) jump))) ∧
            (W3.putObj (w.heap.size + 1) (.loop (rec (if jump.isNone then .ready else .done) jump))).heap[w.heap.size + 1]? = some (.loop (rec (if jump.isNone then .ready else .done) jump)) ∧
            (W3.putObj (w.heap.size + 1) (.loop (rec (if jump.isNone then .ready else .done) jump))).heap[w.heap.size]? = some (.deferred (some [])) ∧
            w.heap.size + 2 ≤ W3.heap.size := fun jump W3 hk3 => by
          have hl3 := (hk3.keep (w.heap.size + 1) (by omega) (by rintro (h | h); exact ho2 h; have := (hF _ h).1; omega)).trans hl2
          have hd3 := (hk3.keep w.heap.size (by omega) (by rintro (h | h); exact ho1 h; have := (hF _ h).1; omega)).trans hk2
          have := run_endRound (P := P) jump hl3
          rw [hrec] at this ⊢
          refine ⟨this, Gr.put _ (by omega) hl3 rfl, World.putObj_heap_same (Array.getElem?_eq_some_iff.1 hl3).1, (World.putObj_heap_other (by omega)).trans hd3, ?_⟩
          have := (Array.getElem?_eq_some_iff.1 hl3).1
          omega
        rintro e₃ a₃ W3 hp
        cases e₃ with
        | normal =>
          obtain ⟨hk3, F', hi3, hF'⟩ := hp
          obtain ⟨hr, hg3, hl3, hd3, hs3⟩ := fin none W3 hk3
          refine ⟨_, _, hr, .inl ⟨rfl, ⟨F', ⟨⟨hI _ _ _ _ hi3 hg3, by simpa using hs3⟩, hl3, hd3⟩, hF'⟩, ?_⟩⟩
          have hb2 := hb1.size
          have hs4 := hk3.size
          refine ⟨hk3.os.trans ?_, hk3.tape.trans ?_, hk3.output.trans ?_, by simp; omega, fun k hk hn => ?_⟩
          · rw [← hW2]; exact hb1.os
          · rw [← hW2]; exact hb1.tape
          · rw [← hW2]; exact hb1.output
          · by_cases hkk : k = w.heap.size + 1
            · rw [hkk]; exact hl3.trans hl.symm
            · exact (World.putObj_heap_other hkk).trans ((hk3.keep k hk hn).trans (hkp k hk hkk))
        | ret =>
          obtain ⟨hk3, hi3⟩ := hp
          obtain ⟨hr, hg3, hl3, hd3, hs3⟩ := fin (some .ret) W3 hk3
          exact ⟨_, _, hr, .inr ⟨rfl, .ret, hIx _ _ _ _ hi3 hg3, hl3, hd3⟩⟩
        | exit id =>
          obtain ⟨hk3, hi3⟩ := hp
          obtain ⟨hr, hg3, hl3, hd3, hs3⟩ := fin (some (.exit id)) W3 hk3
          exact ⟨_, _, hr, .inr ⟨rfl, .exit id, hIx _ _ _ _ hi3 hg3, hl3, hd3⟩⟩
        | goto t =>
          obtain ⟨hk3, hi3⟩ := hp
          obtain ⟨hr, hg3, hl3, hd3, hs3⟩ := fin (some (.goto t)) W3 hk3
          exact ⟨_, _, hr, .inr ⟨rfl, .goto t, hIx _ _ _ _ hi3 hg3, hl3, hd3⟩⟩
        | panic ch => exact hp.elim
        | outgrown => exact hp.elim
      | exit id => exact hq.elim
      | goto t => exact hq.elim
      | ret => exact hq.elim
      | panic ch => exact hq.elim
      | outgrown => exact hq.elim
    · rintro e W2 ⟨⟨v, rfl⟩, (⟨F, W0, ⟨⟨hi, hs⟩, hl0, hk0⟩, hfw⟩ | ⟨i, hle, c, hi, hl, hk⟩)⟩
      · have hl := (hfw.1.keep _ (Array.getElem?_eq_some_iff.1 hl0).1 (by omega)).trans hl0
        have hk := (hfw.1.keep _ (Array.getElem?_eq_some_iff.1 hk0).1 (by omega)).trans hk0
        exact ⟨none, _, by have := run_endLoop (P := P) hl (by rw [hrec]; simp); rw [hrec] at this; exact this, hdone _ _ _ _ _ rfl hi hfw (Gr.put _ (by omega) hl rfl) hs ((World.putObj_heap_other (by omega)).trans hk)⟩
      · exact ⟨some c, _, by have := run_endLoop (P := P) hl (by rw [hrec]; simp); rw [hrec] at this; exact this, hstop _ c i _ rfl hle (hIx _ _ _ _ hi (Gr.put _ (by omega) hl rfl)) ((World.putObj_heap_other (by omega)).trans hk)⟩

end
end Go.Proofs.Ytipigcpenmcaoaa
