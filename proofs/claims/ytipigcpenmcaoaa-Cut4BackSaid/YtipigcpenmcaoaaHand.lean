/- A drawn region walked by hand, operation by operation (for whole structs of many cells beside stores and calls). -/
import Derived.Test.YtipigcpenmcaoaaHeld
import Derived.Deep.MidRow
import Derived.Laws.CopyOwn
import Derived.Test.YtipigcpenmcaoaaMem
set_option linter.unusedVariables false
namespace Go.Proofs.Ytipigcpenmcaoaa
open Go Go.RowKit

section
variable {P : Program} {md : Region.Mode} {ops : Array Oper} {Q : Exit → Act → World → Prop} {S : World → Prop}
theorem ops_at {i : Nat} {oi : Oper} {l r : List Oper} (h : ops = ⟨l⟩) (hi : l.drop i = oi :: r) : ops[i]? = some oi := by
  subst h
  have := congrArg (·[0]?) hi
  simpa using this
theorem take_h {i : Nat} {oi : Oper} {l r : List Oper} {v : Value} {fuel : Nat} {listed : Array Bool} {a : Act} {w : World} (h0 : ops = ⟨l⟩) (hi : l.drop i = oi :: r)
    (hs : Region.noSelect ops = true) (hf : Region.free md ops listed i = true) (hr : (Region.ready md ops listed).contains i = true)
    (hQ : ∀ c a w, Q (.panic c) (a.put oi.dst v) w → Q (.panic c) a w) (hy : YieldsIf P ops S oi v a) (hS : S w)
    (h : wpAnyH P md ops Q S fuel (listed.setIfInBounds i true) (a.put oi.dst v) w) : wpAnyH P md ops Q S (fuel + 1) listed a w :=
  wpAnyH_take (ops_at h0 hi) hs hf hr hQ hy hS h
theorem step_h {i : Nat} {o : Oper} {l r : List Oper} {fuel : Nat} {listed : Array Bool} {a : Act} {w : World} (h0 : ops = ⟨l⟩) (hi : l.drop i = o :: r) (hr : Region.ready md ops listed = [i])
    (h : ∀ (K : Act → World → Prop), Shut (∀ a' w', S w' → (S w' → wpAnyH P md ops Q S fuel (listed.setIfInBounds i true) a' w') → K a' w') → if Region.wanted o (yielded ops a.tmps) = true then o.wp P a w K Q else K (a.put o.dst undef) w) :
    wpAnyH P md ops Q S (fuel + 1) listed a w :=
  wpAnyH_ready hr (by simp) (AllReadyH.cons (ops_at h0 hi) h AllReadyH.nil)
end
theorem splice_cons {α : Type} (L : List α) (o : Nat) (c : α) (cs : List α) (h : o + cs.length < L.length) : splice L o (c :: cs) = splice (L.set o c) (o + 1) cs := by
  unfold splice
  have h1 : (L.set o c).take (o + 1) = L.take o ++ [c] := by
    rw [List.take_add_one, List.take_set_of_le (Nat.le_refl _), List.getElem?_set_self (by omega)]; rfl
  rw [h1, List.drop_set_of_lt (by omega), List.length_cons, show o + (cs.length + 1) = o + 1 + cs.length by omega]
  simp
theorem setCells_blk {g : Nat} {T : TypeId} : ∀ (cs : List Value) (o : Nat) (L : List Value) (W : World), Blk W g L.toArray T → o + cs.length ≤ L.length → Blk (W.setCells g o cs) g (splice L o cs).toArray T
  | [], o, L, W, h, _ => by
    have : splice L o ([] : List Value) = L := by unfold splice; simp
    rw [this]; exact h
  | c :: cs, o, L, W, h, hl => by
    rw [List.length_cons] at hl
    rw [splice_cons L o c cs (by omega)]
    have h2 := h.set o c
    rw [List.setIfInBounds_toArray] at h2
    exact setCells_blk cs (o + 1) (L.set o c) (W.setCell ⟨g, o, none⟩ c) h2 (by rw [List.length_set]; omega)
theorem below_setCells {w0 : World} {N g : Nat} (hN : N ≤ g) : ∀ (cs : List Value) (o : Nat) (W : World), Below N w0 W → Below N w0 (W.setCells g o cs)
  | [], _, _, h => h
  | c :: cs, o, W, h => below_setCells hN cs (o + 1) _ (h.setCell (p := ⟨g, o, none⟩) hN c)
theorem Blk.farCells {g g' : Nat} {C : Array Value} {T : TypeId} (hne : g' ≠ g) : ∀ (cs : List Value) (o : Nat) (W : World), Blk W g' C T → Blk (W.setCells g o cs) g' C T
  | [], _, _, h => h
  | c :: cs, o, W, h => Blk.farCells hne cs (o + 1) _ (h.far hne o c)
theorem Blk.there {W : World} {g : Nat} {C : Array Value} {T : TypeId} (h : Blk W g C T) (o n : Nat) (hl : o + n ≤ C.size) : W.there g o n := fun j hj => by
  refine ⟨?_, h.frz _⟩
  rw [h.cell (o + j) _ (Array.getElem?_eq_getElem (by omega))]; rfl
/-- A struct is built of parts. -/
theorem wpList_built {ops : Array Oper} {rest : List Oper} {op : Oper} {a : Act} {w : World} {Q : Exit → Act → World → Prop} (hgd : Region.wanted op (yielded ops a.tmps) = true) (t : TypeId) (parts : List (Nat × Operand)) (ho : op.op = .build t ⟨parts⟩)
    (L : List (Nat × Value)) (hL : parts.map (fun p => (p.1, a.eval p.2)) = L) (cells : Array Value) (hb : Try.prog.built t L = some cells)
    (h : wpList Try.prog ops Q rest (a.put op.dst (.agg cells)) w) : wpList Try.prog ops Q (op :: rest) a w :=
  BigFrame.wpList_want hgd fun _ hK => by
    unfold Oper.wp execOp
    have hb' := run_build (P := Try.prog) w t ((⟨parts⟩ : Array (Nat × Operand)).map fun (i, x) => (i, a.eval x)) cells (by rw [Array.toList_map]; show Try.prog.built t (parts.map fun p => (p.1, a.eval p.2)) = _; rw [hL]; exact hb)
    simp only [ho, Sem.run_bind, hb', Result.andThen_ok]
    exact hK _ _ h
theorem yields_built {ops : Array Oper} {S : World → Prop} {op : Oper} {a : Act} (hw : Region.wanted op (yielded ops a.tmps) = true) (t : TypeId) (parts : List (Nat × Operand)) (ho : op.op = .build t ⟨parts⟩)
    (L : List (Nat × Value)) (hL : parts.map (fun p => (p.1, a.eval p.2)) = L) (cells : Array Value) (hb : Try.prog.built t L = some cells) : YieldsIf Try.prog ops S op (.agg cells) a :=
  .inl ⟨hw, fun w _ => by
    unfold execOp
    have hb' := run_build (P := Try.prog) w t ((⟨parts⟩ : Array (Nat × Operand)).map fun (i, x) => (i, a.eval x)) cells (by rw [Array.toList_map]; show Try.prog.built t (parts.map fun p => (p.1, a.eval p.2)) = _; rw [hL]; exact hb)
    simp only [ho, Sem.run_bind, hb', Result.andThen_ok, Sem.run_pure]⟩
end Go.Proofs.Ytipigcpenmcaoaa
