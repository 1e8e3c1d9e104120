/- Drawn regions with calls: what is held from operation to operation; a Go call as one step. -/
import Derived.Test.YtipigcpenmcaoaaAppend
import Derived.Test.YtipigcpenmcaoaaTame
import Derived.Deep.RegionHeld3
set_option linter.unusedVariables false
namespace Go.Proofs.Ytipigcpenmcaoaa
open Go.RowKit

section
variable {C : World → Prop} {w0 W W' : World}
theorem held0 (hF : ∀ W, Below w0.heap.size w0 W → C W) : C w0.drew ∧ Below w0.heap.size w0 w0.drew := ⟨hF _ (Below.refl _ w0).drew, (Below.refl _ w0).drew⟩
theorem heldDr (hF : ∀ W, Below w0.heap.size w0 W → C W) (h : C W ∧ Below w0.heap.size w0 W) : C W.drew ∧ Below w0.heap.size w0 W.drew := ⟨hF _ h.2.drew, h.2.drew⟩
theorem heldAl (hF : ∀ W, Below w0.heap.size w0 W → C W) (o : Obj) (h : C W ∧ Below w0.heap.size w0 W) : C (W.alloc o) ∧ Below w0.heap.size w0 (W.alloc o) := ⟨hF _ (h.2.alloc h.2.size o), h.2.alloc h.2.size o⟩
theorem heldAlDr (hF : ∀ W, Below w0.heap.size w0 W → C W) (o : Obj) : C (w0.alloc o).drew ∧ Below w0.heap.size w0 (w0.alloc o).drew := heldDr hF (heldAl hF o ⟨hF _ (Below.refl _ w0), Below.refl _ w0⟩)
theorem heldTo (hF : ∀ W, Below w0.heap.size w0 W → C W) (h : C W ∧ Below w0.heap.size w0 W) (hb : Below W.heap.size W W') : C W' ∧ Below w0.heap.size w0 W' :=
  have k := h.2.trans (hb.mono h.2.size)
  ⟨hF _ k, k⟩
theorem heldGr (hF : ∀ W, Below w0.heap.size w0 W → C W) (h : C W ∧ Below w0.heap.size w0 W) {A : Option Addr} {n c : Nat} {bs : List Int} (ho : OB W w0.heap.size A n c bs) (hg : W.grownBy W' (ownBlk A)) : C W' ∧ Below w0.heap.size w0 W' :=
  have k := h.2.grown hg h.2.size (fun k hk => (ho.blk hk).1)
  ⟨hF _ k, k⟩
theorem heldIf (hF : ∀ W, Below w0.heap.size w0 W → C W) (h : Below w0.heap.size w0 W) : C W ∧ Below w0.heap.size w0 W := ⟨hF _ h, h⟩
end
theorem OB.drew {w : World} {base : Nat} {A : Option Addr} {n c : Nat} {bs : List Int} (h : OB w base A n c bs) : OB w.drew base A n c bs := h.below (Below.refl _ w).drew

/-- append of bytes as one step of a drawn region. -/
theorem step_append_bytes {ops : Array Oper} {o : Oper} {a : Act} {w : World} {K : Act → World → Prop} {Q : Exit → Act → World → Prop} {E : Prop} (hgd : o.guard = none) (s x : Operand)
    (hop : o.op = .call { callee := .builtin .append, args := #[s, x], argTypes := #[22, 22] })
    {base : Nat} {A : Option Addr} {n c : Nat} {bs : List Int} (hv : a.eval s = .slice A n c) {A' : Option Addr} {m c' : Nat} {ys : List Int} (hv' : a.eval x = .slice A' m c') (ho : OB w base A n c bs) (hr : RB w A' m c' ys)
    (hs : n + m ≤ 140737488355328) (hb : base ≤ w.heap.size)
    (h : ∀ A2 c2 w2, OB w2 base A2 (n + m) c2 (bs ++ ys) → w.grownBy w2 (ownBlk A) → (ownBlk A2 = ownBlk A ∨ ownBlk A2 = some w.heap.size) → K (a.put o.dst (.slice A2 (n + m) c2)) w2) :
    if Region.wanted o (yielded ops a.tmps) = true then Oper.wp Try.prog o a w K Q else E := by
  have hw : Region.wanted o (yielded ops a.tmps) = true := by simp [Region.wanted, hgd]
  rw [if_pos hw]
  obtain ⟨A2, c2, w2, h1, h2, h3, h4⟩ := run_append_bytes w ho hr hs hb o.type
  unfold Oper.wp
  simp [execOp, hop, resolve, invoke, builtin, hv, hv', h1, Result.andThen]
  exact h A2 c2 w2 h2 h3 h4
end Go.Proofs.Ytipigcpenmcaoaa
