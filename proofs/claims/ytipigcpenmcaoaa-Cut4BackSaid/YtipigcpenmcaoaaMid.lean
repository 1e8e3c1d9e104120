/- A struct in the middle of a block is loaded, in a drawn region and in a plain one. -/
import Derived.Deep.MidRow
import Derived.Test.YtipigcpenmcaoaaTame
import Derived.Test.YtipigcpenmcaoaaQuads
set_option linter.unusedVariables false
namespace Go.Proofs.Ytipigcpenmcaoaa
open Go Go.RowKit

section
variable {P : Program} {ops : Array Oper} {Q : Exit → Act → World → Prop} {S : World → Prop} {o : Oper} {rest : List Oper} {a : Act}
theorem tameL_mid (hw : Region.wanted o (yielded ops a.tmps) = true) (ty : TypeId) (x : Operand) (ho : o.op = .load ty x) (b off : Nat) (hx : a.eval x = .pointer (some ⟨b, off, none⟩)) (cs : List Value) (d : TypeDesc) (hc : ∀ w, S w → w.rangeAt b off cs)
    (hu : P.underlying ty = some d) (hd : d.isRow = true) (hi : (P.info? ty).map (·.size) = some cs.length) (h : tameL P ops Q S rest (a.put o.dst (.agg cs.toArray))) : tameL P ops Q S (o :: rest) a :=
  tameL_val hw (fun w hS => by
    unfold execOp
    simp only [ho, hx, Instr.loadAt, Instr.sureAddr, Sem.run_bind, Sem.run_pure, Result.andThen_ok, run_loadVar_mid w b off ty cs d (hc w hS) hu hd hi]) h
end
theorem range4 {w : World} {b o : Nat} {v0 v1 v2 v3 : Value} (h0 : w.cell? ⟨b, o, none⟩ = some v0) (h1 : w.cell? ⟨b, o + 1, none⟩ = some v1) (h2 : w.cell? ⟨b, o + 2, none⟩ = some v2) (h3 : w.cell? ⟨b, o + 3, none⟩ = some v3) : w.rangeAt b o [v0, v1, v2, v3] := fun j v hj => by
  have hlt : j < 4 := (List.getElem?_eq_some_iff.1 hj).1
  have hc : j = 0 ∨ j = 1 ∨ j = 2 ∨ j = 3 := by omega
  rcases hc with rfl | rfl | rfl | rfl <;> (cases hj; assumption)
theorem rangeAt_below {w w' : World} {N b o : Nat} {cs : List Value} (h : w.rangeAt b o cs) (hb : Below N w w') (hN : b < N) : w'.rangeAt b o cs := fun j v hj => by
  have : w'.cell? ⟨b, o + j, none⟩ = w.cell? ⟨b, o + j, none⟩ := World.cell?_of_block (a := ⟨b, o + j, none⟩) (hb.block b hN)
  rw [this]; exact h j v hj
/-- The i-th struct of a list. -/
theorem LQ.mid {w : World} {A : Option Addr} {n c : Nat} {l : List QP} (h : LQ w A n c l) {i : Nat} (hi : i < n) : ∃ b off q A' m c', A = some ⟨b, off, none⟩ ∧ b < w.heap.size ∧ l[i]? = some q ∧ w.rangeAt b (off + i * 4) [.int .i64 q.x, .int .i64 q.y, .int .i64 q.z, .slice A' m c'] ∧ RB w A' m c' q.data := by
  obtain ⟨b, off, q, A', m, c', e, hlt, hq, ⟨h0, h1, h2, h3⟩, hr⟩ := h.at_ hi
  exact ⟨b, off, q, A', m, c', e, hlt, hq, range4 h0 h1 h2 h3, hr⟩
end Go.Proofs.Ytipigcpenmcaoaa
