/- In a round of a range over a function: a whole struct is loaded, is stored. -/
import Derived.Test.YtipigcpenmcaoaaTameIn
import Derived.Laws.Tables
import Derived.TacticsIn
set_option linter.unusedVariables false
namespace Go.Proofs.Ytipigcpenmcaoaa
open Go Go.RowKit
section
variable {P : Program} {l9 : Nat} {ops : Array Oper} {rest : List Oper} {o : Oper} {a : Act} {w : World} {Q : Exit → Act → World → Prop}
theorem wpListIn_load_row (hgd : o.guard = none) (ty : TypeId) (x : Operand) (ho : o.op = .load ty x)
    (g : Nat) (hx : a.eval x = .pointer (some ⟨g, 0, none⟩)) (t : TypeId) (cs : Array Value) (fr : Nat × Nat) (d : TypeDesc) (hg : w.heap[g]? = some (.cells cs t fr))
    (hu : P.underlying ty = some d) (hd : (match d with | .struct _ | .array _ _ => true | _ => false) = true) (hi : (P.info? ty).map (·.size) = some cs.size)
    (h : wpListIn (Fence.wide.inRound l9) 0 P ops Q rest (a.put o.dst (.agg cs)) w) : wpListIn (Fence.wide.inRound l9) 0 P ops Q (o :: rest) a w :=
  wpListIn_plain hgd fun _ hK => oper_in l9 (by rw [ho]; intro c hc; cases hc) (wp_load_row ty x ho g hx t cs fr d hg hu hd hi (hK _ _ h))
theorem wpListIn_store_row (hgd : o.guard = none) (ty : TypeId) (x y : Operand) (ho : o.op = .store ty x y)
    (g : Nat) (cells : Array Value) (hx : a.eval x = .pointer (some ⟨g, 0, none⟩)) (hy : a.eval y = .agg cells)
    (t : TypeId) (old : Array Value) (hg : w.heap[g]? = some (.cells old t (0, 0))) (hi : (P.info? ty).map (·.size) = some cells.size)
    (hold : old.size = cells.size) (h1 : cells.all (·.oneCell') = true)
    (h : wpListIn (Fence.wide.inRound l9) 0 P ops Q rest (a.put o.dst undef) (w.setRow g cells)) : wpListIn (Fence.wide.inRound l9) 0 P ops Q (o :: rest) a w :=
  wpListIn_plain hgd fun _ hK => oper_in l9 (by rw [ho]; intro c hc; cases hc) (wp_store_row ty x y ho g cells hx hy t old hg hi hold h1 (hK _ _ h))
end
end Go.Proofs.Ytipigcpenmcaoaa
