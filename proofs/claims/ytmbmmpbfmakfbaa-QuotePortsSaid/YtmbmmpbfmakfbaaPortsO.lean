/- Ports of a packet: what a payload tells, ports.Of. -/
import Derived.Test.YtmbmmpbfmakfbaaPorts
import Derived.Laws.CopyRow
set_option linter.unusedVariables false
namespace Go.Proofs.Ytmbmmpbfmakfbaa
open Go Go.RowKit

/-- A packet's ports: protocol, source, destination. -/
def portsP (p : V4P) : Int × Int × Int :=
  if codeP p ≠ 0 then (0, 0, 0) else if p.pr = 17 then (17, (readU p.src p.dst p.data).s, (readU p.src p.dst p.data).d) else if p.pr = 6 then (6, (readT p.src p.dst p.data).s, (readT p.src p.dst p.data).d)
  else (1, idI (readI p.data), idI (readI p.data))
abbrev cellsPo (x : Int × Int × Int) : Array Value := #[.int .i64 x.1, .int .i64 x.2.1, .int .i64 x.2.2]
theorem info_po : (Try.prog.info? 41).map (·.size) = some 3 := by kernel_rfl
theorem run_load_PO {W : World} {B : Nat} {cs : Array Value} (h : Blk W B cs 41) (hs : cs.size = 3) : (loadVar 41 ⟨B, 0, none⟩).run Try.prog W = .ok (.agg cs) W :=
  run_loadVar_row W B 41 41 cs _ _ h.at_ Try.underlying41 rfl (by rw [info_po, hs])
theorem wpList_load_PO {ops : Array Oper} {rest : List Oper} {op : Oper} {a : Act} {W : World} {Q : Exit → Act → World → Prop} (hgd : Region.wanted op (yielded ops a.tmps) = true) (x : Operand) (ho : op.op = .load 41 x)
    (g : Nat) (hx : a.eval x = .pointer (some ⟨g, 0, none⟩)) (cs : Array Value) (hk : Blk W g cs 41) (hs : cs.size = 3)
    (h : wpList Try.prog ops Q rest (a.put op.dst (.agg cs)) W) : wpList Try.prog ops Q (op :: rest) a W :=
  BigFrame.wpList_want hgd fun _ hK => by
    unfold Oper.wp execOp
    simp only [ho, hx, Instr.loadAt, Instr.sureAddr, Sem.run_bind, Sem.run_pure, Result.andThen_ok, run_load_PO hk hs]
    exact hK _ _ h
theorem wpList_store_PO {ops : Array Oper} {rest : List Oper} {op : Oper} {a : Act} {W : World} {Q : Exit → Act → World → Prop} (hgd : op.guard = none) (x y : Operand) (ho : op.op = .store 41 x y)
    (g : Nat) (cells : Array Value) (hx : a.eval x = .pointer (some ⟨g, 0, none⟩)) (hy : a.eval y = .agg cells) (old : Array Value) (hk : Blk W g old 41) (ho' : old.size = 3) (hs : cells.size = 3) (h1 : cells.all (·.oneCell') = true)
    (h : wpList Try.prog ops Q rest (a.put op.dst undef) (W.setRow g cells)) : wpList Try.prog ops Q (op :: rest) a W :=
  wpList_store_row hgd 41 x y ho g cells hx hy 41 old hk.at_ (by rw [info_po, hs]) (by rw [ho', hs]) h1 h
theorem one_po (x : Int × Int × Int) : (cellsPo x).all (·.oneCell') = true := by simp [cellsPo, Value.oneCell']
def PortsOut (w : World) (p : V4P) (e : Ending) (w' : World) : Prop := e = .returned (.tuple #[.agg (cellsPo (portsP p)), .int .i64 (codeP p)]) ∧ Below w.heap.size w w'
theorem PortsOut.no {w w' : World} {p : V4P} {k : Int} (hk : codeP p = k) (h0 : k ≠ 0) (hb : Below w.heap.size w w') : PortsOut w p (.returned (.tuple #[.agg (cellsPo (0, 0, 0)), .int .i64 k])) w' := by
  have hp : portsP p = (0, 0, 0) := by unfold portsP; rw [if_pos (by rw [hk]; exact h0)]
  exact ⟨by rw [hp, hk], hb⟩
theorem PortsOut.yes {w w' : World} {p : V4P} {x : Int × Int × Int} (hk : codeP p = 0) (hx : portsP p = x) (hb : Below w.heap.size w w') : PortsOut w p (.returned (.tuple #[.agg (cellsPo x), .int .i64 0])) w' :=
  ⟨by rw [hx, hk], hb⟩
end Go.Proofs.Ytmbmmpbfmakfbaa
