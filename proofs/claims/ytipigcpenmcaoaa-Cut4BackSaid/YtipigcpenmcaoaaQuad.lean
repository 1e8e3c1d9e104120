/- Structs of three numbers and bytes. -/
import Derived.Test.YtipigcpenmcaoaaBase
import Derived.Test.YtipigcpenmcaoaaMem
set_option linter.unusedVariables false
namespace Go.Proofs.Ytipigcpenmcaoaa
open Go.RowKit

structure QP where
  x : Int
  y : Int
  z : Int
  data : List Int
abbrev cellsQ (q : QP) (A : Option Addr) (n c : Nat) : Array Value := #[.int .i64 q.x, .int .i64 q.y, .int .i64 q.z, .slice A n c]
def zeroQ : QP := ⟨0, 0, 0, []⟩
abbrev zeroQc : Array Value := #[.int .i64 0, .int .i64 0, .int .i64 0, .slice none 0 0]
def sameQ (p q : QP) : Bool := p.x == q.x && p.y == q.y && p.z == q.z && p.data == q.data
theorem sameQ_refl (p : QP) : sameQ p p = true := by simp [sameQ]
theorem qcells {W : World} {B : Nat} {T : TypeId} {q : QP} {A : Option Addr} {n c : Nat} (h : Blk W B (cellsQ q A n c) T) :
    W.cell? ⟨B, 0, none⟩ = some (.int .i64 q.x) ∧ W.cell? ⟨B, 1, none⟩ = some (.int .i64 q.y) ∧ W.cell? ⟨B, 2, none⟩ = some (.int .i64 q.z) ∧ W.cell? ⟨B, 3, none⟩ = some (.slice A n c) :=
  ⟨h.cell 0 _ rfl, h.cell 1 _ rfl, h.cell 2 _ rfl, h.cell 3 _ rfl⟩
theorem one_Q (q : QP) (A : Option Addr) (n c : Nat) : (cellsQ q A n c).all (·.oneCell') = true := by simp [Value.oneCell']
end Go.Proofs.Ytipigcpenmcaoaa
