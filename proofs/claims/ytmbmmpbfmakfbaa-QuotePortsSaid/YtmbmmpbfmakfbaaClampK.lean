/- clamp: walk of Packet. -/
import Derived.Test.YtmbmmpbfmakfbaaClampP
import Derived.Test.YtmbmmpbfmakfbaaPortsO
import Derived.Test.YtmbmmpbfmakfbaaConcat
import Derived.Test.YtmbmmpbfmakfbaaRow4
import Derived.Deep.RegionWith
import Derived.Deep.DeepCutAuto
import Derived.Deep.WholeRow
set_option linter.unusedVariables false
namespace Go.Proofs.Ytmbmmpbfmakfbaa
open Go Go.RowKit
attribute [local go_sem] Oper.semAt_some

/-- A packet is answered, in slices of some capacity. -/
def PackOut (w : World) (q : V4P) (e : Ending) (w' : World) : Prop :=
  ∃ Ao no co A n c, e = .returned (.agg (cells4 q Ao no co A n c)) ∧ RB w' Ao no co q.opts ∧ RB w' A n c q.data ∧ Below w.heap.size w w'
theorem PackOut.row {w W : World} {q : V4P} {Ao : Option Addr} {no co : Nat} {A : Option Addr} {n c : Nat} {B : Nat} {p z : V4P} {b : Int} (hq : packC p b = q) (kz : Blk W B (cells4 z none 0 0 none 0 0) 32) (ho : RB W Ao no co q.opts) (hd : RB W A n c q.data) (hb : Below w.heap.size w W) (hB : w.heap.size ≤ B) :
    PackOut w (packC p b) (.returned (.agg (cells4 q Ao no co A n c))) (W.setRow B (cells4 q Ao no co A n c)) := by
  rw [hq]
  exact ⟨Ao, no, co, A, n, c, rfl, ho.farRow (nbc4 kz) _, hd.farRow (nbc4 kz) _, below_row hb hB _⟩
end Go.Proofs.Ytmbmmpbfmakfbaa
