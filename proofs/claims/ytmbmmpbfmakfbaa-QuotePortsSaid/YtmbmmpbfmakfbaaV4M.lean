/- Packets of IPv4: v4.Same of two that are the same. -/
import Derived.Test.YtmbmmpbfmakfbaaAwake12
import Derived.Test.YtmbmmpbfmakfbaaAppend
import Derived.Deep.DeepCutAuto
import Derived.Deep.RegionWith
set_option linter.unusedVariables false
namespace Go.Proofs.Ytmbmmpbfmakfbaa
open Go Go.RowKit
attribute [local go_sem] Oper.semAt_some

theorem en_V4BEq (args : Array Value) (w : World) : (callFunc 14 args).run Try.prog w = .ok (.enter 14 args) w := enters Try.func14 (by kernel_rfl) (by kernel_rfl) args w
theorem one_cells4 (p : V4P) (Ao : Option Addr) (no co : Nat) (A : Option Addr) (n c : Nat) : (cells4 p Ao no co A n c).all (·.oneCell') = true := by simp [cells4, Value.oneCell']
end Go.Proofs.Ytmbmmpbfmakfbaa
