/- Packets of IPv4: v4.Same of two that are the same. -/
import Derived.Test.YtehecefapiblpaaGreatAwake12
import Derived.Test.YtehecefapiblpaaGreatAppend
import Derived.Deep.DeepCutAuto
import Derived.Deep.RegionWith
set_option linter.unusedVariables false
namespace Go.Proofs.YtehecefapiblpaaGreat
open Go Go.RowKit
attribute [local go_sem] Oper.semAt_some

theorem one_cells4 (p : V4P) (Ao : Option Addr) (no co : Nat) (A : Option Addr) (n c : Nat) : (cells4 p Ao no co A n c).all (·.oneCell') = true := by simp [cells4, Value.oneCell']
end Go.Proofs.YtehecefapiblpaaGreat
