/- Ports of a packet: walks of pick, and of what is within: with, build. -/
import Derived.Test.YtmbmmpbfmakfbaaPortsM
import Derived.Test.YtmbmmpbfmakfbaaConcat
import Derived.Deep.RegionWith
import Derived.Deep.DeepCutAuto
set_option linter.unusedVariables false
namespace Go.Proofs.Ytmbmmpbfmakfbaa
open Go Go.RowKit

theorem info_udpW : (Try.prog.info? 36).map (·.size) = some 4 := by kernel_rfl
theorem info_icmpW : (Try.prog.info? 49).map (·.size) = some 4 := by kernel_rfl

end Go.Proofs.Ytmbmmpbfmakfbaa
