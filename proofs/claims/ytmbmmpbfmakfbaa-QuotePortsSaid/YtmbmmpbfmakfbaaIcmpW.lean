/- Messages of ICMP (icmp, and the reference): walks of WithID. -/
import Derived.Test.YtmbmmpbfmakfbaaIcmpT
set_option linter.unusedVariables false
namespace Go.Proofs.Ytmbmmpbfmakfbaa
open Go.RowKit

/-- A message with another identifier. -/
def withI (m : IcmpP) (id : Int) : IcmpP := ⟨m.t, m.cd, id % 65536 * 65536 + m.r % 65536, m.data⟩


end Go.Proofs.Ytmbmmpbfmakfbaa
