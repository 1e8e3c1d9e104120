/- Segments (the reference): walk of Parse. -/
import Derived.Test.YtmbmmpbfmakfbaaTcpPO
import Derived.Test.YtmbmmpbfmakfbaaAlc
set_option linter.unusedVariables false
namespace Go.Proofs.Ytmbmmpbfmakfbaa
open Go.RowKit

end Go.Proofs.Ytmbmmpbfmakfbaa
