/- The law SumRight: its walk. -/
import Derived.Test.YtmbmmpbfmakfbaaLaw02
import Derived.Test.YtmbmmpbfmakfbaaV4
import Derived.Test.YtmbmmpbfmakfbaaAppend
set_option linter.unusedVariables false
namespace Go.Proofs.Ytmbmmpbfmakfbaa
open Go.RowKit

end Go.Proofs.Ytmbmmpbfmakfbaa
