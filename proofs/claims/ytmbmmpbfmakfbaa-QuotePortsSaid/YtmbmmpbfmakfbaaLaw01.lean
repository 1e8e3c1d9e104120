/- The laws of be: awake, BeGets, BeBack: walks. -/
import Derived.Test.YtmbmmpbfmakfbaaSeq
import Derived.Test.YtmbmmpbfmakfbaaBase
import Derived.Test.YtmbmmpbfmakfbaaAppend
set_option linter.unusedVariables false
namespace Go.Proofs.Ytmbmmpbfmakfbaa
open Go.RowKit

theorem b123 : Byts [1, 2, 3] := by unfold Byts; decide
theorem b12 : Byts [1, 2] := by unfold Byts; decide
theorem get_b123 : getV [1, 2, 3] 1 2 = (515, 0) := by decide
theorem dig258 : digL 258 2 = [1, 2] := by decide

end Go.Proofs.Ytmbmmpbfmakfbaa
