/- The law SumRight: its walk. -/
import Derived.Test.YtehecefapiblpaaLaw02
import Derived.Test.YtehecefapiblpaaV4
import Derived.Test.YtehecefapiblpaaAppend
set_option linter.unusedVariables false
namespace Go.Proofs.Ytehecefapiblpaa
open Go.RowKit

end Go.Proofs.Ytehecefapiblpaa
