/- Segments (the reference): walk of Parse. -/
import Derived.Test.YtehecefapiblpaaTcpPO
import Derived.Test.YtehecefapiblpaaAlc
set_option linter.unusedVariables false
namespace Go.Proofs.Ytehecefapiblpaa
open Go.RowKit

end Go.Proofs.Ytehecefapiblpaa
