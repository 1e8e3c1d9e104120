/- Ports of a packet (the reference): icmp, Of. -/
import Derived.Test.YtehecefapiblpaaPortsO
import Derived.Test.YtehecefapiblpaaUdpPR
import Derived.Test.YtehecefapiblpaaTcpPR
import Derived.Test.YtehecefapiblpaaIcmpT
import Derived.Test.YtehecefapiblpaaV4R
set_option linter.unusedVariables false
namespace Go.Proofs.Ytehecefapiblpaa
open Go Go.RowKit

def icmpX (p : V4P) : (Int × Int × Int) × Int := if codeI p.data ≠ 0 then ((0, 0, 0), codeI p.data) else if queryI (readI p.data).t = true then ((1, idI (readI p.data), idI (readI p.data)), 0) else ((0, 0, 0), 8)
def PoOut (w : World) (x : Int × Int × Int) (k : Int) (e : Ending) (w' : World) : Prop := e = .returned (.tuple #[.agg (cellsPo x), .int .i64 k]) ∧ Below w.heap.size w w'
theorem portsP_no {p : V4P} (h : codeP p ≠ 0) : portsP p = (0, 0, 0) := by unfold portsP; rw [if_pos h]
end Go.Proofs.Ytehecefapiblpaa
