/- Ports of a packet: Whole, within, Of. -/
import Derived.Test.YtmbmmpbfmakfbaaV4C
import Derived.Test.YtmbmmpbfmakfbaaRow4
import Derived.Test.YtmbmmpbfmakfbaaUdpP
import Derived.Test.YtmbmmpbfmakfbaaTcpPO
import Derived.Test.YtmbmmpbfmakfbaaIcmpP
import Derived.Test.YtmbmmpbfmakfbaaIcmpT
set_option linter.unusedVariables false
namespace Go.Proofs.Ytmbmmpbfmakfbaa
open Go Go.RowKit

def wholeB (p : V4P) : Bool := !p.mf && decide (p.off ≤ 0)
def codeP (p : V4P) : Int :=
  if chk4 p ≠ 0 then chk4 p else if wholeB p = false then 4 else if p.pr = 17 then codeU p.src p.dst p.data else if p.pr = 6 then codeT p.src p.dst p.data
  else if p.pr = 1 then (if codeI p.data ≠ 0 then codeI p.data else if queryI (readI p.data).t = true then 0 else 8) else 8
end Go.Proofs.Ytmbmmpbfmakfbaa
