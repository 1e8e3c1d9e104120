/- The law PortsTake: its walk; awake of chapter 11. -/
import Derived.Test.YtmbmmpbfmakfbaaPortsF
import Derived.Test.YtmbmmpbfmakfbaaV4B
import Derived.Test.YtmbmmpbfmakfbaaV4L
import Derived.Test.YtmbmmpbfmakfbaaAwake12
set_option linter.unusedVariables false
namespace Go.Proofs.Ytmbmmpbfmakfbaa
open Go Go.RowKit
attribute [local go_sem] Oper.semAt_some

/-- The ports of a datagram's packet. -/
theorem dg_ports {src dst f t ttl : Int} {data : List Int} (h1 : 0 ≤ src ∧ src < 4294967296) (h2 : 0 ≤ dst ∧ dst < 4294967296) (h3 : 0 ≤ f ∧ f < 65536) (h4 : 0 ≤ t ∧ t < 65536) (h5 : 0 ≤ ttl ∧ ttl < 256) (hn : data.length ≤ 60000) (hb : Byts data) :
    codeP (dgP src dst f t ttl data) = 0 ∧ portsP (dgP src dst f t ttl data) = (17, f, t) := by
  obtain ⟨k1, k2, k3, k4⟩ := dg_ok (src := src) (dst := dst) h1 h2 h3 h4 h5 hn hb
  obtain ⟨b1, b2⟩ := backU (src := src) (dst := dst) (m := dgU f t data) (n := data.length) rfl k1 hb
  have hc : codeP (dgP src dst f t ttl data) = 0 := by
    unfold codeP
    rw [if_neg (by rw [k4]; decide), if_neg (by rw [show wholeB (dgP src dst f t ttl data) = true from rfl]; decide), if_pos (show (dgP src dst f t ttl data).pr = 17 from rfl)]
    exact b1
  refine ⟨hc, ?_⟩
  unfold portsP
  rw [if_neg (by rw [hc]; decide), if_pos (show (dgP src dst f t ttl data).pr = 17 from rfl)]
  show (17, (readU src dst (builtU src dst (dgU f t data))).s, (readU src dst (builtU src dst (dgU f t data))).d) = _
  rw [b2]; rfl
end Go.Proofs.Ytmbmmpbfmakfbaa
