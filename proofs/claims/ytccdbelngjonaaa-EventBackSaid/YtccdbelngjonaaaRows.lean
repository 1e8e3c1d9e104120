/-
  No cell of these rows narrows 'for every input' (looked for: loops, veiled, ifaces, maps, wideKeys, modest, calm, conditions, laid).
  DERIVED. THE GIVEN ROWS OF THIS SEAT. 12 by the template 'for every input the law returns true; each argument reads behind the call as it read before'; 0 by the template 'total and deterministic' (their statements: YtccdbelngjonaaaTotals.lean).
  GIVEN WITH THE SEED: the statements are not yours to turn. If you find one false, say at which input.
  Laid BY PROGRAM, IN A SANDBOX (cutbox-rows.mjs): the forced cells as the released guide's own fill.sh prints them over the translation e7b2b6e4fe841235… (all of the seat's roots in one cut). By AI agents, Wed Nov 11 2026. No macro, syntax, notation, axiom, sorry.
-/
import Derived.Test.YtccdbelngjonaaaChecked
import GoSem.Claim
import GoSem.ClaimJoined
import GoSem.ClaimMapViews
import Derived.JoinedTies
import Derived.KernelRfl
namespace Go.Proofs.Ytccdbelngjonaaa
/- THE CELL 'sum', in the pinned program and in every row, IS THE sha256 OF THE DUMP (.gsa) THAT YtccdbelngjonaaaProg.lean LOADS. Nothing in Lean hashes anything: it is a label: what it is worth is what the hold of that sum in a sandbox is worth. -/
noncomputable def Try.pinned : Pinned := { name := "ytccdbelngjonaaa", sum := "e7b2b6e4fe841235da9c312b5d9ff0913112c56a802e746e42af04d7338ca016", checked := Try.checked }
namespace Rows
def none {H : Type} : Left H := { results := [], args := [] }

/-- 'goosepondlaw36.EventParses': WHATEVER THE INPUT: true; the input reads as it did. -/
def eventParsesSpec : ChangeSpec := { name := "eventParses", fn := fun _ => fun
  | [d] => { results := [.lit (.bool true)], args := [d] }
  | _ => none }
def eventParsesRow : OpenClaim := { program := "ytccdbelngjonaaa", sum := "e7b2b6e4fe841235da9c312b5d9ff0913112c56a802e746e42af04d7338ca016", func := "goosepond/goosepondlaw36.EventParses", spec := "eventParses", unfollowed := true, recurses := true, apart := false }
def EventParsesSaid : Prop := eventParsesRow.holds Try.pinned (OpenSpec.ofChange eventParsesSpec)

/-- ITS FALSE NEIGHBOUR: 'it returns false'. Refute it at one input. -/
def eventParsesWrong : ChangeSpec := { name := "eventParses", fn := fun _ => fun
  | [d] => { results := [.lit (.bool false)], args := [d] }
  | _ => none }
def EventParsesWrongFalsely : Prop := eventParsesRow.holds Try.pinned (OpenSpec.ofChange eventParsesWrong)

/-- 'goosepondlaw36.EventCodes': WHATEVER THE INPUT: true; the input reads as it did. -/
def eventCodesSpec : ChangeSpec := { name := "eventCodes", fn := fun _ => fun
  | [d1, d2] => { results := [.lit (.bool true)], args := [d1, d2] }
  | _ => none }
def eventCodesRow : OpenClaim := { program := "ytccdbelngjonaaa", sum := "e7b2b6e4fe841235da9c312b5d9ff0913112c56a802e746e42af04d7338ca016", func := "goosepond/goosepondlaw36.EventCodes", spec := "eventCodes", unfollowed := true, recurses := true, apart := false }
def EventCodesSaid : Prop := eventCodesRow.holds Try.pinned (OpenSpec.ofChange eventCodesSpec)

/-- ITS FALSE NEIGHBOUR: 'it returns false'. Refute it at one input. -/
def eventCodesWrong : ChangeSpec := { name := "eventCodes", fn := fun _ => fun
  | [d1, d2] => { results := [.lit (.bool false)], args := [d1, d2] }
  | _ => none }
def EventCodesWrongFalsely : Prop := eventCodesRow.holds Try.pinned (OpenSpec.ofChange eventCodesWrong)

/-- 'goosepondlaw36.EventBack': WHATEVER THE INPUT: true; the input reads as it did. -/
def eventBackSpec : ChangeSpec := { name := "eventBack", fn := fun _ => fun
  | [d] => { results := [.lit (.bool true)], args := [d] }
  | _ => none }
def eventBackRow : OpenClaim := { program := "ytccdbelngjonaaa", sum := "e7b2b6e4fe841235da9c312b5d9ff0913112c56a802e746e42af04d7338ca016", func := "goosepond/goosepondlaw36.EventBack", spec := "eventBack", unfollowed := true, recurses := true, apart := false }
def EventBackSaid : Prop := eventBackRow.holds Try.pinned (OpenSpec.ofChange eventBackSpec)

/-- ITS FALSE NEIGHBOUR: 'it returns false'. Refute it at one input. -/
def eventBackWrong : ChangeSpec := { name := "eventBack", fn := fun _ => fun
  | [d] => { results := [.lit (.bool false)], args := [d] }
  | _ => none }
def EventBackWrongFalsely : Prop := eventBackRow.holds Try.pinned (OpenSpec.ofChange eventBackWrong)

/-- 'goosepondlaw43.PcpPlain': WHATEVER THE INPUT: true; the input reads as it did. -/
def pcpPlainSpec : ChangeSpec := { name := "pcpPlain", fn := fun _ => fun
  | [d1, d2] => { results := [.lit (.bool true)], args := [d1, d2] }
  | _ => none }
def pcpPlainRow : OpenClaim := { program := "ytccdbelngjonaaa", sum := "e7b2b6e4fe841235da9c312b5d9ff0913112c56a802e746e42af04d7338ca016", func := "goosepond/goosepondlaw43.PcpPlain", spec := "pcpPlain", unfollowed := true, recurses := true, apart := false }
def PcpPlainSaid : Prop := pcpPlainRow.holds Try.pinned (OpenSpec.ofChange pcpPlainSpec)

/-- ITS FALSE NEIGHBOUR: 'it returns false'. Refute it at one input. -/
def pcpPlainWrong : ChangeSpec := { name := "pcpPlain", fn := fun _ => fun
  | [d1, d2] => { results := [.lit (.bool false)], args := [d1, d2] }
  | _ => none }
def PcpPlainWrongFalsely : Prop := pcpPlainRow.holds Try.pinned (OpenSpec.ofChange pcpPlainWrong)

/-- 'goosepondlaw43.PcpParses': WHATEVER THE INPUT: true; the input reads as it did. -/
def pcpParsesSpec : ChangeSpec := { name := "pcpParses", fn := fun _ => fun
  | [d] => { results := [.lit (.bool true)], args := [d] }
  | _ => none }
def pcpParsesRow : OpenClaim := { program := "ytccdbelngjonaaa", sum := "e7b2b6e4fe841235da9c312b5d9ff0913112c56a802e746e42af04d7338ca016", func := "goosepond/goosepondlaw43.PcpParses", spec := "pcpParses", unfollowed := true, recurses := true, apart := false }
def PcpParsesSaid : Prop := pcpParsesRow.holds Try.pinned (OpenSpec.ofChange pcpParsesSpec)

/-- ITS FALSE NEIGHBOUR: 'it returns false'. Refute it at one input. -/
def pcpParsesWrong : ChangeSpec := { name := "pcpParses", fn := fun _ => fun
  | [d] => { results := [.lit (.bool false)], args := [d] }
  | _ => none }
def PcpParsesWrongFalsely : Prop := pcpParsesRow.holds Try.pinned (OpenSpec.ofChange pcpParsesWrong)

/-- 'goosepondlaw43.PcpBuilds': WHATEVER THE INPUT: true; the input reads as it did. -/
def pcpBuildsSpec : ChangeSpec := { name := "pcpBuilds", fn := fun _ => fun
  | [d1, d2, d3] => { results := [.lit (.bool true)], args := [d1, d2, d3] }
  | _ => none }
def pcpBuildsRow : OpenClaim := { program := "ytccdbelngjonaaa", sum := "e7b2b6e4fe841235da9c312b5d9ff0913112c56a802e746e42af04d7338ca016", func := "goosepond/goosepondlaw43.PcpBuilds", spec := "pcpBuilds", unfollowed := true, recurses := true, apart := false }
def PcpBuildsSaid : Prop := pcpBuildsRow.holds Try.pinned (OpenSpec.ofChange pcpBuildsSpec)

/-- ITS FALSE NEIGHBOUR: 'it returns false'. Refute it at one input. -/
def pcpBuildsWrong : ChangeSpec := { name := "pcpBuilds", fn := fun _ => fun
  | [d1, d2, d3] => { results := [.lit (.bool false)], args := [d1, d2, d3] }
  | _ => none }
def PcpBuildsWrongFalsely : Prop := pcpBuildsRow.holds Try.pinned (OpenSpec.ofChange pcpBuildsWrong)

/-- 'goosepondlaw43.PcpBack': WHATEVER THE INPUT: true; the input reads as it did. -/
def pcpBackSpec : ChangeSpec := { name := "pcpBack", fn := fun _ => fun
  | [d] => { results := [.lit (.bool true)], args := [d] }
  | _ => none }
def pcpBackRow : OpenClaim := { program := "ytccdbelngjonaaa", sum := "e7b2b6e4fe841235da9c312b5d9ff0913112c56a802e746e42af04d7338ca016", func := "goosepond/goosepondlaw43.PcpBack", spec := "pcpBack", unfollowed := true, recurses := true, apart := false }
def PcpBackSaid : Prop := pcpBackRow.holds Try.pinned (OpenSpec.ofChange pcpBackSpec)

/-- ITS FALSE NEIGHBOUR: 'it returns false'. Refute it at one input. -/
def pcpBackWrong : ChangeSpec := { name := "pcpBack", fn := fun _ => fun
  | [d] => { results := [.lit (.bool false)], args := [d] }
  | _ => none }
def PcpBackWrongFalsely : Prop := pcpBackRow.holds Try.pinned (OpenSpec.ofChange pcpBackWrong)

/-- 'goosepondlaw08.TcpBuilds': WHATEVER THE INPUT: true; the input reads as it did. -/
def tcpBuildsSpec : ChangeSpec := { name := "tcpBuilds", fn := fun _ => fun
  | [d1, d2, d3, d4] => { results := [.lit (.bool true)], args := [d1, d2, d3, d4] }
  | _ => none }
def tcpBuildsRow : OpenClaim := { program := "ytccdbelngjonaaa", sum := "e7b2b6e4fe841235da9c312b5d9ff0913112c56a802e746e42af04d7338ca016", func := "goosepond/goosepondlaw08.TcpBuilds", spec := "tcpBuilds", unfollowed := true, recurses := true, apart := false }
def TcpBuildsSaid : Prop := tcpBuildsRow.holds Try.pinned (OpenSpec.ofChange tcpBuildsSpec)

/-- ITS FALSE NEIGHBOUR: 'it returns false'. Refute it at one input. -/
def tcpBuildsWrong : ChangeSpec := { name := "tcpBuilds", fn := fun _ => fun
  | [d1, d2, d3, d4] => { results := [.lit (.bool false)], args := [d1, d2, d3, d4] }
  | _ => none }
def TcpBuildsWrongFalsely : Prop := tcpBuildsRow.holds Try.pinned (OpenSpec.ofChange tcpBuildsWrong)

/-- 'goosepondlaw08.TcpParses': WHATEVER THE INPUT: true; the input reads as it did. -/
def tcpParsesSpec : ChangeSpec := { name := "tcpParses", fn := fun _ => fun
  | [d1, d2, d3] => { results := [.lit (.bool true)], args := [d1, d2, d3] }
  | _ => none }
def tcpParsesRow : OpenClaim := { program := "ytccdbelngjonaaa", sum := "e7b2b6e4fe841235da9c312b5d9ff0913112c56a802e746e42af04d7338ca016", func := "goosepond/goosepondlaw08.TcpParses", spec := "tcpParses", unfollowed := true, recurses := true, apart := false }
def TcpParsesSaid : Prop := tcpParsesRow.holds Try.pinned (OpenSpec.ofChange tcpParsesSpec)

/-- ITS FALSE NEIGHBOUR: 'it returns false'. Refute it at one input. -/
def tcpParsesWrong : ChangeSpec := { name := "tcpParses", fn := fun _ => fun
  | [d1, d2, d3] => { results := [.lit (.bool false)], args := [d1, d2, d3] }
  | _ => none }
def TcpParsesWrongFalsely : Prop := tcpParsesRow.holds Try.pinned (OpenSpec.ofChange tcpParsesWrong)

/-- 'goosepondlaw08.TcpOptions': WHATEVER THE INPUT: true; the input reads as it did. -/
def tcpOptionsSpec : ChangeSpec := { name := "tcpOptions", fn := fun _ => fun
  | [d1, d2] => { results := [.lit (.bool true)], args := [d1, d2] }
  | _ => none }
def tcpOptionsRow : OpenClaim := { program := "ytccdbelngjonaaa", sum := "e7b2b6e4fe841235da9c312b5d9ff0913112c56a802e746e42af04d7338ca016", func := "goosepond/goosepondlaw08.TcpOptions", spec := "tcpOptions", unfollowed := true, recurses := true, apart := false }
def TcpOptionsSaid : Prop := tcpOptionsRow.holds Try.pinned (OpenSpec.ofChange tcpOptionsSpec)

/-- ITS FALSE NEIGHBOUR: 'it returns false'. Refute it at one input. -/
def tcpOptionsWrong : ChangeSpec := { name := "tcpOptions", fn := fun _ => fun
  | [d1, d2] => { results := [.lit (.bool false)], args := [d1, d2] }
  | _ => none }
def TcpOptionsWrongFalsely : Prop := tcpOptionsRow.holds Try.pinned (OpenSpec.ofChange tcpOptionsWrong)

/-- 'goosepondlaw08.TcpBack': WHATEVER THE INPUT: true; the input reads as it did. -/
def tcpBackSpec : ChangeSpec := { name := "tcpBack", fn := fun _ => fun
  | [d1, d2, d3] => { results := [.lit (.bool true)], args := [d1, d2, d3] }
  | _ => none }
def tcpBackRow : OpenClaim := { program := "ytccdbelngjonaaa", sum := "e7b2b6e4fe841235da9c312b5d9ff0913112c56a802e746e42af04d7338ca016", func := "goosepond/goosepondlaw08.TcpBack", spec := "tcpBack", unfollowed := true, recurses := true, apart := false }
def TcpBackSaid : Prop := tcpBackRow.holds Try.pinned (OpenSpec.ofChange tcpBackSpec)

/-- ITS FALSE NEIGHBOUR: 'it returns false'. Refute it at one input. -/
def tcpBackWrong : ChangeSpec := { name := "tcpBack", fn := fun _ => fun
  | [d1, d2, d3] => { results := [.lit (.bool false)], args := [d1, d2, d3] }
  | _ => none }
def TcpBackWrongFalsely : Prop := tcpBackRow.holds Try.pinned (OpenSpec.ofChange tcpBackWrong)

/-- 'goosepondlaw12.ClampLeast': WHATEVER THE INPUT: true; the input reads as it did. -/
def clampLeastSpec : ChangeSpec := { name := "clampLeast", fn := fun _ => fun
  | [d1, d2] => { results := [.lit (.bool true)], args := [d1, d2] }
  | _ => none }
def clampLeastRow : OpenClaim := { program := "ytccdbelngjonaaa", sum := "e7b2b6e4fe841235da9c312b5d9ff0913112c56a802e746e42af04d7338ca016", func := "goosepond/goosepondlaw12.ClampLeast", spec := "clampLeast", unfollowed := true, recurses := true, apart := false }
def ClampLeastSaid : Prop := clampLeastRow.holds Try.pinned (OpenSpec.ofChange clampLeastSpec)

/-- ITS FALSE NEIGHBOUR: 'it returns false'. Refute it at one input. -/
def clampLeastWrong : ChangeSpec := { name := "clampLeast", fn := fun _ => fun
  | [d1, d2] => { results := [.lit (.bool false)], args := [d1, d2] }
  | _ => none }
def ClampLeastWrongFalsely : Prop := clampLeastRow.holds Try.pinned (OpenSpec.ofChange clampLeastWrong)

/- THE SECOND FORM. 'bulk': how many values and letters a reading holds, each counted each time it is reached (what is shared counts as often as it is met; a slice's spare places count too). A statement '..UptoSaid' is the law's where the arguments, and the package variables that the reading takes, are together of bulk at most 1048576: NARROWER than '..Said'. Prove '..Said' where nothing that the law and all that it calls make is longer than what came in: it says more and counts as full. Else prove '..UptoSaid'. A law counts once. -/
mutual
def uptoBulk {H : Type} : DataW H → Nat
  | .lit (.string bytes) => bytes.length + 1
  | .lit _ => 1
  | .nil => 1
  | .ptr d => uptoBulk d + 1
  | .slice elems spare => uptoBulkAll elems + uptoBulkAll spare + 1
  | .agg parts => uptoBulkAll parts + 1
  | .iface _ d => uptoBulk d + 1
  | .map entries => uptoBulkEntries entries + 1
  | .held _ => 1
def uptoBulkAll {H : Type} : List (DataW H) → Nat
  | [] => 0
  | d :: r => uptoBulk d + uptoBulkAll r
def uptoBulkEntries {H : Type} : List (Lit × DataW H) → Nat
  | [] => 0
  | x :: r => uptoBulkEntry x + uptoBulkEntries r
def uptoBulkEntry {H : Type} : Lit × DataW H → Nat
  | (.string bytes, d) => bytes.length + uptoBulk d + 1
  | (_, d) => uptoBulk d + 1
 end
def uptoSmall : (H : Type) → List (DataW H) → Bool := fun _ ds => decide (uptoBulkAll ds ≤ 1048576)
def OpenSpec.upto (s : _root_.Go.ChangeSpec) : _root_.Go.OpenSpec := { _root_.Go.OpenSpec.ofChange s with cond := some uptoSmall }

/-- 'goosepondlaw36.EventParses', WHERE WHAT IT READS IS OF BULK AT MOST 1048576: true; the input reads as it did. -/
def eventParsesUptoRow : OpenClaim := { program := "ytccdbelngjonaaa", sum := "e7b2b6e4fe841235da9c312b5d9ff0913112c56a802e746e42af04d7338ca016", func := "goosepond/goosepondlaw36.EventParses", spec := "eventParses", unfollowed := true, recurses := true, apart := false, narrowed := true }
def EventParsesUptoSaid : Prop := eventParsesUptoRow.holds Try.pinned (OpenSpec.upto eventParsesSpec)

/-- 'goosepondlaw36.EventCodes', WHERE WHAT IT READS IS OF BULK AT MOST 1048576: true; the input reads as it did. -/
def eventCodesUptoRow : OpenClaim := { program := "ytccdbelngjonaaa", sum := "e7b2b6e4fe841235da9c312b5d9ff0913112c56a802e746e42af04d7338ca016", func := "goosepond/goosepondlaw36.EventCodes", spec := "eventCodes", unfollowed := true, recurses := true, apart := false, narrowed := true }
def EventCodesUptoSaid : Prop := eventCodesUptoRow.holds Try.pinned (OpenSpec.upto eventCodesSpec)

/-- 'goosepondlaw36.EventBack', WHERE WHAT IT READS IS OF BULK AT MOST 1048576: true; the input reads as it did. -/
def eventBackUptoRow : OpenClaim := { program := "ytccdbelngjonaaa", sum := "e7b2b6e4fe841235da9c312b5d9ff0913112c56a802e746e42af04d7338ca016", func := "goosepond/goosepondlaw36.EventBack", spec := "eventBack", unfollowed := true, recurses := true, apart := false, narrowed := true }
def EventBackUptoSaid : Prop := eventBackUptoRow.holds Try.pinned (OpenSpec.upto eventBackSpec)

/-- 'goosepondlaw43.PcpPlain', WHERE WHAT IT READS IS OF BULK AT MOST 1048576: true; the input reads as it did. -/
def pcpPlainUptoRow : OpenClaim := { program := "ytccdbelngjonaaa", sum := "e7b2b6e4fe841235da9c312b5d9ff0913112c56a802e746e42af04d7338ca016", func := "goosepond/goosepondlaw43.PcpPlain", spec := "pcpPlain", unfollowed := true, recurses := true, apart := false, narrowed := true }
def PcpPlainUptoSaid : Prop := pcpPlainUptoRow.holds Try.pinned (OpenSpec.upto pcpPlainSpec)

/-- 'goosepondlaw43.PcpParses', WHERE WHAT IT READS IS OF BULK AT MOST 1048576: true; the input reads as it did. -/
def pcpParsesUptoRow : OpenClaim := { program := "ytccdbelngjonaaa", sum := "e7b2b6e4fe841235da9c312b5d9ff0913112c56a802e746e42af04d7338ca016", func := "goosepond/goosepondlaw43.PcpParses", spec := "pcpParses", unfollowed := true, recurses := true, apart := false, narrowed := true }
def PcpParsesUptoSaid : Prop := pcpParsesUptoRow.holds Try.pinned (OpenSpec.upto pcpParsesSpec)

/-- 'goosepondlaw43.PcpBuilds', WHERE WHAT IT READS IS OF BULK AT MOST 1048576: true; the input reads as it did. -/
def pcpBuildsUptoRow : OpenClaim := { program := "ytccdbelngjonaaa", sum := "e7b2b6e4fe841235da9c312b5d9ff0913112c56a802e746e42af04d7338ca016", func := "goosepond/goosepondlaw43.PcpBuilds", spec := "pcpBuilds", unfollowed := true, recurses := true, apart := false, narrowed := true }
def PcpBuildsUptoSaid : Prop := pcpBuildsUptoRow.holds Try.pinned (OpenSpec.upto pcpBuildsSpec)

/-- 'goosepondlaw43.PcpBack', WHERE WHAT IT READS IS OF BULK AT MOST 1048576: true; the input reads as it did. -/
def pcpBackUptoRow : OpenClaim := { program := "ytccdbelngjonaaa", sum := "e7b2b6e4fe841235da9c312b5d9ff0913112c56a802e746e42af04d7338ca016", func := "goosepond/goosepondlaw43.PcpBack", spec := "pcpBack", unfollowed := true, recurses := true, apart := false, narrowed := true }
def PcpBackUptoSaid : Prop := pcpBackUptoRow.holds Try.pinned (OpenSpec.upto pcpBackSpec)

/-- 'goosepondlaw08.TcpBuilds', WHERE WHAT IT READS IS OF BULK AT MOST 1048576: true; the input reads as it did. -/
def tcpBuildsUptoRow : OpenClaim := { program := "ytccdbelngjonaaa", sum := "e7b2b6e4fe841235da9c312b5d9ff0913112c56a802e746e42af04d7338ca016", func := "goosepond/goosepondlaw08.TcpBuilds", spec := "tcpBuilds", unfollowed := true, recurses := true, apart := false, narrowed := true }
def TcpBuildsUptoSaid : Prop := tcpBuildsUptoRow.holds Try.pinned (OpenSpec.upto tcpBuildsSpec)

/-- 'goosepondlaw08.TcpParses', WHERE WHAT IT READS IS OF BULK AT MOST 1048576: true; the input reads as it did. -/
def tcpParsesUptoRow : OpenClaim := { program := "ytccdbelngjonaaa", sum := "e7b2b6e4fe841235da9c312b5d9ff0913112c56a802e746e42af04d7338ca016", func := "goosepond/goosepondlaw08.TcpParses", spec := "tcpParses", unfollowed := true, recurses := true, apart := false, narrowed := true }
def TcpParsesUptoSaid : Prop := tcpParsesUptoRow.holds Try.pinned (OpenSpec.upto tcpParsesSpec)

/-- 'goosepondlaw08.TcpOptions', WHERE WHAT IT READS IS OF BULK AT MOST 1048576: true; the input reads as it did. -/
def tcpOptionsUptoRow : OpenClaim := { program := "ytccdbelngjonaaa", sum := "e7b2b6e4fe841235da9c312b5d9ff0913112c56a802e746e42af04d7338ca016", func := "goosepond/goosepondlaw08.TcpOptions", spec := "tcpOptions", unfollowed := true, recurses := true, apart := false, narrowed := true }
def TcpOptionsUptoSaid : Prop := tcpOptionsUptoRow.holds Try.pinned (OpenSpec.upto tcpOptionsSpec)

/-- 'goosepondlaw08.TcpBack', WHERE WHAT IT READS IS OF BULK AT MOST 1048576: true; the input reads as it did. -/
def tcpBackUptoRow : OpenClaim := { program := "ytccdbelngjonaaa", sum := "e7b2b6e4fe841235da9c312b5d9ff0913112c56a802e746e42af04d7338ca016", func := "goosepond/goosepondlaw08.TcpBack", spec := "tcpBack", unfollowed := true, recurses := true, apart := false, narrowed := true }
def TcpBackUptoSaid : Prop := tcpBackUptoRow.holds Try.pinned (OpenSpec.upto tcpBackSpec)

/-- 'goosepondlaw12.ClampLeast', WHERE WHAT IT READS IS OF BULK AT MOST 1048576: true; the input reads as it did. -/
def clampLeastUptoRow : OpenClaim := { program := "ytccdbelngjonaaa", sum := "e7b2b6e4fe841235da9c312b5d9ff0913112c56a802e746e42af04d7338ca016", func := "goosepond/goosepondlaw12.ClampLeast", spec := "clampLeast", unfollowed := true, recurses := true, apart := false, narrowed := true }
def ClampLeastUptoSaid : Prop := clampLeastUptoRow.holds Try.pinned (OpenSpec.upto clampLeastSpec)

end Rows
end Go.Proofs.Ytccdbelngjonaaa
