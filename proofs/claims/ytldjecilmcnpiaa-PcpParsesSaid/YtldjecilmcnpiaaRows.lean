/-
  No cell of these rows narrows 'for every input' (looked for: loops, veiled, ifaces, maps, wideKeys, modest, calm, conditions, laid).
  DERIVED. THE GIVEN ROWS OF THIS SEAT. 9 by the template 'for every input the law returns true; each argument reads behind the call as it read before'; 0 by the template 'total and deterministic' (their statements: YtldjecilmcnpiaaTotals.lean).
  GIVEN WITH THE SEED: the statements are not yours to turn. If you find one false, say at which input.
  Laid BY PROGRAM, IN A SANDBOX (cutbox-rows.mjs): the forced cells as the released guide's own fill.sh prints them over the translation ebac44fde38a6f5a… (all of the seat's roots in one cut). By AI agents, Wed Nov 11 2026. No macro, syntax, notation, axiom, sorry.
-/
import Derived.Test.YtldjecilmcnpiaaChecked
import GoSem.Claim
import GoSem.ClaimJoined
import GoSem.ClaimMapViews
import Derived.JoinedTies
import Derived.KernelRfl
namespace Go.Proofs.Ytldjecilmcnpiaa
/- THE CELL 'sum', in the pinned program and in every row, IS THE sha256 OF THE DUMP (.gsa) THAT YtldjecilmcnpiaaProg.lean LOADS. Nothing in Lean hashes anything: it is a label: what it is worth is what the hold of that sum in a sandbox is worth. -/
noncomputable def Try.pinned : Pinned := { name := "ytldjecilmcnpiaa", sum := "ebac44fde38a6f5a1b312203f40bfbcc5109652b55ea2bc52d5df1acf0012d99", checked := Try.checked }
namespace Rows
def none {H : Type} : Left H := { results := [], args := [] }

/-- 'goosepondlaw13.Cut4Cuts': WHATEVER THE INPUT: true; the input reads as it did. -/
def cut4CutsSpec : ChangeSpec := { name := "cut4Cuts", fn := fun _ => fun
  | [d1, d2, d3] => { results := [.lit (.bool true)], args := [d1, d2, d3] }
  | _ => none }
def cut4CutsRow : OpenClaim := { program := "ytldjecilmcnpiaa", sum := "ebac44fde38a6f5a1b312203f40bfbcc5109652b55ea2bc52d5df1acf0012d99", func := "goosepond/goosepondlaw13.Cut4Cuts", spec := "cut4Cuts", unfollowed := true, recurses := true, apart := false }
def Cut4CutsSaid : Prop := cut4CutsRow.holds Try.pinned (OpenSpec.ofChange cut4CutsSpec)

/-- ITS FALSE NEIGHBOUR: 'it returns false'. Refute it at one input. -/
def cut4CutsWrong : ChangeSpec := { name := "cut4Cuts", fn := fun _ => fun
  | [d1, d2, d3] => { results := [.lit (.bool false)], args := [d1, d2, d3] }
  | _ => none }
def Cut4CutsWrongFalsely : Prop := cut4CutsRow.holds Try.pinned (OpenSpec.ofChange cut4CutsWrong)

/-- 'goosepondlaw13.Cut4Glues': WHATEVER THE INPUT: true; the input reads as it did. -/
def cut4GluesSpec : ChangeSpec := { name := "cut4Glues", fn := fun _ => fun
  | [d] => { results := [.lit (.bool true)], args := [d] }
  | _ => none }
def cut4GluesRow : OpenClaim := { program := "ytldjecilmcnpiaa", sum := "ebac44fde38a6f5a1b312203f40bfbcc5109652b55ea2bc52d5df1acf0012d99", func := "goosepond/goosepondlaw13.Cut4Glues", spec := "cut4Glues", unfollowed := true, recurses := true, apart := false }
def Cut4GluesSaid : Prop := cut4GluesRow.holds Try.pinned (OpenSpec.ofChange cut4GluesSpec)

/-- ITS FALSE NEIGHBOUR: 'it returns false'. Refute it at one input. -/
def cut4GluesWrong : ChangeSpec := { name := "cut4Glues", fn := fun _ => fun
  | [d] => { results := [.lit (.bool false)], args := [d] }
  | _ => none }
def Cut4GluesWrongFalsely : Prop := cut4GluesRow.holds Try.pinned (OpenSpec.ofChange cut4GluesWrong)

/-- 'goosepondlaw13.Cut4Back': WHATEVER THE INPUT: true; the input reads as it did. -/
def cut4BackSpec : ChangeSpec := { name := "cut4Back", fn := fun _ => fun
  | [d1, d2] => { results := [.lit (.bool true)], args := [d1, d2] }
  | _ => none }
def cut4BackRow : OpenClaim := { program := "ytldjecilmcnpiaa", sum := "ebac44fde38a6f5a1b312203f40bfbcc5109652b55ea2bc52d5df1acf0012d99", func := "goosepond/goosepondlaw13.Cut4Back", spec := "cut4Back", unfollowed := true, recurses := true, apart := false }
def Cut4BackSaid : Prop := cut4BackRow.holds Try.pinned (OpenSpec.ofChange cut4BackSpec)

/-- ITS FALSE NEIGHBOUR: 'it returns false'. Refute it at one input. -/
def cut4BackWrong : ChangeSpec := { name := "cut4Back", fn := fun _ => fun
  | [d1, d2] => { results := [.lit (.bool false)], args := [d1, d2] }
  | _ => none }
def Cut4BackWrongFalsely : Prop := cut4BackRow.holds Try.pinned (OpenSpec.ofChange cut4BackWrong)

/-- 'goosepondlaw43.PcpPlain': WHATEVER THE INPUT: true; the input reads as it did. -/
def pcpPlainSpec : ChangeSpec := { name := "pcpPlain", fn := fun _ => fun
  | [d1, d2] => { results := [.lit (.bool true)], args := [d1, d2] }
  | _ => none }
def pcpPlainRow : OpenClaim := { program := "ytldjecilmcnpiaa", sum := "ebac44fde38a6f5a1b312203f40bfbcc5109652b55ea2bc52d5df1acf0012d99", func := "goosepond/goosepondlaw43.PcpPlain", spec := "pcpPlain", unfollowed := true, recurses := true, apart := false }
def PcpPlainSaid : Prop := pcpPlainRow.holds Try.pinned (OpenSpec.ofChange pcpPlainSpec)

/-- ITS FALSE NEIGHBOUR: 'it returns false'. Refute it at one input. -/
def pcpPlainWrong : ChangeSpec := { name := "pcpPlain", fn := fun _ => fun
  | [d1, d2] => { results := [.lit (.bool false)], args := [d1, d2] }
  | _ => none }
def PcpPlainWrongFalsely : Prop := pcpPlainRow.holds Try.pinned (OpenSpec.ofChange pcpPlainWrong)

/-- 'goosepondlaw43.PcpParses': WHATEVER THE INPUT: true; the input reads as it did. -/
def pcpParsesSpec : ChangeSpec := { name := "pcpParses", fn := fun _ => fun
  | [d] => { results := [.lit (.bool true)], args := [d] }
  | _ => none }
def pcpParsesRow : OpenClaim := { program := "ytldjecilmcnpiaa", sum := "ebac44fde38a6f5a1b312203f40bfbcc5109652b55ea2bc52d5df1acf0012d99", func := "goosepond/goosepondlaw43.PcpParses", spec := "pcpParses", unfollowed := true, recurses := true, apart := false }
def PcpParsesSaid : Prop := pcpParsesRow.holds Try.pinned (OpenSpec.ofChange pcpParsesSpec)

/-- ITS FALSE NEIGHBOUR: 'it returns false'. Refute it at one input. -/
def pcpParsesWrong : ChangeSpec := { name := "pcpParses", fn := fun _ => fun
  | [d] => { results := [.lit (.bool false)], args := [d] }
  | _ => none }
def PcpParsesWrongFalsely : Prop := pcpParsesRow.holds Try.pinned (OpenSpec.ofChange pcpParsesWrong)

/-- 'goosepondlaw43.PcpBuilds': WHATEVER THE INPUT: true; the input reads as it did. -/
def pcpBuildsSpec : ChangeSpec := { name := "pcpBuilds", fn := fun _ => fun
  | [d1, d2, d3] => { results := [.lit (.bool true)], args := [d1, d2, d3] }
  | _ => none }
def pcpBuildsRow : OpenClaim := { program := "ytldjecilmcnpiaa", sum := "ebac44fde38a6f5a1b312203f40bfbcc5109652b55ea2bc52d5df1acf0012d99", func := "goosepond/goosepondlaw43.PcpBuilds", spec := "pcpBuilds", unfollowed := true, recurses := true, apart := false }
def PcpBuildsSaid : Prop := pcpBuildsRow.holds Try.pinned (OpenSpec.ofChange pcpBuildsSpec)

/-- ITS FALSE NEIGHBOUR: 'it returns false'. Refute it at one input. -/
def pcpBuildsWrong : ChangeSpec := { name := "pcpBuilds", fn := fun _ => fun
  | [d1, d2, d3] => { results := [.lit (.bool false)], args := [d1, d2, d3] }
  | _ => none }
def PcpBuildsWrongFalsely : Prop := pcpBuildsRow.holds Try.pinned (OpenSpec.ofChange pcpBuildsWrong)

/-- 'goosepondlaw43.PcpBack': WHATEVER THE INPUT: true; the input reads as it did. -/
def pcpBackSpec : ChangeSpec := { name := "pcpBack", fn := fun _ => fun
  | [d] => { results := [.lit (.bool true)], args := [d] }
  | _ => none }
def pcpBackRow : OpenClaim := { program := "ytldjecilmcnpiaa", sum := "ebac44fde38a6f5a1b312203f40bfbcc5109652b55ea2bc52d5df1acf0012d99", func := "goosepond/goosepondlaw43.PcpBack", spec := "pcpBack", unfollowed := true, recurses := true, apart := false }
def PcpBackSaid : Prop := pcpBackRow.holds Try.pinned (OpenSpec.ofChange pcpBackSpec)

/-- ITS FALSE NEIGHBOUR: 'it returns false'. Refute it at one input. -/
def pcpBackWrong : ChangeSpec := { name := "pcpBack", fn := fun _ => fun
  | [d] => { results := [.lit (.bool false)], args := [d] }
  | _ => none }
def PcpBackWrongFalsely : Prop := pcpBackRow.holds Try.pinned (OpenSpec.ofChange pcpBackWrong)

/-- 'goosepondlaw12.ClampTwice': WHATEVER THE INPUT: true; the input reads as it did. -/
def clampTwiceSpec : ChangeSpec := { name := "clampTwice", fn := fun _ => fun
  | [d1, d2] => { results := [.lit (.bool true)], args := [d1, d2] }
  | _ => none }
def clampTwiceRow : OpenClaim := { program := "ytldjecilmcnpiaa", sum := "ebac44fde38a6f5a1b312203f40bfbcc5109652b55ea2bc52d5df1acf0012d99", func := "goosepond/goosepondlaw12.ClampTwice", spec := "clampTwice", unfollowed := true, recurses := true, apart := false }
def ClampTwiceSaid : Prop := clampTwiceRow.holds Try.pinned (OpenSpec.ofChange clampTwiceSpec)

/-- ITS FALSE NEIGHBOUR: 'it returns false'. Refute it at one input. -/
def clampTwiceWrong : ChangeSpec := { name := "clampTwice", fn := fun _ => fun
  | [d1, d2] => { results := [.lit (.bool false)], args := [d1, d2] }
  | _ => none }
def ClampTwiceWrongFalsely : Prop := clampTwiceRow.holds Try.pinned (OpenSpec.ofChange clampTwiceWrong)

/-- 'goosepondlaw12.ClampTells': WHATEVER THE INPUT: true; the input reads as it did. -/
def clampTellsSpec : ChangeSpec := { name := "clampTells", fn := fun _ => fun
  | [d1, d2, d3] => { results := [.lit (.bool true)], args := [d1, d2, d3] }
  | _ => none }
def clampTellsRow : OpenClaim := { program := "ytldjecilmcnpiaa", sum := "ebac44fde38a6f5a1b312203f40bfbcc5109652b55ea2bc52d5df1acf0012d99", func := "goosepond/goosepondlaw12.ClampTells", spec := "clampTells", unfollowed := true, recurses := true, apart := false }
def ClampTellsSaid : Prop := clampTellsRow.holds Try.pinned (OpenSpec.ofChange clampTellsSpec)

/-- ITS FALSE NEIGHBOUR: 'it returns false'. Refute it at one input. -/
def clampTellsWrong : ChangeSpec := { name := "clampTells", fn := fun _ => fun
  | [d1, d2, d3] => { results := [.lit (.bool false)], args := [d1, d2, d3] }
  | _ => none }
def ClampTellsWrongFalsely : Prop := clampTellsRow.holds Try.pinned (OpenSpec.ofChange clampTellsWrong)

/- THE SECOND FORM. 'bulk': how many values and letters a reading holds, each counted each time it is reached (what is shared counts as often as it is met; a slice's spare places count too). A statement '..UptoSaid' is the law's where the arguments, and the package variables that the reading takes, are together of bulk at most 1048576: NARROWER than '..Said'. Prove '..Said' where nothing that the law and all that it calls make is longer than what came in: it says more and counts as full. Else prove '..UptoSaid'. A law counts once. -/
mutual
def uptoBulk {H : Type} : DataW H → Nat
  | .lit (.string bytes) => bytes.length + 1
  | .lit _ => 1
  | .nil => 1
  | .ptr d => uptoBulk d + 1
  | .slice elems spare => uptoBulkAll elems + uptoBulkAll spare + 1
  | .agg parts => uptoBulkAll parts + 1
  | .iface _ d => uptoBulk d + 1
  | .map entries => uptoBulkEntries entries + 1
  | .held _ => 1
def uptoBulkAll {H : Type} : List (DataW H) → Nat
  | [] => 0
  | d :: r => uptoBulk d + uptoBulkAll r
def uptoBulkEntries {H : Type} : List (Lit × DataW H) → Nat
  | [] => 0
  | x :: r => uptoBulkEntry x + uptoBulkEntries r
def uptoBulkEntry {H : Type} : Lit × DataW H → Nat
  | (.string bytes, d) => bytes.length + uptoBulk d + 1
  | (_, d) => uptoBulk d + 1
 end
def uptoSmall : (H : Type) → List (DataW H) → Bool := fun _ ds => decide (uptoBulkAll ds ≤ 1048576)
def OpenSpec.upto (s : _root_.Go.ChangeSpec) : _root_.Go.OpenSpec := { _root_.Go.OpenSpec.ofChange s with cond := some uptoSmall }

/-- 'goosepondlaw13.Cut4Cuts', WHERE WHAT IT READS IS OF BULK AT MOST 1048576: true; the input reads as it did. -/
def cut4CutsUptoRow : OpenClaim := { program := "ytldjecilmcnpiaa", sum := "ebac44fde38a6f5a1b312203f40bfbcc5109652b55ea2bc52d5df1acf0012d99", func := "goosepond/goosepondlaw13.Cut4Cuts", spec := "cut4Cuts", unfollowed := true, recurses := true, apart := false, narrowed := true }
def Cut4CutsUptoSaid : Prop := cut4CutsUptoRow.holds Try.pinned (OpenSpec.upto cut4CutsSpec)

/-- 'goosepondlaw13.Cut4Glues', WHERE WHAT IT READS IS OF BULK AT MOST 1048576: true; the input reads as it did. -/
def cut4GluesUptoRow : OpenClaim := { program := "ytldjecilmcnpiaa", sum := "ebac44fde38a6f5a1b312203f40bfbcc5109652b55ea2bc52d5df1acf0012d99", func := "goosepond/goosepondlaw13.Cut4Glues", spec := "cut4Glues", unfollowed := true, recurses := true, apart := false, narrowed := true }
def Cut4GluesUptoSaid : Prop := cut4GluesUptoRow.holds Try.pinned (OpenSpec.upto cut4GluesSpec)

/-- 'goosepondlaw13.Cut4Back', WHERE WHAT IT READS IS OF BULK AT MOST 1048576: true; the input reads as it did. -/
def cut4BackUptoRow : OpenClaim := { program := "ytldjecilmcnpiaa", sum := "ebac44fde38a6f5a1b312203f40bfbcc5109652b55ea2bc52d5df1acf0012d99", func := "goosepond/goosepondlaw13.Cut4Back", spec := "cut4Back", unfollowed := true, recurses := true, apart := false, narrowed := true }
def Cut4BackUptoSaid : Prop := cut4BackUptoRow.holds Try.pinned (OpenSpec.upto cut4BackSpec)

/-- 'goosepondlaw43.PcpPlain', WHERE WHAT IT READS IS OF BULK AT MOST 1048576: true; the input reads as it did. -/
def pcpPlainUptoRow : OpenClaim := { program := "ytldjecilmcnpiaa", sum := "ebac44fde38a6f5a1b312203f40bfbcc5109652b55ea2bc52d5df1acf0012d99", func := "goosepond/goosepondlaw43.PcpPlain", spec := "pcpPlain", unfollowed := true, recurses := true, apart := false, narrowed := true }
def PcpPlainUptoSaid : Prop := pcpPlainUptoRow.holds Try.pinned (OpenSpec.upto pcpPlainSpec)

/-- 'goosepondlaw43.PcpParses', WHERE WHAT IT READS IS OF BULK AT MOST 1048576: true; the input reads as it did. -/
def pcpParsesUptoRow : OpenClaim := { program := "ytldjecilmcnpiaa", sum := "ebac44fde38a6f5a1b312203f40bfbcc5109652b55ea2bc52d5df1acf0012d99", func := "goosepond/goosepondlaw43.PcpParses", spec := "pcpParses", unfollowed := true, recurses := true, apart := false, narrowed := true }
def PcpParsesUptoSaid : Prop := pcpParsesUptoRow.holds Try.pinned (OpenSpec.upto pcpParsesSpec)

/-- 'goosepondlaw43.PcpBuilds', WHERE WHAT IT READS IS OF BULK AT MOST 1048576: true; the input reads as it did. -/
def pcpBuildsUptoRow : OpenClaim := { program := "ytldjecilmcnpiaa", sum := "ebac44fde38a6f5a1b312203f40bfbcc5109652b55ea2bc52d5df1acf0012d99", func := "goosepond/goosepondlaw43.PcpBuilds", spec := "pcpBuilds", unfollowed := true, recurses := true, apart := false, narrowed := true }
def PcpBuildsUptoSaid : Prop := pcpBuildsUptoRow.holds Try.pinned (OpenSpec.upto pcpBuildsSpec)

/-- 'goosepondlaw43.PcpBack', WHERE WHAT IT READS IS OF BULK AT MOST 1048576: true; the input reads as it did. -/
def pcpBackUptoRow : OpenClaim := { program := "ytldjecilmcnpiaa", sum := "ebac44fde38a6f5a1b312203f40bfbcc5109652b55ea2bc52d5df1acf0012d99", func := "goosepond/goosepondlaw43.PcpBack", spec := "pcpBack", unfollowed := true, recurses := true, apart := false, narrowed := true }
def PcpBackUptoSaid : Prop := pcpBackUptoRow.holds Try.pinned (OpenSpec.upto pcpBackSpec)

/-- 'goosepondlaw12.ClampTwice', WHERE WHAT IT READS IS OF BULK AT MOST 1048576: true; the input reads as it did. -/
def clampTwiceUptoRow : OpenClaim := { program := "ytldjecilmcnpiaa", sum := "ebac44fde38a6f5a1b312203f40bfbcc5109652b55ea2bc52d5df1acf0012d99", func := "goosepond/goosepondlaw12.ClampTwice", spec := "clampTwice", unfollowed := true, recurses := true, apart := false, narrowed := true }
def ClampTwiceUptoSaid : Prop := clampTwiceUptoRow.holds Try.pinned (OpenSpec.upto clampTwiceSpec)

/-- 'goosepondlaw12.ClampTells', WHERE WHAT IT READS IS OF BULK AT MOST 1048576: true; the input reads as it did. -/
def clampTellsUptoRow : OpenClaim := { program := "ytldjecilmcnpiaa", sum := "ebac44fde38a6f5a1b312203f40bfbcc5109652b55ea2bc52d5df1acf0012d99", func := "goosepond/goosepondlaw12.ClampTells", spec := "clampTells", unfollowed := true, recurses := true, apart := false, narrowed := true }
def ClampTellsUptoSaid : Prop := clampTellsUptoRow.holds Try.pinned (OpenSpec.upto clampTellsSpec)

end Rows
end Go.Proofs.Ytldjecilmcnpiaa
