/-
  No cell of these rows narrows 'for every input' (looked for: loops, veiled, ifaces, maps, wideKeys, modest, calm, conditions, laid).
  DERIVED. THE GIVEN ROWS OF THIS SEAT. 10 by the template 'for every input the law returns true; each argument reads behind the call as it read before'; 0 by the template 'total and deterministic' (their statements: YtbbdkfadcafpfaaTotals.lean).
  GIVEN WITH THE SEED: the statements are not yours to turn. If you find one false, say at which input.
  Laid BY PROGRAM, IN A SANDBOX (cutbox-rows.mjs): the forced cells as the released guide's own fill.sh prints them over the translation 6cd7340e3e2ee5e2… (all of the seat's roots in one cut). By AI agents, Wed Nov 11 2026. No macro, syntax, notation, axiom, sorry.
-/
import Derived.Test.YtbbdkfadcafpfaaChecked
import GoSem.Claim
import GoSem.ClaimJoined
import GoSem.ClaimMapViews
import Derived.JoinedTies
import Derived.KernelRfl
namespace Go.Proofs.Ytbbdkfadcafpfaa
/- THE CELL 'sum', in the pinned program and in every row, IS THE sha256 OF THE DUMP (.gsa) THAT YtbbdkfadcafpfaaProg.lean LOADS. Nothing in Lean hashes anything: it is a label: what it is worth is what the hold of that sum in a sandbox is worth. -/
noncomputable def Try.pinned : Pinned := { name := "ytbbdkfadcafpfaa", sum := "6cd7340e3e2ee5e2ff76228e720849c513e5a891ea9b01b6e39b070c3d249b4c", checked := Try.checked }
namespace Rows
def none {H : Type} : Left H := { results := [], args := [] }

/-- 'goosepondlaw06.V6Builds': WHATEVER THE INPUT: true; the input reads as it did. -/
def v6BuildsSpec : ChangeSpec := { name := "v6Builds", fn := fun _ => fun
  | [d1, d2] => { results := [.lit (.bool true)], args := [d1, d2] }
  | _ => none }
def v6BuildsRow : OpenClaim := { program := "ytbbdkfadcafpfaa", sum := "6cd7340e3e2ee5e2ff76228e720849c513e5a891ea9b01b6e39b070c3d249b4c", func := "goosepond/goosepondlaw06.V6Builds", spec := "v6Builds", unfollowed := true, recurses := true, apart := false }
def V6BuildsSaid : Prop := v6BuildsRow.holds Try.pinned (OpenSpec.ofChange v6BuildsSpec)

/-- ITS FALSE NEIGHBOUR: 'it returns false'. Refute it at one input. -/
def v6BuildsWrong : ChangeSpec := { name := "v6Builds", fn := fun _ => fun
  | [d1, d2] => { results := [.lit (.bool false)], args := [d1, d2] }
  | _ => none }
def V6BuildsWrongFalsely : Prop := v6BuildsRow.holds Try.pinned (OpenSpec.ofChange v6BuildsWrong)

/-- 'goosepondlaw06.V6Frags': WHATEVER THE INPUT: true; the input reads as it did. -/
def v6FragsSpec : ChangeSpec := { name := "v6Frags", fn := fun _ => fun
  | [d1, d2] => { results := [.lit (.bool true)], args := [d1, d2] }
  | _ => none }
def v6FragsRow : OpenClaim := { program := "ytbbdkfadcafpfaa", sum := "6cd7340e3e2ee5e2ff76228e720849c513e5a891ea9b01b6e39b070c3d249b4c", func := "goosepond/goosepondlaw06.V6Frags", spec := "v6Frags", unfollowed := true, recurses := true, apart := false }
def V6FragsSaid : Prop := v6FragsRow.holds Try.pinned (OpenSpec.ofChange v6FragsSpec)

/-- ITS FALSE NEIGHBOUR: 'it returns false'. Refute it at one input. -/
def v6FragsWrong : ChangeSpec := { name := "v6Frags", fn := fun _ => fun
  | [d1, d2] => { results := [.lit (.bool false)], args := [d1, d2] }
  | _ => none }
def V6FragsWrongFalsely : Prop := v6FragsRow.holds Try.pinned (OpenSpec.ofChange v6FragsWrong)

/-- 'goosepondlaw06.V6Parses': WHATEVER THE INPUT: true; the input reads as it did. -/
def v6ParsesSpec : ChangeSpec := { name := "v6Parses", fn := fun _ => fun
  | [d] => { results := [.lit (.bool true)], args := [d] }
  | _ => none }
def v6ParsesRow : OpenClaim := { program := "ytbbdkfadcafpfaa", sum := "6cd7340e3e2ee5e2ff76228e720849c513e5a891ea9b01b6e39b070c3d249b4c", func := "goosepond/goosepondlaw06.V6Parses", spec := "v6Parses", unfollowed := true, recurses := true, apart := false }
def V6ParsesSaid : Prop := v6ParsesRow.holds Try.pinned (OpenSpec.ofChange v6ParsesSpec)

/-- ITS FALSE NEIGHBOUR: 'it returns false'. Refute it at one input. -/
def v6ParsesWrong : ChangeSpec := { name := "v6Parses", fn := fun _ => fun
  | [d] => { results := [.lit (.bool false)], args := [d] }
  | _ => none }
def V6ParsesWrongFalsely : Prop := v6ParsesRow.holds Try.pinned (OpenSpec.ofChange v6ParsesWrong)

/-- 'goosepondlaw06.V6Back': WHATEVER THE INPUT: true; the input reads as it did. -/
def v6BackSpec : ChangeSpec := { name := "v6Back", fn := fun _ => fun
  | [d1, d2, d3] => { results := [.lit (.bool true)], args := [d1, d2, d3] }
  | _ => none }
def v6BackRow : OpenClaim := { program := "ytbbdkfadcafpfaa", sum := "6cd7340e3e2ee5e2ff76228e720849c513e5a891ea9b01b6e39b070c3d249b4c", func := "goosepond/goosepondlaw06.V6Back", spec := "v6Back", unfollowed := true, recurses := true, apart := false }
def V6BackSaid : Prop := v6BackRow.holds Try.pinned (OpenSpec.ofChange v6BackSpec)

/-- ITS FALSE NEIGHBOUR: 'it returns false'. Refute it at one input. -/
def v6BackWrong : ChangeSpec := { name := "v6Back", fn := fun _ => fun
  | [d1, d2, d3] => { results := [.lit (.bool false)], args := [d1, d2, d3] }
  | _ => none }
def V6BackWrongFalsely : Prop := v6BackRow.holds Try.pinned (OpenSpec.ofChange v6BackWrong)

/-- 'goosepondlaw14.Cut6Cuts': WHATEVER THE INPUT: true; the input reads as it did. -/
def cut6CutsSpec : ChangeSpec := { name := "cut6Cuts", fn := fun _ => fun
  | [d1, d2, d3] => { results := [.lit (.bool true)], args := [d1, d2, d3] }
  | _ => none }
def cut6CutsRow : OpenClaim := { program := "ytbbdkfadcafpfaa", sum := "6cd7340e3e2ee5e2ff76228e720849c513e5a891ea9b01b6e39b070c3d249b4c", func := "goosepond/goosepondlaw14.Cut6Cuts", spec := "cut6Cuts", unfollowed := true, recurses := true, apart := false }
def Cut6CutsSaid : Prop := cut6CutsRow.holds Try.pinned (OpenSpec.ofChange cut6CutsSpec)

/-- ITS FALSE NEIGHBOUR: 'it returns false'. Refute it at one input. -/
def cut6CutsWrong : ChangeSpec := { name := "cut6Cuts", fn := fun _ => fun
  | [d1, d2, d3] => { results := [.lit (.bool false)], args := [d1, d2, d3] }
  | _ => none }
def Cut6CutsWrongFalsely : Prop := cut6CutsRow.holds Try.pinned (OpenSpec.ofChange cut6CutsWrong)

/-- 'goosepondlaw14.Cut6Back': WHATEVER THE INPUT: true; the input reads as it did. -/
def cut6BackSpec : ChangeSpec := { name := "cut6Back", fn := fun _ => fun
  | [d1, d2, d3] => { results := [.lit (.bool true)], args := [d1, d2, d3] }
  | _ => none }
def cut6BackRow : OpenClaim := { program := "ytbbdkfadcafpfaa", sum := "6cd7340e3e2ee5e2ff76228e720849c513e5a891ea9b01b6e39b070c3d249b4c", func := "goosepond/goosepondlaw14.Cut6Back", spec := "cut6Back", unfollowed := true, recurses := true, apart := false }
def Cut6BackSaid : Prop := cut6BackRow.holds Try.pinned (OpenSpec.ofChange cut6BackSpec)

/-- ITS FALSE NEIGHBOUR: 'it returns false'. Refute it at one input. -/
def cut6BackWrong : ChangeSpec := { name := "cut6Back", fn := fun _ => fun
  | [d1, d2, d3] => { results := [.lit (.bool false)], args := [d1, d2, d3] }
  | _ => none }
def Cut6BackWrongFalsely : Prop := cut6BackRow.holds Try.pinned (OpenSpec.ofChange cut6BackWrong)

/-- 'goosepondlaw45.PcapBuilds': WHATEVER THE INPUT: true; the input reads as it did. -/
def pcapBuildsSpec : ChangeSpec := { name := "pcapBuilds", fn := fun _ => fun
  | [d] => { results := [.lit (.bool true)], args := [d] }
  | _ => none }
def pcapBuildsRow : OpenClaim := { program := "ytbbdkfadcafpfaa", sum := "6cd7340e3e2ee5e2ff76228e720849c513e5a891ea9b01b6e39b070c3d249b4c", func := "goosepond/goosepondlaw45.PcapBuilds", spec := "pcapBuilds", unfollowed := true, recurses := true, apart := false }
def PcapBuildsSaid : Prop := pcapBuildsRow.holds Try.pinned (OpenSpec.ofChange pcapBuildsSpec)

/-- ITS FALSE NEIGHBOUR: 'it returns false'. Refute it at one input. -/
def pcapBuildsWrong : ChangeSpec := { name := "pcapBuilds", fn := fun _ => fun
  | [d] => { results := [.lit (.bool false)], args := [d] }
  | _ => none }
def PcapBuildsWrongFalsely : Prop := pcapBuildsRow.holds Try.pinned (OpenSpec.ofChange pcapBuildsWrong)

/-- 'goosepondlaw45.PcapBack': WHATEVER THE INPUT: true; the input reads as it did. -/
def pcapBackSpec : ChangeSpec := { name := "pcapBack", fn := fun _ => fun
  | [d] => { results := [.lit (.bool true)], args := [d] }
  | _ => none }
def pcapBackRow : OpenClaim := { program := "ytbbdkfadcafpfaa", sum := "6cd7340e3e2ee5e2ff76228e720849c513e5a891ea9b01b6e39b070c3d249b4c", func := "goosepond/goosepondlaw45.PcapBack", spec := "pcapBack", unfollowed := true, recurses := true, apart := false }
def PcapBackSaid : Prop := pcapBackRow.holds Try.pinned (OpenSpec.ofChange pcapBackSpec)

/-- ITS FALSE NEIGHBOUR: 'it returns false'. Refute it at one input. -/
def pcapBackWrong : ChangeSpec := { name := "pcapBack", fn := fun _ => fun
  | [d] => { results := [.lit (.bool false)], args := [d] }
  | _ => none }
def PcapBackWrongFalsely : Prop := pcapBackRow.holds Try.pinned (OpenSpec.ofChange pcapBackWrong)

/-- 'goosepondlaw45.PcapParses': WHATEVER THE INPUT: true; the input reads as it did. -/
def pcapParsesSpec : ChangeSpec := { name := "pcapParses", fn := fun _ => fun
  | [d] => { results := [.lit (.bool true)], args := [d] }
  | _ => none }
def pcapParsesRow : OpenClaim := { program := "ytbbdkfadcafpfaa", sum := "6cd7340e3e2ee5e2ff76228e720849c513e5a891ea9b01b6e39b070c3d249b4c", func := "goosepond/goosepondlaw45.PcapParses", spec := "pcapParses", unfollowed := true, recurses := true, apart := false }
def PcapParsesSaid : Prop := pcapParsesRow.holds Try.pinned (OpenSpec.ofChange pcapParsesSpec)

/-- ITS FALSE NEIGHBOUR: 'it returns false'. Refute it at one input. -/
def pcapParsesWrong : ChangeSpec := { name := "pcapParses", fn := fun _ => fun
  | [d] => { results := [.lit (.bool false)], args := [d] }
  | _ => none }
def PcapParsesWrongFalsely : Prop := pcapParsesRow.holds Try.pinned (OpenSpec.ofChange pcapParsesWrong)

/-- 'goosepondlaw45.PcapTakes': WHATEVER THE INPUT: true; the input reads as it did. -/
def pcapTakesSpec : ChangeSpec := { name := "pcapTakes", fn := fun _ => fun
  | [d1, d2] => { results := [.lit (.bool true)], args := [d1, d2] }
  | _ => none }
def pcapTakesRow : OpenClaim := { program := "ytbbdkfadcafpfaa", sum := "6cd7340e3e2ee5e2ff76228e720849c513e5a891ea9b01b6e39b070c3d249b4c", func := "goosepond/goosepondlaw45.PcapTakes", spec := "pcapTakes", unfollowed := true, recurses := true, apart := false }
def PcapTakesSaid : Prop := pcapTakesRow.holds Try.pinned (OpenSpec.ofChange pcapTakesSpec)

/-- ITS FALSE NEIGHBOUR: 'it returns false'. Refute it at one input. -/
def pcapTakesWrong : ChangeSpec := { name := "pcapTakes", fn := fun _ => fun
  | [d1, d2] => { results := [.lit (.bool false)], args := [d1, d2] }
  | _ => none }
def PcapTakesWrongFalsely : Prop := pcapTakesRow.holds Try.pinned (OpenSpec.ofChange pcapTakesWrong)

/- THE SECOND FORM. 'bulk': how many values and letters a reading holds, each counted each time it is reached (what is shared counts as often as it is met; a slice's spare places count too). A statement '..UptoSaid' is the law's where the arguments, and the package variables that the reading takes, are together of bulk at most 1048576: NARROWER than '..Said'. Prove '..Said' where nothing that the law and all that it calls make is longer than what came in: it says more and counts as full. Else prove '..UptoSaid'. A law counts once. -/
mutual
def uptoBulk {H : Type} : DataW H → Nat
  | .lit (.string bytes) => bytes.length + 1
  | .lit _ => 1
  | .nil => 1
  | .ptr d => uptoBulk d + 1
  | .slice elems spare => uptoBulkAll elems + uptoBulkAll spare + 1
  | .agg parts => uptoBulkAll parts + 1
  | .iface _ d => uptoBulk d + 1
  | .map entries => uptoBulkEntries entries + 1
  | .held _ => 1
def uptoBulkAll {H : Type} : List (DataW H) → Nat
  | [] => 0
  | d :: r => uptoBulk d + uptoBulkAll r
def uptoBulkEntries {H : Type} : List (Lit × DataW H) → Nat
  | [] => 0
  | x :: r => uptoBulkEntry x + uptoBulkEntries r
def uptoBulkEntry {H : Type} : Lit × DataW H → Nat
  | (.string bytes, d) => bytes.length + uptoBulk d + 1
  | (_, d) => uptoBulk d + 1
 end
def uptoSmall : (H : Type) → List (DataW H) → Bool := fun _ ds => decide (uptoBulkAll ds ≤ 1048576)
def OpenSpec.upto (s : _root_.Go.ChangeSpec) : _root_.Go.OpenSpec := { _root_.Go.OpenSpec.ofChange s with cond := some uptoSmall }

/-- 'goosepondlaw06.V6Builds', WHERE WHAT IT READS IS OF BULK AT MOST 1048576: true; the input reads as it did. -/
def v6BuildsUptoRow : OpenClaim := { program := "ytbbdkfadcafpfaa", sum := "6cd7340e3e2ee5e2ff76228e720849c513e5a891ea9b01b6e39b070c3d249b4c", func := "goosepond/goosepondlaw06.V6Builds", spec := "v6Builds", unfollowed := true, recurses := true, apart := false, narrowed := true }
def V6BuildsUptoSaid : Prop := v6BuildsUptoRow.holds Try.pinned (OpenSpec.upto v6BuildsSpec)

/-- 'goosepondlaw06.V6Frags', WHERE WHAT IT READS IS OF BULK AT MOST 1048576: true; the input reads as it did. -/
def v6FragsUptoRow : OpenClaim := { program := "ytbbdkfadcafpfaa", sum := "6cd7340e3e2ee5e2ff76228e720849c513e5a891ea9b01b6e39b070c3d249b4c", func := "goosepond/goosepondlaw06.V6Frags", spec := "v6Frags", unfollowed := true, recurses := true, apart := false, narrowed := true }
def V6FragsUptoSaid : Prop := v6FragsUptoRow.holds Try.pinned (OpenSpec.upto v6FragsSpec)

/-- 'goosepondlaw06.V6Parses', WHERE WHAT IT READS IS OF BULK AT MOST 1048576: true; the input reads as it did. -/
def v6ParsesUptoRow : OpenClaim := { program := "ytbbdkfadcafpfaa", sum := "6cd7340e3e2ee5e2ff76228e720849c513e5a891ea9b01b6e39b070c3d249b4c", func := "goosepond/goosepondlaw06.V6Parses", spec := "v6Parses", unfollowed := true, recurses := true, apart := false, narrowed := true }
def V6ParsesUptoSaid : Prop := v6ParsesUptoRow.holds Try.pinned (OpenSpec.upto v6ParsesSpec)

/-- 'goosepondlaw06.V6Back', WHERE WHAT IT READS IS OF BULK AT MOST 1048576: true; the input reads as it did. -/
def v6BackUptoRow : OpenClaim := { program := "ytbbdkfadcafpfaa", sum := "6cd7340e3e2ee5e2ff76228e720849c513e5a891ea9b01b6e39b070c3d249b4c", func := "goosepond/goosepondlaw06.V6Back", spec := "v6Back", unfollowed := true, recurses := true, apart := false, narrowed := true }
def V6BackUptoSaid : Prop := v6BackUptoRow.holds Try.pinned (OpenSpec.upto v6BackSpec)

/-- 'goosepondlaw14.Cut6Cuts', WHERE WHAT IT READS IS OF BULK AT MOST 1048576: true; the input reads as it did. -/
def cut6CutsUptoRow : OpenClaim := { program := "ytbbdkfadcafpfaa", sum := "6cd7340e3e2ee5e2ff76228e720849c513e5a891ea9b01b6e39b070c3d249b4c", func := "goosepond/goosepondlaw14.Cut6Cuts", spec := "cut6Cuts", unfollowed := true, recurses := true, apart := false, narrowed := true }
def Cut6CutsUptoSaid : Prop := cut6CutsUptoRow.holds Try.pinned (OpenSpec.upto cut6CutsSpec)

/-- 'goosepondlaw14.Cut6Back', WHERE WHAT IT READS IS OF BULK AT MOST 1048576: true; the input reads as it did. -/
def cut6BackUptoRow : OpenClaim := { program := "ytbbdkfadcafpfaa", sum := "6cd7340e3e2ee5e2ff76228e720849c513e5a891ea9b01b6e39b070c3d249b4c", func := "goosepond/goosepondlaw14.Cut6Back", spec := "cut6Back", unfollowed := true, recurses := true, apart := false, narrowed := true }
def Cut6BackUptoSaid : Prop := cut6BackUptoRow.holds Try.pinned (OpenSpec.upto cut6BackSpec)

/-- 'goosepondlaw45.PcapBuilds', WHERE WHAT IT READS IS OF BULK AT MOST 1048576: true; the input reads as it did. -/
def pcapBuildsUptoRow : OpenClaim := { program := "ytbbdkfadcafpfaa", sum := "6cd7340e3e2ee5e2ff76228e720849c513e5a891ea9b01b6e39b070c3d249b4c", func := "goosepond/goosepondlaw45.PcapBuilds", spec := "pcapBuilds", unfollowed := true, recurses := true, apart := false, narrowed := true }
def PcapBuildsUptoSaid : Prop := pcapBuildsUptoRow.holds Try.pinned (OpenSpec.upto pcapBuildsSpec)

/-- 'goosepondlaw45.PcapBack', WHERE WHAT IT READS IS OF BULK AT MOST 1048576: true; the input reads as it did. -/
def pcapBackUptoRow : OpenClaim := { program := "ytbbdkfadcafpfaa", sum := "6cd7340e3e2ee5e2ff76228e720849c513e5a891ea9b01b6e39b070c3d249b4c", func := "goosepond/goosepondlaw45.PcapBack", spec := "pcapBack", unfollowed := true, recurses := true, apart := false, narrowed := true }
def PcapBackUptoSaid : Prop := pcapBackUptoRow.holds Try.pinned (OpenSpec.upto pcapBackSpec)

/-- 'goosepondlaw45.PcapParses', WHERE WHAT IT READS IS OF BULK AT MOST 1048576: true; the input reads as it did. -/
def pcapParsesUptoRow : OpenClaim := { program := "ytbbdkfadcafpfaa", sum := "6cd7340e3e2ee5e2ff76228e720849c513e5a891ea9b01b6e39b070c3d249b4c", func := "goosepond/goosepondlaw45.PcapParses", spec := "pcapParses", unfollowed := true, recurses := true, apart := false, narrowed := true }
def PcapParsesUptoSaid : Prop := pcapParsesUptoRow.holds Try.pinned (OpenSpec.upto pcapParsesSpec)

/-- 'goosepondlaw45.PcapTakes', WHERE WHAT IT READS IS OF BULK AT MOST 1048576: true; the input reads as it did. -/
def pcapTakesUptoRow : OpenClaim := { program := "ytbbdkfadcafpfaa", sum := "6cd7340e3e2ee5e2ff76228e720849c513e5a891ea9b01b6e39b070c3d249b4c", func := "goosepond/goosepondlaw45.PcapTakes", spec := "pcapTakes", unfollowed := true, recurses := true, apart := false, narrowed := true }
def PcapTakesUptoSaid : Prop := pcapTakesUptoRow.holds Try.pinned (OpenSpec.upto pcapTakesSpec)

end Rows
end Go.Proofs.Ytbbdkfadcafpfaa
