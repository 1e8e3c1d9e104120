/-
  No cell of these rows narrows 'for every input' (looked for: loops, veiled, ifaces, maps, wideKeys, modest, calm, conditions, laid).
  DERIVED. THE GIVEN ROWS OF THIS SEAT. 10 by the template 'for every input the law returns true; each argument reads behind the call as it read before'; 0 by the template 'total and deterministic' (their statements: YtekngoallcogpaaTotals.lean).
  GIVEN WITH THE SEED: the statements are not yours to turn. If you find one false, say at which input.
  Laid BY PROGRAM, IN A SANDBOX (cutbox-rows.mjs): the forced cells as the released guide's own fill.sh prints them over the translation c7766208bd2258c0… (all of the seat's roots in one cut). By AI agents, Wed Nov 11 2026. No macro, syntax, notation, axiom, sorry.
-/
import Derived.Test.YtekngoallcogpaaChecked
import GoSem.Claim
import GoSem.ClaimJoined
import GoSem.ClaimMapViews
import Derived.JoinedTies
import Derived.KernelRfl
namespace Go.Proofs.Ytekngoallcogpaa
/- THE CELL 'sum', in the pinned program and in every row, IS THE sha256 OF THE DUMP (.gsa) THAT YtekngoallcogpaaProg.lean LOADS. Nothing in Lean hashes anything: it is a label: what it is worth is what the hold of that sum in a sandbox is worth. -/
noncomputable def Try.pinned : Pinned := { name := "ytekngoallcogpaa", sum := "c7766208bd2258c07fbd3ad29cc67c5f46c7eba1a938b70903ba798d6f1ed8b1", checked := Try.checked }
namespace Rows
def none {H : Type} : Left H := { results := [], args := [] }

/-- 'goosepondlaw09.IcmpBuilds': WHATEVER THE INPUT: true; the input reads as it did. -/
def icmpBuildsSpec : ChangeSpec := { name := "icmpBuilds", fn := fun _ => fun
  | [d1, d2] => { results := [.lit (.bool true)], args := [d1, d2] }
  | _ => none }
def icmpBuildsRow : OpenClaim := { program := "ytekngoallcogpaa", sum := "c7766208bd2258c07fbd3ad29cc67c5f46c7eba1a938b70903ba798d6f1ed8b1", func := "goosepond/goosepondlaw09.IcmpBuilds", spec := "icmpBuilds", unfollowed := true, recurses := true, apart := false }
def IcmpBuildsSaid : Prop := icmpBuildsRow.holds Try.pinned (OpenSpec.ofChange icmpBuildsSpec)

/-- ITS FALSE NEIGHBOUR: 'it returns false'. Refute it at one input. -/
def icmpBuildsWrong : ChangeSpec := { name := "icmpBuilds", fn := fun _ => fun
  | [d1, d2] => { results := [.lit (.bool false)], args := [d1, d2] }
  | _ => none }
def IcmpBuildsWrongFalsely : Prop := icmpBuildsRow.holds Try.pinned (OpenSpec.ofChange icmpBuildsWrong)

/-- 'goosepondlaw09.IcmpParses': WHATEVER THE INPUT: true; the input reads as it did. -/
def icmpParsesSpec : ChangeSpec := { name := "icmpParses", fn := fun _ => fun
  | [d] => { results := [.lit (.bool true)], args := [d] }
  | _ => none }
def icmpParsesRow : OpenClaim := { program := "ytekngoallcogpaa", sum := "c7766208bd2258c07fbd3ad29cc67c5f46c7eba1a938b70903ba798d6f1ed8b1", func := "goosepond/goosepondlaw09.IcmpParses", spec := "icmpParses", unfollowed := true, recurses := true, apart := false }
def IcmpParsesSaid : Prop := icmpParsesRow.holds Try.pinned (OpenSpec.ofChange icmpParsesSpec)

/-- ITS FALSE NEIGHBOUR: 'it returns false'. Refute it at one input. -/
def icmpParsesWrong : ChangeSpec := { name := "icmpParses", fn := fun _ => fun
  | [d] => { results := [.lit (.bool false)], args := [d] }
  | _ => none }
def IcmpParsesWrongFalsely : Prop := icmpParsesRow.holds Try.pinned (OpenSpec.ofChange icmpParsesWrong)

/-- 'goosepondlaw09.IcmpTells': WHATEVER THE INPUT: true; the input reads as it did. -/
def icmpTellsSpec : ChangeSpec := { name := "icmpTells", fn := fun _ => fun
  | [d1, d2, d3] => { results := [.lit (.bool true)], args := [d1, d2, d3] }
  | _ => none }
def icmpTellsRow : OpenClaim := { program := "ytekngoallcogpaa", sum := "c7766208bd2258c07fbd3ad29cc67c5f46c7eba1a938b70903ba798d6f1ed8b1", func := "goosepond/goosepondlaw09.IcmpTells", spec := "icmpTells", unfollowed := true, recurses := true, apart := false }
def IcmpTellsSaid : Prop := icmpTellsRow.holds Try.pinned (OpenSpec.ofChange icmpTellsSpec)

/-- ITS FALSE NEIGHBOUR: 'it returns false'. Refute it at one input. -/
def icmpTellsWrong : ChangeSpec := { name := "icmpTells", fn := fun _ => fun
  | [d1, d2, d3] => { results := [.lit (.bool false)], args := [d1, d2, d3] }
  | _ => none }
def IcmpTellsWrongFalsely : Prop := icmpTellsRow.holds Try.pinned (OpenSpec.ofChange icmpTellsWrong)

/-- 'goosepondlaw09.IcmpBack': WHATEVER THE INPUT: true; the input reads as it did. -/
def icmpBackSpec : ChangeSpec := { name := "icmpBack", fn := fun _ => fun
  | [d] => { results := [.lit (.bool true)], args := [d] }
  | _ => none }
def icmpBackRow : OpenClaim := { program := "ytekngoallcogpaa", sum := "c7766208bd2258c07fbd3ad29cc67c5f46c7eba1a938b70903ba798d6f1ed8b1", func := "goosepond/goosepondlaw09.IcmpBack", spec := "icmpBack", unfollowed := true, recurses := true, apart := false }
def IcmpBackSaid : Prop := icmpBackRow.holds Try.pinned (OpenSpec.ofChange icmpBackSpec)

/-- ITS FALSE NEIGHBOUR: 'it returns false'. Refute it at one input. -/
def icmpBackWrong : ChangeSpec := { name := "icmpBack", fn := fun _ => fun
  | [d] => { results := [.lit (.bool false)], args := [d] }
  | _ => none }
def IcmpBackWrongFalsely : Prop := icmpBackRow.holds Try.pinned (OpenSpec.ofChange icmpBackWrong)

/-- 'goosepondlaw07.UdpBuilds': WHATEVER THE INPUT: true; the input reads as it did. -/
def udpBuildsSpec : ChangeSpec := { name := "udpBuilds", fn := fun _ => fun
  | [d1, d2, d3, d4, d5, d6] => { results := [.lit (.bool true)], args := [d1, d2, d3, d4, d5, d6] }
  | _ => none }
def udpBuildsRow : OpenClaim := { program := "ytekngoallcogpaa", sum := "c7766208bd2258c07fbd3ad29cc67c5f46c7eba1a938b70903ba798d6f1ed8b1", func := "goosepond/goosepondlaw07.UdpBuilds", spec := "udpBuilds", unfollowed := true, recurses := true, apart := false }
def UdpBuildsSaid : Prop := udpBuildsRow.holds Try.pinned (OpenSpec.ofChange udpBuildsSpec)

/-- ITS FALSE NEIGHBOUR: 'it returns false'. Refute it at one input. -/
def udpBuildsWrong : ChangeSpec := { name := "udpBuilds", fn := fun _ => fun
  | [d1, d2, d3, d4, d5, d6] => { results := [.lit (.bool false)], args := [d1, d2, d3, d4, d5, d6] }
  | _ => none }
def UdpBuildsWrongFalsely : Prop := udpBuildsRow.holds Try.pinned (OpenSpec.ofChange udpBuildsWrong)

/-- 'goosepondlaw07.UdpParses': WHATEVER THE INPUT: true; the input reads as it did. -/
def udpParsesSpec : ChangeSpec := { name := "udpParses", fn := fun _ => fun
  | [d1, d2, d3] => { results := [.lit (.bool true)], args := [d1, d2, d3] }
  | _ => none }
def udpParsesRow : OpenClaim := { program := "ytekngoallcogpaa", sum := "c7766208bd2258c07fbd3ad29cc67c5f46c7eba1a938b70903ba798d6f1ed8b1", func := "goosepond/goosepondlaw07.UdpParses", spec := "udpParses", unfollowed := true, recurses := true, apart := false }
def UdpParsesSaid : Prop := udpParsesRow.holds Try.pinned (OpenSpec.ofChange udpParsesSpec)

/-- ITS FALSE NEIGHBOUR: 'it returns false'. Refute it at one input. -/
def udpParsesWrong : ChangeSpec := { name := "udpParses", fn := fun _ => fun
  | [d1, d2, d3] => { results := [.lit (.bool false)], args := [d1, d2, d3] }
  | _ => none }
def UdpParsesWrongFalsely : Prop := udpParsesRow.holds Try.pinned (OpenSpec.ofChange udpParsesWrong)

/-- 'goosepondlaw07.UdpBack': WHATEVER THE INPUT: true; the input reads as it did. -/
def udpBackSpec : ChangeSpec := { name := "udpBack", fn := fun _ => fun
  | [d1, d2, d3] => { results := [.lit (.bool true)], args := [d1, d2, d3] }
  | _ => none }
def udpBackRow : OpenClaim := { program := "ytekngoallcogpaa", sum := "c7766208bd2258c07fbd3ad29cc67c5f46c7eba1a938b70903ba798d6f1ed8b1", func := "goosepond/goosepondlaw07.UdpBack", spec := "udpBack", unfollowed := true, recurses := true, apart := false }
def UdpBackSaid : Prop := udpBackRow.holds Try.pinned (OpenSpec.ofChange udpBackSpec)

/-- ITS FALSE NEIGHBOUR: 'it returns false'. Refute it at one input. -/
def udpBackWrong : ChangeSpec := { name := "udpBack", fn := fun _ => fun
  | [d1, d2, d3] => { results := [.lit (.bool false)], args := [d1, d2, d3] }
  | _ => none }
def UdpBackWrongFalsely : Prop := udpBackRow.holds Try.pinned (OpenSpec.ofChange udpBackWrong)

/-- 'goosepondlaw10.Icmp6Builds': WHATEVER THE INPUT: true; the input reads as it did. -/
def icmp6BuildsSpec : ChangeSpec := { name := "icmp6Builds", fn := fun _ => fun
  | [d1, d2, d3, d4, d5] => { results := [.lit (.bool true)], args := [d1, d2, d3, d4, d5] }
  | _ => none }
def icmp6BuildsRow : OpenClaim := { program := "ytekngoallcogpaa", sum := "c7766208bd2258c07fbd3ad29cc67c5f46c7eba1a938b70903ba798d6f1ed8b1", func := "goosepond/goosepondlaw10.Icmp6Builds", spec := "icmp6Builds", unfollowed := true, recurses := true, apart := false }
def Icmp6BuildsSaid : Prop := icmp6BuildsRow.holds Try.pinned (OpenSpec.ofChange icmp6BuildsSpec)

/-- ITS FALSE NEIGHBOUR: 'it returns false'. Refute it at one input. -/
def icmp6BuildsWrong : ChangeSpec := { name := "icmp6Builds", fn := fun _ => fun
  | [d1, d2, d3, d4, d5] => { results := [.lit (.bool false)], args := [d1, d2, d3, d4, d5] }
  | _ => none }
def Icmp6BuildsWrongFalsely : Prop := icmp6BuildsRow.holds Try.pinned (OpenSpec.ofChange icmp6BuildsWrong)

/-- 'goosepondlaw10.Icmp6Parses': WHATEVER THE INPUT: true; the input reads as it did. -/
def icmp6ParsesSpec : ChangeSpec := { name := "icmp6Parses", fn := fun _ => fun
  | [d1, d2, d3] => { results := [.lit (.bool true)], args := [d1, d2, d3] }
  | _ => none }
def icmp6ParsesRow : OpenClaim := { program := "ytekngoallcogpaa", sum := "c7766208bd2258c07fbd3ad29cc67c5f46c7eba1a938b70903ba798d6f1ed8b1", func := "goosepond/goosepondlaw10.Icmp6Parses", spec := "icmp6Parses", unfollowed := true, recurses := true, apart := false }
def Icmp6ParsesSaid : Prop := icmp6ParsesRow.holds Try.pinned (OpenSpec.ofChange icmp6ParsesSpec)

/-- ITS FALSE NEIGHBOUR: 'it returns false'. Refute it at one input. -/
def icmp6ParsesWrong : ChangeSpec := { name := "icmp6Parses", fn := fun _ => fun
  | [d1, d2, d3] => { results := [.lit (.bool false)], args := [d1, d2, d3] }
  | _ => none }
def Icmp6ParsesWrongFalsely : Prop := icmp6ParsesRow.holds Try.pinned (OpenSpec.ofChange icmp6ParsesWrong)

/-- 'goosepondlaw10.Icmp6Back': WHATEVER THE INPUT: true; the input reads as it did. -/
def icmp6BackSpec : ChangeSpec := { name := "icmp6Back", fn := fun _ => fun
  | [d1, d2, d3] => { results := [.lit (.bool true)], args := [d1, d2, d3] }
  | _ => none }
def icmp6BackRow : OpenClaim := { program := "ytekngoallcogpaa", sum := "c7766208bd2258c07fbd3ad29cc67c5f46c7eba1a938b70903ba798d6f1ed8b1", func := "goosepond/goosepondlaw10.Icmp6Back", spec := "icmp6Back", unfollowed := true, recurses := true, apart := false }
def Icmp6BackSaid : Prop := icmp6BackRow.holds Try.pinned (OpenSpec.ofChange icmp6BackSpec)

/-- ITS FALSE NEIGHBOUR: 'it returns false'. Refute it at one input. -/
def icmp6BackWrong : ChangeSpec := { name := "icmp6Back", fn := fun _ => fun
  | [d1, d2, d3] => { results := [.lit (.bool false)], args := [d1, d2, d3] }
  | _ => none }
def Icmp6BackWrongFalsely : Prop := icmp6BackRow.holds Try.pinned (OpenSpec.ofChange icmp6BackWrong)

/- THE SECOND FORM. 'bulk': how many values and letters a reading holds, each counted each time it is reached (what is shared counts as often as it is met; a slice's spare places count too). A statement '..UptoSaid' is the law's where the arguments, and the package variables that the reading takes, are together of bulk at most 1048576: NARROWER than '..Said'. Prove '..Said' where nothing that the law and all that it calls make is longer than what came in: it says more and counts as full. Else prove '..UptoSaid'. A law counts once. -/
mutual
def uptoBulk {H : Type} : DataW H → Nat
  | .lit (.string bytes) => bytes.length + 1
  | .lit _ => 1
  | .nil => 1
  | .ptr d => uptoBulk d + 1
  | .slice elems spare => uptoBulkAll elems + uptoBulkAll spare + 1
  | .agg parts => uptoBulkAll parts + 1
  | .iface _ d => uptoBulk d + 1
  | .map entries => uptoBulkEntries entries + 1
  | .held _ => 1
def uptoBulkAll {H : Type} : List (DataW H) → Nat
  | [] => 0
  | d :: r => uptoBulk d + uptoBulkAll r
def uptoBulkEntries {H : Type} : List (Lit × DataW H) → Nat
  | [] => 0
  | x :: r => uptoBulkEntry x + uptoBulkEntries r
def uptoBulkEntry {H : Type} : Lit × DataW H → Nat
  | (.string bytes, d) => bytes.length + uptoBulk d + 1
  | (_, d) => uptoBulk d + 1
 end
def uptoSmall : (H : Type) → List (DataW H) → Bool := fun _ ds => decide (uptoBulkAll ds ≤ 1048576)
def OpenSpec.upto (s : _root_.Go.ChangeSpec) : _root_.Go.OpenSpec := { _root_.Go.OpenSpec.ofChange s with cond := some uptoSmall }

/-- 'goosepondlaw09.IcmpBuilds', WHERE WHAT IT READS IS OF BULK AT MOST 1048576: true; the input reads as it did. -/
def icmpBuildsUptoRow : OpenClaim := { program := "ytekngoallcogpaa", sum := "c7766208bd2258c07fbd3ad29cc67c5f46c7eba1a938b70903ba798d6f1ed8b1", func := "goosepond/goosepondlaw09.IcmpBuilds", spec := "icmpBuilds", unfollowed := true, recurses := true, apart := false, narrowed := true }
def IcmpBuildsUptoSaid : Prop := icmpBuildsUptoRow.holds Try.pinned (OpenSpec.upto icmpBuildsSpec)

/-- 'goosepondlaw09.IcmpParses', WHERE WHAT IT READS IS OF BULK AT MOST 1048576: true; the input reads as it did. -/
def icmpParsesUptoRow : OpenClaim := { program := "ytekngoallcogpaa", sum := "c7766208bd2258c07fbd3ad29cc67c5f46c7eba1a938b70903ba798d6f1ed8b1", func := "goosepond/goosepondlaw09.IcmpParses", spec := "icmpParses", unfollowed := true, recurses := true, apart := false, narrowed := true }
def IcmpParsesUptoSaid : Prop := icmpParsesUptoRow.holds Try.pinned (OpenSpec.upto icmpParsesSpec)

/-- 'goosepondlaw09.IcmpTells', WHERE WHAT IT READS IS OF BULK AT MOST 1048576: true; the input reads as it did. -/
def icmpTellsUptoRow : OpenClaim := { program := "ytekngoallcogpaa", sum := "c7766208bd2258c07fbd3ad29cc67c5f46c7eba1a938b70903ba798d6f1ed8b1", func := "goosepond/goosepondlaw09.IcmpTells", spec := "icmpTells", unfollowed := true, recurses := true, apart := false, narrowed := true }
def IcmpTellsUptoSaid : Prop := icmpTellsUptoRow.holds Try.pinned (OpenSpec.upto icmpTellsSpec)

/-- 'goosepondlaw09.IcmpBack', WHERE WHAT IT READS IS OF BULK AT MOST 1048576: true; the input reads as it did. -/
def icmpBackUptoRow : OpenClaim := { program := "ytekngoallcogpaa", sum := "c7766208bd2258c07fbd3ad29cc67c5f46c7eba1a938b70903ba798d6f1ed8b1", func := "goosepond/goosepondlaw09.IcmpBack", spec := "icmpBack", unfollowed := true, recurses := true, apart := false, narrowed := true }
def IcmpBackUptoSaid : Prop := icmpBackUptoRow.holds Try.pinned (OpenSpec.upto icmpBackSpec)

/-- 'goosepondlaw07.UdpBuilds', WHERE WHAT IT READS IS OF BULK AT MOST 1048576: true; the input reads as it did. -/
def udpBuildsUptoRow : OpenClaim := { program := "ytekngoallcogpaa", sum := "c7766208bd2258c07fbd3ad29cc67c5f46c7eba1a938b70903ba798d6f1ed8b1", func := "goosepond/goosepondlaw07.UdpBuilds", spec := "udpBuilds", unfollowed := true, recurses := true, apart := false, narrowed := true }
def UdpBuildsUptoSaid : Prop := udpBuildsUptoRow.holds Try.pinned (OpenSpec.upto udpBuildsSpec)

/-- 'goosepondlaw07.UdpParses', WHERE WHAT IT READS IS OF BULK AT MOST 1048576: true; the input reads as it did. -/
def udpParsesUptoRow : OpenClaim := { program := "ytekngoallcogpaa", sum := "c7766208bd2258c07fbd3ad29cc67c5f46c7eba1a938b70903ba798d6f1ed8b1", func := "goosepond/goosepondlaw07.UdpParses", spec := "udpParses", unfollowed := true, recurses := true, apart := false, narrowed := true }
def UdpParsesUptoSaid : Prop := udpParsesUptoRow.holds Try.pinned (OpenSpec.upto udpParsesSpec)

/-- 'goosepondlaw07.UdpBack', WHERE WHAT IT READS IS OF BULK AT MOST 1048576: true; the input reads as it did. -/
def udpBackUptoRow : OpenClaim := { program := "ytekngoallcogpaa", sum := "c7766208bd2258c07fbd3ad29cc67c5f46c7eba1a938b70903ba798d6f1ed8b1", func := "goosepond/goosepondlaw07.UdpBack", spec := "udpBack", unfollowed := true, recurses := true, apart := false, narrowed := true }
def UdpBackUptoSaid : Prop := udpBackUptoRow.holds Try.pinned (OpenSpec.upto udpBackSpec)

/-- 'goosepondlaw10.Icmp6Builds', WHERE WHAT IT READS IS OF BULK AT MOST 1048576: true; the input reads as it did. -/
def icmp6BuildsUptoRow : OpenClaim := { program := "ytekngoallcogpaa", sum := "c7766208bd2258c07fbd3ad29cc67c5f46c7eba1a938b70903ba798d6f1ed8b1", func := "goosepond/goosepondlaw10.Icmp6Builds", spec := "icmp6Builds", unfollowed := true, recurses := true, apart := false, narrowed := true }
def Icmp6BuildsUptoSaid : Prop := icmp6BuildsUptoRow.holds Try.pinned (OpenSpec.upto icmp6BuildsSpec)

/-- 'goosepondlaw10.Icmp6Parses', WHERE WHAT IT READS IS OF BULK AT MOST 1048576: true; the input reads as it did. -/
def icmp6ParsesUptoRow : OpenClaim := { program := "ytekngoallcogpaa", sum := "c7766208bd2258c07fbd3ad29cc67c5f46c7eba1a938b70903ba798d6f1ed8b1", func := "goosepond/goosepondlaw10.Icmp6Parses", spec := "icmp6Parses", unfollowed := true, recurses := true, apart := false, narrowed := true }
def Icmp6ParsesUptoSaid : Prop := icmp6ParsesUptoRow.holds Try.pinned (OpenSpec.upto icmp6ParsesSpec)

/-- 'goosepondlaw10.Icmp6Back', WHERE WHAT IT READS IS OF BULK AT MOST 1048576: true; the input reads as it did. -/
def icmp6BackUptoRow : OpenClaim := { program := "ytekngoallcogpaa", sum := "c7766208bd2258c07fbd3ad29cc67c5f46c7eba1a938b70903ba798d6f1ed8b1", func := "goosepond/goosepondlaw10.Icmp6Back", spec := "icmp6Back", unfollowed := true, recurses := true, apart := false, narrowed := true }
def Icmp6BackUptoSaid : Prop := icmp6BackUptoRow.holds Try.pinned (OpenSpec.upto icmp6BackSpec)

end Rows
end Go.Proofs.Ytekngoallcogpaa
