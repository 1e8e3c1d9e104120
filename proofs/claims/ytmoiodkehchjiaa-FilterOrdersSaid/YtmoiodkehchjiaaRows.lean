/-
  No cell of these rows narrows 'for every input' (looked for: loops, veiled, ifaces, maps, wideKeys, modest, calm, conditions, laid).
  DERIVED. THE GIVEN ROWS OF THIS SEAT. 10 by the template 'for every input the law returns true; each argument reads behind the call as it read before'; 0 by the template 'total and deterministic' (their statements: YtmoiodkehchjiaaTotals.lean).
  GIVEN WITH THE SEED: the statements are not yours to turn. If you find one false, say at which input.
  Laid BY PROGRAM, IN A SANDBOX (cutbox-rows.mjs): the forced cells as the released guide's own fill.sh prints them over the translation a1ad81c17a3d1cc2… (all of the seat's roots in one cut). By AI agents, Wed Nov 11 2026. No macro, syntax, notation, axiom, sorry.
-/
import Derived.Test.YtmoiodkehchjiaaChecked
import GoSem.Claim
import GoSem.ClaimJoined
import GoSem.ClaimMapViews
import Derived.JoinedTies
import Derived.KernelRfl
namespace Go.Proofs.Ytmoiodkehchjiaa
/- THE CELL 'sum', in the pinned program and in every row, IS THE sha256 OF THE DUMP (.gsa) THAT YtmoiodkehchjiaaProg.lean LOADS. Nothing in Lean hashes anything: it is a label: what it is worth is what the hold of that sum in a sandbox is worth. -/
noncomputable def Try.pinned : Pinned := { name := "ytmoiodkehchjiaa", sum := "a1ad81c17a3d1cc2de1345de26dcd8a00c3cd3205c60c671308f34241ca081d0", checked := Try.checked }
namespace Rows
def none {H : Type} : Left H := { results := [], args := [] }

/-- 'goosepondlaw02.SumTells': WHATEVER THE INPUT: true; the input reads as it did. -/
def sumTellsSpec : ChangeSpec := { name := "sumTells", fn := fun _ => fun
  | [d1, d2] => { results := [.lit (.bool true)], args := [d1, d2] }
  | _ => none }
def sumTellsRow : OpenClaim := { program := "ytmoiodkehchjiaa", sum := "a1ad81c17a3d1cc2de1345de26dcd8a00c3cd3205c60c671308f34241ca081d0", func := "goosepond/goosepondlaw02.SumTells", spec := "sumTells", unfollowed := true, recurses := true, apart := false }
def SumTellsSaid : Prop := sumTellsRow.holds Try.pinned (OpenSpec.ofChange sumTellsSpec)

/-- ITS FALSE NEIGHBOUR: 'it returns false'. Refute it at one input. -/
def sumTellsWrong : ChangeSpec := { name := "sumTells", fn := fun _ => fun
  | [d1, d2] => { results := [.lit (.bool false)], args := [d1, d2] }
  | _ => none }
def SumTellsWrongFalsely : Prop := sumTellsRow.holds Try.pinned (OpenSpec.ofChange sumTellsWrong)

/-- 'goosepondlaw02.SumRight': WHATEVER THE INPUT: true; the input reads as it did. -/
def sumRightSpec : ChangeSpec := { name := "sumRight", fn := fun _ => fun
  | [d] => { results := [.lit (.bool true)], args := [d] }
  | _ => none }
def sumRightRow : OpenClaim := { program := "ytmoiodkehchjiaa", sum := "a1ad81c17a3d1cc2de1345de26dcd8a00c3cd3205c60c671308f34241ca081d0", func := "goosepond/goosepondlaw02.SumRight", spec := "sumRight", unfollowed := true, recurses := true, apart := false }
def SumRightSaid : Prop := sumRightRow.holds Try.pinned (OpenSpec.ofChange sumRightSpec)

/-- ITS FALSE NEIGHBOUR: 'it returns false'. Refute it at one input. -/
def sumRightWrong : ChangeSpec := { name := "sumRight", fn := fun _ => fun
  | [d] => { results := [.lit (.bool false)], args := [d] }
  | _ => none }
def SumRightWrongFalsely : Prop := sumRightRow.holds Try.pinned (OpenSpec.ofChange sumRightWrong)

/-- 'goosepondlaw25.FilterTells': WHATEVER THE INPUT: true; the input reads as it did. -/
def filterTellsSpec : ChangeSpec := { name := "filterTells", fn := fun _ => fun
  | [d1, d2, d3] => { results := [.lit (.bool true)], args := [d1, d2, d3] }
  | _ => none }
def filterTellsRow : OpenClaim := { program := "ytmoiodkehchjiaa", sum := "a1ad81c17a3d1cc2de1345de26dcd8a00c3cd3205c60c671308f34241ca081d0", func := "goosepond/goosepondlaw25.FilterTells", spec := "filterTells", unfollowed := true, recurses := true, apart := false }
def FilterTellsSaid : Prop := filterTellsRow.holds Try.pinned (OpenSpec.ofChange filterTellsSpec)

/-- ITS FALSE NEIGHBOUR: 'it returns false'. Refute it at one input. -/
def filterTellsWrong : ChangeSpec := { name := "filterTells", fn := fun _ => fun
  | [d1, d2, d3] => { results := [.lit (.bool false)], args := [d1, d2, d3] }
  | _ => none }
def FilterTellsWrongFalsely : Prop := filterTellsRow.holds Try.pinned (OpenSpec.ofChange filterTellsWrong)

/-- 'goosepondlaw25.FilterOrders': WHATEVER THE INPUT: true; the input reads as it did. -/
def filterOrdersSpec : ChangeSpec := { name := "filterOrders", fn := fun _ => fun
  | [d1, d2] => { results := [.lit (.bool true)], args := [d1, d2] }
  | _ => none }
def filterOrdersRow : OpenClaim := { program := "ytmoiodkehchjiaa", sum := "a1ad81c17a3d1cc2de1345de26dcd8a00c3cd3205c60c671308f34241ca081d0", func := "goosepond/goosepondlaw25.FilterOrders", spec := "filterOrders", unfollowed := true, recurses := true, apart := false }
def FilterOrdersSaid : Prop := filterOrdersRow.holds Try.pinned (OpenSpec.ofChange filterOrdersSpec)

/-- ITS FALSE NEIGHBOUR: 'it returns false'. Refute it at one input. -/
def filterOrdersWrong : ChangeSpec := { name := "filterOrders", fn := fun _ => fun
  | [d1, d2] => { results := [.lit (.bool false)], args := [d1, d2] }
  | _ => none }
def FilterOrdersWrongFalsely : Prop := filterOrdersRow.holds Try.pinned (OpenSpec.ofChange filterOrdersWrong)

/-- 'goosepondlaw02.SumChanges': WHATEVER THE INPUT: true; the input reads as it did. -/
def sumChangesSpec : ChangeSpec := { name := "sumChanges", fn := fun _ => fun
  | [d1, d2, d3] => { results := [.lit (.bool true)], args := [d1, d2, d3] }
  | _ => none }
def sumChangesRow : OpenClaim := { program := "ytmoiodkehchjiaa", sum := "a1ad81c17a3d1cc2de1345de26dcd8a00c3cd3205c60c671308f34241ca081d0", func := "goosepond/goosepondlaw02.SumChanges", spec := "sumChanges", unfollowed := true, recurses := true, apart := false }
def SumChangesSaid : Prop := sumChangesRow.holds Try.pinned (OpenSpec.ofChange sumChangesSpec)

/-- ITS FALSE NEIGHBOUR: 'it returns false'. Refute it at one input. -/
def sumChangesWrong : ChangeSpec := { name := "sumChanges", fn := fun _ => fun
  | [d1, d2, d3] => { results := [.lit (.bool false)], args := [d1, d2, d3] }
  | _ => none }
def SumChangesWrongFalsely : Prop := sumChangesRow.holds Try.pinned (OpenSpec.ofChange sumChangesWrong)

/-- 'goosepondlaw02.SumStays': WHATEVER THE INPUT: true; the input reads as it did. -/
def sumStaysSpec : ChangeSpec := { name := "sumStays", fn := fun _ => fun
  | [d1, d2, d3, d4] => { results := [.lit (.bool true)], args := [d1, d2, d3, d4] }
  | _ => none }
def sumStaysRow : OpenClaim := { program := "ytmoiodkehchjiaa", sum := "a1ad81c17a3d1cc2de1345de26dcd8a00c3cd3205c60c671308f34241ca081d0", func := "goosepond/goosepondlaw02.SumStays", spec := "sumStays", unfollowed := true, recurses := true, apart := false }
def SumStaysSaid : Prop := sumStaysRow.holds Try.pinned (OpenSpec.ofChange sumStaysSpec)

/-- ITS FALSE NEIGHBOUR: 'it returns false'. Refute it at one input. -/
def sumStaysWrong : ChangeSpec := { name := "sumStays", fn := fun _ => fun
  | [d1, d2, d3, d4] => { results := [.lit (.bool false)], args := [d1, d2, d3, d4] }
  | _ => none }
def SumStaysWrongFalsely : Prop := sumStaysRow.holds Try.pinned (OpenSpec.ofChange sumStaysWrong)

/-- 'goosepondlaw01.BeGets': WHATEVER THE INPUT: true; the input reads as it did. -/
def beGetsSpec : ChangeSpec := { name := "beGets", fn := fun _ => fun
  | [d1, d2, d3] => { results := [.lit (.bool true)], args := [d1, d2, d3] }
  | _ => none }
def beGetsRow : OpenClaim := { program := "ytmoiodkehchjiaa", sum := "a1ad81c17a3d1cc2de1345de26dcd8a00c3cd3205c60c671308f34241ca081d0", func := "goosepond/goosepondlaw01.BeGets", spec := "beGets", unfollowed := true, recurses := true, apart := false }
def BeGetsSaid : Prop := beGetsRow.holds Try.pinned (OpenSpec.ofChange beGetsSpec)

/-- ITS FALSE NEIGHBOUR: 'it returns false'. Refute it at one input. -/
def beGetsWrong : ChangeSpec := { name := "beGets", fn := fun _ => fun
  | [d1, d2, d3] => { results := [.lit (.bool false)], args := [d1, d2, d3] }
  | _ => none }
def BeGetsWrongFalsely : Prop := beGetsRow.holds Try.pinned (OpenSpec.ofChange beGetsWrong)

/-- 'goosepondlaw01.BeBack': WHATEVER THE INPUT: true; the input reads as it did. -/
def beBackSpec : ChangeSpec := { name := "beBack", fn := fun _ => fun
  | [d1, d2, d3] => { results := [.lit (.bool true)], args := [d1, d2, d3] }
  | _ => none }
def beBackRow : OpenClaim := { program := "ytmoiodkehchjiaa", sum := "a1ad81c17a3d1cc2de1345de26dcd8a00c3cd3205c60c671308f34241ca081d0", func := "goosepond/goosepondlaw01.BeBack", spec := "beBack", unfollowed := true, recurses := true, apart := false }
def BeBackSaid : Prop := beBackRow.holds Try.pinned (OpenSpec.ofChange beBackSpec)

/-- ITS FALSE NEIGHBOUR: 'it returns false'. Refute it at one input. -/
def beBackWrong : ChangeSpec := { name := "beBack", fn := fun _ => fun
  | [d1, d2, d3] => { results := [.lit (.bool false)], args := [d1, d2, d3] }
  | _ => none }
def BeBackWrongFalsely : Prop := beBackRow.holds Try.pinned (OpenSpec.ofChange beBackWrong)

/-- 'goosepondlaw01.BeWords': WHATEVER THE INPUT: true; the input reads as it did. -/
def beWordsSpec : ChangeSpec := { name := "beWords", fn := fun _ => fun
  | [d] => { results := [.lit (.bool true)], args := [d] }
  | _ => none }
def beWordsRow : OpenClaim := { program := "ytmoiodkehchjiaa", sum := "a1ad81c17a3d1cc2de1345de26dcd8a00c3cd3205c60c671308f34241ca081d0", func := "goosepond/goosepondlaw01.BeWords", spec := "beWords", unfollowed := true, recurses := true, apart := false }
def BeWordsSaid : Prop := beWordsRow.holds Try.pinned (OpenSpec.ofChange beWordsSpec)

/-- ITS FALSE NEIGHBOUR: 'it returns false'. Refute it at one input. -/
def beWordsWrong : ChangeSpec := { name := "beWords", fn := fun _ => fun
  | [d] => { results := [.lit (.bool false)], args := [d] }
  | _ => none }
def BeWordsWrongFalsely : Prop := beWordsRow.holds Try.pinned (OpenSpec.ofChange beWordsWrong)

/-- 'goosepondlaw01.BePuts': WHATEVER THE INPUT: true; the input reads as it did. -/
def bePutsSpec : ChangeSpec := { name := "bePuts", fn := fun _ => fun
  | [d1, d2, d3, d4] => { results := [.lit (.bool true)], args := [d1, d2, d3, d4] }
  | _ => none }
def bePutsRow : OpenClaim := { program := "ytmoiodkehchjiaa", sum := "a1ad81c17a3d1cc2de1345de26dcd8a00c3cd3205c60c671308f34241ca081d0", func := "goosepond/goosepondlaw01.BePuts", spec := "bePuts", unfollowed := true, recurses := true, apart := false }
def BePutsSaid : Prop := bePutsRow.holds Try.pinned (OpenSpec.ofChange bePutsSpec)

/-- ITS FALSE NEIGHBOUR: 'it returns false'. Refute it at one input. -/
def bePutsWrong : ChangeSpec := { name := "bePuts", fn := fun _ => fun
  | [d1, d2, d3, d4] => { results := [.lit (.bool false)], args := [d1, d2, d3, d4] }
  | _ => none }
def BePutsWrongFalsely : Prop := bePutsRow.holds Try.pinned (OpenSpec.ofChange bePutsWrong)

/- THE SECOND FORM. 'bulk': how many values and letters a reading holds, each counted each time it is reached (what is shared counts as often as it is met; a slice's spare places count too). A statement '..UptoSaid' is the law's where the arguments, and the package variables that the reading takes, are together of bulk at most 1048576: NARROWER than '..Said'. Prove '..Said' where nothing that the law and all that it calls make is longer than what came in: it says more and counts as full. Else prove '..UptoSaid'. A law counts once. -/
mutual
def uptoBulk {H : Type} : DataW H → Nat
  | .lit (.string bytes) => bytes.length + 1
  | .lit _ => 1
  | .nil => 1
  | .ptr d => uptoBulk d + 1
  | .slice elems spare => uptoBulkAll elems + uptoBulkAll spare + 1
  | .agg parts => uptoBulkAll parts + 1
  | .iface _ d => uptoBulk d + 1
  | .map entries => uptoBulkEntries entries + 1
  | .held _ => 1
def uptoBulkAll {H : Type} : List (DataW H) → Nat
  | [] => 0
  | d :: r => uptoBulk d + uptoBulkAll r
def uptoBulkEntries {H : Type} : List (Lit × DataW H) → Nat
  | [] => 0
  | x :: r => uptoBulkEntry x + uptoBulkEntries r
def uptoBulkEntry {H : Type} : Lit × DataW H → Nat
  | (.string bytes, d) => bytes.length + uptoBulk d + 1
  | (_, d) => uptoBulk d + 1
 end
def uptoSmall : (H : Type) → List (DataW H) → Bool := fun _ ds => decide (uptoBulkAll ds ≤ 1048576)
def OpenSpec.upto (s : _root_.Go.ChangeSpec) : _root_.Go.OpenSpec := { _root_.Go.OpenSpec.ofChange s with cond := some uptoSmall }

/-- 'goosepondlaw02.SumTells', WHERE WHAT IT READS IS OF BULK AT MOST 1048576: true; the input reads as it did. -/
def sumTellsUptoRow : OpenClaim := { program := "ytmoiodkehchjiaa", sum := "a1ad81c17a3d1cc2de1345de26dcd8a00c3cd3205c60c671308f34241ca081d0", func := "goosepond/goosepondlaw02.SumTells", spec := "sumTells", unfollowed := true, recurses := true, apart := false, narrowed := true }
def SumTellsUptoSaid : Prop := sumTellsUptoRow.holds Try.pinned (OpenSpec.upto sumTellsSpec)

/-- 'goosepondlaw02.SumRight', WHERE WHAT IT READS IS OF BULK AT MOST 1048576: true; the input reads as it did. -/
def sumRightUptoRow : OpenClaim := { program := "ytmoiodkehchjiaa", sum := "a1ad81c17a3d1cc2de1345de26dcd8a00c3cd3205c60c671308f34241ca081d0", func := "goosepond/goosepondlaw02.SumRight", spec := "sumRight", unfollowed := true, recurses := true, apart := false, narrowed := true }
def SumRightUptoSaid : Prop := sumRightUptoRow.holds Try.pinned (OpenSpec.upto sumRightSpec)

/-- 'goosepondlaw25.FilterTells', WHERE WHAT IT READS IS OF BULK AT MOST 1048576: true; the input reads as it did. -/
def filterTellsUptoRow : OpenClaim := { program := "ytmoiodkehchjiaa", sum := "a1ad81c17a3d1cc2de1345de26dcd8a00c3cd3205c60c671308f34241ca081d0", func := "goosepond/goosepondlaw25.FilterTells", spec := "filterTells", unfollowed := true, recurses := true, apart := false, narrowed := true }
def FilterTellsUptoSaid : Prop := filterTellsUptoRow.holds Try.pinned (OpenSpec.upto filterTellsSpec)

/-- 'goosepondlaw25.FilterOrders', WHERE WHAT IT READS IS OF BULK AT MOST 1048576: true; the input reads as it did. -/
def filterOrdersUptoRow : OpenClaim := { program := "ytmoiodkehchjiaa", sum := "a1ad81c17a3d1cc2de1345de26dcd8a00c3cd3205c60c671308f34241ca081d0", func := "goosepond/goosepondlaw25.FilterOrders", spec := "filterOrders", unfollowed := true, recurses := true, apart := false, narrowed := true }
def FilterOrdersUptoSaid : Prop := filterOrdersUptoRow.holds Try.pinned (OpenSpec.upto filterOrdersSpec)

/-- 'goosepondlaw02.SumChanges', WHERE WHAT IT READS IS OF BULK AT MOST 1048576: true; the input reads as it did. -/
def sumChangesUptoRow : OpenClaim := { program := "ytmoiodkehchjiaa", sum := "a1ad81c17a3d1cc2de1345de26dcd8a00c3cd3205c60c671308f34241ca081d0", func := "goosepond/goosepondlaw02.SumChanges", spec := "sumChanges", unfollowed := true, recurses := true, apart := false, narrowed := true }
def SumChangesUptoSaid : Prop := sumChangesUptoRow.holds Try.pinned (OpenSpec.upto sumChangesSpec)

/-- 'goosepondlaw02.SumStays', WHERE WHAT IT READS IS OF BULK AT MOST 1048576: true; the input reads as it did. -/
def sumStaysUptoRow : OpenClaim := { program := "ytmoiodkehchjiaa", sum := "a1ad81c17a3d1cc2de1345de26dcd8a00c3cd3205c60c671308f34241ca081d0", func := "goosepond/goosepondlaw02.SumStays", spec := "sumStays", unfollowed := true, recurses := true, apart := false, narrowed := true }
def SumStaysUptoSaid : Prop := sumStaysUptoRow.holds Try.pinned (OpenSpec.upto sumStaysSpec)

/-- 'goosepondlaw01.BeGets', WHERE WHAT IT READS IS OF BULK AT MOST 1048576: true; the input reads as it did. -/
def beGetsUptoRow : OpenClaim := { program := "ytmoiodkehchjiaa", sum := "a1ad81c17a3d1cc2de1345de26dcd8a00c3cd3205c60c671308f34241ca081d0", func := "goosepond/goosepondlaw01.BeGets", spec := "beGets", unfollowed := true, recurses := true, apart := false, narrowed := true }
def BeGetsUptoSaid : Prop := beGetsUptoRow.holds Try.pinned (OpenSpec.upto beGetsSpec)

/-- 'goosepondlaw01.BeBack', WHERE WHAT IT READS IS OF BULK AT MOST 1048576: true; the input reads as it did. -/
def beBackUptoRow : OpenClaim := { program := "ytmoiodkehchjiaa", sum := "a1ad81c17a3d1cc2de1345de26dcd8a00c3cd3205c60c671308f34241ca081d0", func := "goosepond/goosepondlaw01.BeBack", spec := "beBack", unfollowed := true, recurses := true, apart := false, narrowed := true }
def BeBackUptoSaid : Prop := beBackUptoRow.holds Try.pinned (OpenSpec.upto beBackSpec)

/-- 'goosepondlaw01.BeWords', WHERE WHAT IT READS IS OF BULK AT MOST 1048576: true; the input reads as it did. -/
def beWordsUptoRow : OpenClaim := { program := "ytmoiodkehchjiaa", sum := "a1ad81c17a3d1cc2de1345de26dcd8a00c3cd3205c60c671308f34241ca081d0", func := "goosepond/goosepondlaw01.BeWords", spec := "beWords", unfollowed := true, recurses := true, apart := false, narrowed := true }
def BeWordsUptoSaid : Prop := beWordsUptoRow.holds Try.pinned (OpenSpec.upto beWordsSpec)

/-- 'goosepondlaw01.BePuts', WHERE WHAT IT READS IS OF BULK AT MOST 1048576: true; the input reads as it did. -/
def bePutsUptoRow : OpenClaim := { program := "ytmoiodkehchjiaa", sum := "a1ad81c17a3d1cc2de1345de26dcd8a00c3cd3205c60c671308f34241ca081d0", func := "goosepond/goosepondlaw01.BePuts", spec := "bePuts", unfollowed := true, recurses := true, apart := false, narrowed := true }
def BePutsUptoSaid : Prop := bePutsUptoRow.holds Try.pinned (OpenSpec.upto bePutsSpec)

end Rows
end Go.Proofs.Ytmoiodkehchjiaa
