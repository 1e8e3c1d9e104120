/-
  No cell of these rows narrows 'for every input' (looked for: loops, veiled, ifaces, maps, wideKeys, modest, calm, conditions, laid).
  DERIVED. THE GIVEN ROWS OF THIS SEAT. 4 by the template 'for every input the law returns true; each argument reads behind the call as it read before'; 0 by the template 'total and deterministic' (their statements: YtmbmmpbfmakfbaaTotals.lean).
  GIVEN WITH THE SEED: the statements are not yours to turn. If you find one false, say at which input.
  Laid BY PROGRAM, IN A SANDBOX (cutbox-rows.mjs): the forced cells as the released guide's own fill.sh prints them over the translation c0b54a3f4d88fa73… (all of the seat's roots in one cut). By AI agents, Wed Nov 11 2026. No macro, syntax, notation, axiom, sorry.
-/
import Derived.Test.YtmbmmpbfmakfbaaChecked
import GoSem.Claim
import GoSem.ClaimJoined
import GoSem.ClaimMapViews
import Derived.JoinedTies
import Derived.KernelRfl
namespace Go.Proofs.Ytmbmmpbfmakfbaa
/- THE CELL 'sum', in the pinned program and in every row, IS THE sha256 OF THE DUMP (.gsa) THAT YtmbmmpbfmakfbaaProg.lean LOADS. Nothing in Lean hashes anything: it is a label: what it is worth is what the hold of that sum in a sandbox is worth. -/
noncomputable def Try.pinned : Pinned := { name := "ytmbmmpbfmakfbaa", sum := "c0b54a3f4d88fa73b7a8393e724ccbf093e3940cc5ad3e06ecd7bdae9a9f188d", checked := Try.checked }
namespace Rows
def none {H : Type} : Left H := { results := [], args := [] }

/-- 'goosepondlaw26.QuoteSums': WHATEVER THE INPUT: true; the input reads as it did. -/
def quoteSumsSpec : ChangeSpec := { name := "quoteSums", fn := fun _ => fun
  | [d1, d2, d3, d4] => { results := [.lit (.bool true)], args := [d1, d2, d3, d4] }
  | _ => none }
def quoteSumsRow : OpenClaim := { program := "ytmbmmpbfmakfbaa", sum := "c0b54a3f4d88fa73b7a8393e724ccbf093e3940cc5ad3e06ecd7bdae9a9f188d", func := "goosepond/goosepondlaw26.QuoteSums", spec := "quoteSums", unfollowed := true, recurses := true, apart := false }
def QuoteSumsSaid : Prop := quoteSumsRow.holds Try.pinned (OpenSpec.ofChange quoteSumsSpec)

/-- ITS FALSE NEIGHBOUR: 'it returns false'. Refute it at one input. -/
def quoteSumsWrong : ChangeSpec := { name := "quoteSums", fn := fun _ => fun
  | [d1, d2, d3, d4] => { results := [.lit (.bool false)], args := [d1, d2, d3, d4] }
  | _ => none }
def QuoteSumsWrongFalsely : Prop := quoteSumsRow.holds Try.pinned (OpenSpec.ofChange quoteSumsWrong)

/-- 'goosepondlaw26.QuotePorts': WHATEVER THE INPUT: true; the input reads as it did. -/
def quotePortsSpec : ChangeSpec := { name := "quotePorts", fn := fun _ => fun
  | [d1, d2, d3] => { results := [.lit (.bool true)], args := [d1, d2, d3] }
  | _ => none }
def quotePortsRow : OpenClaim := { program := "ytmbmmpbfmakfbaa", sum := "c0b54a3f4d88fa73b7a8393e724ccbf093e3940cc5ad3e06ecd7bdae9a9f188d", func := "goosepond/goosepondlaw26.QuotePorts", spec := "quotePorts", unfollowed := true, recurses := true, apart := false }
def QuotePortsSaid : Prop := quotePortsRow.holds Try.pinned (OpenSpec.ofChange quotePortsSpec)

/-- ITS FALSE NEIGHBOUR: 'it returns false'. Refute it at one input. -/
def quotePortsWrong : ChangeSpec := { name := "quotePorts", fn := fun _ => fun
  | [d1, d2, d3] => { results := [.lit (.bool false)], args := [d1, d2, d3] }
  | _ => none }
def QuotePortsWrongFalsely : Prop := quotePortsRow.holds Try.pinned (OpenSpec.ofChange quotePortsWrong)

/-- 'goosepondlaw26.QuoteTells': WHATEVER THE INPUT: true; the input reads as it did. -/
def quoteTellsSpec : ChangeSpec := { name := "quoteTells", fn := fun _ => fun
  | [d1, d2, d3] => { results := [.lit (.bool true)], args := [d1, d2, d3] }
  | _ => none }
def quoteTellsRow : OpenClaim := { program := "ytmbmmpbfmakfbaa", sum := "c0b54a3f4d88fa73b7a8393e724ccbf093e3940cc5ad3e06ecd7bdae9a9f188d", func := "goosepond/goosepondlaw26.QuoteTells", spec := "quoteTells", unfollowed := true, recurses := true, apart := false }
def QuoteTellsSaid : Prop := quoteTellsRow.holds Try.pinned (OpenSpec.ofChange quoteTellsSpec)

/-- ITS FALSE NEIGHBOUR: 'it returns false'. Refute it at one input. -/
def quoteTellsWrong : ChangeSpec := { name := "quoteTells", fn := fun _ => fun
  | [d1, d2, d3] => { results := [.lit (.bool false)], args := [d1, d2, d3] }
  | _ => none }
def QuoteTellsWrongFalsely : Prop := quoteTellsRow.holds Try.pinned (OpenSpec.ofChange quoteTellsWrong)

/-- 'goosepondlaw26.QuoteMessages': WHATEVER THE INPUT: true; the input reads as it did. -/
def quoteMessagesSpec : ChangeSpec := { name := "quoteMessages", fn := fun _ => fun
  | [d1, d2, d3, d4] => { results := [.lit (.bool true)], args := [d1, d2, d3, d4] }
  | _ => none }
def quoteMessagesRow : OpenClaim := { program := "ytmbmmpbfmakfbaa", sum := "c0b54a3f4d88fa73b7a8393e724ccbf093e3940cc5ad3e06ecd7bdae9a9f188d", func := "goosepond/goosepondlaw26.QuoteMessages", spec := "quoteMessages", unfollowed := true, recurses := true, apart := false }
def QuoteMessagesSaid : Prop := quoteMessagesRow.holds Try.pinned (OpenSpec.ofChange quoteMessagesSpec)

/-- ITS FALSE NEIGHBOUR: 'it returns false'. Refute it at one input. -/
def quoteMessagesWrong : ChangeSpec := { name := "quoteMessages", fn := fun _ => fun
  | [d1, d2, d3, d4] => { results := [.lit (.bool false)], args := [d1, d2, d3, d4] }
  | _ => none }
def QuoteMessagesWrongFalsely : Prop := quoteMessagesRow.holds Try.pinned (OpenSpec.ofChange quoteMessagesWrong)

/- THE SECOND FORM. 'bulk': how many values and letters a reading holds, each counted each time it is reached (what is shared counts as often as it is met; a slice's spare places count too). A statement '..UptoSaid' is the law's where the arguments, and the package variables that the reading takes, are together of bulk at most 1048576: NARROWER than '..Said'. Prove '..Said' where nothing that the law and all that it calls make is longer than what came in: it says more and counts as full. Else prove '..UptoSaid'. A law counts once. -/
mutual
def uptoBulk {H : Type} : DataW H → Nat
  | .lit (.string bytes) => bytes.length + 1
  | .lit _ => 1
  | .nil => 1
  | .ptr d => uptoBulk d + 1
  | .slice elems spare => uptoBulkAll elems + uptoBulkAll spare + 1
  | .agg parts => uptoBulkAll parts + 1
  | .iface _ d => uptoBulk d + 1
  | .map entries => uptoBulkEntries entries + 1
  | .held _ => 1
def uptoBulkAll {H : Type} : List (DataW H) → Nat
  | [] => 0
  | d :: r => uptoBulk d + uptoBulkAll r
def uptoBulkEntries {H : Type} : List (Lit × DataW H) → Nat
  | [] => 0
  | x :: r => uptoBulkEntry x + uptoBulkEntries r
def uptoBulkEntry {H : Type} : Lit × DataW H → Nat
  | (.string bytes, d) => bytes.length + uptoBulk d + 1
  | (_, d) => uptoBulk d + 1
 end
def uptoSmall : (H : Type) → List (DataW H) → Bool := fun _ ds => decide (uptoBulkAll ds ≤ 1048576)
def OpenSpec.upto (s : _root_.Go.ChangeSpec) : _root_.Go.OpenSpec := { _root_.Go.OpenSpec.ofChange s with cond := some uptoSmall }

/-- 'goosepondlaw26.QuoteSums', WHERE WHAT IT READS IS OF BULK AT MOST 1048576: true; the input reads as it did. -/
def quoteSumsUptoRow : OpenClaim := { program := "ytmbmmpbfmakfbaa", sum := "c0b54a3f4d88fa73b7a8393e724ccbf093e3940cc5ad3e06ecd7bdae9a9f188d", func := "goosepond/goosepondlaw26.QuoteSums", spec := "quoteSums", unfollowed := true, recurses := true, apart := false, narrowed := true }
def QuoteSumsUptoSaid : Prop := quoteSumsUptoRow.holds Try.pinned (OpenSpec.upto quoteSumsSpec)

/-- 'goosepondlaw26.QuotePorts', WHERE WHAT IT READS IS OF BULK AT MOST 1048576: true; the input reads as it did. -/
def quotePortsUptoRow : OpenClaim := { program := "ytmbmmpbfmakfbaa", sum := "c0b54a3f4d88fa73b7a8393e724ccbf093e3940cc5ad3e06ecd7bdae9a9f188d", func := "goosepond/goosepondlaw26.QuotePorts", spec := "quotePorts", unfollowed := true, recurses := true, apart := false, narrowed := true }
def QuotePortsUptoSaid : Prop := quotePortsUptoRow.holds Try.pinned (OpenSpec.upto quotePortsSpec)

/-- 'goosepondlaw26.QuoteTells', WHERE WHAT IT READS IS OF BULK AT MOST 1048576: true; the input reads as it did. -/
def quoteTellsUptoRow : OpenClaim := { program := "ytmbmmpbfmakfbaa", sum := "c0b54a3f4d88fa73b7a8393e724ccbf093e3940cc5ad3e06ecd7bdae9a9f188d", func := "goosepond/goosepondlaw26.QuoteTells", spec := "quoteTells", unfollowed := true, recurses := true, apart := false, narrowed := true }
def QuoteTellsUptoSaid : Prop := quoteTellsUptoRow.holds Try.pinned (OpenSpec.upto quoteTellsSpec)

/-- 'goosepondlaw26.QuoteMessages', WHERE WHAT IT READS IS OF BULK AT MOST 1048576: true; the input reads as it did. -/
def quoteMessagesUptoRow : OpenClaim := { program := "ytmbmmpbfmakfbaa", sum := "c0b54a3f4d88fa73b7a8393e724ccbf093e3940cc5ad3e06ecd7bdae9a9f188d", func := "goosepond/goosepondlaw26.QuoteMessages", spec := "quoteMessages", unfollowed := true, recurses := true, apart := false, narrowed := true }
def QuoteMessagesUptoSaid : Prop := quoteMessagesUptoRow.holds Try.pinned (OpenSpec.upto quoteMessagesSpec)

end Rows
end Go.Proofs.Ytmbmmpbfmakfbaa
