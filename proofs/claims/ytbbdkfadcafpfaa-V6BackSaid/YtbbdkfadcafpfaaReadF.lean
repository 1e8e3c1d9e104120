/- From an argument's reading to words of this claim: a fragment header by value. No condition. -/
import Derived.Test.YtbbdkfadcafpfaaRead
set_option linter.unusedVariables false
namespace Go.Proofs.Ytbbdkfadcafpfaa
open Go.ChangeShapes Go.WideShapes Go.ChangeAt Go.RowKit Go.Deep Go.Joins

theorem cells_frag : Try.prog.cellsOf 36 = 4 := by kernel_rfl
section
variable {H : Type} {enc : TypeId × Value → H} {W : World}
set_option maxRecDepth 100000 in
theorem frag_of {r : Reach} {b0 : Nat} {v : Value} {d : DataW H} {p : List MemPlace} (hv : Value.okWide Try.prog W r b0 36 v) (h : DataW.Trod enc Try.prog W 0 (fun _ => true) true 36 v d p) :
    ∃ x y z m, v = .agg #[.int .i64 x, .int .i64 y, .int .i64 z, .bool m] := by
  obtain ⟨v0, v1, v2, v3, y0, y1, y2, y3, n, rfl, _, _, h0, h1, h2, h3⟩ := open_agg4 Try.underlying36 (by kernel_rfl) cells_frag hv h
  obtain ⟨x, e0, _, _⟩ := DataW.trod_int Try.underlying3 h0
  obtain ⟨y, e1, _, _⟩ := DataW.trod_int Try.underlying3 h1
  obtain ⟨z, e2, _, _⟩ := DataW.trod_int Try.underlying3 h2
  obtain ⟨m, e3, _⟩ := DataW.trod_bool Try.underlying4 h3
  cases e0; cases e1; cases e2; cases e3
  exact ⟨x, y, z, m, rfl⟩
end
end Go.Proofs.Ytbbdkfadcafpfaa
