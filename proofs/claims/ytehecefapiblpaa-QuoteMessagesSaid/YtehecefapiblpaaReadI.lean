/- From an argument's reading to words of this claim: a message of ICMP by value. No condition. -/
import Derived.Test.YtehecefapiblpaaReadV4
import Derived.Test.YtehecefapiblpaaIcmpP
set_option linter.unusedVariables false
namespace Go.Proofs.Ytehecefapiblpaa
open Go.ChangeShapes Go.WideShapes Go.ChangeAt Go.RowKit Go.Deep

theorem cells_icmp : Try.prog.cellsOf 49 = 4 := by kernel_rfl
section
variable {H : Type} {enc : TypeId × Value → H} {W : World}
set_option maxRecDepth 100000 in
theorem icmp_of {r : Reach} {b0 : Nat} {v : Value} {d : DataW H} {p : List MemPlace} (hv : Value.okWide Try.prog W r b0 49 v) (h : DataW.Trod enc Try.prog W 0 (fun _ => true) true 49 v d p) :
    ∃ (m : IcmpP) (A : Option Addr) (n c : Nat), v = .agg (cellsI m A n c) ∧ RB W A n c m.data := by
  obtain ⟨C, rfl, hsz⟩ := okWide_struct Try.underlying49 hv
  rw [cells_icmp] at hsz
  obtain ⟨fuel, hf⟩ := h
  have ci : Try.prog.cellsOf 3 = 1 := by kernel_rfl
  obtain ⟨z0, e0, _⟩ := field_int Try.underlying49 (C := C) hf 0 _ rfl ci (by show _ ≤ C.size; rw [hsz]; decide) Try.underlying3
  obtain ⟨z1, e1, _⟩ := field_int Try.underlying49 (C := C) hf 1 _ rfl ci (by show _ ≤ C.size; rw [hsz]; decide) Try.underlying3
  obtain ⟨z2, e2, _⟩ := field_int Try.underlying49 (C := C) hf 2 _ rfl ci (by show _ ≤ C.size; rw [hsz]; decide) Try.underlying3
  obtain ⟨A, n, c, D, e3, hr⟩ := field_bytes Try.underlying49 (C := C) hf 3 _ rfl (by show _ ≤ C.size; rw [hsz]; decide) rfl
  obtain ⟨c0, c1, c2, c3, rfl⟩ := Joins.array4 hsz
  cases e0; cases e1; cases e2; cases e3
  exact ⟨⟨z0, z1, z2, D⟩, A, n, c, rfl, hr⟩
end
end Go.Proofs.Ytehecefapiblpaa
