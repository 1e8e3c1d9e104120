/- From an argument's reading to words of this claim: a datagram by value. No condition. -/
import Derived.Test.YtekngoallcogpaaReadS
import Derived.Test.YtekngoallcogpaaUdpC
set_option linter.unusedVariables false
namespace Go.Proofs.Ytekngoallcogpaa
open Go.ChangeShapes Go.WideShapes Go.ChangeAt Go.RowKit Go.Deep

theorem cells_udp : Try.prog.cellsOf 41 = 4 := by kernel_rfl
section
variable {H : Type} {enc : TypeId × Value → H} {W : World}
set_option maxRecDepth 100000 in
theorem udp_of {r : Reach} {b0 : Nat} {v : Value} {d : DataW H} {p : List MemPlace} (hv : Value.okWide Try.prog W r b0 41 v) (h : DataW.Trod enc Try.prog W 0 (fun _ => true) true 41 v d p) :
    ∃ (m : UdpP) (A : Option Addr) (n c : Nat), v = .agg (cellsU m A n c) ∧ RB W A n c m.data := by
  obtain ⟨C, rfl, hsz⟩ := okWide_struct Try.underlying41 hv
  rw [cells_udp] at hsz
  obtain ⟨fuel, hf⟩ := h
  have ci : Try.prog.cellsOf 3 = 1 := by kernel_rfl
  have cb : Try.prog.cellsOf 4 = 1 := by kernel_rfl
  obtain ⟨z0, e0, _⟩ := field_int Try.underlying41 (C := C) hf 0 _ rfl ci (by show _ ≤ C.size; rw [hsz]; decide) Try.underlying3
  obtain ⟨z1, e1, _⟩ := field_int Try.underlying41 (C := C) hf 1 _ rfl ci (by show _ ≤ C.size; rw [hsz]; decide) Try.underlying3
  obtain ⟨z2, e2⟩ := field_bool Try.underlying41 (C := C) hf 2 _ rfl cb (by show _ ≤ C.size; rw [hsz]; decide) Try.underlying4
  obtain ⟨A, n, c, D, e3, hr⟩ := field_bytes Try.underlying41 (C := C) hf 3 _ rfl (by show _ ≤ C.size; rw [hsz]; decide) rfl
  obtain ⟨c0, c1, c2, c3, rfl⟩ := Joins.array4 hsz
  cases e0; cases e1; cases e2; cases e3
  exact ⟨⟨z0, z1, z2, D⟩, A, n, c, rfl, hr⟩
end
end Go.Proofs.Ytekngoallcogpaa
