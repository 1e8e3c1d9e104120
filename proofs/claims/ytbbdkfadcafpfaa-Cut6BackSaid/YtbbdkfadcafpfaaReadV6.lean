/- From an argument's reading to words of this claim: a packet of IPv6 by value. No condition. -/
import Derived.Test.YtbbdkfadcafpfaaReadS
import Derived.Test.YtbbdkfadcafpfaaV6
set_option linter.unusedVariables false
namespace Go.Proofs.Ytbbdkfadcafpfaa
open Go.ChangeShapes Go.WideShapes Go.ChangeAt Go.RowKit Go.Deep

theorem cells_v6 : Try.prog.cellsOf 26 = 37 := by kernel_rfl
theorem cells_int : Try.prog.cellsOf 3 = 1 := by kernel_rfl
theorem cells_six : Try.prog.cellsOf 23 = 16 := by kernel_rfl
section
variable {H : Type} {enc : TypeId × Value → H} {W : World}
set_option maxRecDepth 100000 in
theorem v6_of {r : Reach} {b0 : Nat} {v : Value} {d : DataW H} {p : List MemPlace} (hv : Value.okWide Try.prog W r b0 26 v) (h : DataW.Trod enc Try.prog W 0 (fun _ => true) true 26 v d p) :
    ∃ (P : Array Value) (q : V6P) (A : Option Addr) (n c : Nat), v = .agg P ∧ V6V P q A n c ∧ RB W A n c q.data := by
  obtain ⟨C, rfl, hsz⟩ := okWide_struct Try.underlying26 hv
  rw [cells_v6] at hsz
  obtain ⟨fuel, hf⟩ := h
  obtain ⟨z0, e0, _⟩ := field_int Try.underlying26 (C := C) hf 0 _ rfl cells_int (by show _ ≤ C.size; rw [hsz]; decide) Try.underlying3
  obtain ⟨z1, e1, _⟩ := field_int Try.underlying26 (C := C) hf 1 _ rfl cells_int (by show _ ≤ C.size; rw [hsz]; decide) Try.underlying3
  obtain ⟨z2, e2, _⟩ := field_int Try.underlying26 (C := C) hf 2 _ rfl cells_int (by show _ ≤ C.size; rw [hsz]; decide) Try.underlying3
  obtain ⟨z3, e3, _⟩ := field_int Try.underlying26 (C := C) hf 3 _ rfl cells_int (by show _ ≤ C.size; rw [hsz]; decide) Try.underlying3
  obtain ⟨s, ls, bs, hs⟩ := field_arr Try.underlying26 (C := C) hf 4 _ rfl 16 cells_six (by show _ ≤ C.size; rw [hsz]; decide) Try.underlying23
  obtain ⟨t, lt, bt, ht⟩ := field_arr Try.underlying26 (C := C) hf 5 _ rfl 16 cells_six (by show _ ≤ C.size; rw [hsz]; decide) Try.underlying23
  obtain ⟨A, n, c, D, e6, hr⟩ := field_bytes Try.underlying26 (C := C) hf 6 _ rfl (by show _ ≤ C.size; rw [hsz]; decide) rfl
  exact ⟨C, ⟨z0, z1, z2, z3, s, t, D⟩, A, n, c, rfl, ⟨hsz, e0, e1, e2, e3, hs, ht, e6, ls, lt, bs, bt⟩, hr⟩
end
end Go.Proofs.Ytbbdkfadcafpfaa
