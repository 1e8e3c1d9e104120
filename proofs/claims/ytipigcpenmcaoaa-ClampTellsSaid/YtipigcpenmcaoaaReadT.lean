/- From an argument's reading to words of this claim: a segment by value. No condition. -/
import Derived.Test.YtipigcpenmcaoaaReadV4
import Derived.Test.YtipigcpenmcaoaaTcp
set_option linter.unusedVariables false
namespace Go.Proofs.Ytipigcpenmcaoaa
open Go.ChangeShapes Go.WideShapes Go.ChangeAt Go.RowKit Go.Deep

theorem cells_tcp : Try.prog.cellsOf 50 = 10 := by kernel_rfl
theorem array10 {C : Array Value} (h : C.size = 10) : ∃ c0 c1 c2 c3 c4 c5 c6 c7 c8 c9, C = #[c0, c1, c2, c3, c4, c5, c6, c7, c8, c9] := by
  obtain ⟨l⟩ := C
  match l, h with
  | [c0, c1, c2, c3, c4, c5, c6, c7, c8, c9], _ => exact ⟨c0, c1, c2, c3, c4, c5, c6, c7, c8, c9, rfl⟩
section
variable {H : Type} {enc : TypeId × Value → H} {W : World}
set_option maxRecDepth 100000 in
theorem tcp_of {r : Reach} {b0 : Nat} {v : Value} {d : DataW H} {p : List MemPlace} (hv : Value.okWide Try.prog W r b0 50 v) (h : DataW.Trod enc Try.prog W 0 (fun _ => true) true 50 v d p) :
    ∃ (m : TcpP) (Ao : Option Addr) (no co : Nat) (A : Option Addr) (n c : Nat), v = .agg (cellsT m Ao no co A n c) ∧ RB W Ao no co m.opts ∧ RB W A n c m.data := by
  obtain ⟨C, rfl, hsz⟩ := okWide_struct Try.underlying50 hv
  rw [cells_tcp] at hsz
  obtain ⟨fuel, hf⟩ := h
  have ci : Try.prog.cellsOf 3 = 1 := by kernel_rfl
  obtain ⟨z0, e0, _⟩ := field_int Try.underlying50 (C := C) hf 0 _ rfl ci (by show _ ≤ C.size; rw [hsz]; decide) Try.underlying3
  obtain ⟨z1, e1, _⟩ := field_int Try.underlying50 (C := C) hf 1 _ rfl ci (by show _ ≤ C.size; rw [hsz]; decide) Try.underlying3
  obtain ⟨z2, e2, _⟩ := field_int Try.underlying50 (C := C) hf 2 _ rfl ci (by show _ ≤ C.size; rw [hsz]; decide) Try.underlying3
  obtain ⟨z3, e3, _⟩ := field_int Try.underlying50 (C := C) hf 3 _ rfl ci (by show _ ≤ C.size; rw [hsz]; decide) Try.underlying3
  obtain ⟨z4, e4, _⟩ := field_int Try.underlying50 (C := C) hf 4 _ rfl ci (by show _ ≤ C.size; rw [hsz]; decide) Try.underlying3
  obtain ⟨z5, e5, _⟩ := field_int Try.underlying50 (C := C) hf 5 _ rfl ci (by show _ ≤ C.size; rw [hsz]; decide) Try.underlying3
  obtain ⟨z6, e6, _⟩ := field_int Try.underlying50 (C := C) hf 6 _ rfl ci (by show _ ≤ C.size; rw [hsz]; decide) Try.underlying3
  obtain ⟨z7, e7, _⟩ := field_int Try.underlying50 (C := C) hf 7 _ rfl ci (by show _ ≤ C.size; rw [hsz]; decide) Try.underlying3
  obtain ⟨Ao, no, co, O, e8, hr8⟩ := field_bytes Try.underlying50 (C := C) hf 8 _ rfl (by show _ ≤ C.size; rw [hsz]; decide) rfl
  obtain ⟨A, n, c, D, e9, hr9⟩ := field_bytes Try.underlying50 (C := C) hf 9 _ rfl (by show _ ≤ C.size; rw [hsz]; decide) rfl
  obtain ⟨c0, c1, c2, c3, c4, c5, c6, c7, c8, c9, rfl⟩ := array10 hsz
  cases e0; cases e1; cases e2; cases e3; cases e4; cases e5; cases e6; cases e7; cases e8; cases e9
  exact ⟨⟨z0, z1, z2, z3, z4, z5, z6, z7, O, D⟩, Ao, no, co, A, n, c, rfl, hr8, hr9⟩
end
end Go.Proofs.Ytipigcpenmcaoaa
