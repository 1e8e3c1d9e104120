/- The law ClampTells: its walk. -/
import Derived.Test.YtehecefapiblpaaClampO
import Derived.Test.YtehecefapiblpaaClampM
import Derived.Test.YtehecefapiblpaaAwake12
import Derived.Test.YtehecefapiblpaaReadV4
set_option linter.unusedVariables false
namespace Go.Proofs.Ytehecefapiblpaa
open Go Go.RowKit

theorem en_C12Equal (args : Array Value) (w : World) : (callFunc 16 args).run Try.prog w = .ok (.enter 16 args) w := enters Try.func16 (by kernel_rfl) (by kernel_rfl) args w
theorem en_C12Seg (args : Array Value) (w : World) : (callFunc 48 args).run Try.prog w = .ok (.enter 48 args) w := enters Try.func48 (by kernel_rfl) (by kernel_rfl) args w
theorem en_C12Pack (args : Array Value) (w : World) : (callFunc 26 args).run Try.prog w = .ok (.enter 26 args) w := enters Try.func26 (by kernel_rfl) (by kernel_rfl) args w
theorem en_C12Most (args : Array Value) (w : World) : (callFunc 49 args).run Try.prog w = .ok (.enter 49 args) w := enters Try.func49 (by kernel_rfl) (by kernel_rfl) args w
theorem en_C12Same5 (args : Array Value) (w : World) : (callFunc 21 args).run Try.prog w = .ok (.enter 21 args) w := enters Try.func21 (by kernel_rfl) (by kernel_rfl) args w
theorem en_C12Awake (args : Array Value) (w : World) : (callFunc 25 args).run Try.prog w = .ok (.enter 25 args) w := enters Try.func25 (by kernel_rfl) (by kernel_rfl) args w
/-- A segment, a packet in a slot. -/
def TcpRl (q : TcpP) (no n : Nat) : Rl := fun u W => ∃ A c B d, u = .agg (cellsT q A no c B n d) ∧ RB W A no c q.opts ∧ RB W B n d q.data
theorem TcpRl.stable (q : TcpP) (no n : Nat) : StableR (TcpRl q no n) := fun u w w' ⟨A, c, B, d, h1, h2, h3⟩ hb => ⟨A, c, B, d, h1, h2.below hb, h3.below hb⟩
def V4Rl (q : V4P) : Rl := fun u W => ∃ Ao no co A n c, u = .agg (cells4 q Ao no co A n c) ∧ RB W Ao no co q.opts ∧ RB W A n c q.data
theorem V4Rl.stable (q : V4P) : StableR (V4Rl q) := fun u w w' ⟨Ao, no, co, A, n, c, h1, h2, h3⟩ hb => ⟨Ao, no, co, A, n, c, h1, h2.below hb, h3.below hb⟩
theorem PackOut.rl {w : World} {q : V4P} {e : Ending} {w' : World} (h : PackOut w q e w') : (∃ u, e = .returned u ∧ V4Rl q u w') ∧ Below w.heap.size w w' := by
  obtain ⟨Ao, no, co, A, n, c, rfl, h1, h2, h3⟩ := h
  exact ⟨⟨_, rfl, Ao, no, co, A, n, c, rfl, h1, h2⟩, h3⟩
theorem Same4_rl {q : V4P} {vx vy : Value} {w : World} (hx : V4Rl q vx w) (hy : V4Rl q vy w) : Calls Try.prog 21 #[vx, vy] w fun e w' => e = .returned (.bool true) ∧ Below w.heap.size w w' := by
  obtain ⟨Ao, no, co, A, n, c, rfl, h1, h2⟩ := hx
  obtain ⟨Ao', no', co', A', n', c', rfl, h3, h4⟩ := hy
  obtain rfl : no = no' := h1.len.symm.trans h3.len
  obtain rfl : n = n' := h2.len.symm.trans h4.len
  exact RefSame4_same q Ao no co A n c Ao' co' A' c' w h1 h2 h3 h4
end Go.Proofs.Ytehecefapiblpaa
