/- Packets between other ends: walks of ports.moved, From, To. -/
import Derived.Test.YtmbmmpbfmakfbaaPortsW
import Derived.Test.YtmbmmpbfmakfbaaClampK
set_option linter.unusedVariables false
namespace Go.Proofs.Ytmbmmpbfmakfbaa
open Go Go.RowKit
attribute [local go_sem] Oper.semAt_some

/-- A packet, in slices of some capacity, and a code. -/
def MovOut (w : World) (q : V4P) (k : Int) (e : Ending) (w' : World) : Prop :=
  ∃ Ao no co A n c, e = .returned (.tuple #[.agg (cells4 q Ao no co A n c), .int .i64 k]) ∧ RB w' Ao no co q.opts ∧ RB w' A n c q.data ∧ Below w.heap.size w w'
theorem MovOut.no {w w' : World} {q : V4P} {k k' : Int} (hk : k = k') (hq : q = zero4) (hb : Below w.heap.size w w') : MovOut w q k (.returned (.tuple #[.agg zero4c, .int .i64 k'])) w' := by
  subst hq; subst hk
  exact ⟨none, 0, 0, none, 0, 0, rfl, RB.nil _, RB.nil _, hb⟩
theorem MovOut.row {w W : World} {q : V4P} {Ao : Option Addr} {no co : Nat} {A : Option Addr} {n c : Nat} {B : Nat} {z : V4P} {q' : V4P} {k : Int} (hq : q' = q) (hk : k = 0) (kz : Blk W B (cells4 z none 0 0 none 0 0) 32) (ho : RB W Ao no co q.opts) (hd : RB W A n c q.data) (hb : Below w.heap.size w W) (hB : w.heap.size ≤ B) :
    MovOut w q' k (.returned (.tuple #[.agg (cells4 q Ao no co A n c), .int .i64 0])) (W.setRow B (cells4 q Ao no co A n c)) := by
  rw [hq, hk]
  exact ⟨Ao, no, co, A, n, c, rfl, ho.farRow (nbc4 kz) _, hd.farRow (nbc4 kz) _, below_row hb hB _⟩
theorem blk_at {w : World} {C : Array Value} {T : TypeId} {N : Nat} (h : w.heap.size = N) : Blk (w.alloc (.cells C T)) N C T := by rw [← h]; exact Blk.new w C T
end Go.Proofs.Ytmbmmpbfmakfbaa
