/- Packets of IPv4 (the reference): Same of two that are the same. -/
import Derived.Test.YtipigcpenmcaoaaV4M
import Derived.Test.YtipigcpenmcaoaaArr
set_option linter.unusedVariables false
namespace Go.Proofs.Ytipigcpenmcaoaa
open Go Go.RowKit
attribute [local go_sem] Oper.semAt_some

set_option maxRecDepth 100000 in
set_option maxHeartbeats 4000000 in
theorem RefSame4_same (p : V4P) (Ao : Option Addr) (no co : Nat) (A : Option Addr) (n c : Nat) (Ao' : Option Addr) (co' : Nat) (A' : Option Addr) (c' : Nat) (w : World) (ho : RB w Ao no co p.opts) (hd : RB w A n c p.data) (ho' : RB w Ao' no co' p.opts) (hd' : RB w A' n c' p.data) :
    Calls Try.prog 22 #[.agg (cells4 p Ao no co A n c), .agg (cells4 p Ao' no co' A' n c')] w fun e w' => e = .returned (.bool true) ∧ Below w.heap.size w w' := by
  obtain ⟨w0, hw0⟩ : ∃ w0, (w.alloc (.cells (cells4 p Ao no co A n c) 24)).alloc (.cells (cells4 p Ao' no co' A' n c') 24) = w0 := ⟨_, rfl⟩
  have k1 : Blk w0 w.heap.size (cells4 p Ao no co A n c) 24 := by rw [← hw0]; exact (Blk.new w _ _).alloc _
  have k2 : Blk w0 (w.heap.size + 1) (cells4 p Ao' no co' A' n c') 24 := by
    rw [← hw0]
    have := Blk.new (w.alloc (.cells (cells4 p Ao no co A n c) 24)) (cells4 p Ao' no co' A' n c') 24
    rwa [World.size_alloc] at this
  have hb0 : Below w.heap.size w w0 := by rw [← hw0]; exact ((Below.refl _ w).alloc (Nat.le_refl _) _).alloc (by simp) _
  have e1 := conv_bytes (ho.below hb0)
  have e2 := conv_bytes (ho'.below hb0)
  have e3 := conv_bytes (hd.below hb0)
  have e4 := conv_bytes (hd'.below hb0)
  have x0 : w0.cell? ⟨w.heap.size, 0, none⟩ = some (.int .i64 p.tos) := k1.cell 0 _ rfl
  have x1 : w0.cell? ⟨w.heap.size, 1, none⟩ = some (.int .i64 p.id) := k1.cell 1 _ rfl
  have x2 : w0.cell? ⟨w.heap.size, 2, none⟩ = some (.int .i64 p.off) := k1.cell 2 _ rfl
  have x3 : w0.cell? ⟨w.heap.size, 3, none⟩ = some (.int .i64 p.ttl) := k1.cell 3 _ rfl
  have x4 : w0.cell? ⟨w.heap.size, 4, none⟩ = some (.int .i64 p.pr) := k1.cell 4 _ rfl
  have x5 : w0.cell? ⟨w.heap.size, 5, none⟩ = some (.int .i64 p.src) := k1.cell 5 _ rfl
  have x6 : w0.cell? ⟨w.heap.size, 6, none⟩ = some (.int .i64 p.dst) := k1.cell 6 _ rfl
  have x7 : w0.cell? ⟨w.heap.size, 7, none⟩ = some (.bool p.df) := k1.cell 7 _ rfl
  have x8 : w0.cell? ⟨w.heap.size, 8, none⟩ = some (.bool p.mf) := k1.cell 8 _ rfl
  have x9 : w0.cell? ⟨w.heap.size, 9, none⟩ = some (.slice Ao no co) := k1.cell 9 _ rfl
  have x10 : w0.cell? ⟨w.heap.size, 10, none⟩ = some (.slice A n c) := k1.cell 10 _ rfl
  have y0 : w0.cell? ⟨w.heap.size + 1, 0, none⟩ = some (.int .i64 p.tos) := k2.cell 0 _ rfl
  have y1 : w0.cell? ⟨w.heap.size + 1, 1, none⟩ = some (.int .i64 p.id) := k2.cell 1 _ rfl
  have y2 : w0.cell? ⟨w.heap.size + 1, 2, none⟩ = some (.int .i64 p.off) := k2.cell 2 _ rfl
  have y3 : w0.cell? ⟨w.heap.size + 1, 3, none⟩ = some (.int .i64 p.ttl) := k2.cell 3 _ rfl
  have y4 : w0.cell? ⟨w.heap.size + 1, 4, none⟩ = some (.int .i64 p.pr) := k2.cell 4 _ rfl
  have y5 : w0.cell? ⟨w.heap.size + 1, 5, none⟩ = some (.int .i64 p.src) := k2.cell 5 _ rfl
  have y6 : w0.cell? ⟨w.heap.size + 1, 6, none⟩ = some (.int .i64 p.dst) := k2.cell 6 _ rfl
  have y7 : w0.cell? ⟨w.heap.size + 1, 7, none⟩ = some (.bool p.df) := k2.cell 7 _ rfl
  have y8 : w0.cell? ⟨w.heap.size + 1, 8, none⟩ = some (.bool p.mf) := k2.cell 8 _ rfl
  have y9 : w0.cell? ⟨w.heap.size + 1, 9, none⟩ = some (.slice Ao' no co') := k2.cell 9 _ rfl
  have y10 : w0.cell? ⟨w.heap.size + 1, 10, none⟩ = some (.slice A' n c') := k2.cell 10 _ rfl
  replace hb0 := Lib.hid hb0
  clear k1 k2 ho hd ho' hd'
  go_enter Try.func22, Try.ntmps22
  go_wp2
  go_ret
  exact ⟨by first | rfl | simp, hb0.out⟩
end Go.Proofs.Ytipigcpenmcaoaa
