/- clamp (the reference): walk of Segment. -/
import Derived.Test.YtehecefapiblpaaClampP
import Derived.Test.YtehecefapiblpaaClampK
import Derived.Test.YtehecefapiblpaaTcpM
import Derived.Test.YtehecefapiblpaaV4K
import Derived.Deep.DeepCutAuto
set_option linter.unusedVariables false
namespace Go.Proofs.Ytehecefapiblpaa
open Go Go.RowKit
attribute [local go_sem] Oper.semAt_some

theorem nbcT {X : World} {gp : Nat} {m : TcpP} {x1 : Option Addr} {x2 x3 : Nat} {y1 : Option Addr} {y2 y3 : Nat} (h : Blk X gp (cellsT m x1 x2 x3 y1 y2 y3) 78) : ∀ j x, X.cell? ⟨gp, j, none⟩ ≠ some (.int .u8 x) := h.nobytes (fun u hu x => by simp at hu; rcases hu with rfl | rfl | rfl | rfl | rfl | rfl | rfl | rfl | rfl | rfl <;> simp)
def SegOut (w : World) (q : TcpP) (no n : Nat) (e : Ending) (w' : World) : Prop :=
  ∃ A8 c8 A9 c9, e = .returned (.agg (cellsT q A8 no c8 A9 n c9)) ∧ RB w' A8 no c8 q.opts ∧ RB w' A9 n c9 q.data ∧ Below w.heap.size w w'
theorem SegOut.row {w W : World} {q : TcpP} {Ao : Option Addr} {no co : Nat} {A : Option Addr} {n c : Nat} {B : Nat} {m z : TcpP} {b : Int} (hq : segT m b = q) (kz : Blk W B (cellsT z none 0 0 none 0 0) 78) (ho : RB W Ao no co q.opts) (hd : RB W A n c q.data) (hb : Below w.heap.size w W) (hB : w.heap.size ≤ B) :
    SegOut w (segT m b) no n (.returned (.agg (cellsT q Ao no co A n c))) (W.setRow B (cellsT q Ao no co A n c)) := by
  rw [hq]
  exact ⟨Ao, co, A, c, rfl, ho.farRow (nbcT kz) _, hd.farRow (nbcT kz) _, below_row hb hB _⟩
theorem segT_fin {m : TcpP} {ao : Option Addr} {no co : Nat} {a : Option Addr} {n c : Nat} {w1 X : World} {N b1 b2 : Nat} {A3 A4 : Option Addr} {c3 c4 : Nat} (k : Blk X N (cellsT m ao no co a n c) 78) (kz : Blk X (N + 1) zeroT 78) (ho : OB X b1 A3 no c3 m.opts) (hd : OB X b2 A4 n c4 m.data) (h1 : N + 2 ≤ b1) (h2 : N + 2 ≤ b2) (hb : Below N w1 X) (hne : ∀ k, ownBlk A3 = some k → ownBlk A4 = some k → False) :
    ∃ B3 d3 B4' d4, Blk ((X.setCell ⟨N, 8, none⟩ (.slice A3 no c3)).setCell ⟨N, 9, none⟩ (.slice A4 n c4)) N (cellsT m B3 no d3 B4' n d4) 78 ∧
      OB ((X.setCell ⟨N, 8, none⟩ (.slice A3 no c3)).setCell ⟨N, 9, none⟩ (.slice A4 n c4)) (N + 2) B3 no d3 m.opts ∧ OB ((X.setCell ⟨N, 8, none⟩ (.slice A3 no c3)).setCell ⟨N, 9, none⟩ (.slice A4 n c4)) (N + 2) B4' n d4 m.data ∧
      (∀ k, ownBlk B3 = some k → ownBlk B4' = some k → False) ∧ Blk ((X.setCell ⟨N, 8, none⟩ (.slice A3 no c3)).setCell ⟨N, 9, none⟩ (.slice A4 n c4)) (N + 1) zeroT 78 ∧ Below N w1 ((X.setCell ⟨N, 8, none⟩ (.slice A3 no c3)).setCell ⟨N, 9, none⟩ (.slice A4 n c4)) := by
  have k5 : Blk (X.setCell ⟨N, 8, none⟩ (.slice A3 no c3)) N (cellsT m A3 no c3 a n c) 78 := by simpa using k.set 8 (.slice A3 no c3)
  exact ⟨A3, c3, A4, c4, by simpa using k5.set 9 (.slice A4 n c4), ((ho.mono h1).set_low (by omega) 8 _).set_low (by omega) 9 _, ((hd.mono h2).set_low (by omega) 8 _).set_low (by omega) 9 _, hne,
    (kz.far (by omega) 8 _).far (by omega) 9 _, (hb.setCell (p := ⟨N, 8, none⟩) (Nat.le_refl _) _).setCell (p := ⟨N, 9, none⟩) (Nat.le_refl _) _⟩
theorem seg_ix {y no : Nat} (h : y + 4 ≤ no) (hn : no ≤ 100000) : ((y : Int) + 2 < no ∧ (y : Int) + 3 < no ∧ 0 ≤ (y : Int) + 2 ∧ 0 ≤ (y : Int) + 3) ∧ (((y : Int) + 2).toNat = y + 2 ∧ ((y : Int) + 3).toNat = y + 3) ∧ (IntKind.i64.wrap ((y : Int) + 2) = (y : Int) + 2 ∧ IntKind.i64.wrap ((y : Int) + 3) = (y : Int) + 3) ∧ y + 2 < no ∧ y + 3 < no ∧ 0 < no := by
  refine ⟨by omega, by omega, ?_, by omega, by omega, by omega⟩
  rw [IntKind.wrap_i64, IntKind.wrap_i64]; omega
theorem seg_by {b : Int} (h0 : 0 ≤ b) (h1 : b < 65536) : (b.tdiv 256 = b / 256 ∧ b.tmod 256 = b % 256) ∧ (IntKind.u8.wrap (b / 256) = b / 256 ∧ IntKind.u8.wrap (b % 256) = b % 256) ∧ (IntKind.i64.wrap (b / 256) = b / 256 ∧ IntKind.i64.wrap (b % 256) = b % 256) ∧ ((0 ≤ b / 256 ∧ b / 256 ≤ 255) ∧ (0 ≤ b % 256 ∧ b % 256 ≤ 255)) ∧ digL b 2 = [b / 256, b % 256] ∧ decide (b < 0) = false ∧ decide (65535 < b) = false := by
  refine ⟨⟨Int.tdiv_eq_ediv_of_nonneg h0, Int.tmod_eq_emod_of_nonneg h0⟩, ⟨by rw [IntKind.wrap_u8]; omega, by rw [IntKind.wrap_u8]; omega⟩, ⟨by rw [IntKind.wrap_i64]; omega, by rw [IntKind.wrap_i64]; omega⟩, by omega, ?_, decide_eq_false (by omega), decide_eq_false (by omega)⟩
  have : digL b 2 = [b / 256 % 256, b % 256] := by simp [digL, List.range_succ]
  rw [this, show b / 256 % 256 = b / 256 by omega]
end Go.Proofs.Ytehecefapiblpaa
