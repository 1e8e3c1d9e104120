/- clamp (the reference): walk of Packet. -/
import Derived.Test.YtehecefapiblpaaClampR
import Derived.Test.YtehecefapiblpaaPortsR
import Derived.Test.YtehecefapiblpaaTcpBR
import Derived.Test.YtehecefapiblpaaTcpPR
set_option linter.unusedVariables false
namespace Go.Proofs.Ytehecefapiblpaa
open Go Go.RowKit
attribute [local go_sem] Oper.semAt_some

theorem pack_fin {m : V4P} {ao : Option Addr} {no co : Nat} {a : Option Addr} {n c : Nat} {w1 X : World} {N b1 b2 : Nat} {A3 A4 : Option Addr} {c3 c4 : Nat} (k : Blk X N (cells4 m ao no co a n c) 32) (kz : Blk X (N + 1) zero4c 32) (ho : OB X b1 A3 no c3 m.opts) (hd : OB X b2 A4 n c4 m.data) (hb : Below N w1 X) :
    ∃ B3 d3 B4' d4, Blk ((X.setCell ⟨N, 9, none⟩ (.slice A3 no c3)).setCell ⟨N, 10, none⟩ (.slice A4 n c4)) N (cells4 m B3 no d3 B4' n d4) 32 ∧
      RB ((X.setCell ⟨N, 9, none⟩ (.slice A3 no c3)).setCell ⟨N, 10, none⟩ (.slice A4 n c4)) B3 no d3 m.opts ∧ RB ((X.setCell ⟨N, 9, none⟩ (.slice A3 no c3)).setCell ⟨N, 10, none⟩ (.slice A4 n c4)) B4' n d4 m.data ∧
      Blk ((X.setCell ⟨N, 9, none⟩ (.slice A3 no c3)).setCell ⟨N, 10, none⟩ (.slice A4 n c4)) (N + 1) zero4c 32 ∧ Below N w1 ((X.setCell ⟨N, 9, none⟩ (.slice A3 no c3)).setCell ⟨N, 10, none⟩ (.slice A4 n c4)) := by
  have k5 : Blk (X.setCell ⟨N, 9, none⟩ (.slice A3 no c3)) N (cells4 m A3 no c3 a n c) 32 := by simpa using k.set 9 (.slice A3 no c3)
  exact ⟨A3, c3, A4, c4, by simpa using k5.set 10 (.slice A4 n c4), (ho.rb.farN (nbc4 k) 9 _).farN (nbc4 k5) 10 _, (hd.rb.farN (nbc4 k) 9 _).farN (nbc4 k5) 10 _,
    (kz.far (by omega) 9 _).far (by omega) 10 _, (hb.setCell (p := ⟨N, 9, none⟩) (Nat.le_refl _) _).setCell (p := ⟨N, 10, none⟩) (Nat.le_refl _) _⟩
end Go.Proofs.Ytehecefapiblpaa
