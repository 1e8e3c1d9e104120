/- Segments (the reference): walks of bytes, Build. -/
import Derived.Test.YtmbmmpbfmakfbaaConcat
import Derived.Test.YtmbmmpbfmakfbaaSeq
set_option linter.unusedVariables false
namespace Go.Proofs.Ytmbmmpbfmakfbaa
open Go.RowKit

section
variable {P : Program} {ops : Array Oper} {Q : Exit → Act → World → Prop} {S : World → Prop} {N : Nat} {ds : List Deferred} {o : Oper} {rest : List Oper} {V : Array Value} {E : Env}
/-- Any operation whose slot is known by a relation. -/
theorem looseL_op8 {d : Tmp} (p : Rl) (hg : (gslots ops o).all (fun t => (look E t).isNone) = true) (hw : Region.wanted o (yielded ops V) = true) (hd : o.dst = some d) (hst : StableR p)
    (hx : ∀ (a : Act) w, S w → (∀ t ∈ o.looksAt ops, Rt V E t (a.tmps.getD t undef) w) → YldR P S p w ((execOp a.eval o).run P w)) (h : looseL P ops Q S N ds rest V ((d, p) :: E)) : looseL P ops Q S N ds (o :: rest) V E :=
  .inr ⟨d, p, hd, hst, fun a w hS hk => .inl ⟨(wanted_agree hg hk).trans hw, hx a w hS hk⟩, h⟩
end
/-- Bytes in a slot. -/
def Byt8 (bs : List Int) : Rl := fun u W => ∃ A n c, u = .slice A n c ∧ RB W A n c bs
theorem Byt8.stable (bs : List Int) : StableR (Byt8 bs) := fun u w w' ⟨A, n, c, h1, h2⟩ hb => ⟨A, n, c, h1, h2.below hb⟩
/-- Bytes twice, in a slot. -/
def Two8 (bs cs : List Int) : Rl := fun u W => ∃ A n c, u = .slice A n c ∧ RBB W A n c [bs, cs]
theorem Two8.stable (bs cs : List Int) : StableR (Two8 bs cs) := fun u w w' ⟨A, n, c, h1, h2⟩ hb => ⟨A, n, c, h1, h2.below hb⟩

theorem lit2t (w : World) (x y : Int) (hx : 0 ≤ x ∧ x < 256) (hy : 0 ≤ y ∧ y < 256) : RB (w.alloc (.cells #[.int .u8 x, .int .u8 y] 5)) (some ⟨w.heap.size, 0, none⟩) 2 2 [x, y] := by
  have := RB.lit w 5 [x, y] (Byts.two hx.1 hx.2 hy.1 hy.2) (by simp)
  simpa [u8s] using this
theorem digL_one (x : Int) (h0 : 0 ≤ x) (h1 : x < 256) : digL x 1 = [x] := by simp [digL, List.range_succ]; omega
theorem fitsP_1 {x : Int} (h : fitsP x ((1 : Nat) : Int)) : 0 ≤ x ∧ x < 256 := ⟨h.2.1, by have := h.2.2; simpa using this⟩

theorem en_T8Pseudo (args : Array Value) (w : World) : (callFunc 30 args).run Try.prog w = .ok (.enter 30 args) w := enters Try.func30 (by kernel_rfl) (by kernel_rfl) args w
theorem en_T8Of (args : Array Value) (w : World) : (callFunc 40 args).run Try.prog w = .ok (.enter 40 args) w := enters Try.func40 (by kernel_rfl) (by kernel_rfl) args w

end Go.Proofs.Ytmbmmpbfmakfbaa
