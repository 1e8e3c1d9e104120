/- What the laws of sum call: few, awake. -/
import Derived.Test.YtmbmmpbfmakfbaaSeq
set_option linter.unusedVariables false
namespace Go.Proofs.Ytmbmmpbfmakfbaa
open Go.RowKit

def FewPost (l : List (List Int)) (w : World) (e : Ending) (w' : World) : Prop := ∃ b : Bool, e = .returned (.bool b) ∧ (b = true → l.length ≤ 40 ∧ ∀ bs ∈ l, bs.length ≤ 2000) ∧ w = w'

def awB : List Int := [0, 1, 242, 3, 244, 245, 246, 247]
theorem awB_byts : Byts awB := by unfold awB Byts; decide
theorem awB_sum : (65535 : Int) - foldI (totalI [awB]) = 8717 := by decide +kernel
theorem awB_small : Small [awB] := ⟨by decide, fun bs h => by simp at h; subst h; exact ⟨by decide, awB_byts⟩⟩

theorem small_of {w : World} {A : Option Addr} {n c : Nat} {l : List (List Int)} (h : RBB w A n c l) (hf : l.length ≤ 40 ∧ ∀ bs ∈ l, bs.length ≤ 2000) : Small l :=
  ⟨by omega, fun bs hb => ⟨by have := hf.2 bs hb; omega, h.byts bs hb⟩⟩

end Go.Proofs.Ytmbmmpbfmakfbaa
