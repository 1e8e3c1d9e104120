/- clamp: walks of Most, in the program and in the reference. -/
import Derived.Test.YtehecefapiblpaaBase
set_option linter.unusedVariables false
namespace Go.Proofs.Ytehecefapiblpaa
open Go Go.RowKit

/-- The greatest size for packets of so many bytes. -/
def mostC (x : Int) : Int := min (max (max x 40 - 40) 536) 65535
theorem mostC_lo {x : Int} (h : x < 576) : mostC x = 536 := by unfold mostC; omega
theorem mostC_mid {x : Int} (h : 576 ≤ x) (h2 : x ≤ 65575) : mostC x = x - 40 := by unfold mostC; omega
theorem mostC_hi {x : Int} (h : 65575 < x) : mostC x = 65535 := by unfold mostC; omega
set_option maxHeartbeats 1000000 in
theorem ClampMost_any (x : Int) (w : World) (h0 : -9223372036854775808 ≤ x) (h1 : x ≤ 9223372036854775807) : Calls Try.prog 49 #[.int .i64 x] w fun e w' => e = .returned (.int .i64 (mostC x)) ∧ Below w.heap.size w w' := by
  have hw : 40 ≤ x → wrap64 (x - 40) = x - 40 := fun h => by have := IntKind.wrap_i64 (x - 40); unfold wrap64; omega
  have hz : wrap64 0 = 0 := by decide +kernel
  by_cases c1 : x < 576
  · have hm := Lib.hid (mostC_lo c1)
    by_cases c0 : x < 40
    · clear hw h0 h1 c1
      go_enter Try.func49, Try.ntmps49
      go_wp2
      all_goals
        go_ret
        refine ⟨by rw [hm.out]; rfl, Below.refl _ w⟩
    · have hw2 := hw (by omega)
      have c2 : x - 40 < 536 := by omega
      clear hw h0 h1 c1
      go_enter Try.func49, Try.ntmps49
      go_wp2
      all_goals
        go_ret
        refine ⟨by rw [hm.out]; rfl, Below.refl _ w⟩
  · have c0 : ¬ x < 40 := by omega
    have hw2 := hw (by omega)
    have c2 : ¬ x - 40 < 536 := by omega
    by_cases c3 : 65535 < x - 40
    · have hm := Lib.hid (mostC_hi (x := x) (by omega))
      clear hw h0 h1 c1
      go_enter Try.func49, Try.ntmps49
      go_wp2
      all_goals
        go_ret
        refine ⟨by rw [hm.out]; rfl, Below.refl _ w⟩
    · have hm := Lib.hid (mostC_mid (x := x) (by omega) (by omega))
      clear hw h0 h1 c1
      go_enter Try.func49, Try.ntmps49
      go_wp2
      all_goals
        go_ret
        refine ⟨by rw [hm.out]; rfl, Below.refl _ w⟩
end Go.Proofs.Ytehecefapiblpaa
