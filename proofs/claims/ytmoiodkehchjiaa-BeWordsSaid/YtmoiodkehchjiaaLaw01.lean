/- The laws of be: awake, BeGets, BeBack: walks. -/
import Derived.Test.YtmoiodkehchjiaaDigits
import Derived.Test.YtmoiodkehchjiaaGet
import Derived.Test.YtmoiodkehchjiaaEqual
set_option linter.unusedVariables false
namespace Go.Proofs.Ytmoiodkehchjiaa
open Go.RowKit

theorem b123 : Byts [1, 2, 3] := by unfold Byts; decide
theorem b12 : Byts [1, 2] := by unfold Byts; decide
theorem get_b123 : getV [1, 2, 3] 1 2 = (515, 0) := by decide
theorem dig258 : digL 258 2 = [1, 2] := by decide

set_option maxHeartbeats 1000000 in
theorem awake01 (w : World) : Calls Try.prog 33 #[] w fun e w' => e = .returned (.bool true) ∧ Below w.heap.size w w' := by
  have hr := RB.lit w 5 [1, 2, 3] b123 (by decide)
  have hG := fun w' h => Get_any (some ⟨w.heap.size, 0, none⟩) 3 3 [1, 2, 3] 1 2 w' h (by omega)
  rw [get_b123] at hG
  replace hG := Lib.hid hG
  have hP := fun w' => Put_yes none 0 0 [] 258 2 w' (RB.nil w') (by omega) (by decide)
  rw [List.nil_append, show ((2 : Nat) : Int) = 2 from rfl, dig258] at hP
  replace hP := Lib.hid hP
  go_enter Try.func33, Try.ntmps33
  go_wp2_with fail
  refine (hG.out _ hr).mono ?_
  rintro e w1 ⟨rfl, rfl⟩
  go_wp2_with fail
  refine (hP.out _).mono ?_
  rintro e w2 ⟨A2, c2, rfl, ho, hb⟩
  have hx := ho.rb.alloc (.cells (u8s [1, 2]).toArray 5)
  have hy := RB.lit w2 5 [1, 2] b12 (by decide)
  have hb2 : Below w.heap.size w w2 := ((Below.refl _ w).alloc (Nat.le_refl _) _).trans (hb.mono (by simp))
  clear hb
  go_wp2_with (go_at_call 43; refine (Equal_same _ _ _ _ _ _ [1, 2] _ hx hy).mono ?_; rintro e w' ⟨rfl, rfl⟩)
  go_ret
  exact ⟨rfl, hb2.alloc hb2.size _⟩

set_option maxHeartbeats 1000000 in
theorem BeGets_walk (A : Option Addr) (n c : Nat) (bs : List Int) (a s : Int) (w : World) (h : RB w A n c bs) (_a0 : -9223372036854775808 ≤ a) (_a1 : a ≤ 9223372036854775807) (_s0 : -9223372036854775808 ≤ s) (_s1 : s ≤ 9223372036854775807) :
    Calls Try.prog 9 #[.slice A n c, .int .i64 a, .int .i64 s] w fun e w' => e = .returned (.bool true) ∧ Below w.heap.size w w' := by
  clear _a0 _a1 _s0 _s1
  by_cases hn : 2000 < n
  · go_enter Try.func9, Try.ntmps9
    go_wp2_with (go_at_call 33; refine (awake01 _).mono ?_; rintro e w' ⟨rfl, hb1⟩)
    go_ret
    exact ⟨rfl, hb1⟩
  · have hG := Lib.hid (Get_any A n c bs a s w h (by omega))
    have hR := Lib.hid (RefGet_any A n c bs a s w h (by omega))
    clear h
    generalize getV bs a s = r at *
    go_enter Try.func9, Try.ntmps9
    go_wp2_with fail
    refine hG.out.mono ?_
    rintro e w1 ⟨rfl, rfl⟩
    go_wp2_with fail
    refine hR.out.mono ?_
    rintro e w1 ⟨rfl, rfl⟩
    go_wp2_with (go_at_call 33; refine (awake01 _).mono ?_; rintro e w' ⟨rfl, hb1⟩)
    go_ret
    exact ⟨rfl, hb1⟩
end Go.Proofs.Ytmoiodkehchjiaa
