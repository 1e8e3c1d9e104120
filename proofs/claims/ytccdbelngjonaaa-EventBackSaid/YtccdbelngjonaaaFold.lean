/- Walks of Fold, in the program and in the reference: a number in sixteen bits. No condition. -/
import Derived.Test.YtccdbelngjonaaaBase
set_option linter.unusedVariables false
namespace Go.Proofs.Ytccdbelngjonaaa
open Go.RowKit

/-- A number in sixteen bits. -/
def foldI (n : Int) : Int := if n ≤ 0 then 0 else (n - 1) % 65535 + 1
theorem foldI_step (k : Int) (h : 65535 < k) : foldI (k % 65536 + k / 65536) = foldI k := by
  unfold foldI; rw [if_neg (by omega), if_neg (by omega)]; omega
theorem foldI_end (k : Int) (h0 : 0 ≤ k) (h : k ≤ 65535) : foldI k = k := by
  unfold foldI; split <;> omega
theorem foldI_lo (n : Int) : 0 ≤ foldI n := by unfold foldI; split <;> omega
theorem foldI_hi (n : Int) : foldI n ≤ 65535 := by unfold foldI; split <;> omega

set_option maxHeartbeats 400000 in
theorem Fold_any (n : Int) (w : World) (h1 : n ≤ 9223372036854775807) :
    Calls Try.prog 111 #[.int .i64 n] w fun e w' => e = .returned (.int .i64 (foldI n)) ∧ w = w' := by
  obtain ⟨m, hm⟩ : ∃ m, m = max n 0 := ⟨_, rfl⟩
  have hm0 : 0 ≤ m := by omega
  have hm1 : m ≤ 9223372036854775807 := by omega
  have H0 : Hid (foldI m = foldI n) := by
    show foldI m = foldI n
    rcases Int.le_total n 0 with h | h
    · have : m = 0 := by omega
      subst this; unfold foldI; rw [if_pos h, if_pos (Int.le_refl 0)]
    · rw [show m = n from by omega]
  by_cases hn : 0 ≤ n
  all_goals
    have hm' := Lib.hid hm
    clear hm
    go_enter Try.func111, Try.ntmps111
    go_wp2
    go_loop [0] (fun t => ∃ k : Int, 0 ≤ k ∧ k ≤ 9223372036854775807 ∧ Hid (foldI k = foldI n) ∧ t = .int .i64 k) (fun t => (intOf t).toNat)
    case atStart => exact ⟨m, hm0, hm1, H0, by rw [hm'.out]; first | rfl | (congr 1; omega)⟩
    case round =>
      obtain ⟨k, hk0, hk1, hk, rfl⟩ := hrel
      have e1 := i64_and65535 k hk0 hk1
      by_cases hlt : 65535 < k
      · go_wp2
        go_round
        case rel => exact ⟨k % 65536 + k / 65536, by omega, by omega, (foldI_step k hlt).trans hk.out, rfl⟩
        case measure => simp [intOf]; omega
      · go_wp2
        go_ret
        exact ⟨ret_int (by rw [← hk.out]; exact (foldI_end k hk0 (by omega)).symm), rfl⟩

set_option maxHeartbeats 400000 in
theorem RefFold_any (n : Int) (w : World) (h1 : n ≤ 9223372036854775807) :
    Calls Try.prog 114 #[.int .i64 n] w fun e w' => e = .returned (.int .i64 (foldI n)) ∧ w = w' := by
  by_cases hn : n < 0
  · go_enter Try.func114, Try.ntmps114
    go_wp2
    go_ret
    exact ⟨ret_int (by unfold foldI; rw [if_pos (by omega)]), rfl⟩
  · go_enter Try.func114, Try.ntmps114
    go_wp2
    go_loop [0] (fun t => ∃ k : Int, 0 ≤ k ∧ k ≤ 9223372036854775807 ∧ Hid (foldI k = foldI n) ∧ t = .int .i64 k) (fun t => (intOf t).toNat)
    case atStart => exact ⟨n, by omega, h1, rfl, rfl⟩
    case round =>
      obtain ⟨k, hk0, hk1, hk, rfl⟩ := hrel
      by_cases hlt : 65535 < k
      · go_wp2
        go_round
        case rel => exact ⟨k % 65536 + k / 65536, by omega, by omega, (foldI_step k hlt).trans hk.out, rfl⟩
        case measure => simp [intOf]; omega
      · go_wp2
        go_ret
        exact ⟨ret_int (by rw [← hk.out]; exact (foldI_end k hk0 (by omega)).symm), rfl⟩
end Go.Proofs.Ytccdbelngjonaaa
