/- Fits (be), pow and Fits (reference): whether a number has so many bytes. -/
import Derived.Test.YtipigcpenmcaoaaBase
set_option linter.unusedVariables false
namespace Go.Proofs.Ytipigcpenmcaoaa
open Go.RowKit

/-- Has the number n so many bytes? -/
def fitsP (n s : Int) : Prop := (1 ≤ s ∧ s ≤ 4) ∧ 0 ≤ n ∧ n < 256 ^ s.toNat
instance (n s : Int) : Decidable (fitsP n s) := by unfold fitsP; exact inferInstance
def fitsB (n s : Int) : Bool := decide (fitsP n s)
theorem fits_cases {s : Int} (h1 : 1 ≤ s) (h2 : s ≤ 4) : s = 1 ∨ s = 2 ∨ s = 3 ∨ s = 4 := by omega

theorem fitsB_no {n s : Int} (h : ¬ fitsP n s) : fitsB n s = false := decide_eq_false h
theorem fitsB_yes {n s : Int} (h : fitsP n s) : fitsB n s = true := decide_eq_true h
theorem fitsB_of {n s : Int} {b : Bool} (h : b = true ↔ fitsP n s) : b = fitsB n s := by
  unfold fitsB
  cases b with
  | true => exact (decide_eq_true (h.1 rfl)).symm
  | false => exact (decide_eq_false (fun k => by have := h.2 k; cases this)).symm
theorem pow1 : (256 : Int) ^ (Int.toNat 1) = 256 := by decide
theorem pow2 : (256 : Int) ^ (Int.toNat 2) = 65536 := by decide
theorem pow3 : (256 : Int) ^ (Int.toNat 3) = 16777216 := by decide
theorem pow4 : (256 : Int) ^ (Int.toNat 4) = 4294967296 := by decide

set_option maxHeartbeats 400000 in
theorem Fits_any (n s : Int) (w : World) :
    Calls Try.prog 66 #[.int .i64 n, .int .i64 s] w fun e w' => e = .returned (.bool (fitsB n s)) ∧ w = w' := by
  by_cases h1 : 1 ≤ s
  · by_cases h2 : s ≤ 4
    · by_cases h3 : 0 ≤ n
      · rcases fits_cases h1 h2 with rfl | rfl | rfl | rfl
        all_goals
          go_enter Try.func66, Try.ntmps66
          go_wp2
          go_ret
          exact ⟨ret_bool (fitsB_of (by unfold fitsP; simp only [pow1, pow2, pow3, pow4, beq_iff_eq]; omega)), rfl⟩
      · go_enter Try.func66, Try.ntmps66
        go_wp2
        go_ret
        exact ⟨ret_bool (fitsB_no (by unfold fitsP; omega)).symm, rfl⟩
    · go_enter Try.func66, Try.ntmps66
      go_wp2
      go_ret
      exact ⟨ret_bool (fitsB_no (by unfold fitsP; omega)).symm, rfl⟩
  · go_enter Try.func66, Try.ntmps66
    go_wp2
    go_ret
    exact ⟨ret_bool (fitsB_no (by unfold fitsP; omega)).symm, rfl⟩

set_option maxHeartbeats 400000 in
theorem pow_at (s : Nat) (hs : s ≤ 4) (w : World) :
    Calls Try.prog 148 #[.int .i64 s] w fun e w' => e = .returned (.int .i64 (256 ^ s)) ∧ w = w' := by
  have hc : s = 0 ∨ s = 1 ∨ s = 2 ∨ s = 3 ∨ s = 4 := by omega
  rcases hc with rfl | rfl | rfl | rfl | rfl
  all_goals
    go_enter Try.func148, Try.ntmps148
    go_wp2
    go_rounds 5
    go_ret
    exact ⟨rfl, rfl⟩

theorem pow_any (s : Int) (h0 : 0 ≤ s) (hs : s ≤ 4) (w : World) :
    Calls Try.prog 148 #[.int .i64 s] w fun e w' => e = .returned (.int .i64 (256 ^ s.toNat)) ∧ w = w' := by
  obtain ⟨k, rfl⟩ := Int.eq_ofNat_of_zero_le h0
  exact pow_at k (by omega) w

set_option maxHeartbeats 400000 in
theorem RefFits_any (n s : Int) (w : World) :
    Calls Try.prog 103 #[.int .i64 n, .int .i64 s] w fun e w' => e = .returned (.bool (fitsB n s)) ∧ w = w' := by
  by_cases h1 : 1 ≤ s
  · by_cases h2 : s ≤ 4
    · by_cases h3 : 0 ≤ n
      · go_enter Try.func103, Try.ntmps103
        go_wp2_with (go_at_call 148; refine (pow_any s (by omega) h2 _).mono ?_; rintro e w' ⟨rfl, rfl⟩)
        go_ret
        exact ⟨ret_bool (fitsB_of (by unfold fitsP; simp; omega)), rfl⟩
      · go_enter Try.func103, Try.ntmps103
        go_wp2
        go_ret
        exact ⟨ret_bool (fitsB_no (by unfold fitsP; omega)).symm, rfl⟩
    · go_enter Try.func103, Try.ntmps103
      go_wp2
      go_ret
      exact ⟨ret_bool (fitsB_no (by unfold fitsP; omega)).symm, rfl⟩
  · go_enter Try.func103, Try.ntmps103
    go_wp2
    go_ret
    exact ⟨ret_bool (fitsB_no (by unfold fitsP; omega)).symm, rfl⟩
end Go.Proofs.Ytipigcpenmcaoaa
