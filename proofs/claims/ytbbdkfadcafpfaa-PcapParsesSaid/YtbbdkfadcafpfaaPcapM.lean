/- Captures: whether a record may be; its bytes. -/
import Derived.Test.YtbbdkfadcafpfaaPcap
import Derived.Test.YtbbdkfadcafpfaaFits
set_option linter.unusedVariables false
namespace Go.Proofs.Ytbbdkfadcafpfaa
open Go Go.RowKit

def mayB (q : QP) (n : Nat) : Bool := decide ((0 ≤ q.x ∧ q.x < 4294967296) ∧ (0 ≤ q.y ∧ q.y < 1000000) ∧ (0 ≤ q.z ∧ q.z < 4294967296) ∧ n ≤ 65535 ∧ (n : Int) ≤ q.z)
theorem pret_dec {b : Bool} {P : Prop} [Decidable P] (h : b = true ↔ P) : Ending.returned (.bool b) = .returned (.bool (decide P)) := by
  cases b
  · rw [decide_eq_false (fun hp => by have := h.2 hp; cases this)]
  · rw [decide_eq_true (h.1 rfl)]
theorem fits4_yes {x : Int} (h : fitsB x 4 = true) : 0 ≤ x ∧ x < 4294967296 := by
  have := of_decide_eq_true h
  exact ⟨this.2.1, by simpa using this.2.2⟩
theorem fits4_no {x : Int} (h : fitsB x 4 = false) : ¬ (0 ≤ x ∧ x < 4294967296) := fun hx => by
  have : fitsB x 4 = true := decide_eq_true ⟨by omega, hx.1, by simpa using hx.2⟩
  rw [h] at this; cases this

set_option maxRecDepth 100000 in
set_option maxHeartbeats 2000000 in
theorem PMay_any (q : QP) (A : Option Addr) (n c : Nat) (w : World) (hn : n ≤ 1000000000) :
    Calls Try.prog 61 #[.agg (cellsQ q A n c)] w fun e w' => e = .returned (.bool (mayB q n)) ∧ Below w.heap.size w w' := by
  have hb := Lib.hid ((Below.refl _ w).alloc (Nat.le_refl _) (.cells (cellsQ q A n c) 67))
  cases fx : fitsB q.x 4
  all_goals cases fz : fitsB q.z 4
  · have h1 := Lib.hid (fits4_no fx)
    have h2 := Lib.hid (fits4_no fz)
    skip
    go_enter Try.func61, Try.ntmps61
    go_wp2_with (first
      | (go_at_call 52; refine (Fits_any _ _ _).mono ?_; rintro e w1 ⟨rfl, rfl⟩)
      | fail)
    all_goals
      go_ret
      exact ⟨pret_dec (by have := h1.out; have := h2.out; first | (simp only [decide_eq_true_eq]; omega) | (simp only [Bool.false_eq_true, false_iff]; omega)), hb.out⟩
  · have h1 := Lib.hid (fits4_no fx)
    have h2 := Lib.hid (fits4_yes fz)
    skip
    go_enter Try.func61, Try.ntmps61
    go_wp2_with (first
      | (go_at_call 52; refine (Fits_any _ _ _).mono ?_; rintro e w1 ⟨rfl, rfl⟩)
      | fail)
    all_goals
      go_ret
      exact ⟨pret_dec (by have := h1.out; have := h2.out; first | (simp only [decide_eq_true_eq]; omega) | (simp only [Bool.false_eq_true, false_iff]; omega)), hb.out⟩
  · have h1 := Lib.hid (fits4_yes fx)
    have h2 := Lib.hid (fits4_no fz)
    skip
    go_enter Try.func61, Try.ntmps61
    go_wp2_with (first
      | (go_at_call 52; refine (Fits_any _ _ _).mono ?_; rintro e w1 ⟨rfl, rfl⟩)
      | fail)
    all_goals
      go_ret
      exact ⟨pret_dec (by have := h1.out; have := h2.out; first | (simp only [decide_eq_true_eq]; omega) | (simp only [Bool.false_eq_true, false_iff]; omega)), hb.out⟩
  · have h1 := Lib.hid (fits4_yes fx)
    have h2 := Lib.hid (fits4_yes fz)
    skip
    go_enter Try.func61, Try.ntmps61
    go_wp2_with (first
      | (go_at_call 52; refine (Fits_any _ _ _).mono ?_; rintro e w1 ⟨rfl, rfl⟩)
      | fail)
    all_goals
      go_ret
      exact ⟨pret_dec (by have := h1.out; have := h2.out; first | (simp only [decide_eq_true_eq]; omega) | (simp only [Bool.false_eq_true, false_iff]; omega)), hb.out⟩
set_option maxRecDepth 100000 in
set_option maxHeartbeats 2000000 in
theorem RefPMay_any (q : QP) (A : Option Addr) (n c : Nat) (w : World) (hn : n ≤ 1000000000) :
    Calls Try.prog 64 #[.agg (cellsQ q A n c)] w fun e w' => e = .returned (.bool (mayB q n)) ∧ Below w.heap.size w w' := by
  have hb := Lib.hid ((Below.refl _ w).alloc (Nat.le_refl _) (.cells (cellsQ q A n c) 90))
  cases fx : fitsB q.x 4
  all_goals cases fz : fitsB q.z 4
  · have h1 := Lib.hid (fits4_no fx)
    have h2 := Lib.hid (fits4_no fz)
    skip
    go_enter Try.func64, Try.ntmps64
    go_wp2_with (first
      | (go_at_call 53; refine (RefFits_any _ _ _).mono ?_; rintro e w1 ⟨rfl, rfl⟩)
      | fail)
    all_goals
      go_ret
      exact ⟨pret_dec (by have := h1.out; have := h2.out; first | (simp only [decide_eq_true_eq]; omega) | (simp only [Bool.false_eq_true, false_iff]; omega)), hb.out⟩
  · have h1 := Lib.hid (fits4_no fx)
    have h2 := Lib.hid (fits4_yes fz)
    skip
    go_enter Try.func64, Try.ntmps64
    go_wp2_with (first
      | (go_at_call 53; refine (RefFits_any _ _ _).mono ?_; rintro e w1 ⟨rfl, rfl⟩)
      | fail)
    all_goals
      go_ret
      exact ⟨pret_dec (by have := h1.out; have := h2.out; first | (simp only [decide_eq_true_eq]; omega) | (simp only [Bool.false_eq_true, false_iff]; omega)), hb.out⟩
  · have h1 := Lib.hid (fits4_yes fx)
    have h2 := Lib.hid (fits4_no fz)
    skip
    go_enter Try.func64, Try.ntmps64
    go_wp2_with (first
      | (go_at_call 53; refine (RefFits_any _ _ _).mono ?_; rintro e w1 ⟨rfl, rfl⟩)
      | fail)
    all_goals
      go_ret
      exact ⟨pret_dec (by have := h1.out; have := h2.out; first | (simp only [decide_eq_true_eq]; omega) | (simp only [Bool.false_eq_true, false_iff]; omega)), hb.out⟩
  · have h1 := Lib.hid (fits4_yes fx)
    have h2 := Lib.hid (fits4_yes fz)
    skip
    go_enter Try.func64, Try.ntmps64
    go_wp2_with (first
      | (go_at_call 53; refine (RefFits_any _ _ _).mono ?_; rintro e w1 ⟨rfl, rfl⟩)
      | fail)
    all_goals
      go_ret
      exact ⟨pret_dec (by have := h1.out; have := h2.out; first | (simp only [decide_eq_true_eq]; omega) | (simp only [Bool.false_eq_true, false_iff]; omega)), hb.out⟩
end Go.Proofs.Ytbbdkfadcafpfaa
