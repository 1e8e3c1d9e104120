/- Events: walks of Check, Same. -/
import Derived.Test.YtccdbelngjonaaaQuad
import Derived.Test.YtccdbelngjonaaaEqArr
import Derived.Test.YtccdbelngjonaaaFits
import Derived.Test.YtccdbelngjonaaaArr
set_option linter.unusedVariables false
namespace Go.Proofs.Ytccdbelngjonaaa
open Go.RowKit

def checkE (q : QP) (n : Nat) : Bool := decide (1 ≤ q.x ∧ q.x ≤ 9 ∧ (0 ≤ q.y ∧ q.y ≤ 255) ∧ 0 ≤ q.z ∧ q.z ≤ 2147483648 ∧ n ≤ 65535)
theorem ret_dec {b : Bool} {P : Prop} [Decidable P] (h : b = true ↔ P) : Ending.returned (.bool b) = .returned (.bool (decide P)) := by
  cases b
  · rw [decide_eq_false (fun hp => by have := h.2 hp; cases this)]
  · rw [decide_eq_true (h.1 rfl)]
theorem fits1 (y : Int) : fitsB y 1 = decide (0 ≤ y ∧ y ≤ 255) := by
  unfold fitsB
  refine decide_eq_decide.2 ⟨fun h => ?_, fun h => ?_⟩
  · have := h.2; simp at this; omega
  · exact ⟨by omega, h.1, show y < 256 by omega⟩

set_option maxRecDepth 100000 in
set_option maxHeartbeats 2000000 in
theorem EvCheck_any (q : QP) (A : Option Addr) (n c : Nat) (w : World) (hn : n ≤ 1000000000) :
    Calls Try.prog 24 #[.agg (cellsQ q A n c)] w fun e w' => e = .returned (.bool (checkE q n)) ∧ Below w.heap.size w w' := by
  have hb := Lib.hid ((Below.refl _ w).alloc (Nat.le_refl _) (.cells (cellsQ q A n c) 25))
  have hf := fits1 q.y
  by_cases hy : 0 ≤ q.y ∧ q.y ≤ 255
  · have hd : decide (0 ≤ q.y ∧ q.y ≤ 255) = true := by simp [hy]
    go_enter Try.func24, Try.ntmps24
    go_wp2_with (first
      | (go_at_call 65; refine (Fits_any _ _ _).mono ?_; rintro e w1 ⟨rfl, rfl⟩; rw [hf, hd])
      | fail)
    all_goals
      go_ret
      exact ⟨ret_dec (by first | (simp only [decide_eq_true_eq]; omega) | (simp only [Bool.false_eq_true, false_iff]; omega)), hb.out⟩
  · have hd : decide (0 ≤ q.y ∧ q.y ≤ 255) = false := by simp [hy]
    go_enter Try.func24, Try.ntmps24
    go_wp2_with (first
      | (go_at_call 65; refine (Fits_any _ _ _).mono ?_; rintro e w1 ⟨rfl, rfl⟩; rw [hf, hd])
      | fail)
    all_goals
      go_ret
      exact ⟨ret_dec (by first | (simp only [decide_eq_true_eq]; omega) | (simp only [Bool.false_eq_true, false_iff]; omega)), hb.out⟩

set_option maxRecDepth 100000 in
set_option maxHeartbeats 2000000 in
theorem RefEvCheck_any (q : QP) (A : Option Addr) (n c : Nat) (w : World) (hn : n ≤ 1000000000) :
    Calls Try.prog 25 #[.agg (cellsQ q A n c)] w fun e w' => e = .returned (.bool (checkE q n)) ∧ Below w.heap.size w w' := by
  have hb := Lib.hid ((Below.refl _ w).alloc (Nat.le_refl _) (.cells (cellsQ q A n c) 25))
  go_enter Try.func25, Try.ntmps25
  go_wp2
  all_goals
    go_ret
    exact ⟨ret_dec (by first | (simp only [decide_eq_true_eq]; omega) | (simp only [Bool.false_eq_true, false_iff]; omega)), hb.out⟩

set_option maxRecDepth 100000 in
set_option maxHeartbeats 4000000 in
theorem EvSame_any (p q : QP) (A : Option Addr) (n c : Nat) (B : Option Addr) (k d : Nat) (w : World) (hp : RB w A n c p.data) (hq : RB w B k d q.data) :
    Calls Try.prog 19 #[.agg (cellsQ p A n c), .agg (cellsQ q B k d)] w fun e w' => e = .returned (.bool (sameQ p q)) ∧ Below w.heap.size w w' := by
  have hb := Lib.hid (((Below.refl _ w).alloc (Nat.le_refl _) (.cells (cellsQ p A n c) 25)).alloc (by simp) (.cells (cellsQ q B k d) 25))
  have hE := Lib.hid (fun W (hW : Below w.heap.size w W) => Equal_any A B n c k d p.data q.data W (hp.below hW) (hq.below hW))
  have hs := show sameQ p q = (p.x == q.x && p.y == q.y && p.z == q.z && p.data == q.data) from rfl
  rw [hs]
  clear hp hq
  go_enter Try.func19, Try.ntmps19
  go_wp2_with (first
    | (go_at_call 26; refine (hE.out _ hb.out).mono ?_; rintro e w1 ⟨rfl, rfl⟩)
    | fail)
  all_goals
    go_ret
    exact ⟨ret_bool (by simp [*]), hb.out⟩

set_option maxRecDepth 100000 in
set_option maxHeartbeats 4000000 in
theorem RefEvSame_any (p q : QP) (A : Option Addr) (n c : Nat) (B : Option Addr) (k d : Nat) (w : World) (hp : RB w A n c p.data) (hq : RB w B k d q.data) :
    Calls Try.prog 18 #[.agg (cellsQ p A n c), .agg (cellsQ q B k d)] w fun e w' => e = .returned (.bool (sameQ p q)) ∧ Below w.heap.size w w' := by
  have hb := Lib.hid (((Below.refl _ w).alloc (Nat.le_refl _) (.cells (cellsQ p A n c) 25)).alloc (by simp) (.cells (cellsQ q B k d) 25))
  have e1 := conv_bytes (hp.below hb.out)
  have e2 := conv_bytes (hq.below hb.out)
  have hq1 := str_beq hp.byt hq.byt
  have hs := show sameQ p q = (p.x == q.x && p.y == q.y && p.z == q.z && p.data == q.data) from rfl
  rw [hs]
  clear hp hq
  go_enter Try.func18, Try.ntmps18
  go_wp2
  all_goals
    go_ret
    exact ⟨ret_bool (by simp [*]), hb.out⟩
end Go.Proofs.Ytccdbelngjonaaa
