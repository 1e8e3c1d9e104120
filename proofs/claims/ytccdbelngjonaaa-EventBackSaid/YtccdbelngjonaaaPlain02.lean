/- Plain facts on the sum of the words of bytes. No program in sight. -/
import Derived.Test.YtccdbelngjonaaaTotal
import Derived.Test.YtccdbelngjonaaaFold
set_option linter.unusedVariables false
namespace Go.Proofs.Ytccdbelngjonaaa
open Go.RowKit

/-- The words of bytes together, along the list. -/
def sumL : List Int → Int
  | [] => 0
  | [x] => x * 256
  | x :: y :: r => x * 256 + y + sumL r
theorem wordI_cons (x y : Int) (r : List Int) (k : Nat) : wordI (x :: y :: r) (k + 2) = wordI r k := by simp [wordI]
theorem sumW_cons (x y : Int) (r : List Int) (k : Nat) : sumW (x :: y :: r) (k + 1) = x * 256 + y + sumW r k := by
  induction k with
  | zero => simp [sumW, wordI]
  | succ k ih =>
    have h1 : sumW (x :: y :: r) (k + 1 + 1) = sumW (x :: y :: r) (k + 1) + wordI (x :: y :: r) (2 * (k + 1)) := rfl
    have h2 : sumW r (k + 1) = sumW r k + wordI r (2 * k) := rfl
    rw [h1, ih, h2, show 2 * (k + 1) = 2 * k + 2 from by omega, wordI_cons]
    omega
theorem sumB_cons (x y : Int) (r : List Int) : sumB (x :: y :: r) = x * 256 + y + sumB r := by
  unfold sumB
  rw [show ((x :: y :: r).length + 1) / 2 = (r.length + 1) / 2 + 1 from by simp; omega]
  exact sumW_cons x y r _
theorem sumB_eq (bs : List Int) : sumB bs = sumL bs := by
  match bs with
  | [] => rfl
  | [x] => simp [sumB, sumW, sumL, wordI]
  | x :: y :: r => rw [sumB_cons, sumL, sumB_eq r]
theorem sumL_append (a b : List Int) (h : a.length % 2 = 0) : sumL (a ++ b) = sumL a + sumL b := by
  match a with
  | [] => simp [sumL]
  | [x] => simp at h
  | x :: y :: r =>
    have := sumL_append r b (by simp at h; omega)
    simp only [List.cons_append, sumL, this]; omega
theorem sumB_append (a b : List Int) (h : a.length % 2 = 0) : sumB (a ++ b) = sumB a + sumB b := by
  rw [sumB_eq, sumB_eq, sumB_eq, sumL_append a b h]
theorem sumB_two (x y : Int) : sumB [x, y] = x * 256 + y := by rw [sumB_eq]; simp [sumL]
theorem sumP_cons (x : List Int) (l : List (List Int)) (k : Nat) : sumP (x :: l) (k + 1) = sumB x + sumP l k := by
  induction k with
  | zero => simp [sumP]
  | succ k ih =>
    have h1 : sumP (x :: l) (k + 1 + 1) = sumP (x :: l) (k + 1) + sumB ((x :: l)[k + 1]?.getD []) := rfl
    have h2 : sumP l (k + 1) = sumP l k + sumB (l[k]?.getD []) := rfl
    rw [h1, ih, h2, List.getElem?_cons_succ]; omega
theorem totalI_cons (x : List Int) (l : List (List Int)) : totalI (x :: l) = sumB x + totalI l := sumP_cons x l l.length
theorem totalI_nil : totalI [] = 0 := rfl
theorem sumB_lo {bs : List Int} (h : Byts bs) : 0 ≤ sumB bs := (sumW_bd h _).1
theorem sumL_pos {bs : List Int} (h : Byts bs) (hx : ∃ x ∈ bs, x ≠ 0) : 0 < sumL bs := by
  match bs with
  | [] => obtain ⟨x, hx, _⟩ := hx; cases hx
  | [x] => obtain ⟨y, hy, h0⟩ := hx; simp at hy; subst hy; have := h y (by simp); simp [sumL]; omega
  | x :: y :: r =>
    have hX := h x (by simp)
    have hY := h y (by simp)
    have hr : Byts r := fun z hz => h z (by simp [hz])
    have hr0 : 0 ≤ sumL r := by rw [← sumB_eq]; exact sumB_lo hr
    obtain ⟨z, hz, h0⟩ := hx
    simp only [sumL]
    rcases List.mem_cons.1 hz with rfl | hz
    · omega
    · rcases List.mem_cons.1 hz with rfl | hz
      · omega
      · have := sumL_pos hr ⟨z, hz, h0⟩; omega
theorem sumB_pos {bs : List Int} (h : Byts bs) (hx : ∃ x ∈ bs, x ≠ 0) : 0 < sumB bs := by rw [sumB_eq]; exact sumL_pos h hx

/-- The sum behind bytes makes them right. -/
theorem fold_right (t : Int) (h : 0 ≤ t) : foldI (t + (65535 - foldI t)) = 65535 := by
  unfold foldI
  split <;> split <;> omega
end Go.Proofs.Ytccdbelngjonaaa
