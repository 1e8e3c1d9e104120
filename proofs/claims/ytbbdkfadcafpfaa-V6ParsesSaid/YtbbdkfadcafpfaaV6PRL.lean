/- Packets of IPv6 (the reference): facts for the walk of read. -/
import Derived.Test.YtbbdkfadcafpfaaV6PR
import Derived.Test.YtbbdkfadcafpfaaV6PO
set_option linter.unusedVariables false
namespace Go.Proofs.Ytbbdkfadcafpfaa
open Go Go.RowKit

theorem V6V.setData {P : Array Value} {p : V6P} {A0 : Option Addr} {n0 c0 : Nat} (h : V6V P p A0 n0 c0) (d : List Int) (A : Option Addr) (n c : Nat) : V6V (P.setIfInBounds 36 (.slice A n c)) { p with data := d } A n c where
  size := by rw [Array.size_setIfInBounds]; exact h.size
  h0 := by rw [Array.getElem?_setIfInBounds_ne (by decide)]; exact h.h0
  h1 := by rw [Array.getElem?_setIfInBounds_ne (by decide)]; exact h.h1
  h2 := by rw [Array.getElem?_setIfInBounds_ne (by decide)]; exact h.h2
  h3 := by rw [Array.getElem?_setIfInBounds_ne (by decide)]; exact h.h3
  hs := fun j hj => by rw [Array.getElem?_setIfInBounds_ne (by omega)]; exact h.hs j hj
  hd := fun j hj => by rw [Array.getElem?_setIfInBounds_ne (by omega)]; exact h.hd j hj
  h36 := by simp [h.size]
  ls := h.ls
  ld := h.ld
  bs := h.bs
  bd := h.bd
/-- The first k bytes of an address, and zeros. -/
def partA (s : List Int) (k : Nat) : List Int := s.take k ++ z16.drop k
theorem partA_zero (s : List Int) : partA s 0 = z16 := rfl
theorem partA_all {s : List Int} (h : s.length = 16) : partA s 16 = s := by
  unfold partA
  rw [List.take_of_length_le (by omega), List.drop_of_length_le (by rw [z16_len]; exact Nat.le_refl _), List.append_nil]
theorem partA_len {s : List Int} (h : s.length = 16) {k : Nat} (hk : k ≤ 16) : (partA s k).length = 16 := by
  unfold partA; rw [List.length_append, List.length_take, List.length_drop, z16_len, h]; omega
theorem partA_byts {s : List Int} (h : Byts s) (k : Nat) : Byts (partA s k) := (h.take k).append (z16_byts.drop k)
theorem partA_ne {s : List Int} (h : s.length = 16) {k j : Nat} (hk : k < 16) (hj : j ≠ k) : (partA s (k + 1))[j]?.getD 0 = (partA s k)[j]?.getD 0 := by
  unfold partA
  rcases Nat.lt_or_ge j k with hlt | hge
  · rw [List.getElem?_append_left (by rw [List.length_take]; omega), List.getElem?_append_left (by rw [List.length_take]; omega), List.getElem?_take, List.getElem?_take, if_pos (by omega), if_pos hlt]
  · rw [List.getElem?_append_right (by rw [List.length_take]; omega), List.getElem?_append_right (by rw [List.length_take]; omega), List.length_take, List.length_take, List.getElem?_drop, List.getElem?_drop, h, Nat.min_eq_left (by omega), Nat.min_eq_left (by omega), show k + 1 + (j - (k + 1)) = k + (j - k) by omega]
theorem partA_eq {s : List Int} (h : s.length = 16) {k : Nat} (hk : k < 16) : (partA s (k + 1))[k]?.getD 0 = s[k]?.getD 0 := by
  unfold partA
  rw [List.getElem?_append_left (by rw [List.length_take]; omega), List.getElem?_take, if_pos (by omega)]
theorem V6V.step {P P' : Array Value} {t fl nx hp : Int} {s d dt : List Int} {A : Option Addr} {n c k : Nat} (hk : k < 16) (hs : s.length = 16) (hd : d.length = 16) (bs : Byts s) (bd : Byts d) (h : V6V P ⟨t, fl, nx, hp, partA s k, partA d k, dt⟩ A n c)
    (hsz : P'.size = 37) (hne : ∀ j, j < 37 → j ≠ 4 + k → j ≠ 20 + k → P'[j]? = P[j]?) (h4 : P'[4 + k]? = some (.int .u8 (s[k]?.getD 0))) (h20 : P'[20 + k]? = some (.int .u8 (d[k]?.getD 0))) : V6V P' ⟨t, fl, nx, hp, partA s (k + 1), partA d (k + 1), dt⟩ A n c where
  size := hsz
  h0 := (hne 0 (by decide) (by omega) (by omega)).trans h.h0
  h1 := (hne 1 (by decide) (by omega) (by omega)).trans h.h1
  h2 := (hne 2 (by decide) (by omega) (by omega)).trans h.h2
  h3 := (hne 3 (by decide) (by omega) (by omega)).trans h.h3
  hs := fun j hj => by
    by_cases e : j = k
    · subst e; rw [h4]; dsimp only; rw [partA_eq hs hk]
    · rw [hne _ (by omega) (by omega) (by omega), h.hs j hj]; dsimp only; rw [partA_ne hs hk e]
  hd := fun j hj => by
    by_cases e : j = k
    · subst e; rw [h20]; dsimp only; rw [partA_eq hd hk]
    · rw [hne _ (by omega) (by omega) (by omega), h.hd j hj]; dsimp only; rw [partA_ne hd hk e]
  h36 := (hne 36 (by decide) (by omega) (by omega)).trans h.h36
  ls := partA_len hs (by omega)
  ld := partA_len hd (by omega)
  bs := partA_byts bs _
  bd := partA_byts bd _

end Go.Proofs.Ytbbdkfadcafpfaa
