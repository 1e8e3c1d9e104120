/- Plain facts: a message that may be is read from its bytes. No program in sight. -/
import Derived.Test.YtmbmmpbfmakfbaaIcmpT
import Derived.Test.YtmbmmpbfmakfbaaV4
set_option linter.unusedVariables false
namespace Go.Proofs.Ytmbmmpbfmakfbaa
open Go.RowKit

theorem beNum_dig (x : Int) (s : Nat) (h : fitsP x s) : beNum (digL x s) = x := by
  obtain ⟨⟨h1, h2⟩, h3, h4⟩ := h
  have hc : s = 1 ∨ s = 2 ∨ s = 3 ∨ s = 4 := by omega
  rw [Int.toNat_natCast] at h4
  rcases hc with rfl | rfl | rfl | rfl <;> simp [digL, beNum, List.range_succ] at h4 ⊢ <;> omega
theorem sumB_dig2 (s : Int) (h0 : 0 ≤ s) (h1 : s ≤ 65535) : sumB (digL s 2) = s := by
  have : digL s 2 = [s / 256 % 256, s % 256] := by simp [digL, List.range_succ]
  rw [this, sumB_two]; omega
/-- Bytes with a sum in an even place. -/
theorem sumB_mid (xs ys : List Int) (s : Int) (h0 : 0 ≤ s) (h1 : s ≤ 65535) (hx : xs.length % 2 = 0) : sumB (xs ++ digL s 2 ++ ys) = sumB (xs ++ digL 0 2 ++ ys) + s := by
  rw [List.append_assoc, List.append_assoc, sumB_append _ _ hx, sumB_append _ _ hx, sumB_append (digL s 2) ys (by rw [digL_length]), sumB_append (digL 0 2) ys (by rw [digL_length]), sumB_dig2 s h0 h1, sumB_dig2 0 (by omega) (by omega)]
  omega
theorem totalI_one (x : List Int) : totalI [x] = sumB x := by rw [totalI_cons, totalI_nil]; omega
theorem getV_mid (xs ys : List Int) (x : Int) (s : Nat) (hf : fitsP x s) (a : Nat) (ha : xs.length = a) : (getV (xs ++ digL x s ++ ys) a s).1 = x := by
  have h1 := hf.1
  unfold getV
  rw [if_neg (by omega), if_neg (by simp only [List.length_append, digL_length]; omega)]
  simp only [Int.toNat_natCast]
  have : cutI (xs ++ digL x s ++ ys) a s = digL x s := by
    unfold cutI
    rw [List.append_assoc, List.drop_append_of_le_length (by omega), ← ha, List.drop_length, List.nil_append, List.take_append_of_le_length (by rw [digL_length]; omega), List.take_of_length_le (by rw [digL_length]; omega)]
  rw [this, beNum_dig x s hf]

theorem bytesI_sum (m : IcmpP) (s : Int) (h0 : 0 ≤ s) (h1 : s ≤ 65535) : totalI [bytesI m s] = totalI [bytesI m 0] + s := by
  rw [totalI_one, totalI_one]
  have := sumB_mid [m.t, m.cd] (digL m.r 4 ++ m.data) s h0 h1 (by simp)
  simpa [bytesI] using this
theorem back_code {m : IcmpP} {n : Nat} (hn : m.data.length = n) (hok : checkI m n = 0) (hd : Byts m.data) : codeI (builtI m) = 0 := by
  obtain ⟨ht, hcd, hr, hl⟩ := checkI_ok hok
  obtain ⟨s0, s1⟩ := sumI_bd m
  have hlen := bytesI_length m (sumI m)
  unfold codeI builtI
  rw [hlen, if_neg (by omega), if_neg (by omega), bytesI_sum m _ s0 s1]
  have h0 : 0 ≤ totalI [bytesI m 0] := by rw [totalI_one]; exact sumB_lo (bytesI_byts ht hcd hd)
  have := fold_right _ h0
  have e : totalI [bytesI m 0] + sumI m = totalI [bytesI m 0] + (65535 - foldI (totalI [bytesI m 0])) := rfl
  rw [e, this]; rfl
theorem back_read {m : IcmpP} {n : Nat} (hn : m.data.length = n) (hok : checkI m n = 0) (hd : Byts m.data) : readI (builtI m) = m := by
  unfold readI
  rw [if_pos (back_code hn hok hd)]
  obtain ⟨ht, hcd, hr, hl⟩ := checkI_ok hok
  obtain ⟨s0, s1⟩ := sumI_bd m
  obtain ⟨t, cd, r, data⟩ := m
  unfold parsedI
  have h4 := getV_mid ([t, cd] ++ digL (sumI ⟨t, cd, r, data⟩) 2) data r 4 (fits4n hr.1 hr.2) 4 (by simp [digL_length])
  have e : builtI ⟨t, cd, r, data⟩ = [t, cd] ++ digL (sumI ⟨t, cd, r, data⟩) 2 ++ digL r 4 ++ data := rfl
  rw [e]
  have h8 : List.drop 8 ([t, cd] ++ digL (sumI ⟨t, cd, r, data⟩) 2 ++ digL r 4 ++ data) = data := by
    rw [List.drop_append_of_le_length (by simp [digL_length]), List.drop_of_length_le (by simp [digL_length]), List.nil_append]
  rw [h8]
  have h4' : (getV ([t, cd] ++ digL (sumI ⟨t, cd, r, data⟩) 2 ++ digL r 4 ++ data) 4 4).1 = r := h4
  rw [h4']
  rfl
end Go.Proofs.Ytmbmmpbfmakfbaa
