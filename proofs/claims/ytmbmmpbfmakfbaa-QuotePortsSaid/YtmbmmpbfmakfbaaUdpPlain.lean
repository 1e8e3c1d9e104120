/- Plain facts: a datagram that may be is read from its bytes. No program in sight. -/
import Derived.Test.YtmbmmpbfmakfbaaUdpP
import Derived.Test.YtmbmmpbfmakfbaaV4
set_option linter.unusedVariables false
namespace Go.Proofs.Ytmbmmpbfmakfbaa
open Go.RowKit

theorem ubeNum_dig (x : Int) (s : Nat) (h : fitsP x s) : beNum (digL x s) = x := by
  obtain ⟨⟨h1, h2⟩, h3, h4⟩ := h
  have hc : s = 1 ∨ s = 2 ∨ s = 3 ∨ s = 4 := by omega
  rw [Int.toNat_natCast] at h4
  rcases hc with rfl | rfl | rfl | rfl <;> simp [digL, beNum, List.range_succ] at h4 ⊢ <;> omega
theorem usumB_dig2 (s : Int) (h0 : 0 ≤ s) (h1 : s ≤ 65535) : sumB (digL s 2) = s := by
  have : digL s 2 = [s / 256 % 256, s % 256] := by simp [digL, List.range_succ]
  rw [this, sumB_two]; omega
theorem usumB_mid (xs ys : List Int) (s : Int) (h0 : 0 ≤ s) (h1 : s ≤ 65535) (hx : xs.length % 2 = 0) : sumB (xs ++ digL s 2 ++ ys) = sumB (xs ++ digL 0 2 ++ ys) + s := by
  rw [List.append_assoc, List.append_assoc, sumB_append _ _ hx, sumB_append _ _ hx, sumB_append (digL s 2) ys (by rw [digL_length]), sumB_append (digL 0 2) ys (by rw [digL_length]), usumB_dig2 s h0 h1, usumB_dig2 0 (by omega) (by omega)]
  omega
theorem ugetV_mid (xs ys : List Int) (x : Int) (s : Nat) (hf : fitsP x s) (a : Nat) (ha : xs.length = a) : (getV (xs ++ digL x s ++ ys) a s).1 = x := by
  have h1 := hf.1
  unfold getV
  rw [if_neg (by omega), if_neg (by simp only [List.length_append, digL_length]; omega)]
  simp only [Int.toNat_natCast]
  have : cutI (xs ++ digL x s ++ ys) a s = digL x s := by
    unfold cutI
    rw [List.append_assoc, List.drop_append_of_le_length (by omega), ← ha, List.drop_length, List.nil_append, List.take_append_of_le_length (by rw [digL_length]; omega), List.take_of_length_le (by rw [digL_length]; omega)]
  rw [this, ubeNum_dig x s hf]

theorem totalI_two (a b : List Int) : totalI [a, b] = sumB a + sumB b := by rw [totalI_cons, totalI_cons, totalI_nil]; omega
theorem bytesU_sum (p : List Int) (m : UdpP) (s : Int) (h0 : 0 ≤ s) (h1 : s ≤ 65535) : totalI [p, bytesU m s] = totalI [p, bytesU m 0] + s := by
  rw [totalI_two, totalI_two]
  have := usumB_mid (digL m.s 2 ++ digL m.d 2 ++ digL (8 + (m.data.length : Nat)) 2) m.data s h0 h1 (by simp [digL_length])
  unfold bytesU
  omega
theorem sumU_pos (src dst : Int) (m : UdpP) : 0 < sumU src dst m := by
  have := rawU_bd src dst m
  unfold sumU; split <;> omega
theorem sumU_right {src dst : Int} {m : UdpP} (hd : Byts m.data) : foldI (totalI (partsU src dst m) + sumU src dst m) = 65535 := by
  have h0 : 0 ≤ totalI (partsU src dst m) := by
    unfold partsU
    rw [totalI_two]
    have h1 := sumB_lo (pseudoB_byts src dst 17 (8 + (m.data.length : Nat)))
    have h2 := sumB_lo (bytesU_byts (m := m) (s := 0) hd)
    omega
  unfold sumU rawU
  generalize totalI (partsU src dst m) = t at *
  split
  · unfold foldI at *
    split at * <;> split <;> omega
  · exact fold_right t h0
theorem fields (m : UdpP) (s : Int) (n : Nat) (hn : m.data.length = n) (hok : checkU m n = 0) (h0 : 0 ≤ s) (h1 : s ≤ 65535) :
    (getV (bytesU m s) 0 2).1 = m.s ∧ (getV (bytesU m s) 2 2).1 = m.d ∧ (getV (bytesU m s) 4 2).1 = 8 + (n : Int) ∧ (getV (bytesU m s) 6 2).1 = s ∧ (bytesU m s).drop 8 = m.data := by
  obtain ⟨hs, hd, hl⟩ := checkU_ok hok
  refine ⟨?_, ?_, ?_, ?_, ?_⟩
  · have := ugetV_mid [] (digL m.d 2 ++ digL (8 + (m.data.length : Nat)) 2 ++ digL s 2 ++ m.data) m.s 2 (fit2 hs.1 hs.2) 0 rfl
    simpa [bytesU] using this
  · have := ugetV_mid (digL m.s 2) (digL (8 + (m.data.length : Nat)) 2 ++ digL s 2 ++ m.data) m.d 2 (fit2 hd.1 hd.2) 2 (digL_length _ _)
    simpa [bytesU] using this
  · have := ugetV_mid (digL m.s 2 ++ digL m.d 2) (digL s 2 ++ m.data) (8 + (m.data.length : Nat)) 2 (fit2 (by omega) (by omega)) 4 (by simp [digL_length])
    rw [← hn]
    simpa [bytesU] using this
  · have := ugetV_mid (digL m.s 2 ++ digL m.d 2 ++ digL (8 + (m.data.length : Nat)) 2) m.data s 2 (fit2 h0 (by omega)) 6 (by simp [digL_length])
    simpa [bytesU] using this
  · unfold bytesU
    rw [List.drop_append_of_le_length (by simp [digL_length]), List.drop_of_length_le (by simp [digL_length]), List.nil_append]
theorem backU {src dst : Int} {m : UdpP} {n : Nat} (hn : m.data.length = n) (hok : checkU m n = 0) (hd : Byts m.data) : codeU src dst (builtU src dst m) = 0 ∧ readU src dst (builtU src dst m) = m := by
  obtain ⟨hs, hdd, hl⟩ := checkU_ok hok
  obtain ⟨s0, s1⟩ := sumU_bd src dst m
  have hp := sumU_pos src dst m
  obtain ⟨ms, md, ns, data⟩ := m
  cases ns
  · have hb : builtU src dst ⟨ms, md, false, data⟩ = bytesU ⟨ms, md, false, data⟩ (sumU src dst ⟨ms, md, false, data⟩) := by unfold builtU; rw [if_neg (by simp)]
    obtain ⟨e0, e2, e4, e6, e8⟩ := fields ⟨ms, md, false, data⟩ (sumU src dst ⟨ms, md, false, data⟩) n hn hok s0 s1
    have hlen := bytesU_length ⟨ms, md, false, data⟩ (sumU src dst ⟨ms, md, false, data⟩)
    have hc : codeU src dst (builtU src dst ⟨ms, md, false, data⟩) = 0 := by
      rw [hb]
      unfold codeU
      rw [e4, e6, hlen]
      simp only [hn]
      rw [if_neg (by omega), if_neg (by omega), if_neg (by omega), if_neg (by omega), if_neg (by simp; omega)]
      have e : ((8 + n : Nat) : Int) = 8 + (data.length : Nat) := by simp only at hn; omega
      rw [e, bytesU_sum _ _ _ s0 s1]
      have := sumU_right (src := src) (dst := dst) (m := ⟨ms, md, false, data⟩) hd
      unfold partsU at this
      rw [this]; rfl
    refine ⟨hc, ?_⟩
    unfold readU
    rw [if_pos hc, hb]
    unfold parsedU
    rw [e0, e2, e6, e8]
    have : (sumU src dst ⟨ms, md, false, data⟩ == 0) = false := by simp; omega
    rw [this]
  · have hb : builtU src dst ⟨ms, md, true, data⟩ = bytesU ⟨ms, md, true, data⟩ 0 := by unfold builtU; rw [if_pos rfl]
    obtain ⟨e0, e2, e4, e6, e8⟩ := fields ⟨ms, md, true, data⟩ 0 n hn hok (by omega) (by omega)
    have hlen := bytesU_length ⟨ms, md, true, data⟩ 0
    have hc : codeU src dst (builtU src dst ⟨ms, md, true, data⟩) = 0 := by
      rw [hb]
      unfold codeU
      rw [e4, e6, hlen]
      simp only [hn]
      rw [if_neg (by omega), if_neg (by omega), if_neg (by omega), if_neg (by omega), if_pos (by rfl)]
    refine ⟨hc, ?_⟩
    unfold readU
    rw [if_pos hc, hb]
    unfold parsedU
    rw [e0, e2, e6, e8]
    rfl
end Go.Proofs.Ytmbmmpbfmakfbaa
