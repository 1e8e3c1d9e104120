/- Plain facts: a packet of IPv6, and a fragment header, are read from their bytes, whatever stands behind. No program in sight. -/
import Derived.Test.YtbbdkfadcafpfaaRow6
import Derived.Test.YtbbdkfadcafpfaaParseFrag
set_option linter.unusedVariables false
namespace Go.Proofs.Ytbbdkfadcafpfaa
open Go.RowKit

theorem vbeNum_dig (x : Int) (s : Nat) (h : fitsP x s) : beNum (digL x s) = x := by
  obtain ⟨⟨h1, h2⟩, h3, h4⟩ := h
  have hc : s = 1 ∨ s = 2 ∨ s = 3 ∨ s = 4 := by omega
  rw [Int.toNat_natCast] at h4
  rcases hc with rfl | rfl | rfl | rfl <;> simp [digL, beNum, List.range_succ] at h4 ⊢ <;> omega
theorem vgetV_mid (xs ys : List Int) (x : Int) (s : Nat) (hf : fitsP x s) (a : Nat) (ha : xs.length = a) : (getV (xs ++ digL x s ++ ys) a s).1 = x := by
  have h1 := hf.1
  unfold getV
  rw [if_neg (by omega), if_neg (by simp only [List.length_append, digL_length]; omega)]
  simp only [Int.toNat_natCast]
  have : cutI (xs ++ digL x s ++ ys) a s = digL x s := by
    unfold cutI
    rw [List.append_assoc, List.drop_append_of_le_length (by omega), ← ha, List.drop_length, List.nil_append, List.take_append_of_le_length (by rw [digL_length]; omega), List.take_of_length_le (by rw [digL_length]; omega)]
  rw [this, vbeNum_dig x s hf]
theorem drop_len {α : Type} (X R : List α) (k : Nat) (h : X.length = k) : (X ++ R).drop k = R := by
  rw [List.drop_append_of_le_length (by omega), List.drop_of_length_le (by omega), List.nil_append]
theorem take_len {α : Type} (X R : List α) (k : Nat) (h : X.length = k) : (X ++ R).take k = X := by
  rw [List.take_append_of_le_length (by omega), List.take_of_length_le (by omega)]
theorem bytesV_len {p : V6P} (hs : p.src.length = 16) (hd : p.dst.length = 16) : (bytesV p).length = 40 + p.data.length := by
  unfold bytesV; simp only [List.length_append, List.length_cons, List.length_nil, digL_length]; omega
theorem back_V {p : V6P} {n : Nat} (hn : p.data.length = n) (hok : checkV p n = 0) (hs : p.src.length = 16) (hd : p.dst.length = 16) (more : List Int) :
    codeV6 false (bytesV p ++ more) = 0 ∧ readV6 false (bytesV p ++ more) = p := by
  obtain ⟨⟨ht0, ht1⟩, ⟨hn0, hn1⟩, ⟨hp0, hp1⟩, ⟨hf0, hf1⟩, hnn⟩ := checkV_ok hok
  have hlen := bytesV_len hs hd
  have hfv : firstV p = 1610612736 + p.t * 1048576 + p.fl := rfl
  have e0 : (getV (bytesV p ++ more) 0 4).1 = firstV p := by
    have := vgetV_mid [] (digL p.data.length 2 ++ [p.nx, p.hp] ++ p.src ++ p.dst ++ p.data ++ more) (firstV p) 4 (firstV_fits ht0 ht1 hf0 hf1) 0 rfl
    simpa [bytesV] using this
  have e4 : (getV (bytesV p ++ more) 4 2).1 = (n : Int) := by
    have := vgetV_mid (digL (firstV p) 4) ([p.nx, p.hp] ++ p.src ++ p.dst ++ p.data ++ more) (p.data.length : Int) 2 (len_fits (by omega)) 4 (digL_length _ _)
    rw [← hn]
    simpa [bytesV] using this
  have h6 : digL (firstV p) 4 ++ digL p.data.length 2 = digL (firstV p) 4 ++ digL p.data.length 2 := rfl
  have hX : bytesV p ++ more = (digL (firstV p) 4 ++ digL p.data.length 2) ++ (p.nx :: p.hp :: (p.src ++ (p.dst ++ (p.data ++ more)))) := by simp [bytesV]
  have l6 : (digL (firstV p) 4 ++ digL (p.data.length : Int) 2).length = 6 := by simp [digL_length]
  have b6 : (bytesV p ++ more)[6]?.getD 0 = p.nx := by
    rw [hX, List.getElem?_append_right (by omega), l6]; rfl
  have b7 : (bytesV p ++ more)[7]?.getD 0 = p.hp := by
    rw [hX, List.getElem?_append_right (by omega), l6]; rfl
  have hX8 : bytesV p ++ more = (digL (firstV p) 4 ++ digL p.data.length 2 ++ [p.nx, p.hp]) ++ (p.src ++ (p.dst ++ (p.data ++ more))) := by simp [bytesV]
  have hX24 : bytesV p ++ more = (digL (firstV p) 4 ++ digL p.data.length 2 ++ [p.nx, p.hp] ++ p.src) ++ (p.dst ++ (p.data ++ more)) := by simp [bytesV]
  have hX40 : bytesV p ++ more = (digL (firstV p) 4 ++ digL p.data.length 2 ++ [p.nx, p.hp] ++ p.src ++ p.dst) ++ (p.data ++ more) := by simp [bytesV]
  have d8 : ((bytesV p ++ more).drop 8).take 16 = p.src := by
    rw [hX8, drop_len _ _ 8 (by simp [digL_length]), take_len _ _ 16 hs]
  have d24 : ((bytesV p ++ more).drop 24).take 16 = p.dst := by
    rw [hX24, drop_len _ _ 24 (by simp [digL_length, hs]), take_len _ _ 16 hd]
  have d40 : ((bytesV p ++ more).drop 40).take n = p.data := by
    rw [hX40, drop_len _ _ 40 (by simp [digL_length, hs, hd]), take_len _ _ n hn]
  have hl2 : (bytesV p ++ more).length = 40 + n + more.length := by rw [List.length_append, hlen, hn]
  have hc : codeV6 false (bytesV p ++ more) = 0 := by
    unfold codeV6
    rw [e0, e4, hl2, hfv, if_neg (by omega), if_neg (by omega), if_neg (by omega)]
  refine ⟨hc, ?_⟩
  unfold readV6
  rw [if_pos hc]
  unfold parsedV
  rw [e0, e4, b6, b7, d8, d24, hl2, Int.toNat_natCast, show min n (40 + n + more.length - 40) = n by omega, d40, hfv]
  obtain ⟨t, fl, nx, hp, src, dst, data⟩ := p
  dsimp only at *
  rw [show (1610612736 + t * 1048576 + fl) / 1048576 % 256 = t by omega, show (1610612736 + t * 1048576 + fl) % 1048576 = fl by omega]
theorem bytesF_len (nx off id : Int) (m : Bool) : (bytesF nx off id m).length = 8 := by simp [bytesF, digL_length]
theorem back_F {nx off id : Int} {m : Bool} (hok : okF nx off id) (more : List Int) :
    (bytesF nx off id m ++ more)[0]?.getD 0 = nx ∧ placeF (bytesF nx off id m ++ more) / 8 * 8 = off ∧ idF (bytesF nx off id m ++ more) = id ∧ (placeF (bytesF nx off id m ++ more) % 2 == 1) = m ∧ (bytesF nx off id m ++ more).drop 8 = more := by
  obtain ⟨h1, h2, h3, h4, h5⟩ := hok
  have hm : 0 ≤ moreI m ∧ moreI m ≤ 1 ∧ (moreI m == 1) = m := by cases m <;> decide
  have hp : placeF (bytesF nx off id m ++ more) = off + moreI m := by
    have := vgetV_mid [nx, 0] (digL id 4 ++ more) (off + moreI m) 2 (fits2 (by omega) (by omega)) 2 rfl
    unfold placeF
    simpa [bytesF] using this
  have hi : idF (bytesF nx off id m ++ more) = id := by
    have := vgetV_mid ([nx, 0] ++ digL (off + moreI m) 2) more id 4 h2 4 (by simp [digL_length])
    unfold idF
    simpa [bytesF] using this
  refine ⟨by simp [bytesF], by rw [hp]; omega, hi, ?_, drop_len _ _ 8 (bytesF_len _ _ _ _)⟩
  rw [hp, show (off + moreI m) % 2 = moreI m by omega]
  exact hm.2.2
end Go.Proofs.Ytbbdkfadcafpfaa
