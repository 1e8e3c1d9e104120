/- Plain facts: a message of IPv6 that may be is read from its bytes. No program in sight. -/
import Derived.Test.YtekngoallcogpaaIcmp6P
import Derived.Test.YtekngoallcogpaaIcmpPlain
set_option linter.unusedVariables false
namespace Go.Proofs.Ytekngoallcogpaa
open Go.RowKit

theorem total6_two (a b : List Int) : totalI [a, b] = sumB a + sumB b := by rw [totalI_cons, totalI_cons, totalI_nil]; omega
theorem own6_set {s d : List Int} (m : IcmpP) (t : Int) (h0 : 0 ≤ t) (h1 : t ≤ 65535) : own6 s d (bytesI m t) = foldI (totalI [pseudo6 s d 58 (((bytesI m 0).length : Nat) : Int), bytesI m 0] + t) := by
  unfold own6
  have e := bytesI_sum m t h0 h1
  rw [totalI_one, totalI_one] at e
  rw [bytesI_length, bytesI_length, total6_two, total6_two, e, Int.add_assoc]
theorem back6_code {s d : List Int} {m : IcmpP} {n : Nat} (hs : Six s) (hd : Six d) (hn : m.data.length = n) (hok : checkI m n = 0) (hb : Byts m.data) : code6 s d (built6 s d m) = 0 := by
  obtain ⟨ht, hcd, hr, hl⟩ := checkI_ok hok
  obtain ⟨s0, s1⟩ := sum6_bd s d m
  have hlen := bytesI_length m (sum6 s d m)
  unfold code6 built6
  rw [hlen, if_neg (by omega), if_neg (by omega), own6_set m _ s0 s1]
  have h0 : 0 ≤ totalI [pseudo6 s d 58 (((bytesI m 0).length : Nat) : Int), bytesI m 0] := by
    rw [total6_two]
    have h1 := sumB_lo (pseudo6_byts hs hd 58 (((bytesI m 0).length : Nat) : Int))
    have h2 := sumB_lo (bytesI_byts (s := 0) ht hcd hb)
    omega
  have := fold_right _ h0
  have e : totalI [pseudo6 s d 58 (((bytesI m 0).length : Nat) : Int), bytesI m 0] + sum6 s d m = totalI [pseudo6 s d 58 (((bytesI m 0).length : Nat) : Int), bytesI m 0] + (65535 - foldI (totalI [pseudo6 s d 58 (((bytesI m 0).length : Nat) : Int), bytesI m 0])) := rfl
  rw [e, this]; rfl
theorem parsedI_bytes {m : IcmpP} {n : Nat} (hok : checkI m n = 0) (t : Int) : parsedI (bytesI m t) = m := by
  obtain ⟨ht, hcd, hr, hl⟩ := checkI_ok hok
  obtain ⟨y, cd, r, data⟩ := m
  unfold parsedI
  have h4 := getV_mid ([y, cd] ++ digL t 2) data r 4 (fits4n hr.1 hr.2) 4 (by simp [digL_length])
  have e : bytesI ⟨y, cd, r, data⟩ t = [y, cd] ++ digL t 2 ++ digL r 4 ++ data := rfl
  rw [e]
  have h8 : List.drop 8 ([y, cd] ++ digL t 2 ++ digL r 4 ++ data) = data := by
    rw [List.drop_append_of_le_length (by simp [digL_length]), List.drop_of_length_le (by simp [digL_length]), List.nil_append]
  rw [h8]
  have h4' : (getV ([y, cd] ++ digL t 2 ++ digL r 4 ++ data) 4 4).1 = r := h4
  rw [h4']
  rfl
theorem back6_read {s d : List Int} {m : IcmpP} {n : Nat} (hs : Six s) (hd : Six d) (hn : m.data.length = n) (hok : checkI m n = 0) (hb : Byts m.data) : read6 s d (built6 s d m) = m := by
  unfold read6
  rw [if_pos (back6_code hs hd hn hok hb)]
  exact parsedI_bytes hok _
theorem built6_pos (s d : List Int) (m : IcmpP) : 0 < (built6 s d m).length := by unfold built6; rw [bytesI_length]; omega
end Go.Proofs.Ytekngoallcogpaa
