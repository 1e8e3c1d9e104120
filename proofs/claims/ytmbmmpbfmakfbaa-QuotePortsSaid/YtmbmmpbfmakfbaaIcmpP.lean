/- Messages of ICMP (icmp, and the reference): walks of Check, Same, Fault, Query, ID. -/
import Derived.Test.YtmbmmpbfmakfbaaAppend
import Derived.Test.YtmbmmpbfmakfbaaTame
import Derived.Test.YtmbmmpbfmakfbaaSeq
import Derived.Test.YtmbmmpbfmakfbaaBase
set_option linter.unusedVariables false
namespace Go.Proofs.Ytmbmmpbfmakfbaa
open Go.RowKit

/-- A message of ICMP. -/
structure IcmpP where
  t : Int
  cd : Int
  r : Int
  data : List Int
/-- Its cells; the data lie in a slice. -/
abbrev cellsI (m : IcmpP) (A : Option Addr) (n c : Nat) : Array Value := #[.int .i64 m.t, .int .i64 m.cd, .int .i64 m.r, .slice A n c]
/-- Whether a message may be. -/
def checkI (m : IcmpP) (n : Nat) : Int := if fitsB m.t 1 = false then 1 else if fitsB m.cd 1 = false then 1 else if fitsB m.r 4 = false then 1 else if 65527 < n then 6 else 0

theorem checkI_ok {m : IcmpP} {n : Nat} (h : checkI m n = 0) : (0 ≤ m.t ∧ m.t < 256) ∧ (0 ≤ m.cd ∧ m.cd < 256) ∧ (0 ≤ m.r ∧ m.r < 4294967296) ∧ n ≤ 65527 := by
  unfold checkI at h
  by_cases h1 : fitsB m.t 1 = false
  · simp [h1] at h
  · by_cases h2 : fitsB m.cd 1 = false
    · simp [h2] at h
    · by_cases h3 : fitsB m.r 4 = false
      · simp [h3] at h
      · rw [if_neg h1, if_neg h2, if_neg h3] at h
        have k1 := of_decide_eq_true (show fitsB m.t 1 = true by simpa using h1)
        have k2 := of_decide_eq_true (show fitsB m.cd 1 = true by simpa using h2)
        have k3 := of_decide_eq_true (show fitsB m.r 4 = true by simpa using h3)
        obtain ⟨_, a1, b1⟩ := k1
        obtain ⟨_, a2, b2⟩ := k2
        obtain ⟨_, a3, b3⟩ := k3
        rw [pow1] at b1 b2
        rw [pow4] at b3
        by_cases h5 : 65527 < n
        · simp [h5] at h
        · exact ⟨⟨a1, b1⟩, ⟨a2, b2⟩, ⟨a3, b3⟩, by omega⟩
theorem checkI_code (m : IcmpP) (n : Nat) : checkI m n = 0 ∨ checkI m n = 1 ∨ checkI m n = 6 := by
  unfold checkI
  repeat' split
  all_goals simp

/-- Whether two messages are the same. -/
def sameI (p q : IcmpP) : Bool := p.t == q.t && p.cd == q.cd && p.r == q.r && p.data == q.data

set_option maxHeartbeats 2000000 in
theorem RefIcmpSame_any (p q : IcmpP) (A A' : Option Addr) (n c n' c' : Nat) (w : World) (hr : RB w A n c p.data) (hr' : RB w A' n' c' q.data) :
    Calls Try.prog 22 #[.agg (cellsI p A n c), .agg (cellsI q A' n' c')] w fun e w' => e = .returned (.bool (sameI p q)) ∧ Below w.heap.size w w' := by
  have hb := Lib.hid (((Below.refl _ w).alloc (Nat.le_refl _) (.cells (cellsI p A n c) 49)).alloc (by simp) (.cells (cellsI q A' n' c') 49))
  replace hr := Lib.hid ((hr.alloc (.cells (cellsI p A n c) 49)).alloc (.cells (cellsI q A' n' c') 49))
  replace hr' := Lib.hid ((hr'.alloc (.cells (cellsI p A n c) 49)).alloc (.cells (cellsI q A' n' c') 49))
  have e1 := conv_bytes hr.out
  have e2 := conv_bytes hr'.out
  have hq := str_beq hr.out.byt hr'.out.byt
  cases n0 : (p.t == q.t)
  · go_enter Try.func22, Try.ntmps22
    go_wp2
    go_ret
    exact ⟨ret_bool (by unfold sameI; rw [n0]; rfl), hb.out⟩
  · cases n1 : (p.cd == q.cd)
    · go_enter Try.func22, Try.ntmps22
      go_wp2
      go_ret
      exact ⟨ret_bool (by unfold sameI; rw [n0, n1]; rfl), hb.out⟩
    · cases n2 : (p.r == q.r)
      · go_enter Try.func22, Try.ntmps22
        go_wp2
        go_ret
        exact ⟨ret_bool (by unfold sameI; rw [n0, n1, n2]; rfl), hb.out⟩
      · go_enter Try.func22, Try.ntmps22
        go_wp2_with (go_at_call 14; refine (Equal_any _ _ _ _ _ _ _ _ _ hr.out hr'.out).mono ?_; rintro e w' ⟨rfl, rfl⟩)
        go_ret
        exact ⟨ret_bool (by unfold sameI; rw [n0, n1, n2]; simp), hb.out⟩
end Go.Proofs.Ytmbmmpbfmakfbaa
/- Messages of ICMP (icmp, and the reference): walks of Build. -/
set_option linter.unusedVariables false
namespace Go.Proofs.Ytmbmmpbfmakfbaa
open Go.RowKit

/-- A message's bytes, with a sum. -/
def bytesI (m : IcmpP) (s : Int) : List Int := [m.t, m.cd] ++ digL s 2 ++ digL m.r 4 ++ m.data
def sumI (m : IcmpP) : Int := 65535 - foldI (totalI [bytesI m 0])
def builtI (m : IcmpP) : List Int := bytesI m (sumI m)
def builtI? (m : IcmpP) (n : Nat) : List Int := if checkI m n = 0 then builtI m else []

theorem setN_two (xs ys : List Int) (p q : Int) (zs : List Int) (a : Nat) (ha : xs.length = a) (hz : zs.length = 2) : setN (xs ++ [p, q] ++ ys) a zs 2 = xs ++ zs ++ ys := by
  match zs, hz with
  | [z0, z1], _ =>
    subst ha
    simp [setN]
theorem digL_zero2 : digL 0 2 = [0, 0] := by decide
theorem bytesI_zero (m : IcmpP) : bytesI m 0 = [m.t, m.cd, 0, 0] ++ digL m.r 4 ++ m.data := by simp [bytesI, digL_zero2]
theorem bytesI_set (m : IcmpP) (s : Int) : setN (bytesI m 0) 2 (digL s 2) 2 = bytesI m s := by
  have := setN_two [m.t, m.cd] (digL m.r 4 ++ m.data) 0 0 (digL s 2) 2 rfl (digL_length _ _)
  rw [bytesI_zero]
  simpa [bytesI] using this
theorem bytesI_length (m : IcmpP) (s : Int) : (bytesI m s).length = 8 + m.data.length := by simp [bytesI, digL_length]; omega
theorem fitsS {s : Int} (h0 : 0 ≤ s) (h1 : s ≤ 65535) : fitsP s ((2 : Nat) : Int) := ⟨by omega, h0, by show _ < (256 : Int) ^ 2; omega⟩
theorem fits4n {x : Int} (h0 : 0 ≤ x) (h1 : x < 4294967296) : fitsP x ((4 : Nat) : Int) := ⟨by omega, h0, by show _ < (256 : Int) ^ 4; omega⟩
theorem sumI_bd (m : IcmpP) : 0 ≤ sumI m ∧ sumI m ≤ 65535 := by
  have h1 := foldI_lo (totalI [bytesI m 0])
  have h2 := foldI_hi (totalI [bytesI m 0])
  unfold sumI; omega
theorem bytesI_byts {m : IcmpP} {s : Int} (h0 : 0 ≤ m.t ∧ m.t < 256) (h1 : 0 ≤ m.cd ∧ m.cd < 256) (hd : Byts m.data) : Byts (bytesI m s) :=
  (((Byts.two h0.1 h0.2 h1.1 h1.2).append (digL_byts _ _)).append (digL_byts _ _)).append hd
theorem byts4 {a b c d : Int} (h0 : 0 ≤ a ∧ a < 256) (h1 : 0 ≤ b ∧ b < 256) (h2 : 0 ≤ c ∧ c < 256) (h3 : 0 ≤ d ∧ d < 256) : Byts [a, b, c, d] := by
  intro z hz
  simp at hz
  rcases hz with rfl | rfl | rfl | rfl <;> constructor <;> omega
theorem lit4 (W : World) (a b c d : Int) (h : Byts [a, b, c, d]) : RB (W.alloc (.cells #[.int .u8 a, .int .u8 b, .int .u8 c, .int .u8 d] 5)) (some ⟨W.heap.size, 0, none⟩) 4 4 [a, b, c, d] := by
  have := RB.lit W 5 [a, b, c, d] h (by simp)
  simpa [u8s] using this
theorem lit2 (W : World) (a b : Int) (h : Byts [a, b]) : RB (W.alloc (.cells #[.int .u8 a, .int .u8 b] 5)) (some ⟨W.heap.size, 0, none⟩) 2 2 [a, b] := by
  have := RB.lit W 5 [a, b] h (by simp)
  simpa [u8s] using this


end Go.Proofs.Ytmbmmpbfmakfbaa
/- Messages of ICMP (the reference): walks of Bytes, Build. -/
set_option linter.unusedVariables false
namespace Go.Proofs.Ytmbmmpbfmakfbaa
open Go.RowKit

end Go.Proofs.Ytmbmmpbfmakfbaa
/- Messages of ICMP (icmp, and the reference): walks of Parse. -/
set_option linter.unusedVariables false
namespace Go.Proofs.Ytmbmmpbfmakfbaa
open Go.RowKit

def parsedI (bs : List Int) : IcmpP := ⟨bs[0]?.getD 0, bs[1]?.getD 0, (getV bs 4 4).1, bs.drop 8⟩
def codeI (bs : List Int) : Int := if bs.length < 8 then 3 else if 65535 < bs.length then 6 else if foldI (totalI [bs]) == 65535 then 0 else 5
def readI (bs : List Int) : IcmpP := if codeI bs = 0 then parsedI bs else ⟨0, 0, 0, []⟩
/-- A message and a code are answered. -/
def IcmpOut (w : World) (m : IcmpP) (e0 : Int) (e : Ending) (w' : World) : Prop := ∃ A2 n2 c2, e = .returned (.tuple #[.agg (cellsI m A2 n2 c2), .int .i64 e0]) ∧ OB w' w.heap.size A2 n2 c2 m.data ∧ Below w.heap.size w w'

theorem IcmpOut.bad {w w' : World} {bs : List Int} {k : Int} (hk : codeI bs = k) (h0 : k ≠ 0) (hb : Below w.heap.size w w') : IcmpOut w (readI bs) (codeI bs) (.returned (.tuple #[.agg #[.int .i64 0, .int .i64 0, .int .i64 0, .slice none 0 0], .int .i64 k])) w' := by
  unfold readI
  rw [hk, if_neg h0]
  exact ⟨none, 0, 0, rfl, OB.nil _ _, hb⟩

end Go.Proofs.Ytmbmmpbfmakfbaa
