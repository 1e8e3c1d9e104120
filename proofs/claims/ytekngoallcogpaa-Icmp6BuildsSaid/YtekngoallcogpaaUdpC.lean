/- Datagrams (udp, and the reference): walks of Check, Same. -/
import Derived.Test.YtekngoallcogpaaUdp
set_option linter.unusedVariables false
namespace Go.Proofs.Ytekngoallcogpaa
open Go.RowKit

/-- A datagram. -/
structure UdpP where
  s : Int
  d : Int
  ns : Bool
  data : List Int
abbrev cellsU (m : UdpP) (A : Option Addr) (n c : Nat) : Array Value := #[.int .i64 m.s, .int .i64 m.d, .bool m.ns, .slice A n c]
def checkU (m : UdpP) (n : Nat) : Int := if fitsB m.s 2 = false then 1 else if fitsB m.d 2 = false then 1 else if 65527 < n then 6 else 0

set_option maxHeartbeats 1000000 in
theorem UdpCheck_any (m : UdpP) (A : Option Addr) (n c : Nat) (w : World) :
    Calls Try.prog 34 #[.agg (cellsU m A n c)] w fun e w' => e = .returned (.int .i64 (checkU m n)) ∧ Below w.heap.size w w' := by
  have hb0 : Below w.heap.size w (w.alloc (.cells (cellsU m A n c) 41)) := (Below.refl _ w).alloc (Nat.le_refl _) _
  unfold checkU
  cases f0 : fitsB m.s 2
  · skip
    go_enter Try.func34, Try.ntmps34
    go_wp2_with (go_at_call 56; refine (Fits_any _ _ _).mono ?_; rintro e w' ⟨rfl, rfl⟩)
    go_ret
    exact ⟨by simp, hb0⟩
  · cases f1 : fitsB m.d 2
    · skip
      go_enter Try.func34, Try.ntmps34
      go_wp2_with (go_at_call 56; refine (Fits_any _ _ _).mono ?_; rintro e w' ⟨rfl, rfl⟩)
      go_ret
      exact ⟨by simp, hb0⟩
    · by_cases h6 : 65527 < n
      · skip
        go_enter Try.func34, Try.ntmps34
        go_wp2_with (go_at_call 56; refine (Fits_any _ _ _).mono ?_; rintro e w' ⟨rfl, rfl⟩)
        go_ret
        exact ⟨by simp, hb0⟩
      · skip
        go_enter Try.func34, Try.ntmps34
        go_wp2_with (go_at_call 56; refine (Fits_any _ _ _).mono ?_; rintro e w' ⟨rfl, rfl⟩)
        go_ret
        exact ⟨by simp, hb0⟩
set_option maxHeartbeats 1000000 in
theorem RefUdpCheck_any (m : UdpP) (A : Option Addr) (n c : Nat) (w : World) :
    Calls Try.prog 35 #[.agg (cellsU m A n c)] w fun e w' => e = .returned (.int .i64 (checkU m n)) ∧ Below w.heap.size w w' := by
  have hb0 : Below w.heap.size w (w.alloc (.cells (cellsU m A n c) 41)) := (Below.refl _ w).alloc (Nat.le_refl _) _
  unfold checkU
  cases f0 : fitsB m.s 2
  · skip
    go_enter Try.func35, Try.ntmps35
    go_wp2_with (go_at_call 57; refine (RefFits_any _ _ _).mono ?_; rintro e w' ⟨rfl, rfl⟩)
    go_ret
    exact ⟨by simp, hb0⟩
  · cases f1 : fitsB m.d 2
    · skip
      go_enter Try.func35, Try.ntmps35
      go_wp2_with (go_at_call 57; refine (RefFits_any _ _ _).mono ?_; rintro e w' ⟨rfl, rfl⟩)
      go_ret
      exact ⟨by simp, hb0⟩
    · by_cases h6 : 65527 < n
      · skip
        go_enter Try.func35, Try.ntmps35
        go_wp2_with (go_at_call 57; refine (RefFits_any _ _ _).mono ?_; rintro e w' ⟨rfl, rfl⟩)
        go_ret
        exact ⟨by simp, hb0⟩
      · skip
        go_enter Try.func35, Try.ntmps35
        go_wp2_with (go_at_call 57; refine (RefFits_any _ _ _).mono ?_; rintro e w' ⟨rfl, rfl⟩)
        go_ret
        exact ⟨by simp, hb0⟩

theorem checkU_ok {m : UdpP} {n : Nat} (h : checkU m n = 0) : (0 ≤ m.s ∧ m.s < 65536) ∧ (0 ≤ m.d ∧ m.d < 65536) ∧ n ≤ 65527 := by
  unfold checkU at h
  by_cases h1 : fitsB m.s 2 = false
  · simp [h1] at h
  · by_cases h2 : fitsB m.d 2 = false
    · simp [h2] at h
    · rw [if_neg h1, if_neg h2] at h
      have k1 := of_decide_eq_true (show fitsB m.s 2 = true by simpa using h1)
      have k2 := of_decide_eq_true (show fitsB m.d 2 = true by simpa using h2)
      obtain ⟨_, a1, b1⟩ := k1
      obtain ⟨_, a2, b2⟩ := k2
      rw [pow2] at b1 b2
      by_cases h5 : 65527 < n
      · simp [h5] at h
      · exact ⟨⟨a1, b1⟩, ⟨a2, b2⟩, by omega⟩
theorem checkU_code (m : UdpP) (n : Nat) : checkU m n = 0 ∨ checkU m n = 1 ∨ checkU m n = 6 := by
  unfold checkU
  repeat' split
  all_goals simp

/-- Whether two datagrams are the same. -/
def sameU (p q : UdpP) : Bool := p.s == q.s && p.d == q.d && p.ns == q.ns && p.data == q.data

set_option maxHeartbeats 2000000 in
theorem UdpSame_any (p q : UdpP) (A A' : Option Addr) (n c n' c' : Nat) (w : World) (hr : RB w A n c p.data) (hr' : RB w A' n' c' q.data) :
    Calls Try.prog 36 #[.agg (cellsU p A n c), .agg (cellsU q A' n' c')] w fun e w' => e = .returned (.bool (sameU p q)) ∧ Below w.heap.size w w' := by
  have hb := Lib.hid (((Below.refl _ w).alloc (Nat.le_refl _) (.cells (cellsU p A n c) 41)).alloc (by simp) (.cells (cellsU q A' n' c') 41))
  replace hr := Lib.hid ((hr.alloc (.cells (cellsU p A n c) 41)).alloc (.cells (cellsU q A' n' c') 41))
  replace hr' := Lib.hid ((hr'.alloc (.cells (cellsU p A n c) 41)).alloc (.cells (cellsU q A' n' c') 41))
  have e1 := conv_bytes hr.out
  have e2 := conv_bytes hr'.out
  have hq := str_beq hr.out.byt hr'.out.byt
  cases n0 : (p.s == q.s)
  · go_enter Try.func36, Try.ntmps36
    go_wp2
    go_ret
    exact ⟨ret_bool (by unfold sameU; rw [n0]; rfl), hb.out⟩
  · cases n1 : (p.d == q.d)
    · go_enter Try.func36, Try.ntmps36
      go_wp2
      go_ret
      exact ⟨ret_bool (by unfold sameU; rw [n0, n1]; rfl), hb.out⟩
    · cases n2 : (p.ns == q.ns)
      · go_enter Try.func36, Try.ntmps36
        go_wp2
        go_ret
        exact ⟨ret_bool (by unfold sameU; rw [n0, n1, n2]; rfl), hb.out⟩
      · go_enter Try.func36, Try.ntmps36
        go_wp2_with (go_at_call 16; refine (Equal_any _ _ _ _ _ _ _ _ _ hr.out hr'.out).mono ?_; rintro e w' ⟨rfl, rfl⟩)
        go_ret
        exact ⟨ret_bool (by unfold sameU; rw [n0, n1, n2]; simp), hb.out⟩
set_option maxHeartbeats 2000000 in
theorem RefUdpSame_any (p q : UdpP) (A A' : Option Addr) (n c n' c' : Nat) (w : World) (hr : RB w A n c p.data) (hr' : RB w A' n' c' q.data) :
    Calls Try.prog 37 #[.agg (cellsU p A n c), .agg (cellsU q A' n' c')] w fun e w' => e = .returned (.bool (sameU p q)) ∧ Below w.heap.size w w' := by
  have hb := Lib.hid (((Below.refl _ w).alloc (Nat.le_refl _) (.cells (cellsU p A n c) 41)).alloc (by simp) (.cells (cellsU q A' n' c') 41))
  replace hr := Lib.hid ((hr.alloc (.cells (cellsU p A n c) 41)).alloc (.cells (cellsU q A' n' c') 41))
  replace hr' := Lib.hid ((hr'.alloc (.cells (cellsU p A n c) 41)).alloc (.cells (cellsU q A' n' c') 41))
  have e1 := conv_bytes hr.out
  have e2 := conv_bytes hr'.out
  have hq := str_beq hr.out.byt hr'.out.byt
  cases n0 : (p.s == q.s)
  · go_enter Try.func37, Try.ntmps37
    go_wp2
    go_ret
    exact ⟨ret_bool (by unfold sameU; rw [n0]; rfl), hb.out⟩
  · cases n1 : (p.d == q.d)
    · go_enter Try.func37, Try.ntmps37
      go_wp2
      go_ret
      exact ⟨ret_bool (by unfold sameU; rw [n0, n1]; rfl), hb.out⟩
    · cases n2 : (p.ns == q.ns)
      · go_enter Try.func37, Try.ntmps37
        go_wp2
        go_ret
        exact ⟨ret_bool (by unfold sameU; rw [n0, n1, n2]; rfl), hb.out⟩
      · go_enter Try.func37, Try.ntmps37
        go_wp2_with (go_at_call 16; refine (Equal_any _ _ _ _ _ _ _ _ _ hr.out hr'.out).mono ?_; rintro e w' ⟨rfl, rfl⟩)
        go_ret
        exact ⟨ret_bool (by unfold sameU; rw [n0, n1, n2]; simp), hb.out⟩
end Go.Proofs.Ytekngoallcogpaa
