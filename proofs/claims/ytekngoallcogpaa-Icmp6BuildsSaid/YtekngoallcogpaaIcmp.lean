/- Messages of ICMP (icmp, and the reference): walks of Check, Same, Fault, Query, ID. -/
import Derived.Test.YtekngoallcogpaaArr
import Derived.Test.YtekngoallcogpaaFits
import Derived.Test.YtekngoallcogpaaHeld
set_option linter.unusedVariables false
namespace Go.Proofs.Ytekngoallcogpaa
open Go.RowKit

/-- A message of ICMP. -/
structure IcmpP where
  t : Int
  cd : Int
  r : Int
  data : List Int
/-- Its cells; the data lie in a slice. -/
abbrev cellsI (m : IcmpP) (A : Option Addr) (n c : Nat) : Array Value := #[.int .i64 m.t, .int .i64 m.cd, .int .i64 m.r, .slice A n c]
/-- Whether a message may be. -/
def checkI (m : IcmpP) (n : Nat) : Int := if fitsB m.t 1 = false then 1 else if fitsB m.cd 1 = false then 1 else if fitsB m.r 4 = false then 1 else if 65527 < n then 6 else 0

set_option maxHeartbeats 1000000 in
theorem IcmpCheck_any (m : IcmpP) (A : Option Addr) (n c : Nat) (w : World) :
    Calls Try.prog 17 #[.agg (cellsI m A n c)] w fun e w' => e = .returned (.int .i64 (checkI m n)) ∧ Below w.heap.size w w' := by
  have hb0 : Below w.heap.size w (w.alloc (.cells (cellsI m A n c) 24)) := (Below.refl _ w).alloc (Nat.le_refl _) _
  unfold checkI
  cases f0 : fitsB m.t 1
  · skip
    go_enter Try.func17, Try.ntmps17
    go_wp2_with (go_at_call 56; refine (Fits_any _ _ _).mono ?_; rintro e w' ⟨rfl, rfl⟩)
    go_ret
    exact ⟨by simp, hb0⟩
  · cases f1 : fitsB m.cd 1
    · skip
      go_enter Try.func17, Try.ntmps17
      go_wp2_with (go_at_call 56; refine (Fits_any _ _ _).mono ?_; rintro e w' ⟨rfl, rfl⟩)
      go_ret
      exact ⟨by simp, hb0⟩
    · cases f2 : fitsB m.r 4
      · skip
        go_enter Try.func17, Try.ntmps17
        go_wp2_with (go_at_call 56; refine (Fits_any _ _ _).mono ?_; rintro e w' ⟨rfl, rfl⟩)
        go_ret
        exact ⟨by simp, hb0⟩
      · by_cases h6 : 65527 < n
        · skip
          go_enter Try.func17, Try.ntmps17
          go_wp2_with (go_at_call 56; refine (Fits_any _ _ _).mono ?_; rintro e w' ⟨rfl, rfl⟩)
          go_ret
          exact ⟨by simp, hb0⟩
        · skip
          go_enter Try.func17, Try.ntmps17
          go_wp2_with (go_at_call 56; refine (Fits_any _ _ _).mono ?_; rintro e w' ⟨rfl, rfl⟩)
          go_ret
          exact ⟨by simp, hb0⟩
set_option maxHeartbeats 1000000 in
theorem RefIcmpCheck_any (m : IcmpP) (A : Option Addr) (n c : Nat) (w : World) :
    Calls Try.prog 18 #[.agg (cellsI m A n c)] w fun e w' => e = .returned (.int .i64 (checkI m n)) ∧ Below w.heap.size w w' := by
  have hb0 : Below w.heap.size w (w.alloc (.cells (cellsI m A n c) 24)) := (Below.refl _ w).alloc (Nat.le_refl _) _
  unfold checkI
  cases f0 : fitsB m.t 1
  · skip
    go_enter Try.func18, Try.ntmps18
    go_wp2_with (go_at_call 57; refine (RefFits_any _ _ _).mono ?_; rintro e w' ⟨rfl, rfl⟩)
    go_ret
    exact ⟨by simp, hb0⟩
  · cases f1 : fitsB m.cd 1
    · skip
      go_enter Try.func18, Try.ntmps18
      go_wp2_with (go_at_call 57; refine (RefFits_any _ _ _).mono ?_; rintro e w' ⟨rfl, rfl⟩)
      go_ret
      exact ⟨by simp, hb0⟩
    · cases f2 : fitsB m.r 4
      · skip
        go_enter Try.func18, Try.ntmps18
        go_wp2_with (go_at_call 57; refine (RefFits_any _ _ _).mono ?_; rintro e w' ⟨rfl, rfl⟩)
        go_ret
        exact ⟨by simp, hb0⟩
      · by_cases h6 : 65527 < n
        · skip
          go_enter Try.func18, Try.ntmps18
          go_wp2_with (go_at_call 57; refine (RefFits_any _ _ _).mono ?_; rintro e w' ⟨rfl, rfl⟩)
          go_ret
          exact ⟨by simp, hb0⟩
        · skip
          go_enter Try.func18, Try.ntmps18
          go_wp2_with (go_at_call 57; refine (RefFits_any _ _ _).mono ?_; rintro e w' ⟨rfl, rfl⟩)
          go_ret
          exact ⟨by simp, hb0⟩

theorem checkI_ok {m : IcmpP} {n : Nat} (h : checkI m n = 0) : (0 ≤ m.t ∧ m.t < 256) ∧ (0 ≤ m.cd ∧ m.cd < 256) ∧ (0 ≤ m.r ∧ m.r < 4294967296) ∧ n ≤ 65527 := by
  unfold checkI at h
  by_cases h1 : fitsB m.t 1 = false
  · simp [h1] at h
  · by_cases h2 : fitsB m.cd 1 = false
    · simp [h2] at h
    · by_cases h3 : fitsB m.r 4 = false
      · simp [h3] at h
      · rw [if_neg h1, if_neg h2, if_neg h3] at h
        have k1 := of_decide_eq_true (show fitsB m.t 1 = true by simpa using h1)
        have k2 := of_decide_eq_true (show fitsB m.cd 1 = true by simpa using h2)
        have k3 := of_decide_eq_true (show fitsB m.r 4 = true by simpa using h3)
        obtain ⟨_, a1, b1⟩ := k1
        obtain ⟨_, a2, b2⟩ := k2
        obtain ⟨_, a3, b3⟩ := k3
        rw [pow1] at b1 b2
        rw [pow4] at b3
        by_cases h5 : 65527 < n
        · simp [h5] at h
        · exact ⟨⟨a1, b1⟩, ⟨a2, b2⟩, ⟨a3, b3⟩, by omega⟩
theorem checkI_code (m : IcmpP) (n : Nat) : checkI m n = 0 ∨ checkI m n = 1 ∨ checkI m n = 6 := by
  unfold checkI
  repeat' split
  all_goals simp

/-- Whether two messages are the same. -/
def sameI (p q : IcmpP) : Bool := p.t == q.t && p.cd == q.cd && p.r == q.r && p.data == q.data

set_option maxHeartbeats 2000000 in
theorem IcmpSame_any (p q : IcmpP) (A A' : Option Addr) (n c n' c' : Nat) (w : World) (hr : RB w A n c p.data) (hr' : RB w A' n' c' q.data) :
    Calls Try.prog 19 #[.agg (cellsI p A n c), .agg (cellsI q A' n' c')] w fun e w' => e = .returned (.bool (sameI p q)) ∧ Below w.heap.size w w' := by
  have hb := Lib.hid (((Below.refl _ w).alloc (Nat.le_refl _) (.cells (cellsI p A n c) 24)).alloc (by simp) (.cells (cellsI q A' n' c') 24))
  replace hr := Lib.hid ((hr.alloc (.cells (cellsI p A n c) 24)).alloc (.cells (cellsI q A' n' c') 24))
  replace hr' := Lib.hid ((hr'.alloc (.cells (cellsI p A n c) 24)).alloc (.cells (cellsI q A' n' c') 24))
  have e1 := conv_bytes hr.out
  have e2 := conv_bytes hr'.out
  have hq := str_beq hr.out.byt hr'.out.byt
  cases n0 : (p.t == q.t)
  · go_enter Try.func19, Try.ntmps19
    go_wp2
    go_ret
    exact ⟨ret_bool (by unfold sameI; rw [n0]; rfl), hb.out⟩
  · cases n1 : (p.cd == q.cd)
    · go_enter Try.func19, Try.ntmps19
      go_wp2
      go_ret
      exact ⟨ret_bool (by unfold sameI; rw [n0, n1]; rfl), hb.out⟩
    · cases n2 : (p.r == q.r)
      · go_enter Try.func19, Try.ntmps19
        go_wp2
        go_ret
        exact ⟨ret_bool (by unfold sameI; rw [n0, n1, n2]; rfl), hb.out⟩
      · go_enter Try.func19, Try.ntmps19
        go_wp2_with (go_at_call 16; refine (Equal_any _ _ _ _ _ _ _ _ _ hr.out hr'.out).mono ?_; rintro e w' ⟨rfl, rfl⟩)
        go_ret
        exact ⟨ret_bool (by unfold sameI; rw [n0, n1, n2]; simp), hb.out⟩
set_option maxHeartbeats 2000000 in
theorem RefIcmpSame_any (p q : IcmpP) (A A' : Option Addr) (n c n' c' : Nat) (w : World) (hr : RB w A n c p.data) (hr' : RB w A' n' c' q.data) :
    Calls Try.prog 20 #[.agg (cellsI p A n c), .agg (cellsI q A' n' c')] w fun e w' => e = .returned (.bool (sameI p q)) ∧ Below w.heap.size w w' := by
  have hb := Lib.hid (((Below.refl _ w).alloc (Nat.le_refl _) (.cells (cellsI p A n c) 24)).alloc (by simp) (.cells (cellsI q A' n' c') 24))
  replace hr := Lib.hid ((hr.alloc (.cells (cellsI p A n c) 24)).alloc (.cells (cellsI q A' n' c') 24))
  replace hr' := Lib.hid ((hr'.alloc (.cells (cellsI p A n c) 24)).alloc (.cells (cellsI q A' n' c') 24))
  have e1 := conv_bytes hr.out
  have e2 := conv_bytes hr'.out
  have hq := str_beq hr.out.byt hr'.out.byt
  cases n0 : (p.t == q.t)
  · go_enter Try.func20, Try.ntmps20
    go_wp2
    go_ret
    exact ⟨ret_bool (by unfold sameI; rw [n0]; rfl), hb.out⟩
  · cases n1 : (p.cd == q.cd)
    · go_enter Try.func20, Try.ntmps20
      go_wp2
      go_ret
      exact ⟨ret_bool (by unfold sameI; rw [n0, n1]; rfl), hb.out⟩
    · cases n2 : (p.r == q.r)
      · go_enter Try.func20, Try.ntmps20
        go_wp2
        go_ret
        exact ⟨ret_bool (by unfold sameI; rw [n0, n1, n2]; rfl), hb.out⟩
      · go_enter Try.func20, Try.ntmps20
        go_wp2_with (go_at_call 16; refine (Equal_any _ _ _ _ _ _ _ _ _ hr.out hr'.out).mono ?_; rintro e w' ⟨rfl, rfl⟩)
        go_ret
        exact ⟨ret_bool (by unfold sameI; rw [n0, n1, n2]; simp), hb.out⟩
end Go.Proofs.Ytekngoallcogpaa
