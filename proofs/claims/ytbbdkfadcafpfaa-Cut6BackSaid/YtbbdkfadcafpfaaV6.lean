/- Packets of IPv6 (v6, and the reference): walks of Size, Check. -/
import Derived.Test.YtbbdkfadcafpfaaPut
import Derived.Test.YtbbdkfadcafpfaaRefPut
set_option linter.unusedVariables false
namespace Go.Proofs.Ytbbdkfadcafpfaa
open Go.RowKit

/-- A packet of IPv6. -/
structure V6P where
  t : Int
  fl : Int
  nx : Int
  hp : Int
  src : List Int
  dst : List Int
  data : List Int

/-- The cells P are those of the packet p, whose data lie in the slice '.slice A n c'. -/
structure V6V (P : Array Value) (p : V6P) (A : Option Addr) (n c : Nat) : Prop where
  size : P.size = 37
  h0 : P[0]? = some (.int .i64 p.t)
  h1 : P[1]? = some (.int .i64 p.fl)
  h2 : P[2]? = some (.int .i64 p.nx)
  h3 : P[3]? = some (.int .i64 p.hp)
  hs : ∀ j, j < 16 → P[4 + j]? = some (.int .u8 (p.src[j]?.getD 0))
  hd : ∀ j, j < 16 → P[20 + j]? = some (.int .u8 (p.dst[j]?.getD 0))
  h36 : P[36]? = some (.slice A n c)
  ls : p.src.length = 16
  ld : p.dst.length = 16
  bs : Byts p.src
  bd : Byts p.dst

set_option maxHeartbeats 400000 in
theorem V6Size_any (P : Array Value) (p : V6P) (A : Option Addr) (n c : Nat) (w : World) (h : V6V P p A n c) (hn : n ≤ 100000) :
    Calls Try.prog 17 #[.agg P] w fun e w' => e = .returned (.int .i64 (40 + n)) ∧ Below w.heap.size w w' := by
  have h36 := h.h36
  clear h
  go_enter Try.func17, Try.ntmps17
  go_wp2
  go_ret
  exact ⟨rfl, (Below.refl _ w).alloc (Nat.le_refl _) _⟩

set_option maxHeartbeats 400000 in
theorem RefV6Size_any (P : Array Value) (p : V6P) (A : Option Addr) (n c : Nat) (w : World) (h : V6V P p A n c) (hn : n ≤ 100000) :
    Calls Try.prog 18 #[.agg P] w fun e w' => e = .returned (.int .i64 (40 + n)) ∧ Below w.heap.size w w' := by
  have h36 := h.h36
  clear h
  go_enter Try.func18, Try.ntmps18
  go_wp2
  go_ret
  exact ⟨rfl, (Below.refl _ w).alloc (Nat.le_refl _) _⟩

/-- Whether a packet may be. -/
def checkV (p : V6P) (n : Nat) : Int :=
  if fitsB p.t 1 = false then 1 else if fitsB p.nx 1 = false then 1 else if fitsB p.hp 1 = false then 1 else if p.fl < 0 ∨ 1048576 ≤ p.fl then 1 else if 65535 < n then 6 else 0

set_option maxHeartbeats 1000000 in
theorem V6Check_any (P : Array Value) (p : V6P) (A : Option Addr) (n c : Nat) (w : World) (h : V6V P p A n c) :
    Calls Try.prog 19 #[.agg P] w fun e w' => e = .returned (.int .i64 (checkV p n)) ∧ Below w.heap.size w w' := by
  have h0 := h.h0
  have h1 := h.h1
  have h2 := h.h2
  have h3 := h.h3
  have h36 := h.h36
  clear h
  have hb0 : Below w.heap.size w (w.alloc (.cells P 26)) := (Below.refl _ w).alloc (Nat.le_refl _) _
  unfold checkV
  cases f0 : fitsB p.t 1
  · go_enter Try.func19, Try.ntmps19
    go_wp2_with (go_at_call 52; refine (Fits_any _ _ _).mono ?_; rintro e w' ⟨rfl, rfl⟩)
    go_ret
    exact ⟨rfl, hb0⟩
  · cases f1 : fitsB p.nx 1
    · go_enter Try.func19, Try.ntmps19
      go_wp2_with (go_at_call 52; refine (Fits_any _ _ _).mono ?_; rintro e w' ⟨rfl, rfl⟩)
      go_ret
      exact ⟨rfl, hb0⟩
    · cases f2 : fitsB p.hp 1
      · go_enter Try.func19, Try.ntmps19
        go_wp2_with (go_at_call 52; refine (Fits_any _ _ _).mono ?_; rintro e w' ⟨rfl, rfl⟩)
        go_ret
        exact ⟨rfl, hb0⟩
      · by_cases h4 : p.fl < 0
        · go_enter Try.func19, Try.ntmps19
          go_wp2_with (go_at_call 52; refine (Fits_any _ _ _).mono ?_; rintro e w' ⟨rfl, rfl⟩)
          go_ret
          exact ⟨by simp, hb0⟩
        · by_cases h5 : 1048576 ≤ p.fl
          · go_enter Try.func19, Try.ntmps19
            go_wp2_with (go_at_call 52; refine (Fits_any _ _ _).mono ?_; rintro e w' ⟨rfl, rfl⟩)
            go_ret
            exact ⟨by simp, hb0⟩
          · by_cases h6 : 65535 < n
            · go_enter Try.func19, Try.ntmps19
              go_wp2_with (go_at_call 52; refine (Fits_any _ _ _).mono ?_; rintro e w' ⟨rfl, rfl⟩)
              go_ret
              exact ⟨by simp, hb0⟩
            · go_enter Try.func19, Try.ntmps19
              go_wp2_with (go_at_call 52; refine (Fits_any _ _ _).mono ?_; rintro e w' ⟨rfl, rfl⟩)
              go_ret
              exact ⟨by simp, hb0⟩

set_option maxHeartbeats 1000000 in
theorem RefV6Check_any (P : Array Value) (p : V6P) (A : Option Addr) (n c : Nat) (w : World) (h : V6V P p A n c) :
    Calls Try.prog 20 #[.agg P] w fun e w' => e = .returned (.int .i64 (checkV p n)) ∧ Below w.heap.size w w' := by
  have h0 := h.h0
  have h1 := h.h1
  have h2 := h.h2
  have h3 := h.h3
  have h36 := h.h36
  clear h
  have hb0 : Below w.heap.size w (w.alloc (.cells P 26)) := (Below.refl _ w).alloc (Nat.le_refl _) _
  unfold checkV
  cases f0 : fitsB p.t 1
  · go_enter Try.func20, Try.ntmps20
    go_wp2_with (go_at_call 53; refine (RefFits_any _ _ _).mono ?_; rintro e w' ⟨rfl, rfl⟩)
    go_ret
    exact ⟨rfl, hb0⟩
  · cases f1 : fitsB p.nx 1
    · go_enter Try.func20, Try.ntmps20
      go_wp2_with (go_at_call 53; refine (RefFits_any _ _ _).mono ?_; rintro e w' ⟨rfl, rfl⟩)
      go_ret
      exact ⟨rfl, hb0⟩
    · cases f2 : fitsB p.hp 1
      · go_enter Try.func20, Try.ntmps20
        go_wp2_with (go_at_call 53; refine (RefFits_any _ _ _).mono ?_; rintro e w' ⟨rfl, rfl⟩)
        go_ret
        exact ⟨rfl, hb0⟩
      · by_cases h4 : p.fl < 0
        · go_enter Try.func20, Try.ntmps20
          go_wp2_with (go_at_call 53; refine (RefFits_any _ _ _).mono ?_; rintro e w' ⟨rfl, rfl⟩)
          go_ret
          exact ⟨by simp, hb0⟩
        · by_cases h5 : 1048576 ≤ p.fl
          · go_enter Try.func20, Try.ntmps20
            go_wp2_with (go_at_call 53; refine (RefFits_any _ _ _).mono ?_; rintro e w' ⟨rfl, rfl⟩)
            go_ret
            exact ⟨by simp, hb0⟩
          · by_cases h6 : 65535 < n
            · go_enter Try.func20, Try.ntmps20
              go_wp2_with (go_at_call 53; refine (RefFits_any _ _ _).mono ?_; rintro e w' ⟨rfl, rfl⟩)
              go_ret
              exact ⟨by simp, hb0⟩
            · go_enter Try.func20, Try.ntmps20
              go_wp2_with (go_at_call 53; refine (RefFits_any _ _ _).mono ?_; rintro e w' ⟨rfl, rfl⟩)
              go_ret
              exact ⟨by simp, hb0⟩
end Go.Proofs.Ytbbdkfadcafpfaa
