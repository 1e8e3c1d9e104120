/- Whom a filter lets in: Allow of the reference: its walk. -/
import Derived.Test.YtmoiodkehchjiaaFilter3
set_option linter.unusedVariables false
namespace Go.Proofs.Ytmoiodkehchjiaa
open Go.RowKit

theorem beqI_comm (a b : Int) : (a == b) = (b == a) := by rw [Bool.eq_iff_iff, beq_iff_eq, beq_iff_eq]; exact eq_comm
/-- Whether one that was sent to lets in, in a mode. -/
def pickB (mode x y : Int) (p : Int × Int) : Bool := (mode == 1 && p.1 == x) || (mode == 2 && (x == p.1 && y == p.2))
theorem allowB_pick (mode x y : Int) (l : List (Int × Int)) : allowB mode x y l = (l.any (pickB mode x y) || mode == 0) := by
  unfold allowB
  by_cases h0 : mode = 0
  · subst h0; simp
  · rw [if_neg h0]
    by_cases h1 : mode = 1
    · subst h1
      have : pickB 1 x y = byAddr x := by funext p; simp [pickB, byAddr]
      rw [if_pos rfl, this]; simp
    · rw [if_neg h1]
      by_cases h2 : mode = 2
      · subst h2
        have : pickB 2 x y = byBoth x y := by funext p; simp [pickB, byBoth]
        rw [if_pos rfl, this]; simp
      · have : pickB mode x y = fun _ => false := by funext p; simp [pickB, h1, h2]
        rw [if_neg h2, this]
        have e0 : (mode == 0) = false := by simpa using h0
        rw [e0]; simp

set_option maxHeartbeats 2000000 in
theorem RefAllow_any (mode x y : Int) (A : Option Addr) (n c : Nat) (l : List (Int × Int)) (w : World) (h : RS w A n c l) (hn : n ≤ 300) :
    Calls Try.prog 26 #[.int .i64 mode, .agg #[.int .i64 x, .int .i64 y], .slice A n c] w (Says (allowB mode x y l) w) := by
  rw [allowB_pick]
  cases m0 : (mode == 0) <;> cases m1 : (mode == 1) <;> cases m2 : (mode == 2)
  all_goals first
    | (exfalso; simp at m0 m1 m2; omega)
    | skip
  all_goals
    go_enter Try.func26, Try.ntmps26
    go_wp2
    go_loopw [7] (fun i wr => ∃ k : Nat, k ≤ n ∧ i = .int .i64 k ∧ (∀ j, j < k → pickB mode x y (l[j]?.getD (0, 0)) = false) ∧ Below (w.heap.size + 1) (w.alloc (.cells #[.int .i64 x, .int .i64 y] 34)) wr) (fun i _ => n - (intOf i).toNat)
    case atStart => exact ⟨0, by omega, rfl, fun j hj => by omega, Below.refl _ _⟩
    case round =>
      obtain ⟨k, hk, rfl, hall, hb⟩ := hrel
      have hx1 : wr.cell? ⟨w.heap.size, 0, none⟩ = some (.int .i64 x) := (hb.cell (p := ⟨w.heap.size, 0, none⟩) (by simp)).trans (by simp)
      have hy1 : wr.cell? ⟨w.heap.size, 1, none⟩ = some (.int .i64 y) := (hb.cell (p := ⟨w.heap.size, 1, none⟩) (by simp)).trans (by simp)
      have hb0 : Below w.heap.size w wr := ((Below.refl _ w).alloc (Nat.le_refl _) _).trans (hb.mono (by omega))
      by_cases hlt : k < n
      · obtain ⟨b, off, rfl, hbl, hc⟩ := h.mem (by omega)
        have hc0 := (hb0.cell (p := ⟨b, off + k * 2, none⟩) hbl).trans (hc k hlt).1
        have hc1 := (hb0.cell (p := ⟨b, off + k * 2 + 1, none⟩) hbl).trans (hc k hlt).2
        replace hc := Lib.hid hc
        replace hall := Lib.hid hall
        have hkl : k < l.length := by have := h.len; omega
        have hat := Lib.hid (fun hq => any_at (p := pickB mode x y) k hkl hq)
        replace hkl := Lib.hid hkl
        have hnk : ∀ q, q = pickB mode x y (l[k]?.getD (0, 0)) → q = false → ∀ j, j < k + 1 → pickB mode x y (l[j]?.getD (0, 0)) = false := fun q e1 e2 j hj => by
          rcases Nat.lt_or_ge j k with h | h
          · exact hall.out j h
          · obtain rfl : j = k := by omega
            rw [← e1, e2]
        replace hnk := Lib.hid hnk
        have hi0 : (k : Int) < (n : Int) := by omega
        clear h
        generalize hel : l[k]?.getD (0, 0) = el at *
        obtain ⟨ea, eb⟩ := el
        replace hel := Lib.hid hel
        have s1 := beqI_comm x ea
        have s2 := beqI_comm y eb
        have hp : pickB mode x y (ea, eb) = ((mode == 1 && ea == x) || (mode == 2 && ((ea == x) && (eb == y)))) := by unfold pickB; simp only [s1, s2]
        have hq := hat.out
        have hm := hnk.out
        rw [hp, m1, m2] at hq hm
        clear s1 s2 hp hat hnk
        dsimp only at *
        cases h1 : (ea == x)
        all_goals cases h2 : (eb == y)
        all_goals
          rw [h1, h2] at hq hm
          replace hq := Lib.hid hq
          replace hm := Lib.hid hm
          go_wp2
          go_quiet (fail)
          go_wp2
        all_goals first
          | (go_roundw
             case rel => exact ⟨k + 1, by omega, by go_num, hm.out _ rfl rfl, below_drewN hb _⟩
             case measure => simp [intOf]; omega)
          | (go_ret
             exact ⟨by rw [hq.out rfl]; rfl, below_drewN hb0 _⟩)
      · obtain rfl : k = n := by omega
        have hN := Lib.hid (any_none (p := pickB mode x y) (fun j hj => hall j (by rw [h.len] at hj; exact hj)))
        clear h hall
        go_wp2
        go_ret
        exact ⟨by rw [hN.out]; rfl, hb0⟩
end Go.Proofs.Ytmoiodkehchjiaa
