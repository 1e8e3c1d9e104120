/- Whom a filter lets in: slices.Index, Contains, Allow: walks. -/
import Derived.Test.YtmoiodkehchjiaaFilter
import Derived.BigGuardPart
set_option linter.unusedVariables false
namespace Go.Proofs.Ytmoiodkehchjiaa
open Go.RowKit

set_option maxHeartbeats 1000000 in
theorem Index_any (A : Option Addr) (n c : Nat) (l : List (Int × Int)) (x y : Int) (w : World) (h : RS w A n c l) (hn : n ≤ 300) :
    Calls Try.prog 48 #[.slice A n c, .agg #[.int .i64 x, .int .i64 y]] w (AnyPost l (fun p => x == p.1 && y == p.2) w) := by
  go_enter Try.func48, Try.ntmps48
  go_wp2
  go_loopw [8] (fun i wr => ∃ k : Nat, k ≤ n ∧ i = .int .i64 k ∧ (∀ j, j < k → (x == (l[j]?.getD (0, 0)).1 && y == (l[j]?.getD (0, 0)).2) = false) ∧ Below (w.heap.size + 1) (w.alloc (.cells #[.int .i64 x, .int .i64 y] 34)) wr) (fun i _ => n - (intOf i).toNat)
  case atStart => exact ⟨0, by omega, rfl, fun j hj => by omega, Below.refl _ _⟩
  case round =>
    obtain ⟨k, hk, rfl, hall, hb⟩ := hrel
    have hx1 : wr.cell? ⟨w.heap.size, 0, none⟩ = some (.int .i64 x) := (hb.cell (p := ⟨w.heap.size, 0, none⟩) (by simp)).trans (by simp)
    have hy1 : wr.cell? ⟨w.heap.size, 1, none⟩ = some (.int .i64 y) := (hb.cell (p := ⟨w.heap.size, 1, none⟩) (by simp)).trans (by simp)
    have hb0 : Below w.heap.size w wr := ((Below.refl _ w).alloc (Nat.le_refl _) _).trans (hb.mono (by omega))
    by_cases hlt : k < n
    · obtain ⟨b, off, rfl, hbl, hc⟩ := h.mem (by omega)
      have hc0 := (hb0.cell (p := ⟨b, off + k * 2, none⟩) hbl).trans (hc k hlt).1
      have hc1 := (hb0.cell (p := ⟨b, off + k * 2 + 1, none⟩) hbl).trans (hc k hlt).2
      replace hc := Lib.hid hc
      replace hall := Lib.hid hall
      have hkl : k < l.length := by have := h.len; omega
      have hat := Lib.hid (fun hq => any_at (p := fun p => x == p.1 && y == p.2) k hkl hq)
      replace hkl := Lib.hid hkl
      have hnk : ∀ q, q = (x == (l[k]?.getD (0, 0)).1 && y == (l[k]?.getD (0, 0)).2) → q = false → ∀ j, j < k + 1 → (x == (l[j]?.getD (0, 0)).1 && y == (l[j]?.getD (0, 0)).2) = false := fun q e1 e2 j hj => by
        rcases Nat.lt_or_ge j k with h | h
        · exact hall.out j h
        · obtain rfl : j = k := by omega
          rw [← e1, e2]
      replace hnk := Lib.hid hnk
      clear h
      generalize hel : l[k]?.getD (0, 0) = el at *
      obtain ⟨ea, eb⟩ := el
      replace hel := Lib.hid hel
      dsimp only at *
      cases h1 : (x == ea)
      all_goals cases h2 : (y == eb)
      all_goals
        have hq := hat.out
        have hm := hnk.out
        rw [h1, h2] at hq hm
        replace hq := Lib.hid hq
        replace hm := Lib.hid hm
        have hi0 : (k : Int) < (n : Int) := by omega
        go_wp2
        go_quiet (fail)
        go_wp2
      all_goals first
        | (go_roundw
           case rel => exact ⟨k + 1, by omega, by go_num, hm.out _ rfl rfl, below_drewN hb _⟩
           case measure => simp [intOf]; omega)
        | (go_ret
           exact ⟨k, rfl, by rw [hq.out rfl]; simp, below_drewN hb0 _⟩)
    · obtain rfl : k = n := by omega
      have hN := Lib.hid (any_none (p := fun p => x == p.1 && y == p.2) (fun j hj => hall j (by rw [h.len] at hj; exact hj)))
      clear h hall
      go_wp2
      go_ret
      exact ⟨-1, rfl, by rw [hN.out]; decide, hb0⟩
end Go.Proofs.Ytmoiodkehchjiaa
