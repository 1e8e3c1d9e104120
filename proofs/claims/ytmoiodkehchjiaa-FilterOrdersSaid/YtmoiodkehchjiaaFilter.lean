/- Whom a filter lets in: walks of Allow and Name, in the program and in the reference. -/
import Derived.Test.YtmoiodkehchjiaaBase
import Derived.BigQuiet
import Derived.Deep.QuietTactic
set_option linter.unusedVariables false
namespace Go.Proofs.Ytmoiodkehchjiaa
open Go.RowKit

/-- The slice holds the remote endpoints l. -/
structure RS (w : World) (A : Option Addr) (n c : Nat) (l : List (Int × Int)) : Prop where
  len : l.length = n
  mem : 0 < n → ∃ b off, A = some ⟨b, off, none⟩ ∧ b < w.heap.size ∧ ∀ j, j < n → w.cell? ⟨b, off + j * 2, none⟩ = some (.int .i64 (l[j]?.getD (0, 0)).1) ∧ w.cell? ⟨b, off + j * 2 + 1, none⟩ = some (.int .i64 (l[j]?.getD (0, 0)).2)
theorem RS.below {w w' : World} {A : Option Addr} {n c : Nat} {l : List (Int × Int)} (h : RS w A n c l) (hb : Below w.heap.size w w') : RS w' A n c l :=
  ⟨h.len, fun hn => by
    obtain ⟨b, off, e, hlt, hc⟩ := h.mem hn
    exact ⟨b, off, e, by have := hb.size; omega, fun j hj => ⟨(hb.cell (p := ⟨b, off + j * 2, none⟩) hlt).trans (hc j hj).1, (hb.cell (p := ⟨b, off + j * 2 + 1, none⟩) hlt).trans (hc j hj).2⟩⟩⟩

def AnyPost (l : List (Int × Int)) (p : Int × Int → Bool) (w : World) (e : Ending) (w' : World) : Prop := ∃ r : Int, e = .returned (.int .i64 r) ∧ decide (0 ≤ r) = l.any p ∧ Below w.heap.size w w'

theorem any_at {l : List (Int × Int)} {p : Int × Int → Bool} (k : Nat) (hk : k < l.length) (h : p (l[k]?.getD (0, 0)) = true) : l.any p = true := by
  rw [List.getElem?_eq_getElem hk, Option.getD_some] at h
  exact List.any_eq_true.2 ⟨_, List.getElem_mem hk, h⟩
theorem any_none {l : List (Int × Int)} {p : Int × Int → Bool} (h : ∀ j, j < l.length → p (l[j]?.getD (0, 0)) = false) : l.any p = false := by
  rw [List.any_eq_false]
  intro x hx
  obtain ⟨j, hj⟩ := List.getElem?_of_mem hx
  have := h j (List.getElem?_eq_some_iff.1 hj).1
  rw [hj, Option.getD_some] at this
  simp [this]

set_option maxHeartbeats 1000000 in
theorem IndexFunc_any (A : Option Addr) (n c B : Nat) (l : List (Int × Int)) (x y : Int) (w : World) (h : RS w A n c l) (hn : n ≤ 300) (hB : B < w.heap.size) (hx : w.cell? ⟨B, 0, none⟩ = some (.int .i64 x)) (hy : w.cell? ⟨B, 1, none⟩ = some (.int .i64 y)) :
    Calls Try.prog 57 #[.slice A n c, .func (.func 47) #[] #[.pointer (some ⟨B, 0, none⟩)]] w (AnyPost l (fun p => p.1 == x) w) := by
  go_enter Try.func57, Try.ntmps57
  go_wp2
  go_loopw [8] (fun i wr => ∃ k : Nat, k ≤ n ∧ i = .int .i64 k ∧ (∀ j, j < k → ((l[j]?.getD (0, 0)).1 == x) = false) ∧ Below w.heap.size w wr) (fun i _ => n - (intOf i).toNat)
  case atStart => exact ⟨0, by omega, rfl, fun j hj => by omega, Below.refl _ _⟩
  case round =>
    obtain ⟨k, hk, rfl, hall, hb⟩ := hrel
    by_cases hlt : k < n
    · obtain ⟨b, off, rfl, hbl, hc⟩ := h.mem (by omega)
      have hc0 := (hb.cell (p := ⟨b, off + k * 2, none⟩) hbl).trans (hc k hlt).1
      have hc1 := (hb.cell (p := ⟨b, off + k * 2 + 1, none⟩) hbl).trans (hc k hlt).2
      have hx1 := (hb.cell (p := ⟨B, 0, none⟩) hB).trans hx
      have hy1 := (hb.cell (p := ⟨B, 1, none⟩) hB).trans hy
      have hBr : B < wr.heap.size := by have := hb.size; omega
      replace hc := Lib.hid hc
      replace hall := Lib.hid hall
      clear hx hy
      have hkl : k < l.length := by have := h.len; omega
      have hat := Lib.hid (fun hq => any_at (p := fun p => p.1 == x) k hkl hq)
      replace hkl := Lib.hid hkl
      have hnk : ∀ q, q = ((l[k]?.getD (0, 0)).1 == x) → q = false → ∀ j, j < k + 1 → ((l[j]?.getD (0, 0)).1 == x) = false := fun q e1 e2 j hj => by
        rcases Nat.lt_or_ge j k with h | h
        · exact hall.out j h
        · obtain rfl : j = k := by omega
          rw [← e1, e2]
      replace hnk := Lib.hid hnk
      clear h
      generalize hel : l[k]?.getD (0, 0) = el at *
      obtain ⟨ea, eb⟩ := el
      replace hel := Lib.hid hel
      dsimp only at *
      by_cases hq : (ea == x) = true
      · go_wp2
        go_ret
        exact ⟨k, rfl, by rw [hat.out hq]; simp, (hb.alloc hb.size _)⟩
      · replace hq : (ea == x) = false := by simpa using hq
        go_wp2
        go_roundw
        case rel => exact ⟨k + 1, by omega, by go_num, hnk.out _ rfl hq, hb.alloc hb.size _⟩
        case measure => simp [intOf]; omega
    · obtain rfl : k = n := by omega
      have hN := Lib.hid (any_none (p := fun p => p.1 == x) (fun j hj => hall j (by rw [h.len] at hj; exact hj)))
      clear h hall
      go_wp2
      go_ret
      exact ⟨-1, rfl, by rw [hN.out]; decide, hb⟩
end Go.Proofs.Ytmoiodkehchjiaa
