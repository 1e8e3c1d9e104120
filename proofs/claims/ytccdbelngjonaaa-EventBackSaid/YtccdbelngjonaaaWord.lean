/- The word at a place of bytes: the walk of the reference's Word. -/
import Derived.Test.YtccdbelngjonaaaBase
import Derived.BigQuiet
import Derived.Deep.QuietTactic
set_option linter.unusedVariables false
namespace Go.Proofs.Ytccdbelngjonaaa
open Go.RowKit

/-- The number that the pair of bytes at k is. -/
def wordI (bs : List Int) (k : Nat) : Int := bs[k]?.getD 0 * 256 + bs[k + 1]?.getD 0
theorem getD_out {bs : List Int} {k : Nat} (h : bs.length ≤ k) : bs[k]?.getD 0 = 0 := by rw [List.getElem?_eq_none h]; rfl

set_option maxHeartbeats 400000 in
theorem RefWord_any (A : Option Addr) (n c : Nat) (bs : List Int) (k : Nat) (w : World) (h : RB w A n c bs) (hn : n ≤ 100000) (hk : k < n) :
    Calls Try.prog 113 #[.slice A n c, .int .i64 k] w fun e w' => e = .returned (.int .i64 (wordI bs k)) ∧ Below w.heap.size w w' := by
  obtain ⟨b, off, rfl, hc⟩ := h.at_ (by omega)
  have hb0 := h.byt.get k
  have hb1 := h.byt.get (k + 1)
  have c0 := hc k hk
  have hl := Lib.hid h.len
  by_cases h1 : k + 1 < n
  · have c1 := hc (k + 1) h1
    have g1 : (k : Int) + 1 < (n : Int) := by omega
    have g2 : (k : Int) < (n : Int) := by omega
    clear h
    go_enter Try.func113, Try.ntmps113
    go_wp2
    go_quiet (fail)
    go_wp2
    go_ret
    exact ⟨ret_int rfl, below_drewN (Below.refl _ _) _⟩
  · have H1 := Lib.hid (getD_out (bs := bs) (k := k + 1) (by have := hl.out; omega))
    clear h
    go_enter Try.func113, Try.ntmps113
    go_wp2
    go_ret
    exact ⟨ret_int (by unfold wordI; rw [H1.out]; omega), Below.refl _ _⟩

theorem RefWord_at (A : Option Addr) (n c : Nat) (bs : List Int) (x : Int) (k : Nat) (hx : x = k) (w : World) (h : RB w A n c bs) (hn : n ≤ 100000) (hk : k < n) :
    Calls Try.prog 113 #[.slice A n c, .int .i64 x] w fun e w' => e = .returned (.int .i64 (wordI bs k)) ∧ Below w.heap.size w w' := by
  subst hx; exact RefWord_any A n c bs k w h hn hk

end Go.Proofs.Ytccdbelngjonaaa
