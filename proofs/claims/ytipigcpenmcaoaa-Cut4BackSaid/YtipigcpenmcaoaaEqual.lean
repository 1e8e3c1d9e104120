/- bytes.Equal of slices that hold the same bytes. -/
import Derived.Test.YtipigcpenmcaoaaBase
set_option linter.unusedVariables false
namespace Go.Proofs.Ytipigcpenmcaoaa
open Go.RowKit

theorem conv_bytes {w : World} {A : Option Addr} {n c : Nat} {bs : List Int} (h : RB w A n c bs) : (convert 22 9 (.slice A n c)).run Try.prog w = .ok (.string (strOfNums bs)) w := by
  have hl := h.len
  rcases Nat.eq_zero_or_pos n with hn | hn
  · subst hn
    obtain rfl : bs = [] := List.eq_nil_of_length_eq_zero hl
    rw [run_convert_bytes_string w 22 9 5 A 0 c Try.underlying22 Try.underlying5 Try.underlying9]
    cases A with
    | none => simp [Conv.bytesToString]; rfl
    | some a =>
      rw [run_bytesToString w a 0 c [] (by simpa using run_loadCells_list (P := Try.prog) w a [] (fun j v hj => by simp at hj))]
      rfl
  · obtain ⟨b, off, rfl, hc⟩ := h.at_ hn
    exact run_convert_bytes_arg (P := Try.prog) w 22 5 Try.underlying22 Try.underlying5 b off n c bs hl (fun i hi => by rw [hc i hi, List.getD_eq_getElem?_getD]) 9 Try.underlying9

set_option maxHeartbeats 400000 in
theorem Equal_same (A A' : Option Addr) (n c n' c' : Nat) (bs : List Int) (w : World) (h : RB w A n c bs) (h' : RB w A' n' c' bs) :
    Calls Try.prog 17 #[.slice A n c, .slice A' n' c'] w fun e w' => e = .returned (.bool true) ∧ w = w' := by
  have e1 := conv_bytes h
  have e2 := conv_bytes h'
  clear h h'
  go_enter Try.func17, Try.ntmps17
  go_wp2
  go_ret
  exact ⟨by simp, rfl⟩
end Go.Proofs.Ytipigcpenmcaoaa
