/- Messages of ICMP (the reference): walks of Read, Parse. -/
import Derived.Test.YtmbmmpbfmakfbaaIcmpP
import Derived.Test.YtmbmmpbfmakfbaaAppend
set_option linter.unusedVariables false
namespace Go.Proofs.Ytmbmmpbfmakfbaa
open Go.RowKit

def IcmpOne (w : World) (m : IcmpP) (e : Ending) (w' : World) : Prop := ∃ A2 n2 c2, e = .returned (.agg (cellsI m A2 n2 c2)) ∧ OB w' w.heap.size A2 n2 c2 m.data ∧ Below w.heap.size w w'

end Go.Proofs.Ytmbmmpbfmakfbaa
/- Messages of ICMP (icmp, and the reference): walks of Fault, Query, ID, WithID. -/
set_option linter.unusedVariables false
namespace Go.Proofs.Ytmbmmpbfmakfbaa
open Go.RowKit

def faultI (k : Int) : Bool := decide (k ∈ [(3 : Int), 4, 5, 11, 12])
def queryI (k : Int) : Bool := decide (k ∈ [(0 : Int), 8])

theorem one_any (A : Option Addr) (n c : Nat) (zs : List Int) (v : Int) (w : World) (h : RI w A n c zs) (hn : n ≤ 100000) :
    Calls Try.prog 78 #[.int .i64 v, .slice A n c] w fun e w' => e = .returned (.bool (decide (v ∈ zs))) ∧ w = w' := by
  have hI := Lib.hid (Contains_any A n c zs v w h hn)
  clear h
  go_enter Try.func78, Try.ntmps78
  go_wp2_with (go_at_call 85; refine hI.out.mono ?_; rintro e w' ⟨rfl, rfl⟩)
  go_ret
  exact ⟨rfl, rfl⟩
theorem faultI_iff (v : Int) : faultI v = true ↔ v = 3 ∨ v = 4 ∨ v = 5 ∨ v = 11 ∨ v = 12 := by simp [faultI]
theorem queryI_iff (v : Int) : queryI v = true ↔ v = 0 ∨ v = 8 := by simp [queryI]
theorem no_both (v : Int) : (faultI v && queryI v) = false := by
  rw [Bool.eq_false_iff]
  intro h
  rw [Bool.and_eq_true, faultI_iff, queryI_iff] at h
  omega

theorem Query_any (v : Int) (w : World) :
    Calls Try.prog 59 #[.int .i64 v] w fun e w' => e = .returned (.bool (queryI v)) ∧ Below w.heap.size w w' := by
  have hl := RI.lit w 3 [0, 8]
  simp only [List.map_cons, List.map_nil, List.length_cons, List.length_nil, Nat.zero_add, Nat.reduceAdd] at hl
  have hI := Lib.hid ((one_any _ _ _ _ v _ hl (by omega)).mono fun e w' (h : e = .returned (.bool (queryI v)) ∧ _) => h)
  generalize queryI v = q at *
  have hb := Lib.hid (fun o => (Below.refl w.heap.size w).alloc (Nat.le_refl _) o)
  clear hl
  go_enter Try.func59, Try.ntmps59
  go_wp2_with (go_at_call 78; refine hI.out.mono ?_; rintro e w' ⟨rfl, rfl⟩)
  go_ret
  exact ⟨rfl, hb.out _⟩

set_option maxHeartbeats 1000000 in
theorem RefQuery_any (v : Int) (w : World) :
    Calls Try.prog 35 #[.int .i64 v] w fun e w' => e = .returned (.bool (queryI v)) ∧ w = w' := by
  have ht := Lib.hid (fun (h : v = 0 ∨ v = 8) => ((queryI_iff v).2 h).symm)
  have hf := Lib.hid (fun (h : ¬ (v = 0 ∨ v = 8)) => (Bool.eq_false_iff.2 (fun k => h ((queryI_iff v).1 k))).symm)
  cases h11 : (v == 0)
  all_goals cases h12 : (v == 8)
  all_goals
    have k11 := h11
    have k12 := h12
    simp only [beq_iff_eq, beq_eq_false_iff_ne, ne_eq] at k11 k12
    replace k11 := Lib.hid k11
    replace k12 := Lib.hid k12
    go_enter Try.func35, Try.ntmps35
    go_wp2
    go_ret
    have a := k11.out
    have b := k12.out
    exact ⟨ret_bool (by first | exact ht.out (by omega) | exact hf.out (by omega) | (exfalso; omega)), rfl⟩

/-- A message's identifier. -/
def idI (m : IcmpP) : Int := m.r / 65536 % 65536
end Go.Proofs.Ytmbmmpbfmakfbaa
