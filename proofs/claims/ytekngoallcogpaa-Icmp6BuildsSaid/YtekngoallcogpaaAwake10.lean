/- The law's awake (layer 10). -/
import Derived.Test.YtekngoallcogpaaIcmp6PR
set_option linter.unusedVariables false
namespace Go.Proofs.Ytekngoallcogpaa
open Go.RowKit

def six1 (x : Int) : List Int := [x, 0, 0, 0, 0, 0, 0, 0, 0, 0, 0, 0, 0, 0, 0, 0]
theorem six1_six (x : Int) (h0 : 0 ≤ x) (h1 : x < 256) : Six (six1 x) := ⟨rfl, fun z hz => by simp [six1] at hz; rcases hz with rfl | rfl <;> constructor <;> omega⟩
theorem cells_six1 (x : Int) : cells6 (six1 x) = #[.int .u8 x, .int .u8 0, .int .u8 0, .int .u8 0, .int .u8 0, .int .u8 0, .int .u8 0, .int .u8 0, .int .u8 0, .int .u8 0, .int .u8 0, .int .u8 0, .int .u8 0, .int .u8 0, .int .u8 0, .int .u8 0] := rfl
def wake10 : IcmpP := ⟨2, 0, 1280, []⟩
theorem wake10_code : checkI wake10 0 = 0 := by decide
theorem wake10_bytes : built6 (six1 1) (six1 2) wake10 = [2, 0, 245, 189, 0, 0, 5, 0] := by decide +kernel
theorem wake10_built : built6? (six1 1) (six1 2) wake10 0 = [2, 0, 245, 189, 0, 0, 5, 0] := by unfold built6?; rw [if_pos wake10_code]; exact wake10_bytes
theorem wake10_pcode : code6 (six1 1) (six1 2) [2, 0, 245, 189, 0, 0, 5, 0] = 0 := by decide +kernel
theorem wake10_read : read6 (six1 1) (six1 2) [2, 0, 245, 189, 0, 0, 5, 0] = wake10 := by
  unfold read6
  rw [if_pos wake10_pcode]
  rfl
theorem wake10_qcode : code6 (six1 1) (six1 3) [2, 0, 245, 189, 0, 0, 5, 0] = 5 := by decide +kernel
theorem wake10_qread : read6 (six1 1) (six1 3) [2, 0, 245, 189, 0, 0, 5, 0] = ⟨0, 0, 0, []⟩ := by
  unfold read6
  rw [if_neg (by rw [wake10_qcode]; decide)]

set_option maxRecDepth 100000 in
set_option maxHeartbeats 2000000 in
theorem awake10 (w : World) : Calls Try.prog 42 #[] w fun e w' => e = .returned (.bool true) ∧ Below w.heap.size w w' := by
  have g1 := six1_six 1 (by omega) (by omega)
  have g2 := six1_six 2 (by omega) (by omega)
  have g3 := six1_six 3 (by omega) (by omega)
  have hB := Build6_any _ _ wake10 none 0 0 w g1 g2 (RB.nil w)
  rw [wake10_built, wake10_code] at hB
  have hP := fun A n c w' (h : RB w' A n c [2, 0, 245, 189, 0, 0, 5, 0]) => Parse6_any _ _ A n c _ w' g1 g2 h
  rw [wake10_read, wake10_pcode] at hP
  have hQ := fun A n c w' (h : RB w' A n c [2, 0, 245, 189, 0, 0, 5, 0]) => Parse6_any _ _ A n c _ w' g1 g3 h
  rw [wake10_qread, wake10_qcode] at hQ
  have hf : fault6 2 = true := by decide
  unfold wake10 at hB hP
  rw [cells_six1, cells_six1] at hB
  simp only [cells_six1] at hP hQ
  replace hB := Lib.hid hB
  replace hP := Lib.hid hP
  replace hQ := Lib.hid hQ
  replace hf := Lib.hid hf
  clear g1 g2 g3
  go_enter Try.func42, Try.ntmps42
  go_wp2_with (first
    | (go_at_call 43; refine hB.out.mono ?_; rintro e w1 ⟨A1, n1, c1, rfl, hr1, hB1⟩; replace hr1 := Lib.hid hr1; replace hB1 := Lib.hid hB1)
    | (go_at_call_of 49 (Value.agg #[Value.int IntKind.u8 (2 : Int), Value.int IntKind.u8 0, Value.int IntKind.u8 0, Value.int IntKind.u8 0, Value.int IntKind.u8 0, Value.int IntKind.u8 0, Value.int IntKind.u8 0, Value.int IntKind.u8 0, Value.int IntKind.u8 0, Value.int IntKind.u8 0, Value.int IntKind.u8 0, Value.int IntKind.u8 0, Value.int IntKind.u8 0, Value.int IntKind.u8 0, Value.int IntKind.u8 0, Value.int IntKind.u8 0]); refine (hP.out _ _ _ _ hr1.out).mono ?_; rintro e w2 ⟨A2, n2, c2, rfl, ho2, hB2⟩; have hr2 := Lib.hid (hr1.out.below hB2); have hBt2 := Lib.hid (hB1.out.trans (hB2.mono hB1.out.size)); have hv2 := Lib.hid (Blk.new w2 #[.int .i64 2, .int .i64 0, .int .i64 1280, .slice A2 n2 c2] 24); replace ho2 := 0; replace hB2 := 0)
    | (go_at_call 49; refine (hQ.out _ _ _ _ (hr2.out.alloc _)).mono ?_; rintro e w3 ⟨A3, n3, c3, rfl, ho3, hB3⟩; have hv3 := hv2.out.to hB3; have hlt3 := hv3.lt; obtain ⟨⟨z0, z1, z2, z3⟩, _⟩ := hv3.z4; have hBt3 := Lib.hid ((hBt2.out.alloc hBt2.out.size _).trans (hB3.mono (by have := hBt2.out.size; simp; omega))); replace hv3 := 0; replace ho3 := 0; replace hB3 := 0)
    | (go_at_call 47; refine (Fault6_any _ _).mono ?_; rintro e w4 ⟨rfl, rfl⟩; rw [hf.out])
    | fail)
  go_ret
  exact ⟨by first | rfl | simp, hBt3.out.alloc hBt3.out.size _⟩
end Go.Proofs.Ytekngoallcogpaa
