/- The law's awake (layer 7). -/
import Derived.Test.YtekngoallcogpaaUdpPR
import Derived.Test.YtekngoallcogpaaUdpPlain
set_option linter.unusedVariables false
namespace Go.Proofs.Ytekngoallcogpaa
open Go.RowKit

def wake7 : UdpP := ⟨3, 4, false, [5]⟩
def wake7b : List Int := [0, 3, 0, 4, 0, 9, 250, 210, 5]
theorem wake7_code : checkU wake7 1 = 0 := by decide
theorem wake7_bytes : builtU 1 2 wake7 = wake7b := by decide +kernel
theorem wake7_built : builtU? 1 2 wake7 1 = wake7b := by unfold builtU?; rw [if_pos wake7_code]; exact wake7_bytes
theorem byts5 : Byts [5] := Byts.one (by omega) (by omega)
theorem wake7_back : codeU 1 2 wake7b = 0 ∧ readU 1 2 wake7b = wake7 := by
  have := backU (src := 1) (dst := 2) (m := wake7) (n := 1) rfl wake7_code byts5
  rw [wake7_bytes] at this
  exact this

set_option maxRecDepth 100000 in
set_option maxHeartbeats 2000000 in
theorem awake07 (w : World) : Calls Try.prog 31 #[] w fun e w' => e = .returned (.bool true) ∧ Below w.heap.size w w' := by
  have hl := RB.lit w 5 [5] byts5 (by simp)
  simp only [u8s, List.map_cons, List.map_nil, List.length_cons, List.length_nil, Nat.zero_add] at hl
  have hb0 := Lib.hid ((Below.refl w.heap.size w).alloc (Nat.le_refl _) (.cells #[.int .u8 5] 5))
  have hB := UdpBuild_any 1 2 wake7 (some ⟨w.heap.size, 0, none⟩) 1 1 _ hl
  rw [wake7_built, wake7_code] at hB
  have hP := fun A n c w' (h : RB w' A n c wake7b) (hn : n ≤ 100000) => UdpParse_any 1 2 A n c _ w' h hn
  rw [wake7_back.1, wake7_back.2] at hP
  unfold wake7 at hB hP
  have hl9 : wake7b.length = 9 := rfl
  generalize wake7b = wb at *
  replace hB := Lib.hid hB
  replace hP := Lib.hid hP
  replace hl9 := Lib.hid hl9
  clear hl
  go_enter Try.func31, Try.ntmps31
  go_wp2_with (first
    | (go_at_call 32; refine hB.out.mono ?_; rintro e w1 ⟨A1, n1, c1, rfl, hr1, hB1⟩; obtain rfl : n1 = 9 := by (have := hr1.len; rw [hl9.out] at this; exact this.symm))
    | (go_at_call 40; refine (hP.out _ _ _ _ hr1 (by omega)).mono ?_; rintro e w2 ⟨A2, n2, c2, rfl, ho2, hB2⟩; unfold cellsU; have hBt1 := hb0.out.trans (hB1.mono hb0.out.size); have hBt2 := hBt1.trans (hB2.mono hBt1.size); have hBt3 := Lib.hid (hBt2.alloc hBt2.size (.cells #[.int .i64 3, .int .i64 4, .bool false, .slice A2 n2 c2] 41)); replace hBt1 := 0; replace hBt2 := 0; replace ho2 := 0; replace hB2 := 0; replace hB1 := 0)
    | (go_at_call 38; refine (Pseudo_any 1 2 17 9 _).mono ?_; rintro e w3 ⟨A3, c3, rfl, ho3, hB3⟩)
    | fail)
  go_ret
  exact ⟨by first | rfl | simp, hBt3.out.trans (hB3.mono hBt3.out.size)⟩
end Go.Proofs.Ytekngoallcogpaa
