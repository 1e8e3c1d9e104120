/- The law's awake (layer 9). -/
import Derived.Test.YtekngoallcogpaaIcmpW
set_option linter.unusedVariables false
namespace Go.Proofs.Ytekngoallcogpaa
open Go.RowKit

def wake9 : IcmpP := ⟨8, 0, 65538, []⟩
theorem wake9_code : checkI wake9 0 = 0 := by decide
theorem wake9_bytes : builtI wake9 = [8, 0, 247, 252, 0, 1, 0, 2] := by decide +kernel
theorem wake9_built : builtI? wake9 0 = [8, 0, 247, 252, 0, 1, 0, 2] := by unfold builtI?; rw [if_pos wake9_code]; exact wake9_bytes
theorem wake9_pcode : codeI [8, 0, 247, 252, 0, 1, 0, 2] = 0 := by decide +kernel
theorem wake9_read : readI [8, 0, 247, 252, 0, 1, 0, 2] = wake9 := by
  unfold readI
  rw [if_pos wake9_pcode]
  rfl
theorem wake9_id : idI wake9 = 1 := by decide
theorem wake9_with : (withI wake9 5).r = 327682 := by decide

theorem field_r (a b c : Int) (A : Option Addr) (n k : Nat) (w : World) : (Instr.field 24 (.agg #[.int .i64 a, .int .i64 b, .int .i64 c, .slice A n k]) 2).run Try.prog w = .ok (.int .i64 c) w := by kernel_rfl

set_option maxRecDepth 100000 in
set_option maxHeartbeats 2000000 in
theorem awake09 (w : World) : Calls Try.prog 13 #[] w fun e w' => e = .returned (.bool true) ∧ Below w.heap.size w w' := by
  have hB := IcmpBuild_any wake9 none 0 0 w (RB.nil w)
  rw [wake9_built, wake9_code] at hB
  have hP := fun A n c w' (h : RB w' A n c [8, 0, 247, 252, 0, 1, 0, 2]) => IcmpParse_any A n c _ w' h
  rw [wake9_read, wake9_pcode] at hP
  have hI := fun A n c w' => IcmpID_any wake9 A n c w'
  rw [wake9_id] at hI
  have hW := fun A n c w' (h : RB w' A n c wake9.data) (hn : n ≤ 100000) => IcmpWithID_any wake9 5 A n c w' h hn
  have hq : queryI 8 = true := by decide
  have hf : faultI 11 = true := by decide
  have hwr := wake9_with
  obtain ⟨wm, hwm⟩ : ∃ wm, withI wake9 5 = wm := ⟨_, rfl⟩
  rw [hwm] at hW hwr
  unfold wake9 at hB hP hI hW
  replace hwm := Lib.hid hwm
  have hwr2 : (wm.r == 327682) = true := by rw [hwr]; rfl
  replace hwr := Lib.hid hwr
  replace hB := Lib.hid hB
  replace hP := Lib.hid hP
  replace hI := Lib.hid hI
  replace hW := Lib.hid hW
  replace hq := Lib.hid hq
  replace hf := Lib.hid hf
  go_enter Try.func13, Try.ntmps13
  go_wp2_with (first
    | (go_at_call 14; refine hB.out.mono ?_; rintro e w1 ⟨A1, n1, c1, rfl, hr1, hB1⟩)
    | (go_at_call 21; refine (hP.out _ _ _ _ hr1).mono ?_; rintro e w2 ⟨A2, n2, c2, rfl, ho2, hB2⟩; have hBt2 := hB1.trans (hB2.mono hB1.size); have hv2 := VBox.new w2 #[.int .i64 8, .int .i64 0, .int .i64 65538, .slice A2 n2 c2] 24; have hr2 := Lib.hid (ho2.rb.alloc (.cells #[.int .i64 8, .int .i64 0, .int .i64 65538, .slice A2 n2 c2] 24)); have hBt3 := hBt2.alloc hBt2.size (.cells #[.int .i64 8, .int .i64 0, .int .i64 65538, .slice A2 n2 c2] 24); have hl2 := ho2.len; replace hv2 := Lib.hid hv2; replace hl2 := Lib.hid hl2; replace hBt3 := Lib.hid hBt3; replace ho2 := 0; replace hB2 := 0; replace hB1 := 0)
    | (go_at_call 27; refine (hI.out _ _ _ _).mono ?_; rintro e w3 ⟨rfl, hB3⟩; have hv3 := Lib.hid (hv2.out.below hB3 hv2.out.lt); have hr3 := Lib.hid (hr2.out.below hB3); have hBt4 := Lib.hid (hBt3.out.trans (hB3.mono hBt3.out.size)); replace hB3 := 0)
    | (go_at_call 25; refine (Query_any _ _).mono ?_; rintro e w4 ⟨rfl, hB4⟩; rw [hq.out]; have hv4 := Lib.hid (hv3.out.below hB4 hv3.out.lt); have hr4 := Lib.hid (hr3.out.below hB4); have hBt5 := Lib.hid (hBt4.out.trans (hB4.mono hBt4.out.size)); replace hB4 := 0)
    | (go_at_call 23; refine (Fault_any _ _).mono ?_; rintro e w5 ⟨rfl, hB5⟩; rw [hf.out]; have hv5 := hv4.out.below hB5 hv4.out.lt; have hr5 := Lib.hid (hr4.out.below hB5); have hBt6 := Lib.hid (hBt5.out.trans (hB5.mono hBt5.out.size)); have z0 := hv5.at_ 0 _ rfl; have z1 := hv5.at_ 1 _ rfl; have z2 := hv5.at_ 2 _ rfl; have z3 := hv5.at_ 3 _ rfl; replace hv5 := 0; replace hB5 := 0)
    | (go_at_call 29; refine (hW.out _ _ _ _ hr5.out (by have := hl2.out; simp at this; omega)).mono ?_; rintro e w6 ⟨A6, n6, c6, rfl, ho6, hB6⟩; unfold cellsI; have hfr := fun w => field_r wm.t wm.cd wm.r A6 n6 c6 w)
    | fail)
  go_ret
  exact ⟨by first | rfl | simp, hBt6.out.trans (hB6.mono hBt6.out.size)⟩
end Go.Proofs.Ytekngoallcogpaa
