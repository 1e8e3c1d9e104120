/- The laws UdpParses, UdpBack: their walks. -/
import Derived.Test.YtekngoallcogpaaUdpPlain
import Derived.Test.YtekngoallcogpaaAwake07
set_option linter.unusedVariables false
namespace Go.Proofs.Ytekngoallcogpaa
open Go.RowKit

theorem sameU_refl (m : UdpP) : sameU m m = true := by simp [sameU]

set_option maxRecDepth 100000 in
set_option maxHeartbeats 2000000 in
theorem UdpParses_walk (src dst : Int) (A : Option Addr) (n c : Nat) (bs : List Int) (w : World) (_a1 : -9223372036854775808 ≤ src) (_a2 : src ≤ 9223372036854775807) (_a3 : -9223372036854775808 ≤ dst) (_a4 : dst ≤ 9223372036854775807) (h : RB w A n c bs) :
    Calls Try.prog 8 #[.int .i64 src, .int .i64 dst, .slice A n c] w fun e w' => e = .returned (.bool true) ∧ Below w.heap.size w w' := by
  clear _a1 _a2 _a3 _a4
  by_cases hn : 3000 < n
  · clear h
    go_enter Try.func8, Try.ntmps8
    go_wp2_with (go_at_call 31; refine (awake07 _).mono ?_; rintro e w' ⟨rfl, hb1⟩)
    go_ret
    exact ⟨rfl, hb1⟩
  · have hP := Lib.hid (UdpParse_any src dst A n c bs w h (by omega))
    have hR := Lib.hid (fun W (hW : Below w.heap.size w W) => RefUdpParse_any src dst A n c bs W (h.below hW) (by omega))
    have hsm := sameU_refl (readU src dst bs)
    generalize readU src dst bs = m at *
    generalize codeU src dst bs = k at *
    replace hsm := Lib.hid hsm
    clear h
    go_enter Try.func8, Try.ntmps8
    go_wp2_with (first
      | (go_at_call 40; refine hP.out.mono ?_; rintro e w1 ⟨A1, n1, c1, rfl, ho1, hB1⟩; unfold cellsU; have hv1 := Lib.hid (VBox.new w1 (cellsU m A1 n1 c1) 41); have hr1 := Lib.hid (ho1.rb.alloc (.cells (cellsU m A1 n1 c1) 41)); have hb1 := Lib.hid (hB1.alloc hB1.size (.cells (cellsU m A1 n1 c1) 41)); replace ho1 := 0; replace hB1 := 0)
      | (go_at_call 41; refine (hR.out _ hb1.out).mono ?_; rintro e w2 ⟨A2, n2, c2, rfl, ho2, hB2⟩; unfold cellsU; have hv2 := hv1.out.below hB2 hv1.out.lt; have z0 := hv2.at_ 0 _ rfl; have z1 := hv2.at_ 1 _ rfl; have z2 := hv2.at_ 2 _ rfl; have z3 := hv2.at_ 3 _ rfl; have hlt := hv2.lt; have hr3 := Lib.hid ((hr1.out.below hB2).alloc (.cells (cellsU m A2 n2 c2) 41)); have hr4 := Lib.hid (ho2.rb.alloc (.cells (cellsU m A2 n2 c2) 41)); have hBt := hb1.out.trans (hB2.mono hb1.out.size); have hb2 := Lib.hid (hBt.alloc hBt.size (.cells (cellsU m A2 n2 c2) 41)); replace hv2 := 0; replace ho2 := 0; replace hB2 := 0; replace hBt := 0)
      | (go_at_call 37; refine (RefUdpSame_any m m A1 A2 n1 c1 n2 c2 _ hr3.out hr4.out).mono ?_; rintro e w3 ⟨rfl, hB3⟩; rw [hsm.out]; have hBt := Lib.hid (hb2.out.trans (hB3.mono hb2.out.size)); replace hB3 := 0)
      | (go_at_call 31; refine (awake07 _).mono ?_; rintro e w4 ⟨rfl, hB4⟩)
      | fail)
    go_ret
    exact ⟨by first | rfl | simp, hBt.out.trans (hB4.mono hBt.out.size)⟩

set_option maxRecDepth 100000 in
set_option maxHeartbeats 2000000 in
theorem UdpBack_walk (src dst : Int) (m : UdpP) (A : Option Addr) (n c : Nat) (w : World) (_a1 : -9223372036854775808 ≤ src) (_a2 : src ≤ 9223372036854775807) (_a3 : -9223372036854775808 ≤ dst) (_a4 : dst ≤ 9223372036854775807) (h : RB w A n c m.data) :
    Calls Try.prog 9 #[.int .i64 src, .int .i64 dst, .agg (cellsU m A n c)] w fun e w' => e = .returned (.bool true) ∧ Below w.heap.size w w' := by
  clear _a1 _a2 _a3 _a4
  have hb0 := Lib.hid ((Below.refl _ w).alloc (Nat.le_refl _) (.cells (cellsU m A n c) 41))
  have hvb := Lib.hid (VBox.new w (cellsU m A n c) 41)
  by_cases hn : 3000 < n
  · clear h
    go_enter Try.func9, Try.ntmps9
    go_wp2_with (go_at_call 31; refine (awake07 _).mono ?_; rintro e w' ⟨rfl, hb1⟩)
    go_ret
    exact ⟨rfl, hb0.out.trans (hb1.mono hb0.out.size)⟩
  · have hB := Lib.hid (fun W (hW : Below w.heap.size w W) => UdpBuild_any src dst m A n c W (h.below hW))
    by_cases hok : checkU m n = 0
    · have e1 : builtU? src dst m n = builtU src dst m := by unfold builtU?; rw [if_pos hok]
      rw [hok, e1] at hB
      have hP := Lib.hid (fun A n c W (hr : RB W A n c (builtU src dst m)) (hn : n ≤ 100000) => UdpParse_any src dst A n c _ W hr hn)
      rw [(backU h.len hok h.byt).2, (backU h.len hok h.byt).1] at hP
      have hbl : (builtU src dst m).length = 8 + n := by unfold builtU; split <;> rw [bytesU_length, h.len]
      replace hbl := Lib.hid hbl
      have hD := Lib.hid (fun W (hW : Below w.heap.size w W) => h.below hW)
      have hsm := Lib.hid (sameU_refl m)
      replace e1 := 0
      clear h hok
      go_enter Try.func9, Try.ntmps9
      go_wp2_with (first
        | (go_at_call 32; refine (hB.out _ hb0.out).mono ?_; rintro e w1 ⟨A1, n1, c1, rfl, hr1, hB1⟩; have hv1 := Lib.hid (hvb.out.below hB1 (by simp)); have hb1 := Lib.hid (hb0.out.trans (hB1.mono hb0.out.size)); replace hB1 := 0)
        | (go_at_call 40; refine (hP.out _ _ _ _ hr1 (by have := hr1.len; rw [hbl.out] at this; omega)).mono ?_; rintro e w2 ⟨A2, n2, c2, rfl, ho2, hB2⟩; unfold cellsU; have hv2 := hv1.out.below hB2 hv1.out.lt; have z0 := hv2.at_ 0 _ rfl; have z1 := hv2.at_ 1 _ rfl; have z2 := hv2.at_ 2 _ rfl; have z3 := hv2.at_ 3 _ rfl; have hlt := hv2.lt; have hBt := hb1.out.trans (hB2.mono hb1.out.size); have hr3 := Lib.hid (ho2.rb.alloc (.cells (cellsU m A2 n2 c2) 41)); have hb2 := Lib.hid (hBt.alloc hBt.size (.cells (cellsU m A2 n2 c2) 41)); replace hv2 := 0; replace ho2 := 0; replace hB2 := 0; replace hBt := 0)
        | (go_at_call 36; refine (UdpSame_any m m A A2 n c n2 c2 _ (hD.out _ hb2.out) hr3.out).mono ?_; rintro e w3 ⟨rfl, hB3⟩; rw [hsm.out]; have hBt := Lib.hid (hb2.out.trans (hB3.mono hb2.out.size)); replace hB3 := 0)
        | (go_at_call 31; refine (awake07 _).mono ?_; rintro e w4 ⟨rfl, hB4⟩)
        | fail)
      go_ret
      exact ⟨by first | rfl | simp, hBt.out.trans (hB4.mono hBt.out.size)⟩
    · have e1 : builtU? src dst m n = [] := by unfold builtU?; rw [if_neg hok]
      rw [e1] at hB
      have hc := checkU_code m n
      generalize checkU m n = e0 at *
      replace e1 := 0
      clear h
      rcases hc with rfl | rfl | rfl
      · exact absurd rfl hok
      all_goals
        clear hok
        go_enter Try.func9, Try.ntmps9
        go_wp2_with (first
          | (go_at_call 32; refine (hB.out _ hb0.out).mono ?_; rintro e w1 ⟨A1, n1, c1, rfl, hr1, hB1⟩; obtain rfl : n1 = 0 := hr1.len.symm; have hb1 := Lib.hid (hb0.out.trans (hB1.mono hb0.out.size)); replace hB1 := 0; replace hr1 := 0)
          | (go_at_call 31; refine (awake07 _).mono ?_; rintro e w4 ⟨rfl, hB4⟩)
          | fail)
        go_ret
        exact ⟨by first | rfl | simp, hb1.out.trans (hB4.mono hb1.out.size)⟩
end Go.Proofs.Ytekngoallcogpaa
