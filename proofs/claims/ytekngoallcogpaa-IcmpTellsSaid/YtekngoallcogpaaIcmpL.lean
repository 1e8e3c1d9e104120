/- The laws IcmpParses, IcmpBack: their walks. -/
import Derived.Test.YtekngoallcogpaaIcmpPlain
import Derived.Test.YtekngoallcogpaaAwake09
set_option linter.unusedVariables false
namespace Go.Proofs.Ytekngoallcogpaa
open Go.RowKit

theorem sameI_refl (m : IcmpP) : sameI m m = true := by simp [sameI]

set_option maxRecDepth 100000 in
set_option maxHeartbeats 2000000 in
theorem IcmpParses_walk (A : Option Addr) (n c : Nat) (bs : List Int) (w : World) (h : RB w A n c bs) :
    Calls Try.prog 4 #[.slice A n c] w fun e w' => e = .returned (.bool true) ∧ Below w.heap.size w w' := by
  by_cases hn : 3000 < n
  · clear h
    go_enter Try.func4, Try.ntmps4
    go_wp2_with (go_at_call 13; refine (awake09 _).mono ?_; rintro e w' ⟨rfl, hb1⟩)
    go_ret
    exact ⟨rfl, hb1⟩
  · have hP := Lib.hid (IcmpParse_any A n c bs w h)
    have hR := Lib.hid (fun W (hW : Below w.heap.size w W) => RefIcmpParse_any A n c bs W (h.below hW))
    have hsm := sameI_refl (readI bs)
    generalize readI bs = m at *
    generalize codeI bs = k at *
    replace hsm := Lib.hid hsm
    clear h
    go_enter Try.func4, Try.ntmps4
    go_wp2_with (first
      | (go_at_call 21; refine hP.out.mono ?_; rintro e w1 ⟨A1, n1, c1, rfl, ho1, hB1⟩; unfold cellsI; have hv1 := Lib.hid (VBox.new w1 (cellsI m A1 n1 c1) 24); have hr1 := Lib.hid (ho1.rb.alloc (.cells (cellsI m A1 n1 c1) 24)); have hb1 := Lib.hid (hB1.alloc hB1.size (.cells (cellsI m A1 n1 c1) 24)); replace ho1 := 0; replace hB1 := 0)
      | (go_at_call 22; refine (hR.out _ hb1.out).mono ?_; rintro e w2 ⟨A2, n2, c2, rfl, ho2, hB2⟩; unfold cellsI; have hv2 := hv1.out.below hB2 hv1.out.lt; have z0 := hv2.at_ 0 _ rfl; have z1 := hv2.at_ 1 _ rfl; have z2 := hv2.at_ 2 _ rfl; have z3 := hv2.at_ 3 _ rfl; have hlt := hv2.lt; have hr3 := Lib.hid ((hr1.out.below hB2).alloc (.cells (cellsI m A2 n2 c2) 24)); have hr4 := Lib.hid (ho2.rb.alloc (.cells (cellsI m A2 n2 c2) 24)); have hBt := hb1.out.trans (hB2.mono hb1.out.size); have hb2 := Lib.hid (hBt.alloc hBt.size (.cells (cellsI m A2 n2 c2) 24)); replace hv2 := 0; replace ho2 := 0; replace hB2 := 0; replace hBt := 0)
      | (go_at_call 20; refine (RefIcmpSame_any m m A1 A2 n1 c1 n2 c2 _ hr3.out hr4.out).mono ?_; rintro e w3 ⟨rfl, hB3⟩; rw [hsm.out]; have hBt := Lib.hid (hb2.out.trans (hB3.mono hb2.out.size)); replace hB3 := 0)
      | (go_at_call 13; refine (awake09 _).mono ?_; rintro e w4 ⟨rfl, hB4⟩)
      | fail)
    go_ret
    exact ⟨by first | rfl | simp, hBt.out.trans (hB4.mono hBt.out.size)⟩

set_option maxRecDepth 100000 in
set_option maxHeartbeats 2000000 in
theorem IcmpBack_walk (m : IcmpP) (A : Option Addr) (n c : Nat) (w : World) (h : RB w A n c m.data) :
    Calls Try.prog 6 #[.agg (cellsI m A n c)] w fun e w' => e = .returned (.bool true) ∧ Below w.heap.size w w' := by
  have hb0 := Lib.hid ((Below.refl _ w).alloc (Nat.le_refl _) (.cells (cellsI m A n c) 24))
  have hvb := Lib.hid (VBox.new w (cellsI m A n c) 24)
  by_cases hn : 3000 < n
  · clear h
    go_enter Try.func6, Try.ntmps6
    go_wp2_with (go_at_call 13; refine (awake09 _).mono ?_; rintro e w' ⟨rfl, hb1⟩)
    go_ret
    exact ⟨rfl, hb0.out.trans (hb1.mono hb0.out.size)⟩
  · have hB := Lib.hid (fun W (hW : Below w.heap.size w W) => IcmpBuild_any m A n c W (h.below hW))
    by_cases hok : checkI m n = 0
    · have e1 : builtI? m n = builtI m := by unfold builtI?; rw [if_pos hok]
      rw [hok, e1] at hB
      have hP := Lib.hid (fun A n c W (hr : RB W A n c (builtI m)) => IcmpParse_any A n c _ W hr)
      rw [back_read h.len hok h.byt, back_code h.len hok h.byt] at hP
      have hD := Lib.hid (fun W (hW : Below w.heap.size w W) => h.below hW)
      have hsm := Lib.hid (sameI_refl m)
      replace e1 := 0
      clear h hok
      go_enter Try.func6, Try.ntmps6
      go_wp2_with (first
        | (go_at_call 14; refine (hB.out _ hb0.out).mono ?_; rintro e w1 ⟨A1, n1, c1, rfl, hr1, hB1⟩; have hv1 := Lib.hid (hvb.out.below hB1 (by simp)); have hb1 := Lib.hid (hb0.out.trans (hB1.mono hb0.out.size)); replace hB1 := 0)
        | (go_at_call 21; refine (hP.out _ _ _ _ hr1).mono ?_; rintro e w2 ⟨A2, n2, c2, rfl, ho2, hB2⟩; unfold cellsI; have hv2 := hv1.out.below hB2 hv1.out.lt; have z0 := hv2.at_ 0 _ rfl; have z1 := hv2.at_ 1 _ rfl; have z2 := hv2.at_ 2 _ rfl; have z3 := hv2.at_ 3 _ rfl; have hlt := hv2.lt; have hBt := hb1.out.trans (hB2.mono hb1.out.size); have hr3 := Lib.hid (ho2.rb.alloc (.cells (cellsI m A2 n2 c2) 24)); have hb2 := Lib.hid (hBt.alloc hBt.size (.cells (cellsI m A2 n2 c2) 24)); replace hv2 := 0; replace ho2 := 0; replace hB2 := 0; replace hBt := 0)
        | (go_at_call 19; refine (IcmpSame_any m m A A2 n c n2 c2 _ (hD.out _ hb2.out) hr3.out).mono ?_; rintro e w3 ⟨rfl, hB3⟩; rw [hsm.out]; have hBt := Lib.hid (hb2.out.trans (hB3.mono hb2.out.size)); replace hB3 := 0)
        | (go_at_call 13; refine (awake09 _).mono ?_; rintro e w4 ⟨rfl, hB4⟩)
        | fail)
      go_ret
      exact ⟨by first | rfl | simp, hBt.out.trans (hB4.mono hBt.out.size)⟩
    · have e1 : builtI? m n = [] := by unfold builtI?; rw [if_neg hok]
      rw [e1] at hB
      have hc := checkI_code m n
      generalize checkI m n = e0 at *
      replace e1 := 0
      clear h
      rcases hc with rfl | rfl | rfl
      · exact absurd rfl hok
      all_goals
        clear hok
        go_enter Try.func6, Try.ntmps6
        go_wp2_with (first
          | (go_at_call 14; refine (hB.out _ hb0.out).mono ?_; rintro e w1 ⟨A1, n1, c1, rfl, hr1, hB1⟩; obtain rfl : n1 = 0 := hr1.len.symm; have hb1 := Lib.hid (hb0.out.trans (hB1.mono hb0.out.size)); replace hB1 := 0; replace hr1 := 0)
          | (go_at_call 13; refine (awake09 _).mono ?_; rintro e w4 ⟨rfl, hB4⟩)
          | fail)
        go_ret
        exact ⟨by first | rfl | simp, hb1.out.trans (hB4.mono hb1.out.size)⟩
end Go.Proofs.Ytekngoallcogpaa
