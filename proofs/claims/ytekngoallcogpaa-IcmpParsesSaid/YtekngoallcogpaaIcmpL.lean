/- The laws IcmpParses, IcmpBack: their walks. -/
import Derived.Test.YtekngoallcogpaaIcmpPlain
import Derived.Test.YtekngoallcogpaaAwake09
set_option linter.unusedVariables false
namespace Go.Proofs.Ytekngoallcogpaa
open Go.RowKit

theorem sameI_refl (m : IcmpP) : sameI m m = true := by simp [sameI]

set_option maxRecDepth 100000 in
set_option maxHeartbeats 2000000 in
theorem IcmpParses_walk (A : Option Addr) (n c : Nat) (bs : List Int) (w : World) (h : RB w A n c bs) :
    Calls Try.prog 4 #[.slice A n c] w fun e w' => e = .returned (.bool true) ∧ Below w.heap.size w w' := by
  by_cases hn : 3000 < n
  · clear h
    go_enter Try.func4, Try.ntmps4
    go_wp2_with (go_at_call 13; refine (awake09 _).mono ?_; rintro e w' ⟨rfl, hb1⟩)
    go_ret
    exact ⟨rfl, hb1⟩
  · have hP := Lib.hid (IcmpParse_any A n c bs w h)
    have hR := Lib.hid (fun W (hW : Below w.heap.size w W) => RefIcmpParse_any A n c bs W (h.below hW))
    have hsm := sameI_refl (readI bs)
    generalize readI bs = m at *
    generalize codeI bs = k at *
    replace hsm := Lib.hid hsm
    clear h
    go_enter Try.func4, Try.ntmps4
    go_wp2_with (first
      | (go_at_call 21; refine hP.out.mono ?_; rintro e w1 ⟨A1, n1, c1, rfl, ho1, hB1⟩; unfold cellsI; have hv1 := Lib.hid (VBox.new w1 (cellsI m A1 n1 c1) 24); have hr1 := Lib.hid (ho1.rb.alloc (.cells (cellsI m A1 n1 c1) 24)); have hb1 := Lib.hid (hB1.alloc hB1.size (.cells (cellsI m A1 n1 c1) 24)); replace ho1 := 0; replace hB1 := 0)
      | (go_at_call 22; refine (hR.out _ hb1.out).mono ?_; rintro e w2 ⟨A2, n2, c2, rfl, ho2, hB2⟩; unfold cellsI; have hv2 := hv1.out.below hB2 hv1.out.lt; have z0 := hv2.at_ 0 _ rfl; have z1 := hv2.at_ 1 _ rfl; have z2 := hv2.at_ 2 _ rfl; have z3 := hv2.at_ 3 _ rfl; have hlt := hv2.lt; have hr3 := Lib.hid ((hr1.out.below hB2).alloc (.cells (cellsI m A2 n2 c2) 24)); have hr4 := Lib.hid (ho2.rb.alloc (.cells (cellsI m A2 n2 c2) 24)); have hBt := hb1.out.trans (hB2.mono hb1.out.size); have hb2 := Lib.hid (hBt.alloc hBt.size (.cells (cellsI m A2 n2 c2) 24)); replace hv2 := 0; replace ho2 := 0; replace hB2 := 0; replace hBt := 0)
      | (go_at_call 20; refine (RefIcmpSame_any m m A1 A2 n1 c1 n2 c2 _ hr3.out hr4.out).mono ?_; rintro e w3 ⟨rfl, hB3⟩; rw [hsm.out]; have hBt := Lib.hid (hb2.out.trans (hB3.mono hb2.out.size)); replace hB3 := 0)
      | (go_at_call 13; refine (awake09 _).mono ?_; rintro e w4 ⟨rfl, hB4⟩)
      | fail)
    go_ret
    exact ⟨by first | rfl | simp, hBt.out.trans (hB4.mono hBt.out.size)⟩
end Go.Proofs.Ytekngoallcogpaa
