/- Events: the law EventParses. -/
import Derived.Test.YtccdbelngjonaaaEventA
set_option linter.unusedVariables false
namespace Go.Proofs.Ytccdbelngjonaaa
open Go.RowKit

set_option maxRecDepth 100000 in
set_option maxHeartbeats 1000000 in
theorem EventParses_walk (A : Option Addr) (n c : Nat) (bs : List Int) (w : World) (h : RB w A n c bs) :
    Calls Try.prog 3 #[.slice A n c] w fun e w' => e = .returned (.bool true) ∧ Below w.heap.size w w' := by
  by_cases hbig : 3000 < n
  · have hbi : (3000 : Int) < n := by omega
    clear h
    go_enter Try.func3, Try.ntmps3
    go_wp2_with (first
      | (go_at_call 15; refine (awake36 _).mono ?_; rintro e W1 ⟨rfl, hB⟩; replace hB := Lib.hid hB)
      | fail)
    go_ret
    exact ⟨by first | rfl | simp, hB.out⟩
  · have hbi : ¬ (3000 : Int) < n := by omega
    have hO := fun W (hW : Below w.heap.size w W) => EvOne_any A n c bs W (h.below hW) (by omega)
    have hRO := fun W (hW : Below w.heap.size w W) => RefEvOne_any A n c bs W (h.below hW) (by omega)
    unfold OneOut at hO hRO
    have hP := fun W (hW : Below w.heap.size w W) => EvParse_any A n c bs W (h.below hW) (by omega)
    have hRP := fun W (hW : Below w.heap.size w W) => RefEvParse_any A n c bs W (h.below hW) (by omega)
    have hlen := h.len
    have hpl : (parseE bs).length ≤ 100000 := by
      have : ∀ f rest, (parseF f rest).length ≤ f := by
        intro f
        induction f with
        | zero => intro rest; exact Nat.le_refl _
        | succ f ih =>
          intro rest
          unfold parseF
          split
          · have := ih (rest.drop (oneN rest).toNat); rw [List.length_cons]; omega
          · exact Nat.zero_le _
      have := this (bs.length + 1) bs
      unfold parseE; omega
    generalize oneQ bs = q at *
    generalize oneN bs = v at *
    generalize oneB bs = ok at *
    generalize parseE bs = l at *
    replace hO := Lib.hid hO
    replace hRO := Lib.hid hRO
    replace hP := Lib.hid hP
    replace hRP := Lib.hid hRP
    have hbt := Lib.hid (Below.refl w.heap.size w)
    clear h hlen hbig
    have hSame := Lib.hid (fun A1 m1 c1 A2 m2 c2 W h1 h2 => by have := EvSame_any q q A1 m1 c1 A2 m2 c2 W h1 h2; rw [sameQ_refl] at this; exact this)
    have hRSame := Lib.hid (fun A1 m1 c1 A2 m2 c2 W h1 h2 => by have := RefEvSame_any q q A1 m1 c1 A2 m2 c2 W h1 h2; rw [sameQ_refl] at this; exact this)
    go_enter Try.func3, Try.ntmps3
    go_wp2_with (first
      | (go_at_call 16; refine (hO.out _ hbt.out).mono ?_; rintro e w1 ⟨A1, m1, c1, rfl, ho1, hB1⟩; have hb1 := Lib.hid hB1; replace ho1 := Lib.hid ho1.rb; replace hB1 := 0)
      | (refine wpList_store_E rfl (.tmp 3) (.tmp 16) rfl w1.heap.size (cellsQ q A1 m1 c1) rfl rfl _ (Blk.new w1 zeroQc 25) rfl rfl (one_Q _ _ _ _) ?_; have hbe : Below w1.heap.size w1 ((w1.alloc (.cells zeroQc 25)).setRow w1.heap.size (cellsQ q A1 m1 c1)) := below_row ((Below.refl _ w1).alloc (Nat.le_refl _) _) (Nat.le_refl _) _; have k1 : Blk ((w1.alloc (.cells zeroQc 25)).setRow w1.heap.size (cellsQ q A1 m1 c1)) w1.heap.size (cellsQ q A1 m1 c1) 25 := ⟨setRow_heap _ _ _ _ _ _ (Blk.new w1 zeroQc 25).at_⟩; generalize (w1.alloc (.cells zeroQc 25)).setRow w1.heap.size (cellsQ q A1 m1 c1) = w1s at *; (have hb1s := Lib.hid (hb1.out.trans (hbe.mono hb1.out.size)); have ho1s := Lib.hid (ho1.out.below hbe)); replace hbe := 0; replace k1 := Lib.hid k1)
      | (go_at_call 17; refine (hRO.out _ hb1s.out).mono ?_; rintro e w2 ⟨A2, m2, c2, rfl, ho2, hB2⟩; have hb2 := Lib.hid (hb1s.out.trans (hB2.mono hb1s.out.size)); have ho12 := Lib.hid (ho1s.out.below hB2); have k12 := Lib.hid (k1.out.to hB2); replace ho2 := Lib.hid ho2.rb; replace hB2 := 0)
      | (refine wpList_store_E rfl (.tmp 6) (.tmp 22) rfl w2.heap.size (cellsQ q A2 m2 c2) rfl rfl _ (Blk.new w2 zeroQc 25) rfl rfl (one_Q _ _ _ _) ?_; have hbe : Below w2.heap.size w2 ((w2.alloc (.cells zeroQc 25)).setRow w2.heap.size (cellsQ q A2 m2 c2)) := below_row ((Below.refl _ w2).alloc (Nat.le_refl _) _) (Nat.le_refl _) _; have k2 : Blk ((w2.alloc (.cells zeroQc 25)).setRow w2.heap.size (cellsQ q A2 m2 c2)) w2.heap.size (cellsQ q A2 m2 c2) 25 := ⟨setRow_heap _ _ _ _ _ _ (Blk.new w2 zeroQc 25).at_⟩; generalize (w2.alloc (.cells zeroQc 25)).setRow w2.heap.size (cellsQ q A2 m2 c2) = w2s at *; (have hb2s := Lib.hid (hb2.out.trans (hbe.mono hb2.out.size)); have ho13 := Lib.hid (ho12.out.below hbe); have ho2s := Lib.hid (ho2.out.below hbe); have k13 := Lib.hid (k12.out.to hbe)); replace hbe := 0; replace k2 := Lib.hid k2)
      | (refine wpList_load_E rfl (.tmp 6) rfl w2.heap.size rfl (cellsQ q A2 m2 c2) k23.out rfl ?_)
      | (refine wpList_load_E rfl (.tmp 3) rfl w1.heap.size rfl (cellsQ q A1 m1 c1) k14.out rfl ?_)
      | (refine wpList_load_E rfl (.tmp 6) rfl w2.heap.size rfl (cellsQ q A2 m2 c2) k2.out rfl ?_)
      | (refine wpList_load_E rfl (.tmp 3) rfl w1.heap.size rfl (cellsQ q A1 m1 c1) k13.out rfl ?_)
      | (go_at_call 18; refine (hRSame.out _ _ _ _ _ _ _ ho13.out ho2s.out).mono ?_; rintro e w3 ⟨rfl, hB3⟩; have hb3 := Lib.hid (hb2s.out.trans (hB3.mono hb2s.out.size)); have ho14 := Lib.hid (ho13.out.below hB3); have ho23 := Lib.hid (ho2s.out.below hB3); have k14 := Lib.hid (k13.out.to hB3); have k23 := Lib.hid (k2.out.to hB3); replace hB3 := 0)
      | (go_at_call 19; refine (hSame.out _ _ _ _ _ _ _ ho14.out ho23.out).mono ?_; rintro e w4 ⟨rfl, hB4⟩; have hb4 := Lib.hid (hb3.out.trans (hB4.mono hb3.out.size)); replace hB4 := 0)
      | (go_at_call 21; refine (hP.out _ hb4.out).mono ?_; rintro e w5 ⟨A5, n5, c5, rfl, hl5, hB5⟩; have hb5 := Lib.hid (hb4.out.trans (hB5.mono hb4.out.size)); replace hl5 := Lib.hid hl5; replace hB5 := 0)
      | (go_at_call 22; refine (hRP.out _ hb5.out).mono ?_; rintro e w6 ⟨A6, n6, c6, rfl, hl6, hB6⟩; have hb6 := Lib.hid (hb5.out.trans (hB6.mono hb5.out.size)); have hl56 := Lib.hid ((hl5.out.below hB6).lq); obtain rfl : n6 = n5 := hl6.len.symm.trans hl56.out.len; replace hl6 := Lib.hid hl6.lq; replace hB6 := 0)
      | (go_at_call 20; refine (EvSameL_any l _ _ _ _ _ _ hl56.out hl6.out (by rw [← hl6.out.len]; omega)).mono ?_; rintro e w7 ⟨rfl, hB7⟩; have hb7 := Lib.hid (hb6.out.trans (hB7.mono hb6.out.size)); replace hB7 := 0)
      | (go_at_call 15; refine (awake36 _).mono ?_; rintro e w8 ⟨rfl, hB8⟩; have hb8 := Lib.hid (hb7.out.trans (hB8.mono hb7.out.size)); replace hB8 := 0)
      | fail)
    go_ret
    exact ⟨by first | rfl | simp, hb8.out⟩
end Go.Proofs.Ytccdbelngjonaaa
