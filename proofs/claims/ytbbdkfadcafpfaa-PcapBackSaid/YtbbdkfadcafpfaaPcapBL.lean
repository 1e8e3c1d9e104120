/- Captures: the laws PcapBuilds and PcapBack. -/
import Derived.Test.YtbbdkfadcafpfaaPcapA
import Derived.Test.YtbbdkfadcafpfaaPcapBR
set_option linter.unusedVariables false
namespace Go.Proofs.Ytbbdkfadcafpfaa
open Go Go.RowKit

set_option maxRecDepth 100000 in
set_option maxHeartbeats 1000000 in
theorem PcapBuilds_walk (A : Option Addr) (n c : Nat) (l : List QP) (w : World) (h : LQ w A n c l) :
    Calls Try.prog 9 #[.slice A n c] w fun e w' => e = .returned (.bool true) ∧ Below w.heap.size w w' := by
  have hbt := Lib.hid (Below.refl w.heap.size w)
  have hF := Lib.hid (fun W (hW : Below w.heap.size w W) => PFar_any A n c l W (h.below hW))
  cases hf : nearL l
  · rw [hf] at hF
    simp only [Bool.not_false] at hF
    clear h hf
    go_enter Try.func9, Try.ntmps9
    go_wp2_with (first
      | (go_at_call 37; refine (hF.out _ hbt.out).mono ?_; rintro e w1 ⟨rfl, hB1⟩; replace hB1 := Lib.hid hB1)
      | (go_at_call 38; refine (awake45 _).mono ?_; rintro e w2 ⟨rfl, hB2⟩; have hb2 := Lib.hid (hB1.out.trans (hB2.mono hB1.out.size)); replace hB2 := 0)
      | fail)
    go_ret
    exact ⟨by first | rfl | simp, hb2.out⟩
  · rw [hf] at hF
    simp only [Bool.not_true] at hF
    have hfew := nearL_few hf
    have hn30 := nearL_len hf
    rw [h.len] at hn30
    have hBd := Lib.hid (fun W (hW : Below w.heap.size w W) => PBuild_any A n c l W (h.below hW) hfew)
    have hO := Lib.hid (fun W (hW : Below w.heap.size w W) => POwn_any A n c l W (h.below hW) (by omega))
    have hR := Lib.hid (fun A2 c2 W (h2 : LQ W A2 n c2 l) => RefPBuild_any A2 n c2 l W h2 hfew)
    generalize builtR l = bb at *
    generalize codeR l = kk at *
    clear h hf hfew
    go_enter Try.func9, Try.ntmps9
    go_wp2_with (first
      | (go_at_call 37; refine (hF.out _ hbt.out).mono ?_; rintro e w1 ⟨rfl, hB1⟩; replace hB1 := Lib.hid hB1)
      | (go_at_call 39; refine (hBd.out _ hB1.out).mono ?_; rintro e w2 ⟨A2, n2, c2, rfl, hr2, hB2⟩; have hb2 := Lib.hid (hB1.out.trans (hB2.mono hB1.out.size)); replace hr2 := Lib.hid hr2; replace hB2 := 0)
      | (go_at_call 41; refine (hO.out _ hb2.out).mono ?_; rintro e w3 ⟨A3, c3, rfl, hl3, hB3⟩; have hb3 := Lib.hid (hb2.out.trans (hB3.mono hb2.out.size)); have hr3 := Lib.hid (hr2.out.below hB3); replace hl3 := Lib.hid hl3; replace hB3 := 0)
      | (go_at_call 40; refine (hR.out _ _ _ hl3.out).mono ?_; rintro e w4 ⟨A4, n4, c4, rfl, hr4, hB4⟩; have hb4 := Lib.hid (hb3.out.trans (hB4.mono hb3.out.size)); have hr34 := Lib.hid (hr3.out.below hB4); replace hr4 := Lib.hid hr4; replace hB4 := 0)
      | (go_at_call 16; refine (pequal_same _ _ _ _ _ _ _ _ hr34.out hr4.out).mono ?_; rintro e w5 ⟨rfl, rfl⟩)
      | (go_at_call 38; refine (awake45 _).mono ?_; rintro e w6 ⟨rfl, hB6⟩; have hb6 := Lib.hid (hb4.out.trans (hB6.mono hb4.out.size)); replace hB6 := 0)
      | fail)
    go_ret
    exact ⟨by first | rfl | simp, hb6.out⟩

set_option maxRecDepth 100000 in
set_option maxHeartbeats 1000000 in
theorem PcapBack_walk (A : Option Addr) (n c : Nat) (l : List QP) (w : World) (h : LQ w A n c l) :
    Calls Try.prog 10 #[.slice A n c] w fun e w' => e = .returned (.bool true) ∧ Below w.heap.size w w' := by
  have hbt := Lib.hid (Below.refl w.heap.size w)
  have hF := Lib.hid (fun W (hW : Below w.heap.size w W) => PFar_any A n c l W (h.below hW))
  cases hf : nearL l
  · rw [hf] at hF
    simp only [Bool.not_false] at hF
    clear h hf
    go_enter Try.func10, Try.ntmps10
    go_wp2_with (first
      | (go_at_call 37; refine (hF.out _ hbt.out).mono ?_; rintro e w1 ⟨rfl, hB1⟩; replace hB1 := Lib.hid hB1)
      | (go_at_call 38; refine (awake45 _).mono ?_; rintro e w2 ⟨rfl, hB2⟩; have hb2 := Lib.hid (hB1.out.trans (hB2.mono hB1.out.size)); replace hB2 := 0)
      | fail)
    go_ret
    exact ⟨by first | rfl | simp, hb2.out⟩
  · rw [hf] at hF
    simp only [Bool.not_true] at hF
    have hfew := nearL_few hf
    have hn30 := nearL_len hf
    rw [h.len] at hn30
    have hBd := fun W (hW : Below w.heap.size w W) => PBuild_any A n c l W (h.below hW) hfew
    cases ha : allR l
    · have e1 : builtR l = [] := by unfold builtR; rw [ha]; rfl
      have e2 : codeR l = 1 := by unfold codeR; rw [ha]; rfl
      rw [e1, e2] at hBd
      replace hBd := Lib.hid hBd
      clear h hf hfew ha e1 e2
      go_enter Try.func10, Try.ntmps10
      go_wp2_with (first
        | (go_at_call 37; refine (hF.out _ hbt.out).mono ?_; rintro e w1 ⟨rfl, hB1⟩; replace hB1 := Lib.hid hB1)
        | (go_at_call 39; refine (hBd.out _ hB1.out).mono ?_; rintro e w2 ⟨A2, n2, c2, rfl, hr2, hB2⟩; have hb2 := Lib.hid (hB1.out.trans (hB2.mono hB1.out.size)); obtain rfl : n2 = 0 := hr2.len.symm; replace hr2 := 0; replace hB2 := 0)
        | (go_at_call 38; refine (awake45 _).mono ?_; rintro e w6 ⟨rfl, hB6⟩; have hb6 := Lib.hid (hb2.out.trans (hB6.mono hb2.out.size)); replace hB6 := 0)
        | fail)
      go_ret
      exact ⟨by first | rfl | simp, hb6.out⟩
    · have e1 : builtR l = flatR l := by unfold builtR; rw [ha]; rfl
      have e2 : codeR l = 0 := by unfold codeR; rw [ha]; rfl
      rw [e1, e2] at hBd
      obtain ⟨p1, p2⟩ := back_R l ha
      have hfl : (flatR l).length ≤ 80664 := by
        have := flatR_small hfew l.length
        rwa [List.take_length] at this
      have hP := fun A1 n1 c1 W (h1 : RB W A1 n1 c1 (flatR l)) => PParse_any A1 n1 c1 _ W h1 (by have := h1.len; omega)
      unfold PParseOut at hP
      rw [p1, p2] at hP
      have hll := h.len
      have hO := Lib.hid (fun W (hW : Below w.heap.size w W) => POwn_any A n c l W (h.below hW) (by omega))
      have hO2 := Lib.hid (fun A2 c2 W (h2 : LQ W A2 n c2 l) => POwn_any A2 n c2 l W h2 (by omega))
      have hS := Lib.hid (fun A2 c2 A3 c3 W (h2 : LQ W A2 n c2 l) (h3 : LQ W A3 n c3 l) => PSameL_any l A2 n c2 A3 c3 W h2 h3 (by omega))
      generalize flatR l = bb at *
      replace hBd := Lib.hid hBd
      replace hP := Lib.hid hP
      replace hll := Lib.hid hll
      clear h hf hfew ha e1 e2 p1 p2 hfl
      go_enter Try.func10, Try.ntmps10
      go_wp2_with (first
        | (go_at_call 37; refine (hF.out _ hbt.out).mono ?_; rintro e w1 ⟨rfl, hB1⟩; replace hB1 := Lib.hid hB1)
        | (go_at_call 39; refine (hBd.out _ hB1.out).mono ?_; rintro e w2 ⟨A2, n2, c2, rfl, hr2, hB2⟩; have hb2 := Lib.hid (hB1.out.trans (hB2.mono hB1.out.size)); replace hr2 := Lib.hid hr2; replace hB2 := 0)
        | (go_at_call 42; refine (hP.out _ _ _ _ hr2.out).mono ?_; rintro e w3 ⟨A3, n3, c3, rfl, hl3, hB3⟩; have hb3 := Lib.hid (hb2.out.trans (hB3.mono hb2.out.size)); obtain rfl : n3 = n := hl3.len.symm.trans hll.out; replace hl3 := Lib.hid hl3; replace hB3 := 0)
        | (go_at_call_of 41 (Value.slice A3 n3 c3); refine (hO2.out _ _ _ hl3.out).mono ?_; rintro e w4 ⟨A4, c4, rfl, hl4, hB4⟩; have hb4 := Lib.hid (hb3.out.trans (hB4.mono hb3.out.size)); replace hl4 := Lib.hid hl4; replace hB4 := 0)
        | (go_at_call_of 41 (Value.slice A n3 c); refine (hO.out _ hb4.out).mono ?_; rintro e w5 ⟨A5, c5, rfl, hl5, hB5⟩; have hb5 := Lib.hid (hb4.out.trans (hB5.mono hb4.out.size)); have hl45 := Lib.hid (hl4.out.below hB5); replace hl5 := Lib.hid hl5; replace hB5 := 0)
        | (go_at_call 43; refine (hS.out _ _ _ _ _ hl45.out hl5.out).mono ?_; rintro e w6 ⟨rfl, hB6⟩; have hb6 := Lib.hid (hb5.out.trans (hB6.mono hb5.out.size)); replace hB6 := 0)
        | (go_at_call 38; refine (awake45 _).mono ?_; rintro e w7 ⟨rfl, hB7⟩; have hb7 := Lib.hid (hb6.out.trans (hB7.mono hb6.out.size)); replace hB7 := 0)
        | fail)
      go_ret
      exact ⟨by first | rfl | simp, hb7.out⟩
end Go.Proofs.Ytbbdkfadcafpfaa
