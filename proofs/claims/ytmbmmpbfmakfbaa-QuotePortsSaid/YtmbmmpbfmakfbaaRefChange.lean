/- Change of a sum in the reference, and the law SumChanges: walks. -/
import Derived.Test.YtmbmmpbfmakfbaaChange
set_option linter.unusedVariables false
namespace Go.Proofs.Ytmbmmpbfmakfbaa
open Go.RowKit

set_option maxHeartbeats 1000000 in
theorem RefChange_ok (A A' : Option Addr) (n c n' c' : Nat) (old now : List Int) (s : Int) (w : World) (h : RB w A n c old) (h' : RB w A' n' c' now) (hn : n ≤ 100000) (hn' : n' ≤ 100000) (s0 : 0 ≤ s) (s1 : s ≤ 65535) :
    Calls Try.prog 64 #[.int .i64 s, .slice A n c, .slice A' n' c'] w fun e w' => e = .returned (.int .i64 (65535 - foldI (chgT s old now))) ∧ Below w.heap.size w w' := by
  have hch : chgT s old now = 65535 - s + (65535 * (((n + 1) / 2 : Nat) : Int) - sumW old ((n + 1) / 2)) + sumW now ((n' + 1) / 2) := by
    have e1 : sumB old = sumW old ((n + 1) / 2) := by unfold sumB; rw [h.len]
    have e2 : sumB now = sumW now ((n' + 1) / 2) := by unfold sumB; rw [h'.len]
    unfold chgT; rw [e1, e2, h.len]; omega
  replace hch := Lib.hid hch
  go_enter Try.func64, Try.ntmps64
  go_wp2
  go_loopw [7, 8] (fun t i wr => ∃ j : Nat, 2 * j ≤ n + 1 ∧ i = .int .i64 (2 * (j : Int)) ∧ t = .int .i64 (65535 - s + (65535 * (j : Int) - sumW old j)) ∧ Below w.heap.size w wr) (fun _ i _ => n + 2 - (intOf i).toNat)
  case atStart => exact ⟨0, by omega, rfl, by simp [sumW], Below.refl _ _⟩
  case round =>
    obtain ⟨j, hj, rfl, rfl, hB⟩ := hrel
    have hw2 := sumW_bd h.byt j
    by_cases hlt : 2 * j < n
    · have hw1 := wordI_bd h.byt (2 * j)
      have hrb := h.below hB
      go_wp2_with (refine (RefWord_at A n c old (2 * (j : Int)) (2 * j) (by omega) _ hrb hn hlt).mono ?_; rintro e w' ⟨rfl, hb'⟩)
      go_roundw
      case rel => exact ⟨j + 1, by omega, by go_num, by simp only [sumW]; go_num, hB.trans (hb'.mono hB.size)⟩
      case measure => simp [intOf]; omega
    · obtain ⟨V, hV⟩ : ∃ V, V = 65535 - s + (65535 * (j : Int) - sumW old j) := ⟨_, rfl⟩
      rw [← hV]
      have hV0 : 0 ≤ V := by omega
      have hV1 : V ≤ 4000000000 := by omega
      have hch2 : chgT s old now = V + sumW now ((n' + 1) / 2) := by rw [hch.out, hV, show (n + 1) / 2 = j from by omega]
      replace hch2 := Lib.hid hch2
      clear hV hw2
      go_wp2
      obtain ⟨wo, hwo⟩ : ∃ wo : World, wo = wr := ⟨_, rfl⟩
      subst hwo
      go_loopw [7, 9] (fun t i wr => ∃ m : Nat, 2 * m ≤ n' + 1 ∧ i = .int .i64 (2 * (m : Int)) ∧ t = .int .i64 (V + sumW now m) ∧ Below w.heap.size w wr) (fun _ i _ => n' + 2 - (intOf i).toNat)
      case atStart => exact ⟨0, by omega, rfl, by simp [sumW], hB⟩
      case round =>
        obtain ⟨m, hm, rfl, rfl, hB2⟩ := hrel
        have hw3 := sumW_bd h'.byt m
        by_cases hlt2 : 2 * m < n'
        · have hw1 := wordI_bd h'.byt (2 * m)
          have hrb := h'.below hB2
          go_wp2_with (refine (RefWord_at A' n' c' now (2 * (m : Int)) (2 * m) (by omega) _ hrb hn' hlt2).mono ?_; rintro e w' ⟨rfl, hb'⟩)
          go_roundw
          case rel => exact ⟨m + 1, by omega, by go_num, by simp only [sumW]; go_num, hB2.trans (hb'.mono hB2.size)⟩
          case measure => simp [intOf]; omega
        · have hT : chgT s old now = V + sumW now m := by rw [hch2.out, show (n' + 1) / 2 = m from by omega]
          rw [← hT]
          have hT1 : chgT s old now ≤ 10000000000000 := by omega
          have hlo := foldI_lo (chgT s old now)
          have hhi := foldI_hi (chgT s old now)
          clear hT hw3
          go_wp2_with (go_at_call 74; refine (RefFold_any _ _ (by omega)).mono ?_; rintro e w' ⟨rfl, rfl⟩)
          go_ret
          exact ⟨rfl, hB2⟩

def Answers (v : Value) (w : World) (e : Ending) (w' : World) : Prop := e = .returned v ∧ Below w.heap.size w w'
theorem Change_any (A A' : Option Addr) (n c n' c' : Nat) (old now : List Int) (s : Int) (w : World) (h : RB w A n c old) (h' : RB w A' n' c' now) (hn : n ≤ 100000) (hn' : n' ≤ 100000) :
    Calls Try.prog 69 #[.int .i64 s, .slice A n c, .slice A' n' c'] w (Answers (.int .i64 (changeI s old now)) w) := by
  by_cases hs : s < 0 ∨ 65535 < s
  · refine (Change_bad A A' n c n' c' s w hs).mono ?_
    rintro e w' ⟨rfl, rfl⟩
    exact ⟨by unfold changeI; rw [if_pos hs], Below.refl _ _⟩
  · refine (Change_ok A A' n c n' c' old now s w h h' hn hn' (by omega) (by omega)).mono ?_
    rintro e w' ⟨rfl, hb⟩
    exact ⟨by unfold changeI; rw [if_neg hs], hb⟩
theorem RefChange_any (A A' : Option Addr) (n c n' c' : Nat) (old now : List Int) (s : Int) (w : World) (h : RB w A n c old) (h' : RB w A' n' c' now) (hn : n ≤ 100000) (hn' : n' ≤ 100000) :
    Calls Try.prog 64 #[.int .i64 s, .slice A n c, .slice A' n' c'] w (Answers (.int .i64 (changeI s old now)) w) := by
  by_cases hs : s < 0 ∨ 65535 < s
  · refine (RefChange_bad A A' n c n' c' s w hs).mono ?_
    rintro e w' ⟨rfl, rfl⟩
    exact ⟨by unfold changeI; rw [if_pos hs], Below.refl _ _⟩
  · refine (RefChange_ok A A' n c n' c' old now s w h h' hn hn' (by omega) (by omega)).mono ?_
    rintro e w' ⟨rfl, hb⟩
    exact ⟨by unfold changeI; rw [if_neg hs], hb⟩

end Go.Proofs.Ytmbmmpbfmakfbaa
