/- The law BeBack: its walk. -/
import Derived.Test.YtmoiodkehchjiaaLaw01
set_option linter.unusedVariables false
namespace Go.Proofs.Ytmoiodkehchjiaa
open Go.RowKit

theorem beNum_digL (x : Int) (s : Nat) (h : fitsP x s) : beNum (digL x s) = x := by
  obtain ⟨⟨h1, h2⟩, h3, h4⟩ := h
  rw [Int.toNat_natCast] at h4
  have hc : s = 1 ∨ s = 2 ∨ s = 3 ∨ s = 4 := by omega
  rcases hc with rfl | rfl | rfl | rfl <;> simp [digL, beNum, List.range_succ] at h4 ⊢ <;> omega
theorem getV_put (bs : List Int) (x : Int) (s : Nat) (h : fitsP x s) : getV (bs ++ digL x s) (bs.length : Int) s = (x, 0) := by
  have hs := h.1
  unfold getV
  rw [if_neg (by omega), if_neg (by rw [List.length_append, digL_length]; omega), Int.toNat_natCast, Int.toNat_natCast]
  have : cutI (bs ++ digL x s) bs.length s = digL x s := by
    unfold cutI
    rw [List.drop_left, List.take_of_length_le (by rw [digL_length]; omega)]
  rw [this, beNum_digL x s h]

set_option maxHeartbeats 1000000 in
theorem BeBack_walk (A : Option Addr) (n c : Nat) (bs : List Int) (x s : Int) (w : World) (h : RB w A n c bs) (x0 : -9223372036854775808 ≤ x) (x1 : x ≤ 9223372036854775807) (_s0 : -9223372036854775808 ≤ s) (_s1 : s ≤ 9223372036854775807) :
    Calls Try.prog 10 #[.slice A n c, .int .i64 x, .int .i64 s] w fun e w' => e = .returned (.bool true) ∧ Below w.heap.size w w' := by
  have hF := Lib.hid (fun w => Fits_any x s w x0 x1)
  have hR := Lib.hid (fun w => RefFits_any x s w)
  clear _s0 _s1
  by_cases hn : 2000 < n
  · clear x0 x1
    generalize fitsB x s = b at *
    go_enter Try.func10, Try.ntmps10
    go_wp2_with (first | (go_at_call 36; refine (hF.out _).mono ?_; rintro e w1 ⟨rfl, rfl⟩) | (go_at_call 37; refine (hR.out _).mono ?_; rintro e w1 ⟨rfl, rfl⟩) | (go_at_call 33; refine (awake01 _).mono ?_; rintro e w' ⟨rfl, hb1⟩))
    go_ret
    exact ⟨rfl, hb1⟩
  · by_cases hf : fitsP x s
    · have hs4 : s = 1 ∨ s = 2 ∨ s = 3 ∨ s = 4 := by have := hf.1; omega
      obtain ⟨s, rfl⟩ := Int.eq_ofNat_of_zero_le (show 0 ≤ s by omega)
      have hfb := fitsB_yes hf
      rw [hfb] at hF hR
      have hP := Lib.hid (Put_yes A n c bs x s w h (by omega) hf)
      have hgv := getV_put bs x s hf
      rw [h.len] at hgv
      clear hfb h hf x0 x1
      replace hF : Hid (∀ w, Calls Try.prog 36 #[.int .i64 x, .int .i64 s] w fun e w' => e = .returned (.bool true) ∧ w = w') := hF
      replace hgv := Lib.hid hgv
      go_enter Try.func10, Try.ntmps10
      go_wp2_with fail
      refine (hF.out _).mono ?_
      rintro e w1 ⟨rfl, rfl⟩
      go_wp2_with fail
      refine hP.out.mono ?_
      rintro e w1 ⟨A2, c2, rfl, ho, hb⟩
      have hG := Get_any A2 (n + s) c2 (bs ++ digL x s) n s w1 ho.rb (by omega)
      rw [hgv.out] at hG
      replace hG := Lib.hid hG
      go_wp2_with fail
      refine hG.out.mono ?_
      rintro e w2 ⟨rfl, rfl⟩
      go_wp2_with (go_at_call 33; refine (awake01 _).mono ?_; rintro e w' ⟨rfl, hb1⟩)
      go_ret
      exact ⟨rfl, hb.trans (hb1.mono hb.size)⟩
    · have hfb := fitsB_no hf
      rw [hfb] at hF hR
      clear hfb h hf x0 x1
      replace hF : Hid (∀ w, Calls Try.prog 36 #[.int .i64 x, .int .i64 s] w fun e w' => e = .returned (.bool false) ∧ w = w') := hF
      replace hR : Hid (∀ w, Calls Try.prog 37 #[.int .i64 x, .int .i64 s] w fun e w' => e = .returned (.bool false) ∧ w = w') := hR
      go_enter Try.func10, Try.ntmps10
      go_wp2_with (first | (go_at_call 36; refine (hF.out _).mono ?_; rintro e w1 ⟨rfl, rfl⟩) | (go_at_call 37; refine (hR.out _).mono ?_; rintro e w1 ⟨rfl, rfl⟩) | (go_at_call 33; refine (awake01 _).mono ?_; rintro e w' ⟨rfl, hb1⟩))
      go_ret
      exact ⟨rfl, hb1⟩
end Go.Proofs.Ytmoiodkehchjiaa
