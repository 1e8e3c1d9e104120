/- Packets of IPv6 (v6): walks of read, Parse, Quoted. -/
import Derived.Test.YtbbdkfadcafpfaaRow6
set_option linter.unusedVariables false
namespace Go.Proofs.Ytbbdkfadcafpfaa
open Go Go.RowKit

set_option maxRecDepth 100000 in
set_option maxHeartbeats 1000000 in
theorem V6Read_bad (A : Option Addr) (n c : Nat) (bs : List Int) (q : Bool) (w : World) (h : RB w A n c bs) (hn : n ≤ 100000) (hbad : codeV6 q bs ≠ 0) :
    Calls Try.prog 57 #[.slice A n c, .bool q] w (V6Out w (readV6 q bs) (codeV6 q bs)) := by
  have hb0 := Lib.hid ((Below.refl _ w).alloc (Nat.le_refl _) (.cells zeroVc 26))
  have hz0 := Lib.hid (Blk.new w zeroVc 26)
  have hlen := h.len
  have hG1 := Lib.hid (fun W (hW : Below w.heap.size w W) => Get_any A n c bs 0 4 W (h.below hW) (by omega))
  have hG2 := Lib.hid (fun W (hW : Below w.heap.size w W) => Get_any A n c bs 4 2 W (h.below hW) (by omega))
  have hcode : codeV6 q bs = if n < 40 then 3 else if (getV bs 0 4).1 / 268435456 ≠ 6 then 4 else if (n : Int) - 40 < (getV bs 4 2).1 ∧ q = false then 3 else 0 := by unfold codeV6; rw [hlen]
  have hf := getV4_bd h.byt 0
  have hs := getV2_bd h.byt 4
  obtain ⟨hf0, hf1⟩ := hf
  obtain ⟨hs0, hs1⟩ := hs
  generalize (getV bs 0 4).1 = f at *
  generalize (getV bs 4 2).1 = s at *
  clear hlen h
  by_cases h40 : n < 40
  · have hk := Lib.hid (hcode.trans (if_pos h40))
    clear hcode hbad
    go_enter Try.func57, Try.ntmps57
    go_wp2_with (first
      | (go_at_call_of 54 (Value.int IntKind.i64 (0 : Int)); refine (hG1.out _ hb0.out).mono ?_; rintro e w1 ⟨rfl, rfl⟩)
      | (go_at_call 54; refine (hG2.out _ hb0.out).mono ?_; rintro e w1 ⟨rfl, rfl⟩)
      | (refine wpList_store_V rfl (.tmp 4) (.tmp 14) rfl w.heap.size zeroVc rfl rfl _ hz0.out rfl rfl (rowV_one rfl) ?_)
      | fail)
    exact bodyPost_ret (results_ct Try.results57 rfl (run_load_V (Blk.mk (setRow_heap _ _ _ zeroVc _ _ hz0.out.at_)) rfl)) rfl (V6Out.bad hk.out (by decide) (below_row hb0.out (Nat.le_refl _) _))
  · rw [if_neg h40] at hcode
    by_cases h6 : f / 268435456 = 6
    · rw [if_neg (by omega)] at hcode
      by_cases h3 : (n : Int) - 40 < s ∧ q = false
      · have hk := Lib.hid (hcode.trans (if_pos h3))
        clear hcode hbad
        obtain ⟨h3, rfl⟩ := h3
        have hne : (f / 268435456 != 6) = false := by simpa using h6
        replace h6 := 0
        go_enter Try.func57, Try.ntmps57
        go_wp2_with (first
          | (go_at_call_of 54 (Value.int IntKind.i64 (0 : Int)); refine (hG1.out _ hb0.out).mono ?_; rintro e w1 ⟨rfl, rfl⟩)
          | (go_at_call 54; refine (hG2.out _ hb0.out).mono ?_; rintro e w1 ⟨rfl, rfl⟩)
          | (refine wpList_store_V rfl (.tmp 4) (.tmp 40) rfl w.heap.size zeroVc rfl rfl _ hz0.out rfl rfl (rowV_one rfl) ?_)
          | fail)
        exact bodyPost_ret (results_ct Try.results57 rfl (run_load_V (Blk.mk (setRow_heap _ _ _ zeroVc _ _ hz0.out.at_)) rfl)) rfl (V6Out.bad hk.out (by decide) (below_row hb0.out (Nat.le_refl _) _))
      · exact absurd (hcode.trans (if_neg h3)) hbad
    · have hk := Lib.hid (hcode.trans (if_pos h6))
      have hne : (f / 268435456 != 6) = true := by simpa using h6
      clear hcode hbad
      go_enter Try.func57, Try.ntmps57
      go_wp2_with (first
        | (go_at_call_of 54 (Value.int IntKind.i64 (0 : Int)); refine (hG1.out _ hb0.out).mono ?_; rintro e w1 ⟨rfl, rfl⟩)
        | (go_at_call 54; refine (hG2.out _ hb0.out).mono ?_; rintro e w1 ⟨rfl, rfl⟩)
        | (refine wpList_store_V rfl (.tmp 4) (.tmp 29) rfl w.heap.size zeroVc rfl rfl _ hz0.out rfl rfl (rowV_one rfl) ?_)
        | fail)
      exact bodyPost_ret (results_ct Try.results57 rfl (run_load_V (Blk.mk (setRow_heap _ _ _ zeroVc _ _ hz0.out.at_)) rfl)) rfl (V6Out.bad hk.out (by decide) (below_row hb0.out (Nat.le_refl _) _))
end Go.Proofs.Ytbbdkfadcafpfaa
