/- Events: the law's 'same' at two lists of the same events. -/
import Derived.Test.YtccdbelngjonaaaEventPR
import Derived.Test.YtccdbelngjonaaaMid
set_option linter.unusedVariables false
namespace Go.Proofs.Ytccdbelngjonaaa
open Go.RowKit

theorem en_EvRSame (args : Array Value) (w : World) : (callFunc 18 args).run Try.prog w = .ok (.enter 18 args) w := enters Try.func18 (by kernel_rfl) (by kernel_rfl) args w
set_option maxRecDepth 100000 in
set_option maxHeartbeats 4000000 in
theorem EvSameL_any (l : List QP) (A : Option Addr) (n c : Nat) (B : Option Addr) (d : Nat) (w : World) (hA : LQ w A n c l) (hB : LQ w B n d l) (hn : n ≤ 1000000) :
    Calls Try.prog 20 #[.slice A n c, .slice B n d] w fun e w' => e = .returned (.bool true) ∧ Below w.heap.size w w' := by
  have hbt := Lib.hid (Below.refl w.heap.size w)
  have hAm := Lib.hid (fun i (hi : i < n) => hA.mid hi)
  have hBm := Lib.hid (fun i (hi : i < n) => hB.mid hi)
  have hnc1 := hA.nc
  have hnc2 := hB.nc
  clear hA hB
  go_enter Try.func20, Try.ntmps20
  go_wp2
  go_loopw [5, 13] (fun _ i wr => ∃ k : Nat, k ≤ n ∧ i = .int .i64 k ∧ Below w.heap.size w wr) (fun _ i _ => n + 1 - (intOf i).toNat)
  case atStart => exact ⟨0, Nat.zero_le _, rfl, hbt.out⟩
  case round =>
    obtain ⟨k, hk, rfl, hBl⟩ := hrel
    by_cases hlt : k < n
    · obtain ⟨b, off, q, A1, m1, c1, rfl, hbl, hq, hr1, hd1⟩ := hAm.out k hlt
      obtain ⟨b', off', q', A2, m2, c2, rfl, hbl', hq', hr2, hd2⟩ := hBm.out k hlt
      obtain rfl : q' = q := by rw [hq] at hq'; exact (Option.some.inj hq').symm
      have hSm := Lib.hid (fun W (hW : Below w.heap.size w W) => RefEvSame_any q' q' A1 m1 c1 A2 m2 c2 W (hd1.below hW) (hd2.below hW))
      rw [sameQ_refl] at hSm
      have hK := Lib.hid (show ∀ W W', (fun W => Below w.heap.size w W) W → Below W.heap.size W W' → (fun W => Below w.heap.size w W) W' from fun W W' h1 h2 => h1.trans (h2.mono h1.size))
      have hM1 := Lib.hid (fun W (hW : Below w.heap.size w W) => rangeAt_below hr1 hW hbl)
      have hM2 := Lib.hid (fun W (hW : Below w.heap.size w W) => rangeAt_below hr2 hW hbl')
      have hge : decide ((n : Int) ≤ (k : Int)) = false := by simp; omega
      have hge2 : decide (n ≤ k) = false := by simp; omega
      have hlti : (k : Int) < (n : Int) := by omega
      have hC1 := Lib.hid (show ∀ W, (fun W => Below w.heap.size w W) W → True ∧ True ∧ True from fun _ _ => ⟨trivial, trivial, trivial⟩)
      replace hr1 := 0
      replace hr2 := 0
      replace hd1 := 0
      replace hd2 := 0
      clear hq hq' hbl hbl'
      go_wp2
      refine wp_region_tame (fun W => Below w.heap.size w W) (by kernel_rfl) (by kernel_rfl) hBl.drew ?_
      repeat (first
        | (refine tameL_skip rfl ?_; simp only [Act.put, List.setIfInBounds_toArray, List.set_cons_zero, List.set_cons_succ])
        | (refine tameL_mid rfl 25 (.tmp 18) rfl b (off + k * 4) rfl ([.int .i64 q'.x, .int .i64 q'.y, .int .i64 q'.z, .slice A1 m1 c1]) _ (fun W hS => hM1.out W hS) Try.underlying25 rfl info_event ?_; simp only [Act.put, List.setIfInBounds_toArray, List.set_cons_zero, List.set_cons_succ])
        | (refine tameL_mid rfl 25 (.tmp 22) rfl b' (off' + k * 4) rfl ([.int .i64 q'.x, .int .i64 q'.y, .int .i64 q'.z, .slice A2 m2 c2]) _ (fun W hS => hM2.out W hS) Try.underlying25 rfl info_event ?_; simp only [Act.put, List.setIfInBounds_toArray, List.set_cons_zero, List.set_cons_succ])
        | (refine tameL_call2 (v := .bool true) rfl 18 (.tmp 19) (.tmp 23) _ rfl en_EvRSame rfl rfl ?_ ?_; exact fun W hS => (hSm.out W hS).mono fun e W' ⟨he, hb⟩ => ⟨he, hK.out W W' hS hb⟩; simp only [Act.put, List.setIfInBounds_toArray, List.set_cons_zero, List.set_cons_succ])
        | (refine tameL_val (v := ?_) rfl (fun W hS => ?_) ?_; rotate_left; (· (obtain ⟨g0, g1, g2⟩ := hC1.out W hS; clear hS; go_simp; try with_reducible rfl)); simp only [Act.put, List.setIfInBounds_toArray, List.set_cons_zero, List.set_cons_succ]))
      refine tameL_nil fun W hS => ?_
      go_wp2
      go_roundw
      case rel => exact ⟨k + 1, by omega, by go_num, hS⟩
      case measure => simp [intOf]; omega
    · obtain rfl : k = n := by omega
      go_wp2
      go_ret
      exact ⟨by first | rfl | simp, hBl⟩
end Go.Proofs.Ytccdbelngjonaaa
