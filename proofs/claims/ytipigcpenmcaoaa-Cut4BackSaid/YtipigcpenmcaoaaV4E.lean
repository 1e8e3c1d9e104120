/- Packets of IPv4: lists of fields that are the same. -/
import Derived.Test.YtipigcpenmcaoaaV4S
import Derived.Test.YtipigcpenmcaoaaMid
set_option linter.unusedVariables false
namespace Go.Proofs.Ytipigcpenmcaoaa
open Go Go.RowKit
attribute [local go_sem] Oper.semAt_some

theorem info_fld : (Try.prog.info? 93).map (·.size) = some 2 := by kernel_rfl
theorem range2 {w : World} {b o : Nat} {v0 v1 : Value} (h0 : w.cell? ⟨b, o, none⟩ = some v0) (h1 : w.cell? ⟨b, o + 1, none⟩ = some v1) : w.rangeAt b o [v0, v1] := fun j v hj => by
  have hlt : j < 2 := (List.getElem?_eq_some_iff.1 hj).1
  have hc : j = 0 ∨ j = 1 := by omega
  rcases hc with rfl | rfl <;> (cases hj; assumption)
set_option maxRecDepth 100000 in
set_option maxHeartbeats 1000000 in
theorem EqualF_same (g g' k : Nat) (C : Array Value) (w : World) (h1 : Blk w g C 93) (h2 : Blk w g' C 93) (hk : k ≤ 100) (hC : ∀ j, j < k → ∃ x y : Int, C[j * 2]? = some (.int .i64 x) ∧ C[j * 2 + 1]? = some (.int .i64 y)) :
    Calls Try.prog 68 #[.slice (some ⟨g, 0, none⟩) k k, .slice (some ⟨g', 0, none⟩) k k] w fun e w' => e = .returned (.bool true) ∧ Below w.heap.size w w' := by
  have hbt := Lib.hid (Below.refl w.heap.size w)
  replace h1 := Lib.hid h1
  replace h2 := Lib.hid h2
  replace hC := Lib.hid hC
  go_enter Try.func68, Try.ntmps68
  go_wp2
  go_loopw [13] (fun i wr => ∃ j : Nat, j ≤ k ∧ i = .int .i64 j ∧ Below w.heap.size w wr) (fun i _ => k - (intOf i).toNat)
  case atStart => exact ⟨0, Nat.zero_le _, rfl, hbt.out⟩
  case round =>
    obtain ⟨j, hj, rfl, hBl⟩ := hrel
    by_cases hlt : j < k
    · obtain ⟨x, y, e0, e1⟩ := hC.out j hlt
      have hM1 := Lib.hid (fun W (hW : Below w.heap.size w W) => range2 ((h1.out.to hW).cell (j * 2) _ e0) ((h1.out.to hW).cell (j * 2 + 1) _ e1))
      have hM2 := Lib.hid (fun W (hW : Below w.heap.size w W) => range2 ((h2.out.to hW).cell (j * 2) _ e0) ((h2.out.to hW).cell (j * 2 + 1) _ e1))
      have hge : decide ((k : Int) ≤ (j : Int)) = false := by simp; omega
      have hge2 : decide (k ≤ j) = false := by simp; omega
      have hlti : (j : Int) < (k : Int) := by omega
      have hC1 := Lib.hid (show ∀ W, (fun W => Below w.heap.size w W) W → True ∧ True ∧ True from fun _ _ => ⟨trivial, trivial, trivial⟩)
      clear e0 e1
      go_wp2
      refine wp_region_tame (fun W => Below w.heap.size w W) (by kernel_rfl) (by kernel_rfl) hBl.drew ?_
      repeat (first
        | (refine tameL_skip rfl ?_; simp only [Act.put, List.setIfInBounds_toArray, List.set_cons_zero, List.set_cons_succ])
        | (refine tameL_mid rfl 93 (.tmp 18) rfl g (j * 2) rfl ([.int .i64 x, .int .i64 y]) _ (fun W hS => hM1.out W hS) Try.underlying93 rfl info_fld ?_; simp only [Act.put, List.setIfInBounds_toArray, List.set_cons_zero, List.set_cons_succ])
        | (refine tameL_mid rfl 93 (.tmp 22) rfl g' (j * 2) rfl ([.int .i64 x, .int .i64 y]) _ (fun W hS => hM2.out W hS) Try.underlying93 rfl info_fld ?_; simp only [Act.put, List.setIfInBounds_toArray, List.set_cons_zero, List.set_cons_succ])
        | (refine tameL_val (v := ?_) rfl (fun W hS => ?_) ?_; rotate_left; (· (obtain ⟨g0, g1, g2⟩ := hC1.out W hS; clear hS; go_simp; try with_reducible rfl)); simp only [Act.put, List.setIfInBounds_toArray, List.set_cons_zero, List.set_cons_succ]))
      refine tameL_nil fun W hS => ?_
      go_wp2
      go_roundw
      case rel => exact ⟨j + 1, by omega, by go_num, hS⟩
      case measure => simp [intOf]; omega
    · obtain rfl : j = k := by omega
      go_wp2
      go_ret
      exact ⟨by first | rfl | simp, hBl⟩
theorem flds4_two (p : V4P) (no n : Nat) : ∀ j, j < 10 → ∃ x y : Int, (flds4 p no n)[j * 2]? = some (.int .i64 x) ∧ (flds4 p no n)[j * 2 + 1]? = some (.int .i64 y) := fun j hj => by
  have hc : j = 0 ∨ j = 1 ∨ j = 2 ∨ j = 3 ∨ j = 4 ∨ j = 5 ∨ j = 6 ∨ j = 7 ∨ j = 8 ∨ j = 9 := by omega
  rcases hc with rfl | rfl | rfl | rfl | rfl | rfl | rfl | rfl | rfl | rfl <;> exact ⟨_, _, rfl, rfl⟩
end Go.Proofs.Ytipigcpenmcaoaa
