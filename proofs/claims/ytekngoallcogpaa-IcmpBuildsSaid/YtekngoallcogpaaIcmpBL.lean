/- The law IcmpBuilds: its walk. -/
import Derived.Test.YtekngoallcogpaaAwake09
set_option linter.unusedVariables false
namespace Go.Proofs.Ytekngoallcogpaa
open Go.RowKit

theorem en_Equal (args : Array Value) (w : World) : (callFunc 16 args).run Try.prog w = .ok (.enter 16 args) w := enters Try.func16 (by kernel_rfl) (by kernel_rfl) args w
theorem en_ICheck (args : Array Value) (w : World) : (callFunc 17 args).run Try.prog w = .ok (.enter 17 args) w := enters Try.func17 (by kernel_rfl) (by kernel_rfl) args w
theorem en_RICheck (args : Array Value) (w : World) : (callFunc 18 args).run Try.prog w = .ok (.enter 18 args) w := enters Try.func18 (by kernel_rfl) (by kernel_rfl) args w
theorem en_ISame (args : Array Value) (w : World) : (callFunc 19 args).run Try.prog w = .ok (.enter 19 args) w := enters Try.func19 (by kernel_rfl) (by kernel_rfl) args w
theorem en_RISame (args : Array Value) (w : World) : (callFunc 20 args).run Try.prog w = .ok (.enter 20 args) w := enters Try.func20 (by kernel_rfl) (by kernel_rfl) args w
theorem en_Awake09 (args : Array Value) (w : World) : (callFunc 13 args).run Try.prog w = .ok (.enter 13 args) w := enters Try.func13 (by kernel_rfl) (by kernel_rfl) args w
theorem info_icmp : (Try.prog.info? 24).map (·.size) = some 4 := by kernel_rfl


set_option maxRecDepth 100000 in
set_option maxHeartbeats 4000000 in
theorem IcmpBuilds_walk (m : IcmpP) (A : Option Addr) (n c : Nat) (m' : IcmpP) (A' : Option Addr) (n' c' : Nat) (w : World) (hr : RB w A n c m.data) (hr' : RB w A' n' c' m'.data) :
    Calls Try.prog 3 #[.agg (cellsI m A n c), .agg (cellsI m' A' n' c')] w fun e w' => e = .returned (.bool true) ∧ Below w.heap.size w w' := by
  have hb := Lib.hid (((Below.refl _ w).alloc (Nat.le_refl _) (.cells (cellsI m A n c) 24)).alloc (by simp) (.cells (cellsI m' A' n' c') 24))
  have k1 := Lib.hid ((Blk.new w (cellsI m A n c) 24).alloc (.cells (cellsI m' A' n' c') 24))
  have k2 := Blk.new (w.alloc (.cells (cellsI m A n c) 24)) (cellsI m' A' n' c') 24
  rw [World.size_alloc] at k2
  replace k2 := Lib.hid k2
  by_cases hn : 3000 < n
  · skip
    go_enter Try.func3, Try.ntmps3
    go_wp2_with (go_at_call 13; refine (awake09 _).mono ?_; rintro e w' ⟨rfl, hb1⟩)
    go_ret
    exact ⟨rfl, hb.out.trans (hb1.mono hb.out.size)⟩
  · by_cases hn' : 3000 < n'
    · skip
      go_enter Try.func3, Try.ntmps3
      go_wp2_with (go_at_call 13; refine (awake09 _).mono ?_; rintro e w' ⟨rfl, hb1⟩)
      go_ret
      exact ⟨rfl, hb.out.trans (hb1.mono hb.out.size)⟩
    · have hB := Lib.hid (fun w' (hw : Below w.heap.size w w') => IcmpBuild_any m A n c w' (hr.below hw))
      have hRB := Lib.hid (fun w' (hw : Below w.heap.size w w') => RefIcmpBuild_any m A n c w' (hr.below hw))
      have hCk := Lib.hid (fun w' => IcmpCheck_any m A n c w')
      have hRCk := Lib.hid (fun w' => RefIcmpCheck_any m A n c w')
      have hSm := Lib.hid (fun w' (hw : Below w.heap.size w w') => IcmpSame_any m m' A A' n c n' c' w' (hr.below hw) (hr'.below hw))
      have hRSm := Lib.hid (fun w' (hw : Below w.heap.size w w') => RefIcmpSame_any m m' A A' n c n' c' w' (hr.below hw) (hr'.below hw))
      generalize builtI? m n = r at *
      generalize sameI m m' = sm at *
      generalize checkI m n = ck at *
      clear hr hr'
      go_enter Try.func3, Try.ntmps3
      go_wp2_with (first
        | (go_at_call 14; refine (hB.out _ hb.out).mono ?_; rintro e w1 ⟨A1, n1, c1, rfl, r1, hb1⟩; have hB1 := hb.out.trans (hb1.mono hb.out.size); have l1 := Lib.hid (k1.out.to hb1); have l2 := Lib.hid (k2.out.to hb1); obtain ⟨⟨z0, z1, z2, z3⟩, _⟩ := l1.out.z4; have hlt := l2.out.lt; replace hb1 := 0)
        | (go_at_call 15; refine (hRB.out _ hB1).mono ?_; rintro e w2 ⟨A2, n2, c2, rfl, r2, hb2⟩; replace r1 := r1.below hb2; have hB2 := hB1.trans (hb2.mono hB1.size); have m1 := l1.out.to hb2; have m2 := l2.out.to hb2; replace hb2 := 0)
        | fail)
      have hK : ∀ W W', (Blk W w.heap.size (cellsI m A n c) 24 ∧ Blk W (w.heap.size + 1) (cellsI m' A' n' c') 24 ∧ RB W A1 n1 c1 r ∧ RB W A2 n2 c2 r ∧ Below w.heap.size w W) → Below W.heap.size W W' →
          (Blk W' w.heap.size (cellsI m A n c) 24 ∧ Blk W' (w.heap.size + 1) (cellsI m' A' n' c') 24 ∧ RB W' A1 n1 c1 r ∧ RB W' A2 n2 c2 r ∧ Below w.heap.size w W') := fun W W' ⟨a1, a2, a3, a4, a5⟩ hW =>
        ⟨a1.to hW, a2.to hW, a3.below hW, a4.below hW, a5.trans (hW.mono a5.size)⟩
      have hS0 := hK w2 w2.drew ⟨m1, m2, r1, r2, hB2⟩ (Below.refl _ _).drew
      have hi1 := Lib.hid info_icmp
      replace hK := Lib.hid hK
      clear m1 m2 r1 r2 hB2 hB1 hB hRB z0 z1 z2 z3
      refine wp_region_tame (fun W => Blk W w.heap.size (cellsI m A n c) 24 ∧ Blk W (w.heap.size + 1) (cellsI m' A' n' c') 24 ∧ RB W A1 n1 c1 r ∧ RB W A2 n2 c2 r ∧ Below w.heap.size w W) (by kernel_rfl) (by kernel_rfl) hS0 ?_
      repeat (first
        | (refine tameL_skip rfl ?_; simp only [Act.put, List.setIfInBounds_toArray, List.set_cons_zero, List.set_cons_succ])
        | (refine tameL_row rfl 24 (.tmp 2) rfl w.heap.size rfl _ (cellsI m A n c) _ _ (fun W hS => hS.1.at_) Try.underlying24 rfl hi1.out ?_; simp only [Act.put, List.setIfInBounds_toArray, List.set_cons_zero, List.set_cons_succ])
        | (refine tameL_row rfl 24 (.tmp 3) rfl (w.heap.size + 1) rfl _ (cellsI m' A' n' c') _ _ (fun W hS => hS.2.1.at_) Try.underlying24 rfl hi1.out ?_; simp only [Act.put, List.setIfInBounds_toArray, List.set_cons_zero, List.set_cons_succ])
        | (refine tameL_call2 (v := .bool true) rfl 16 (.tmp 34) (.tmp 35) _ rfl en_Equal rfl rfl ?_ ?_; exact fun W hS => (toB (Equal_same _ _ _ _ _ _ _ W hS.2.2.1 hS.2.2.2.1)).mono fun e W' ⟨he, hb⟩ => ⟨he, hK.out W W' hS hb⟩; simp only [Act.put, List.setIfInBounds_toArray, List.set_cons_zero, List.set_cons_succ])
        | (refine tameL_call1 (v := .int .i64 ck) rfl 17 (.tmp 39) _ rfl en_ICheck rfl ?_ ?_; exact fun W hS => (hCk.out W).mono fun e W' ⟨he, hb⟩ => ⟨he, hK.out W W' hS hb⟩; simp only [Act.put, List.setIfInBounds_toArray, List.set_cons_zero, List.set_cons_succ])
        | (refine tameL_call1 (v := .int .i64 ck) rfl 18 (.tmp 41) _ rfl en_RICheck rfl ?_ ?_; exact fun W hS => (hRCk.out W).mono fun e W' ⟨he, hb⟩ => ⟨he, hK.out W W' hS hb⟩; simp only [Act.put, List.setIfInBounds_toArray, List.set_cons_zero, List.set_cons_succ])
        | (refine tameL_call2 (v := .bool sm) rfl 19 (.tmp 46) (.tmp 47) _ rfl en_ISame rfl rfl ?_ ?_; exact fun W hS => (hSm.out W hS.2.2.2.2).mono fun e W' ⟨he, hb⟩ => ⟨he, hK.out W W' hS hb⟩; simp only [Act.put, List.setIfInBounds_toArray, List.set_cons_zero, List.set_cons_succ])
        | (refine tameL_call2 (v := .bool sm) rfl 20 (.tmp 49) (.tmp 50) _ rfl en_RISame rfl rfl ?_ ?_; exact fun W hS => (hRSm.out W hS.2.2.2.2).mono fun e W' ⟨he, hb⟩ => ⟨he, hK.out W W' hS hb⟩; simp only [Act.put, List.setIfInBounds_toArray, List.set_cons_zero, List.set_cons_succ])
        | (refine tameL_call0 (v := .bool true) rfl 13 _ rfl en_Awake09 ?_ ?_; exact fun W hS => (awake09 W).mono fun e W' ⟨he, hb⟩ => ⟨he, hK.out W W' hS hb⟩; simp only [Act.put, List.setIfInBounds_toArray, List.set_cons_zero, List.set_cons_succ])
        | (refine tameL_val (v := ?_) rfl (fun W hS => ?_) ?_; rotate_left; (· (clear hS; go_simp; try with_reducible rfl)); simp only [Act.put, List.setIfInBounds_toArray, List.set_cons_zero, List.set_cons_succ]))
      refine tameL_nil fun W hS => ?_
      go_wp2
      go_ret
      exact ⟨rfl, hS.2.2.2.2⟩
end Go.Proofs.Ytekngoallcogpaa
