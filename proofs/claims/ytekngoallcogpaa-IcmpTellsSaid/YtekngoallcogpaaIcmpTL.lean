/- The law IcmpTells: its walk. -/
import Derived.Test.YtekngoallcogpaaAwake09
import Derived.Test.YtekngoallcogpaaLoose
import Derived.Test.YtekngoallcogpaaIcmpL
set_option linter.unusedVariables false
namespace Go.Proofs.Ytekngoallcogpaa
open Go.RowKit

theorem en_Fault (args : Array Value) (w : World) : (callFunc 23 args).run Try.prog w = .ok (.enter 23 args) w := enters Try.func23 (by kernel_rfl) (by kernel_rfl) args w
theorem en_RFault (args : Array Value) (w : World) : (callFunc 24 args).run Try.prog w = .ok (.enter 24 args) w := enters Try.func24 (by kernel_rfl) (by kernel_rfl) args w
theorem en_Query (args : Array Value) (w : World) : (callFunc 25 args).run Try.prog w = .ok (.enter 25 args) w := enters Try.func25 (by kernel_rfl) (by kernel_rfl) args w
theorem en_RQuery (args : Array Value) (w : World) : (callFunc 26 args).run Try.prog w = .ok (.enter 26 args) w := enters Try.func26 (by kernel_rfl) (by kernel_rfl) args w
theorem en_ID (args : Array Value) (w : World) : (callFunc 27 args).run Try.prog w = .ok (.enter 27 args) w := enters Try.func27 (by kernel_rfl) (by kernel_rfl) args w
theorem en_RID (args : Array Value) (w : World) : (callFunc 28 args).run Try.prog w = .ok (.enter 28 args) w := enters Try.func28 (by kernel_rfl) (by kernel_rfl) args w
theorem en_With (args : Array Value) (w : World) : (callFunc 29 args).run Try.prog w = .ok (.enter 29 args) w := enters Try.func29 (by kernel_rfl) (by kernel_rfl) args w
theorem en_RWith (args : Array Value) (w : World) : (callFunc 30 args).run Try.prog w = .ok (.enter 30 args) w := enters Try.func30 (by kernel_rfl) (by kernel_rfl) args w
theorem en_TSame (args : Array Value) (w : World) : (callFunc 20 args).run Try.prog w = .ok (.enter 20 args) w := enters Try.func20 (by kernel_rfl) (by kernel_rfl) args w
theorem en_TAwake (args : Array Value) (w : World) : (callFunc 13 args).run Try.prog w = .ok (.enter 13 args) w := enters Try.func13 (by kernel_rfl) (by kernel_rfl) args w
theorem info_icmpT : (Try.prog.info? 24).map (·.size) = some 4 := by kernel_rfl

/-- A message in a slot. -/
def MsgR (m : IcmpP) : Rl := fun u W => ∃ A n c, u = .agg (cellsI m A n c) ∧ RB W A n c m.data
theorem MsgR.stable (m : IcmpP) : StableR (MsgR m) := fun u w w' ⟨A, n, c, h1, h2⟩ hb => ⟨A, n, c, h1, h2.below hb⟩

set_option maxRecDepth 100000 in
set_option maxHeartbeats 4000000 in
theorem IcmpTells_walk (kd id : Int) (m : IcmpP) (A : Option Addr) (n c : Nat) (w : World) (_h1 : -9223372036854775808 ≤ kd) (_h2 : kd ≤ 9223372036854775807) (_h3 : -9223372036854775808 ≤ id) (_h4 : id ≤ 9223372036854775807) (hr : RB w A n c m.data) :
    Calls Try.prog 5 #[.int .i64 kd, .int .i64 id, .agg (cellsI m A n c)] w fun e w' => e = .returned (.bool true) ∧ Below w.heap.size w w' := by
  have hb := Lib.hid ((Below.refl _ w).alloc (Nat.le_refl _) (.cells (cellsI m A n c) 24))
  have k1 := Lib.hid (Blk.new w (cellsI m A n c) 24)
  clear _h1 _h2 _h3 _h4
  by_cases hn : 3000 < n
  · go_enter Try.func5, Try.ntmps5
    go_wp2_with (go_at_call 13; refine (awake09 _).mono ?_; rintro e w' ⟨rfl, hb1⟩)
    go_ret
    exact ⟨rfl, hb.out.trans (hb1.mono hb.out.size)⟩
  · have hW := Lib.hid (fun w' (hw : Below w.heap.size w w') => IcmpWithID_any m id A n c w' (hr.below hw) (by omega))
    have hRW := Lib.hid (fun w' (hw : Below w.heap.size w w') => RefIcmpWithID_any m id A n c w' (hr.below hw) (by omega))
    have hID := Lib.hid (fun w' => IcmpID_any m A n c w')
    have hRID := Lib.hid (fun w' => RefIcmpID_any m A n c w')
    have hF := Lib.hid (fun w' => Fault_any kd w')
    have hRF := Lib.hid (fun w' => toB (RefFault_any kd w'))
    have hQ := Lib.hid (fun w' => Query_any kd w')
    have hRQ := Lib.hid (fun w' => toB (RefQuery_any kd w'))
    have hno := no_both kd
    have hsm := sameI_refl (withI m id)
    generalize withI m id = m9 at *
    generalize idI m = i9 at *
    generalize faultI kd = f9 at *
    generalize queryI kd = q9 at *
    replace hsm := Lib.hid hsm
    have hK : ∀ W W', (Blk W w.heap.size (cellsI m A n c) 24 ∧ Below w.heap.size w W) → Below W.heap.size W W' → (Blk W' w.heap.size (cellsI m A n c) 24 ∧ Below w.heap.size w W') := fun W W' ⟨a1, a2⟩ hW => ⟨a1.to hW, a2.trans (hW.mono a2.size)⟩
    have hS0 := hK _ _ ⟨k1.out, hb.out⟩ (Below.refl _ _).drew
    have hi1 := Lib.hid info_icmpT
    replace hK := Lib.hid hK
    clear hr
    have hcase : (f9 = false ∧ q9 = false) ∨ (f9 = false ∧ q9 = true) ∨ (f9 = true ∧ q9 = false) := by cases f9 <;> cases q9 <;> simp_all
    clear hno
    rcases hcase with ⟨rfl, rfl⟩ | ⟨rfl, rfl⟩ | ⟨rfl, rfl⟩
    · skip
      go_enter Try.func5, Try.ntmps5
      go_wp2
      refine wp_region_loose (fun W => Blk W w.heap.size (cellsI m A n c) 24 ∧ Below w.heap.size w W) (by kernel_rfl) (by kernel_rfl) (by kernel_rfl) hS0 ?_
      repeat (first
        | (refine looseL_skip (by rfl) (by rfl) rfl ?_; simp only [putV, List.setIfInBounds_toArray, List.set_cons_zero, List.set_cons_succ])
        | (refine looseL_row (by rfl) (by rfl) (by rfl) rfl 24 (.tmp 5) rfl w.heap.size rfl _ (cellsI m A n c) _ _ (fun W hS => hS.1.at_) Try.underlying24 rfl hi1.out ?_; simp only [putV, List.setIfInBounds_toArray, List.set_cons_zero, List.set_cons_succ])
        | (refine looseL_call1 (v := .bool false) (by rfl) rfl 23 (.tmp 12) _ rfl en_Fault (by rfl) ?_ ?_; (intro vx W hS hx; cases hx; exact (hF.out W).mono fun e W' ⟨he, hb⟩ => ⟨he, hK.out W W' hS hb, hb⟩); simp only [putV, List.setIfInBounds_toArray, List.set_cons_zero, List.set_cons_succ])
        | (refine looseL_call1 (v := .bool false) (by rfl) rfl 23 (.tmp 25) _ rfl en_Fault (by rfl) ?_ ?_; (intro vx W hS hx; cases hx; exact (hF.out W).mono fun e W' ⟨he, hb⟩ => ⟨he, hK.out W W' hS hb, hb⟩); simp only [putV, List.setIfInBounds_toArray, List.set_cons_zero, List.set_cons_succ])
        | (refine looseL_call1 (v := .bool false) (by rfl) rfl 24 (.tmp 14) _ rfl en_RFault (by rfl) ?_ ?_; (intro vx W hS hx; cases hx; exact (hRF.out W).mono fun e W' ⟨he, hb⟩ => ⟨he, hK.out W W' hS hb, hb⟩); simp only [putV, List.setIfInBounds_toArray, List.set_cons_zero, List.set_cons_succ])
        | (refine looseL_call1 (v := .bool false) (by rfl) rfl 25 (.tmp 18) _ rfl en_Query (by rfl) ?_ ?_; (intro vx W hS hx; cases hx; exact (hQ.out W).mono fun e W' ⟨he, hb⟩ => ⟨he, hK.out W W' hS hb, hb⟩); simp only [putV, List.setIfInBounds_toArray, List.set_cons_zero, List.set_cons_succ])
        | (refine looseL_call1 (v := .bool false) (by rfl) rfl 25 (.tmp 28) _ rfl en_Query (by rfl) ?_ ?_; (intro vx W hS hx; cases hx; exact (hQ.out W).mono fun e W' ⟨he, hb⟩ => ⟨he, hK.out W W' hS hb, hb⟩); simp only [putV, List.setIfInBounds_toArray, List.set_cons_zero, List.set_cons_succ])
        | (refine looseL_call1 (v := .bool false) (by rfl) rfl 26 (.tmp 20) _ rfl en_RQuery (by rfl) ?_ ?_; (intro vx W hS hx; cases hx; exact (hRQ.out W).mono fun e W' ⟨he, hb⟩ => ⟨he, hK.out W W' hS hb, hb⟩); simp only [putV, List.setIfInBounds_toArray, List.set_cons_zero, List.set_cons_succ])
        | (refine looseL_call1 (v := .int .i64 i9) (by rfl) rfl 27 (.tmp 34) _ rfl en_ID (by rfl) ?_ ?_; (intro vx W hS hx; cases hx; exact (hID.out W).mono fun e W' ⟨he, hb⟩ => ⟨he, hK.out W W' hS hb, hb⟩); simp only [putV, List.setIfInBounds_toArray, List.set_cons_zero, List.set_cons_succ])
        | (refine looseL_call1 (v := .int .i64 i9) (by rfl) rfl 28 (.tmp 36) _ rfl en_RID (by rfl) ?_ ?_; (intro vx W hS hx; cases hx; exact (hRID.out W).mono fun e W' ⟨he, hb⟩ => ⟨he, hK.out W W' hS hb, hb⟩); simp only [putV, List.setIfInBounds_toArray, List.set_cons_zero, List.set_cons_succ])
        | (refine looseL_call2E (d := 43) (MsgR m9) (by rfl) rfl 29 (.tmp 41) (.tmp 42) _ rfl en_With rfl (MsgR.stable m9) ?_ ?_; (intro vx vy W hS hx hy; cases hx; cases hy; exact (hW.out W hS.2).mono fun e W' ⟨A9, n9, c9, he, ho, hb⟩ => ⟨⟨_, he, A9, n9, c9, rfl, ho.rb⟩, hK.out W W' hS hb, hb⟩))
        | (refine looseL_call2E (d := 46) (MsgR m9) (by rfl) rfl 30 (.tmp 44) (.tmp 45) _ rfl en_RWith rfl (MsgR.stable m9) ?_ ?_; (intro vx vy W hS hx hy; cases hx; cases hy; exact (hRW.out W hS.2).mono fun e W' ⟨A9, n9, c9, he, ho, hb⟩ => ⟨⟨_, he, A9, n9, c9, rfl, ho.rb⟩, hK.out W W' hS hb, hb⟩))
        | (refine looseL_call2 (v := .bool true) (by rfl) rfl 20 (.tmp 43) (.tmp 46) _ rfl en_TSame (by rfl) ?_ ?_; (intro vx vy W hS hx hy; obtain ⟨A8, n8, c8, rfl, r8⟩ := hx; obtain ⟨A9, n9, c9, rfl, r9⟩ := hy; exact (RefIcmpSame_any m9 m9 A8 A9 n8 c8 n9 c9 W r8 r9).mono fun e W' ⟨he, hb⟩ => ⟨by rw [he, hsm.out], hK.out W W' hS hb, hb⟩); simp only [putV, List.setIfInBounds_toArray, List.set_cons_zero, List.set_cons_succ])
        | (refine looseL_call0 (v := .bool true) (by rfl) rfl 13 _ rfl en_TAwake (by rfl) ?_ ?_; (intro W hS; exact (awake09 W).mono fun e W' ⟨he, hb⟩ => ⟨he, hK.out W W' hS hb, hb⟩); simp only [putV, List.setIfInBounds_toArray, List.set_cons_zero, List.set_cons_succ])
        | (refine looseL_val (v := ?_) (by rfl) (by rfl) (by rfl) rfl (fun W hS => ?_) ?_; rotate_left; (· (clear hS; go_simp; try with_reducible rfl)); simp only [putV, List.setIfInBounds_toArray, List.set_cons_zero, List.set_cons_succ]))
      refine looseL_nil fun a W hS hsz hds hR => ?_
      have hfin : a.tmps.getD 6 undef = .bool true := hR 6 (by simp)
      obtain ⟨T, D⟩ := a
      have hD : D = [] := hds
      subst hD
      have hfin2 : T[6]?.getD undef = .bool true := by simpa using hfin
      clear hR hsz hds
      go_wp2
      exact bodyPost_ret (v := .bool true) (by simp [results, Try.results5, go_sem, hfin2]) rfl ⟨rfl, hS.2⟩
    · skip
      go_enter Try.func5, Try.ntmps5
      go_wp2
      refine wp_region_loose (fun W => Blk W w.heap.size (cellsI m A n c) 24 ∧ Below w.heap.size w W) (by kernel_rfl) (by kernel_rfl) (by kernel_rfl) hS0 ?_
      repeat (first
        | (refine looseL_skip (by rfl) (by rfl) rfl ?_; simp only [putV, List.setIfInBounds_toArray, List.set_cons_zero, List.set_cons_succ])
        | (refine looseL_row (by rfl) (by rfl) (by rfl) rfl 24 (.tmp 5) rfl w.heap.size rfl _ (cellsI m A n c) _ _ (fun W hS => hS.1.at_) Try.underlying24 rfl hi1.out ?_; simp only [putV, List.setIfInBounds_toArray, List.set_cons_zero, List.set_cons_succ])
        | (refine looseL_call1 (v := .bool false) (by rfl) rfl 23 (.tmp 12) _ rfl en_Fault (by rfl) ?_ ?_; (intro vx W hS hx; cases hx; exact (hF.out W).mono fun e W' ⟨he, hb⟩ => ⟨he, hK.out W W' hS hb, hb⟩); simp only [putV, List.setIfInBounds_toArray, List.set_cons_zero, List.set_cons_succ])
        | (refine looseL_call1 (v := .bool false) (by rfl) rfl 23 (.tmp 25) _ rfl en_Fault (by rfl) ?_ ?_; (intro vx W hS hx; cases hx; exact (hF.out W).mono fun e W' ⟨he, hb⟩ => ⟨he, hK.out W W' hS hb, hb⟩); simp only [putV, List.setIfInBounds_toArray, List.set_cons_zero, List.set_cons_succ])
        | (refine looseL_call1 (v := .bool false) (by rfl) rfl 24 (.tmp 14) _ rfl en_RFault (by rfl) ?_ ?_; (intro vx W hS hx; cases hx; exact (hRF.out W).mono fun e W' ⟨he, hb⟩ => ⟨he, hK.out W W' hS hb, hb⟩); simp only [putV, List.setIfInBounds_toArray, List.set_cons_zero, List.set_cons_succ])
        | (refine looseL_call1 (v := .bool true) (by rfl) rfl 25 (.tmp 18) _ rfl en_Query (by rfl) ?_ ?_; (intro vx W hS hx; cases hx; exact (hQ.out W).mono fun e W' ⟨he, hb⟩ => ⟨he, hK.out W W' hS hb, hb⟩); simp only [putV, List.setIfInBounds_toArray, List.set_cons_zero, List.set_cons_succ])
        | (refine looseL_call1 (v := .bool true) (by rfl) rfl 25 (.tmp 28) _ rfl en_Query (by rfl) ?_ ?_; (intro vx W hS hx; cases hx; exact (hQ.out W).mono fun e W' ⟨he, hb⟩ => ⟨he, hK.out W W' hS hb, hb⟩); simp only [putV, List.setIfInBounds_toArray, List.set_cons_zero, List.set_cons_succ])
        | (refine looseL_call1 (v := .bool true) (by rfl) rfl 26 (.tmp 20) _ rfl en_RQuery (by rfl) ?_ ?_; (intro vx W hS hx; cases hx; exact (hRQ.out W).mono fun e W' ⟨he, hb⟩ => ⟨he, hK.out W W' hS hb, hb⟩); simp only [putV, List.setIfInBounds_toArray, List.set_cons_zero, List.set_cons_succ])
        | (refine looseL_call1 (v := .int .i64 i9) (by rfl) rfl 27 (.tmp 34) _ rfl en_ID (by rfl) ?_ ?_; (intro vx W hS hx; cases hx; exact (hID.out W).mono fun e W' ⟨he, hb⟩ => ⟨he, hK.out W W' hS hb, hb⟩); simp only [putV, List.setIfInBounds_toArray, List.set_cons_zero, List.set_cons_succ])
        | (refine looseL_call1 (v := .int .i64 i9) (by rfl) rfl 28 (.tmp 36) _ rfl en_RID (by rfl) ?_ ?_; (intro vx W hS hx; cases hx; exact (hRID.out W).mono fun e W' ⟨he, hb⟩ => ⟨he, hK.out W W' hS hb, hb⟩); simp only [putV, List.setIfInBounds_toArray, List.set_cons_zero, List.set_cons_succ])
        | (refine looseL_call2E (d := 43) (MsgR m9) (by rfl) rfl 29 (.tmp 41) (.tmp 42) _ rfl en_With rfl (MsgR.stable m9) ?_ ?_; (intro vx vy W hS hx hy; cases hx; cases hy; exact (hW.out W hS.2).mono fun e W' ⟨A9, n9, c9, he, ho, hb⟩ => ⟨⟨_, he, A9, n9, c9, rfl, ho.rb⟩, hK.out W W' hS hb, hb⟩))
        | (refine looseL_call2E (d := 46) (MsgR m9) (by rfl) rfl 30 (.tmp 44) (.tmp 45) _ rfl en_RWith rfl (MsgR.stable m9) ?_ ?_; (intro vx vy W hS hx hy; cases hx; cases hy; exact (hRW.out W hS.2).mono fun e W' ⟨A9, n9, c9, he, ho, hb⟩ => ⟨⟨_, he, A9, n9, c9, rfl, ho.rb⟩, hK.out W W' hS hb, hb⟩))
        | (refine looseL_call2 (v := .bool true) (by rfl) rfl 20 (.tmp 43) (.tmp 46) _ rfl en_TSame (by rfl) ?_ ?_; (intro vx vy W hS hx hy; obtain ⟨A8, n8, c8, rfl, r8⟩ := hx; obtain ⟨A9, n9, c9, rfl, r9⟩ := hy; exact (RefIcmpSame_any m9 m9 A8 A9 n8 c8 n9 c9 W r8 r9).mono fun e W' ⟨he, hb⟩ => ⟨by rw [he, hsm.out], hK.out W W' hS hb, hb⟩); simp only [putV, List.setIfInBounds_toArray, List.set_cons_zero, List.set_cons_succ])
        | (refine looseL_call0 (v := .bool true) (by rfl) rfl 13 _ rfl en_TAwake (by rfl) ?_ ?_; (intro W hS; exact (awake09 W).mono fun e W' ⟨he, hb⟩ => ⟨he, hK.out W W' hS hb, hb⟩); simp only [putV, List.setIfInBounds_toArray, List.set_cons_zero, List.set_cons_succ])
        | (refine looseL_val (v := ?_) (by rfl) (by rfl) (by rfl) rfl (fun W hS => ?_) ?_; rotate_left; (· (clear hS; go_simp; try with_reducible rfl)); simp only [putV, List.setIfInBounds_toArray, List.set_cons_zero, List.set_cons_succ]))
      refine looseL_nil fun a W hS hsz hds hR => ?_
      have hfin : a.tmps.getD 6 undef = .bool true := hR 6 (by simp)
      obtain ⟨T, D⟩ := a
      have hD : D = [] := hds
      subst hD
      have hfin2 : T[6]?.getD undef = .bool true := by simpa using hfin
      clear hR hsz hds
      go_wp2
      exact bodyPost_ret (v := .bool true) (by simp [results, Try.results5, go_sem, hfin2]) rfl ⟨rfl, hS.2⟩
    · skip
      go_enter Try.func5, Try.ntmps5
      go_wp2
      refine wp_region_loose (fun W => Blk W w.heap.size (cellsI m A n c) 24 ∧ Below w.heap.size w W) (by kernel_rfl) (by kernel_rfl) (by kernel_rfl) hS0 ?_
      repeat (first
        | (refine looseL_skip (by rfl) (by rfl) rfl ?_; simp only [putV, List.setIfInBounds_toArray, List.set_cons_zero, List.set_cons_succ])
        | (refine looseL_row (by rfl) (by rfl) (by rfl) rfl 24 (.tmp 5) rfl w.heap.size rfl _ (cellsI m A n c) _ _ (fun W hS => hS.1.at_) Try.underlying24 rfl hi1.out ?_; simp only [putV, List.setIfInBounds_toArray, List.set_cons_zero, List.set_cons_succ])
        | (refine looseL_call1 (v := .bool true) (by rfl) rfl 23 (.tmp 12) _ rfl en_Fault (by rfl) ?_ ?_; (intro vx W hS hx; cases hx; exact (hF.out W).mono fun e W' ⟨he, hb⟩ => ⟨he, hK.out W W' hS hb, hb⟩); simp only [putV, List.setIfInBounds_toArray, List.set_cons_zero, List.set_cons_succ])
        | (refine looseL_call1 (v := .bool true) (by rfl) rfl 23 (.tmp 25) _ rfl en_Fault (by rfl) ?_ ?_; (intro vx W hS hx; cases hx; exact (hF.out W).mono fun e W' ⟨he, hb⟩ => ⟨he, hK.out W W' hS hb, hb⟩); simp only [putV, List.setIfInBounds_toArray, List.set_cons_zero, List.set_cons_succ])
        | (refine looseL_call1 (v := .bool true) (by rfl) rfl 24 (.tmp 14) _ rfl en_RFault (by rfl) ?_ ?_; (intro vx W hS hx; cases hx; exact (hRF.out W).mono fun e W' ⟨he, hb⟩ => ⟨he, hK.out W W' hS hb, hb⟩); simp only [putV, List.setIfInBounds_toArray, List.set_cons_zero, List.set_cons_succ])
        | (refine looseL_call1 (v := .bool false) (by rfl) rfl 25 (.tmp 18) _ rfl en_Query (by rfl) ?_ ?_; (intro vx W hS hx; cases hx; exact (hQ.out W).mono fun e W' ⟨he, hb⟩ => ⟨he, hK.out W W' hS hb, hb⟩); simp only [putV, List.setIfInBounds_toArray, List.set_cons_zero, List.set_cons_succ])
        | (refine looseL_call1 (v := .bool false) (by rfl) rfl 25 (.tmp 28) _ rfl en_Query (by rfl) ?_ ?_; (intro vx W hS hx; cases hx; exact (hQ.out W).mono fun e W' ⟨he, hb⟩ => ⟨he, hK.out W W' hS hb, hb⟩); simp only [putV, List.setIfInBounds_toArray, List.set_cons_zero, List.set_cons_succ])
        | (refine looseL_call1 (v := .bool false) (by rfl) rfl 26 (.tmp 20) _ rfl en_RQuery (by rfl) ?_ ?_; (intro vx W hS hx; cases hx; exact (hRQ.out W).mono fun e W' ⟨he, hb⟩ => ⟨he, hK.out W W' hS hb, hb⟩); simp only [putV, List.setIfInBounds_toArray, List.set_cons_zero, List.set_cons_succ])
        | (refine looseL_call1 (v := .int .i64 i9) (by rfl) rfl 27 (.tmp 34) _ rfl en_ID (by rfl) ?_ ?_; (intro vx W hS hx; cases hx; exact (hID.out W).mono fun e W' ⟨he, hb⟩ => ⟨he, hK.out W W' hS hb, hb⟩); simp only [putV, List.setIfInBounds_toArray, List.set_cons_zero, List.set_cons_succ])
        | (refine looseL_call1 (v := .int .i64 i9) (by rfl) rfl 28 (.tmp 36) _ rfl en_RID (by rfl) ?_ ?_; (intro vx W hS hx; cases hx; exact (hRID.out W).mono fun e W' ⟨he, hb⟩ => ⟨he, hK.out W W' hS hb, hb⟩); simp only [putV, List.setIfInBounds_toArray, List.set_cons_zero, List.set_cons_succ])
        | (refine looseL_call2E (d := 43) (MsgR m9) (by rfl) rfl 29 (.tmp 41) (.tmp 42) _ rfl en_With rfl (MsgR.stable m9) ?_ ?_; (intro vx vy W hS hx hy; cases hx; cases hy; exact (hW.out W hS.2).mono fun e W' ⟨A9, n9, c9, he, ho, hb⟩ => ⟨⟨_, he, A9, n9, c9, rfl, ho.rb⟩, hK.out W W' hS hb, hb⟩))
        | (refine looseL_call2E (d := 46) (MsgR m9) (by rfl) rfl 30 (.tmp 44) (.tmp 45) _ rfl en_RWith rfl (MsgR.stable m9) ?_ ?_; (intro vx vy W hS hx hy; cases hx; cases hy; exact (hRW.out W hS.2).mono fun e W' ⟨A9, n9, c9, he, ho, hb⟩ => ⟨⟨_, he, A9, n9, c9, rfl, ho.rb⟩, hK.out W W' hS hb, hb⟩))
        | (refine looseL_call2 (v := .bool true) (by rfl) rfl 20 (.tmp 43) (.tmp 46) _ rfl en_TSame (by rfl) ?_ ?_; (intro vx vy W hS hx hy; obtain ⟨A8, n8, c8, rfl, r8⟩ := hx; obtain ⟨A9, n9, c9, rfl, r9⟩ := hy; exact (RefIcmpSame_any m9 m9 A8 A9 n8 c8 n9 c9 W r8 r9).mono fun e W' ⟨he, hb⟩ => ⟨by rw [he, hsm.out], hK.out W W' hS hb, hb⟩); simp only [putV, List.setIfInBounds_toArray, List.set_cons_zero, List.set_cons_succ])
        | (refine looseL_call0 (v := .bool true) (by rfl) rfl 13 _ rfl en_TAwake (by rfl) ?_ ?_; (intro W hS; exact (awake09 W).mono fun e W' ⟨he, hb⟩ => ⟨he, hK.out W W' hS hb, hb⟩); simp only [putV, List.setIfInBounds_toArray, List.set_cons_zero, List.set_cons_succ])
        | (refine looseL_val (v := ?_) (by rfl) (by rfl) (by rfl) rfl (fun W hS => ?_) ?_; rotate_left; (· (clear hS; go_simp; try with_reducible rfl)); simp only [putV, List.setIfInBounds_toArray, List.set_cons_zero, List.set_cons_succ]))
      refine looseL_nil fun a W hS hsz hds hR => ?_
      have hfin : a.tmps.getD 6 undef = .bool true := hR 6 (by simp)
      obtain ⟨T, D⟩ := a
      have hD : D = [] := hds
      subst hD
      have hfin2 : T[6]?.getD undef = .bool true := by simpa using hfin
      clear hR hsz hds
      go_wp2
      exact bodyPost_ret (v := .bool true) (by simp [results, Try.results5, go_sem, hfin2]) rfl ⟨rfl, hS.2⟩
end Go.Proofs.Ytekngoallcogpaa
