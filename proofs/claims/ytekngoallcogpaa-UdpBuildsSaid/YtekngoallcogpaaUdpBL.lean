/- The law UdpBuilds: its walk. -/
import Derived.Test.YtekngoallcogpaaAwake07
set_option linter.unusedVariables false
namespace Go.Proofs.Ytekngoallcogpaa
open Go.RowKit

theorem en_UEqual (args : Array Value) (w : World) : (callFunc 16 args).run Try.prog w = .ok (.enter 16 args) w := enters Try.func16 (by kernel_rfl) (by kernel_rfl) args w
theorem en_UCheck (args : Array Value) (w : World) : (callFunc 34 args).run Try.prog w = .ok (.enter 34 args) w := enters Try.func34 (by kernel_rfl) (by kernel_rfl) args w
theorem en_RUCheck (args : Array Value) (w : World) : (callFunc 35 args).run Try.prog w = .ok (.enter 35 args) w := enters Try.func35 (by kernel_rfl) (by kernel_rfl) args w
theorem en_USame (args : Array Value) (w : World) : (callFunc 36 args).run Try.prog w = .ok (.enter 36 args) w := enters Try.func36 (by kernel_rfl) (by kernel_rfl) args w
theorem en_RUSame (args : Array Value) (w : World) : (callFunc 37 args).run Try.prog w = .ok (.enter 37 args) w := enters Try.func37 (by kernel_rfl) (by kernel_rfl) args w
theorem en_UPseudo (args : Array Value) (w : World) : (callFunc 38 args).run Try.prog w = .ok (.enter 38 args) w := enters Try.func38 (by kernel_rfl) (by kernel_rfl) args w
theorem en_RUPseudo (args : Array Value) (w : World) : (callFunc 39 args).run Try.prog w = .ok (.enter 39 args) w := enters Try.func39 (by kernel_rfl) (by kernel_rfl) args w
theorem en_Awake07 (args : Array Value) (w : World) : (callFunc 31 args).run Try.prog w = .ok (.enter 31 args) w := enters Try.func31 (by kernel_rfl) (by kernel_rfl) args w
theorem info_udp : (Try.prog.info? 41).map (·.size) = some 4 := by kernel_rfl

/-- Bytes in a slot. -/
def BytR (bs : List Int) : Rl := fun u W => ∃ A n c, u = .slice A n c ∧ RB W A n c bs
theorem BytR.stable (bs : List Int) : StableR (BytR bs) := fun u w w' ⟨A, n, c, h1, h2⟩ hb => ⟨A, n, c, h1, h2.below hb⟩


set_option maxRecDepth 100000 in
set_option maxHeartbeats 4000000 in
theorem UdpBuilds_walk (src dst : Int) (m : UdpP) (A : Option Addr) (n c : Nat) (m' : UdpP) (A' : Option Addr) (n' c' : Nat) (pr size : Int) (w : World)
    (_a1 : -9223372036854775808 ≤ src) (_a2 : src ≤ 9223372036854775807) (_a3 : -9223372036854775808 ≤ dst) (_a4 : dst ≤ 9223372036854775807) (hr : RB w A n c m.data) (hr' : RB w A' n' c' m'.data) (_a5 : -9223372036854775808 ≤ pr) (_a6 : pr ≤ 9223372036854775807) (_a7 : -9223372036854775808 ≤ size) (_a8 : size ≤ 9223372036854775807) :
    Calls Try.prog 7 #[.int .i64 src, .int .i64 dst, .agg (cellsU m A n c), .agg (cellsU m' A' n' c'), .int .i64 pr, .int .i64 size] w fun e w' => e = .returned (.bool true) ∧ Below w.heap.size w w' := by
  clear _a1 _a2 _a3 _a4 _a5 _a6 _a7 _a8
  have hb := Lib.hid (((Below.refl _ w).alloc (Nat.le_refl _) (.cells (cellsU m A n c) 41)).alloc (by simp) (.cells (cellsU m' A' n' c') 41))
  have k1 := Lib.hid ((Blk.new w (cellsU m A n c) 41).alloc (.cells (cellsU m' A' n' c') 41))
  have k2 := Blk.new (w.alloc (.cells (cellsU m A n c) 41)) (cellsU m' A' n' c') 41
  rw [World.size_alloc] at k2
  replace k2 := Lib.hid k2
  by_cases hn : 3000 < n
  · skip
    go_enter Try.func7, Try.ntmps7
    go_wp2_with (go_at_call 31; refine (awake07 _).mono ?_; rintro e w' ⟨rfl, hb1⟩)
    go_ret
    exact ⟨rfl, hb.out.trans (hb1.mono hb.out.size)⟩
  · by_cases hn' : 3000 < n'
    · skip
      go_enter Try.func7, Try.ntmps7
      go_wp2_with (go_at_call 31; refine (awake07 _).mono ?_; rintro e w' ⟨rfl, hb1⟩)
      go_ret
      exact ⟨rfl, hb.out.trans (hb1.mono hb.out.size)⟩
    · have hB := Lib.hid (fun w' (hw : Below w.heap.size w w') => UdpBuild_any src dst m A n c w' (hr.below hw))
      have hRB := Lib.hid (fun w' (hw : Below w.heap.size w w') => RefUdpBuild_any src dst m A n c w' (hr.below hw))
      have hCk := Lib.hid (fun w' => UdpCheck_any m A n c w')
      have hRCk := Lib.hid (fun w' => RefUdpCheck_any m A n c w')
      have hSm := Lib.hid (fun w' (hw : Below w.heap.size w w') => UdpSame_any m m' A A' n c n' c' w' (hr.below hw) (hr'.below hw))
      have hRSm := Lib.hid (fun w' (hw : Below w.heap.size w w') => RefUdpSame_any m m' A A' n c n' c' w' (hr.below hw) (hr'.below hw))
      have hPs := Lib.hid (fun w' => Pseudo_any src dst pr size w')
      have hRPs := Lib.hid (fun w' => RefPseudo_any src dst pr size w')
      generalize builtU? src dst m n = r at *
      generalize sameU m m' = sm at *
      generalize checkU m n = ck at *
      generalize pseudoB src dst pr size = pb at *
      clear hr hr'
      have hi1 := Lib.hid info_udp
      have y3 := k1.out.cell 3 _ rfl
      have x3 := k2.out.cell 3 _ rfl
      go_enter Try.func7, Try.ntmps7
      go_wp2_with (first
        | (refine wpList_load_row rfl 41 (.tmp 8) rfl w.heap.size rfl _ (cellsU m A n c) _ _ k1.out.at_ Try.underlying41 rfl hi1.out ?_)
        | (go_at_call 32; refine (hB.out _ hb.out).mono ?_; rintro e w1 ⟨A1, n1, c1, rfl, r1, hb1⟩; have hB1 := hb.out.trans (hb1.mono hb.out.size); have l1 := Lib.hid (k1.out.to hb1); have l2 := Lib.hid (k2.out.to hb1); clear y3 x3; replace hb1 := 0)
        | (refine wpList_load_row rfl 41 (.tmp 8) rfl w.heap.size rfl _ (cellsU m A n c) _ _ l1.out.at_ Try.underlying41 rfl hi1.out ?_)
        | (go_at_call 33; refine (hRB.out _ hB1).mono ?_; rintro e w2 ⟨A2, n2, c2, rfl, r2, hb2⟩; replace r1 := r1.below hb2; have hB2 := hB1.trans (hb2.mono hB1.size); have m1 := l1.out.to hb2; have m2 := l2.out.to hb2; replace hb2 := 0)
        | fail)
      have hK : ∀ W W', (Blk W w.heap.size (cellsU m A n c) 41 ∧ Blk W (w.heap.size + 1) (cellsU m' A' n' c') 41 ∧ RB W A1 n1 c1 r ∧ RB W A2 n2 c2 r ∧ Below w.heap.size w W) → Below W.heap.size W W' →
          (Blk W' w.heap.size (cellsU m A n c) 41 ∧ Blk W' (w.heap.size + 1) (cellsU m' A' n' c') 41 ∧ RB W' A1 n1 c1 r ∧ RB W' A2 n2 c2 r ∧ Below w.heap.size w W') := fun W W' ⟨a1, a2, a3, a4, a5⟩ hW =>
        ⟨a1.to hW, a2.to hW, a3.below hW, a4.below hW, a5.trans (hW.mono a5.size)⟩
      have hS0 := hK w2 w2.drew ⟨m1, m2, r1, r2, hB2⟩ (Below.refl _ _).drew
      replace hK := Lib.hid hK
      clear m1 m2 r1 r2 hB2 hB1 hB hRB
      refine wp_region_loose (fun W => Blk W w.heap.size (cellsU m A n c) 41 ∧ Blk W (w.heap.size + 1) (cellsU m' A' n' c') 41 ∧ RB W A1 n1 c1 r ∧ RB W A2 n2 c2 r ∧ Below w.heap.size w W) (by kernel_rfl) (by kernel_rfl) (by kernel_rfl) hS0 ?_
      repeat (first
        | (refine looseL_skip (by rfl) (by rfl) rfl ?_; simp only [putV, List.setIfInBounds_toArray, List.set_cons_zero, List.set_cons_succ])
        | (refine looseL_row (by rfl) (by rfl) (by rfl) rfl 41 (.tmp 8) rfl w.heap.size rfl _ (cellsU m A n c) _ _ (fun W hS => hS.1.at_) Try.underlying41 rfl hi1.out ?_; simp only [putV, List.setIfInBounds_toArray, List.set_cons_zero, List.set_cons_succ])
        | (refine looseL_row (by rfl) (by rfl) (by rfl) rfl 41 (.tmp 9) rfl (w.heap.size + 1) rfl _ (cellsU m' A' n' c') _ _ (fun W hS => hS.2.1.at_) Try.underlying41 rfl hi1.out ?_; simp only [putV, List.setIfInBounds_toArray, List.set_cons_zero, List.set_cons_succ])
        | (refine looseL_call2 (v := .bool true) (by rfl) rfl 16 (.tmp 46) (.tmp 47) _ rfl en_UEqual (by rfl) ?_ ?_; (intro vx vy W hS hx hy; cases hx; cases hy; exact (toB (Equal_same _ _ _ _ _ _ _ W hS.2.2.1 hS.2.2.2.1)).mono fun e W' ⟨he, hb⟩ => ⟨he, hK.out W W' hS hb, hb⟩); simp only [putV, List.setIfInBounds_toArray, List.set_cons_zero, List.set_cons_succ])
        | (refine looseL_call1 (v := .int .i64 ck) (by rfl) rfl 34 (.tmp 51) _ rfl en_UCheck (by rfl) ?_ ?_; (intro vx W hS hx; cases hx; exact (hCk.out W).mono fun e W' ⟨he, hb⟩ => ⟨he, hK.out W W' hS hb, hb⟩); simp only [putV, List.setIfInBounds_toArray, List.set_cons_zero, List.set_cons_succ])
        | (refine looseL_call1 (v := .int .i64 ck) (by rfl) rfl 35 (.tmp 53) _ rfl en_RUCheck (by rfl) ?_ ?_; (intro vx W hS hx; cases hx; exact (hRCk.out W).mono fun e W' ⟨he, hb⟩ => ⟨he, hK.out W W' hS hb, hb⟩); simp only [putV, List.setIfInBounds_toArray, List.set_cons_zero, List.set_cons_succ])
        | (refine looseL_call2 (v := .bool sm) (by rfl) rfl 36 (.tmp 58) (.tmp 59) _ rfl en_USame (by rfl) ?_ ?_; (intro vx vy W hS hx hy; cases hx; cases hy; exact (hSm.out W hS.2.2.2.2).mono fun e W' ⟨he, hb⟩ => ⟨he, hK.out W W' hS hb, hb⟩); simp only [putV, List.setIfInBounds_toArray, List.set_cons_zero, List.set_cons_succ])
        | (refine looseL_call2 (v := .bool sm) (by rfl) rfl 37 (.tmp 61) (.tmp 62) _ rfl en_RUSame (by rfl) ?_ ?_; (intro vx vy W hS hx hy; cases hx; cases hy; exact (hRSm.out W hS.2.2.2.2).mono fun e W' ⟨he, hb⟩ => ⟨he, hK.out W W' hS hb, hb⟩); simp only [putV, List.setIfInBounds_toArray, List.set_cons_zero, List.set_cons_succ])
        | (refine looseL_call4E (d := 71) (BytR pb) (by rfl) rfl 38 (.tmp 67) (.tmp 68) (.tmp 69) (.tmp 70) _ rfl en_UPseudo rfl (BytR.stable pb) ?_ ?_; (intro vx vy vz vu W hS hx hy hz hu; cases hx; cases hy; cases hz; cases hu; exact (hPs.out W).mono fun e W' ⟨A9, c9, he, ho, hb⟩ => ⟨⟨_, he, A9, _, c9, rfl, ho.rb⟩, hK.out W W' hS hb, hb⟩))
        | (refine looseL_call4E (d := 76) (BytR pb) (by rfl) rfl 39 (.tmp 72) (.tmp 73) (.tmp 74) (.tmp 75) _ rfl en_RUPseudo rfl (BytR.stable pb) ?_ ?_; (intro vx vy vz vu W hS hx hy hz hu; cases hx; cases hy; cases hz; cases hu; exact (hRPs.out W).mono fun e W' ⟨A9, c9, he, ho, hb⟩ => ⟨⟨_, he, A9, _, c9, rfl, ho.rb⟩, hK.out W W' hS hb, hb⟩))
        | (refine looseL_call2 (v := .bool true) (by rfl) rfl 16 (.tmp 71) (.tmp 76) _ rfl en_UEqual (by rfl) ?_ ?_; (intro vx vy W hS hx hy; obtain ⟨A8, n8, c8, rfl, r8⟩ := hx; obtain ⟨A9, n9, c9, rfl, r9⟩ := hy; exact (toB (Equal_same _ _ _ _ _ _ _ W r8 r9)).mono fun e W' ⟨he, hb⟩ => ⟨he, hK.out W W' hS hb, hb⟩); simp only [putV, List.setIfInBounds_toArray, List.set_cons_zero, List.set_cons_succ])
        | (refine looseL_call0 (v := .bool true) (by rfl) rfl 31 _ rfl en_Awake07 (by rfl) ?_ ?_; (intro W hS; exact (awake07 W).mono fun e W' ⟨he, hb⟩ => ⟨he, hK.out W W' hS hb, hb⟩); simp only [putV, List.setIfInBounds_toArray, List.set_cons_zero, List.set_cons_succ])
        | (refine looseL_val (v := ?_) (by rfl) (by rfl) (by rfl) rfl (fun W hS => ?_) ?_; rotate_left; (· (clear hS; go_simp; try with_reducible rfl)); simp only [putV, List.setIfInBounds_toArray, List.set_cons_zero, List.set_cons_succ]))
      refine looseL_nil fun a W hS hsz hds hR => ?_
      have hfin : a.tmps.getD 12 undef = .bool true := hR 12 (by simp)
      obtain ⟨T, D⟩ := a
      have hD : D = [] := hds
      subst hD
      have hfin2 : T[12]?.getD undef = .bool true := by simpa using hfin
      clear hR hsz hds
      go_wp2
      exact bodyPost_ret (v := .bool true) (by simp [results, Try.results7, go_sem, hfin2]) rfl ⟨rfl, hS.2.2.2.2⟩
end Go.Proofs.Ytekngoallcogpaa
