/- The law TcpBuilds: its walk. -/
import Derived.Test.YtccdbelngjonaaaAwake08
set_option linter.unusedVariables false
namespace Go.Proofs.Ytccdbelngjonaaa
open Go.RowKit

theorem en_T8Equal (args : Array Value) (w : World) : (callFunc 26 args).run Try.prog w = .ok (.enter 26 args) w := enters Try.func26 (by kernel_rfl) (by kernel_rfl) args w
theorem en_T8Check (args : Array Value) (w : World) : (callFunc 49 args).run Try.prog w = .ok (.enter 49 args) w := enters Try.func49 (by kernel_rfl) (by kernel_rfl) args w
theorem en_T8RCheck (args : Array Value) (w : World) : (callFunc 50 args).run Try.prog w = .ok (.enter 50 args) w := enters Try.func50 (by kernel_rfl) (by kernel_rfl) args w
theorem en_T8Same (args : Array Value) (w : World) : (callFunc 51 args).run Try.prog w = .ok (.enter 51 args) w := enters Try.func51 (by kernel_rfl) (by kernel_rfl) args w
theorem en_T8RSame (args : Array Value) (w : World) : (callFunc 52 args).run Try.prog w = .ok (.enter 52 args) w := enters Try.func52 (by kernel_rfl) (by kernel_rfl) args w
theorem en_T8Awake (args : Array Value) (w : World) : (callFunc 46 args).run Try.prog w = .ok (.enter 46 args) w := enters Try.func46 (by kernel_rfl) (by kernel_rfl) args w
set_option maxRecDepth 100000 in
set_option maxHeartbeats 4000000 in
theorem TcpBuilds_walk (src dst : Int) (m : TcpP) (Ao : Option Addr) (no co : Nat) (A : Option Addr) (n c : Nat) (q : TcpP) (Bo : Option Addr) (mo do_ : Nat) (B : Option Addr) (k d : Nat) (w : World)
    (_a1 : -9223372036854775808 ≤ src) (_a2 : src ≤ 9223372036854775807) (_a3 : -9223372036854775808 ≤ dst) (_a4 : dst ≤ 9223372036854775807) (ro : RB w Ao no co m.opts) (rd : RB w A n c m.data) (qo : RB w Bo mo do_ q.opts) (qd : RB w B k d q.data) :
    Calls Try.prog 10 #[.int .i64 src, .int .i64 dst, .agg (cellsT m Ao no co A n c), .agg (cellsT q Bo mo do_ B k d)] w fun e w' => e = .returned (.bool true) ∧ Below w.heap.size w w' := by
  clear _a1 _a2 _a3 _a4
  have hb := Lib.hid (((Below.refl _ w).alloc (Nat.le_refl _) (.cells (cellsT m Ao no co A n c) 73)).alloc (by simp) (.cells (cellsT q Bo mo do_ B k d) 73))
  have k1 := Lib.hid ((Blk.new w (cellsT m Ao no co A n c) 73).alloc (.cells (cellsT q Bo mo do_ B k d) 73))
  have k2 := Blk.new (w.alloc (.cells (cellsT m Ao no co A n c) 73)) (cellsT q Bo mo do_ B k d) 73
  rw [World.size_alloc] at k2
  replace k2 := Lib.hid k2
  by_cases h1 : 3000 < n
  · skip
    clear ro rd qo qd
    go_enter Try.func10, Try.ntmps10
    go_wp2_with (go_at_call 46; refine (awake08 _).mono ?_; rintro e w' ⟨rfl, hb1⟩)
    go_ret
    exact ⟨rfl, hb.out.trans (hb1.mono hb.out.size)⟩
  · by_cases h2 : 3000 < k
    · skip
      clear ro rd qo qd
      go_enter Try.func10, Try.ntmps10
      go_wp2_with (go_at_call 46; refine (awake08 _).mono ?_; rintro e w' ⟨rfl, hb1⟩)
      go_ret
      exact ⟨rfl, hb.out.trans (hb1.mono hb.out.size)⟩
    · by_cases h3 : 200 < no
      · skip
        clear ro rd qo qd
        go_enter Try.func10, Try.ntmps10
        go_wp2_with (go_at_call 46; refine (awake08 _).mono ?_; rintro e w' ⟨rfl, hb1⟩)
        go_ret
        exact ⟨rfl, hb.out.trans (hb1.mono hb.out.size)⟩
      · by_cases h4 : 200 < mo
        · skip
          clear ro rd qo qd
          go_enter Try.func10, Try.ntmps10
          go_wp2_with (go_at_call 46; refine (awake08 _).mono ?_; rintro e w' ⟨rfl, hb1⟩)
          go_ret
          exact ⟨rfl, hb.out.trans (hb1.mono hb.out.size)⟩
        · have hB := Lib.hid (fun w' (hw : Below w.heap.size w w') => TcpBuild_any src dst m Ao no co A n c w' (ro.below hw) (rd.below hw) (by omega))
          have hRB := Lib.hid (fun w' (hw : Below w.heap.size w w') => RefTcpBuild_any src dst m Ao no co A n c w' (ro.below hw) (rd.below hw) (by omega))
          have hCk := Lib.hid (fun w' => TcpCheck_any m Ao no co A n c w' (by omega))
          have hRCk := Lib.hid (fun w' => RefTcpCheck_any m Ao no co A n c w' (by omega))
          have hSm := Lib.hid (fun w' (hw : Below w.heap.size w w') => TcpSame_any m q Ao no co A n c Bo mo do_ B k d w' (ro.below hw) (rd.below hw) (qo.below hw) (qd.below hw))
          have hRSm := Lib.hid (fun w' (hw : Below w.heap.size w w') => RefTcpSame_any m q Ao no co A n c Bo mo do_ B k d w' (ro.below hw) (rd.below hw) (qo.below hw) (qd.below hw))
          generalize builtT? src dst m no n = r at *
          generalize sameT m q = sm at *
          generalize checkT m no n = ck at *
          clear ro rd qo qd
          have hi1 := Lib.hid info_tcp
          go_enter Try.func10, Try.ntmps10
          go_wp2_with (first
            | (refine wpList_load_W rfl (.tmp 6) rfl w.heap.size rfl (cellsT m Ao no co A n c) k1.out rfl ?_)
            | (go_at_call 47; refine (hB.out _ hb.out).mono ?_; rintro e w1 ⟨A1, n1, c1, rfl, r1, hb1⟩; have hB1 := hb.out.trans (hb1.mono hb.out.size); have l1 := Lib.hid (k1.out.to hb1); have l2 := Lib.hid (k2.out.to hb1); replace hb1 := 0)
            | (refine wpList_load_W rfl (.tmp 6) rfl w.heap.size rfl (cellsT m Ao no co A n c) l1.out rfl ?_)
            | (go_at_call 48; refine (hRB.out _ hB1).mono ?_; rintro e w2 ⟨A2, n2, c2, rfl, r2, hb2⟩; replace r1 := r1.below hb2; have hB2 := hB1.trans (hb2.mono hB1.size); have m1 := l1.out.to hb2; have m2 := l2.out.to hb2; replace hb2 := 0)
            | fail)
          have hK : ∀ W W', (fun W => Blk W w.heap.size (cellsT m Ao no co A n c) 73 ∧ Blk W (w.heap.size + 1) (cellsT q Bo mo do_ B k d) 73 ∧ RB W A1 n1 c1 r ∧ RB W A2 n2 c2 r ∧ Below w.heap.size w W) W → Below W.heap.size W W' → (fun W => Blk W w.heap.size (cellsT m Ao no co A n c) 73 ∧ Blk W (w.heap.size + 1) (cellsT q Bo mo do_ B k d) 73 ∧ RB W A1 n1 c1 r ∧ RB W A2 n2 c2 r ∧ Below w.heap.size w W) W' := fun W W' ⟨a1, a2, a3, a4, a5⟩ hW =>
            ⟨a1.to hW, a2.to hW, a3.below hW, a4.below hW, a5.trans (hW.mono a5.size)⟩
          have hS0 := hK w2 w2.drew ⟨m1, m2, r1, r2, hB2⟩ (Below.refl _ _).drew
          replace hK := Lib.hid hK
          clear m1 m2 r1 r2 hB2 hB1 hB hRB
          refine wp_region_tame (fun W => Blk W w.heap.size (cellsT m Ao no co A n c) 73 ∧ Blk W (w.heap.size + 1) (cellsT q Bo mo do_ B k d) 73 ∧ RB W A1 n1 c1 r ∧ RB W A2 n2 c2 r ∧ Below w.heap.size w W) (by kernel_rfl) (by kernel_rfl) hS0 ?_
          repeat (first
            | (refine tameL_skip rfl ?_; simp only [Act.put, List.setIfInBounds_toArray, List.set_cons_zero, List.set_cons_succ])
            | (refine tameL_row rfl 73 (.tmp 6) rfl w.heap.size rfl _ (cellsT m Ao no co A n c) _ _ (fun W hS => hS.1.at_) Try.underlying73 rfl hi1.out ?_; simp only [Act.put, List.setIfInBounds_toArray, List.set_cons_zero, List.set_cons_succ])
            | (refine tameL_row rfl 73 (.tmp 7) rfl (w.heap.size + 1) rfl _ (cellsT q Bo mo do_ B k d) _ _ (fun W hS => hS.2.1.at_) Try.underlying73 rfl hi1.out ?_; simp only [Act.put, List.setIfInBounds_toArray, List.set_cons_zero, List.set_cons_succ])
            | (refine tameL_call2 (v := .bool true) rfl 26 (.tmp 54) (.tmp 55) _ rfl en_T8Equal rfl rfl ?_ ?_; exact fun W hS => (toB (Equal_same _ _ _ _ _ _ _ W hS.2.2.1 hS.2.2.2.1)).mono fun e W' ⟨he, hb⟩ => ⟨he, hK.out W W' hS hb⟩; simp only [Act.put, List.setIfInBounds_toArray, List.set_cons_zero, List.set_cons_succ])
            | (refine tameL_call1 (v := .int .i64 ck) rfl 49 (.tmp 59) _ rfl en_T8Check rfl ?_ ?_; exact fun W hS => (hCk.out W).mono fun e W' ⟨he, hb⟩ => ⟨he, hK.out W W' hS hb⟩; simp only [Act.put, List.setIfInBounds_toArray, List.set_cons_zero, List.set_cons_succ])
            | (refine tameL_call1 (v := .int .i64 ck) rfl 50 (.tmp 61) _ rfl en_T8RCheck rfl ?_ ?_; exact fun W hS => (hRCk.out W).mono fun e W' ⟨he, hb⟩ => ⟨he, hK.out W W' hS hb⟩; simp only [Act.put, List.setIfInBounds_toArray, List.set_cons_zero, List.set_cons_succ])
            | (refine tameL_call2 (v := .bool sm) rfl 51 (.tmp 66) (.tmp 67) _ rfl en_T8Same rfl rfl ?_ ?_; exact fun W hS => (hSm.out W hS.2.2.2.2).mono fun e W' ⟨he, hb⟩ => ⟨he, hK.out W W' hS hb⟩; simp only [Act.put, List.setIfInBounds_toArray, List.set_cons_zero, List.set_cons_succ])
            | (refine tameL_call2 (v := .bool sm) rfl 52 (.tmp 69) (.tmp 70) _ rfl en_T8RSame rfl rfl ?_ ?_; exact fun W hS => (hRSm.out W hS.2.2.2.2).mono fun e W' ⟨he, hb⟩ => ⟨he, hK.out W W' hS hb⟩; simp only [Act.put, List.setIfInBounds_toArray, List.set_cons_zero, List.set_cons_succ])
            | (refine tameL_call0 (v := .bool true) rfl 46 _ rfl en_T8Awake ?_ ?_; exact fun W hS => (awake08 W).mono fun e W' ⟨he, hb⟩ => ⟨he, hK.out W W' hS hb⟩; simp only [Act.put, List.setIfInBounds_toArray, List.set_cons_zero, List.set_cons_succ])
            | (refine tameL_val (v := ?_) rfl (fun W hS => ?_) ?_; rotate_left; (· (clear hS; go_simp; try with_reducible rfl)); simp only [Act.put, List.setIfInBounds_toArray, List.set_cons_zero, List.set_cons_succ]))
          refine tameL_nil fun W hS => ?_
          go_wp2
          go_ret
          exact ⟨rfl, hS.2.2.2.2⟩
end Go.Proofs.Ytccdbelngjonaaa
