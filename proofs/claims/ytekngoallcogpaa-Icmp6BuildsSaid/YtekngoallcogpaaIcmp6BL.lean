/- The law Icmp6Builds: its walk. -/
import Derived.Test.YtekngoallcogpaaAwake10
set_option linter.unusedVariables false
namespace Go.Proofs.Ytekngoallcogpaa
open Go.RowKit

theorem en_S6Equal (args : Array Value) (w : World) : (callFunc 16 args).run Try.prog w = .ok (.enter 16 args) w := enters Try.func16 (by kernel_rfl) (by kernel_rfl) args w
theorem en_S6Pseudo (args : Array Value) (w : World) : (callFunc 45 args).run Try.prog w = .ok (.enter 45 args) w := enters Try.func45 (by kernel_rfl) (by kernel_rfl) args w
theorem en_S6RPseudo (args : Array Value) (w : World) : (callFunc 46 args).run Try.prog w = .ok (.enter 46 args) w := enters Try.func46 (by kernel_rfl) (by kernel_rfl) args w
theorem en_S6Fault (args : Array Value) (w : World) : (callFunc 47 args).run Try.prog w = .ok (.enter 47 args) w := enters Try.func47 (by kernel_rfl) (by kernel_rfl) args w
theorem en_S6RFault (args : Array Value) (w : World) : (callFunc 48 args).run Try.prog w = .ok (.enter 48 args) w := enters Try.func48 (by kernel_rfl) (by kernel_rfl) args w
theorem en_S6Awake (args : Array Value) (w : World) : (callFunc 42 args).run Try.prog w = .ok (.enter 42 args) w := enters Try.func42 (by kernel_rfl) (by kernel_rfl) args w

set_option maxRecDepth 100000 in
set_option maxHeartbeats 4000000 in
theorem Icmp6Builds_walk (s d : List Int) (m : IcmpP) (A : Option Addr) (n c : Nat) (next size : Int) (w : World) (hs : Six s) (hd : Six d) (h : RB w A n c m.data)
    (_a1 : -9223372036854775808 ≤ next) (_a2 : next ≤ 9223372036854775807) (_a3 : -9223372036854775808 ≤ size) (_a4 : size ≤ 9223372036854775807) :
    Calls Try.prog 10 #[.agg (cells6 s), .agg (cells6 d), .agg (cellsI m A n c), .int .i64 next, .int .i64 size] w fun e w' => e = .returned (.bool true) ∧ Below w.heap.size w w' := by
  clear _a1 _a2 _a3 _a4
  have hb0 := Lib.hid ((((Below.refl _ w).alloc (Nat.le_refl _) (.cells (cells6 s) 52)).alloc (by simp) (.cells (cells6 d) 52)).alloc (by simp; omega) (.cells (cellsI m A n c) 24))
  have k1 := Lib.hid (((Blk.new w (cells6 s) 52).alloc (.cells (cells6 d) 52)).alloc (.cells (cellsI m A n c) 24))
  have k2 := (Blk.new (w.alloc (.cells (cells6 s) 52)) (cells6 d) 52).alloc (.cells (cellsI m A n c) 24)
  have k3 := Blk.new ((w.alloc (.cells (cells6 s) 52)).alloc (.cells (cells6 d) 52)) (cellsI m A n c) 24
  rw [World.size_alloc] at k2
  rw [World.size_alloc, World.size_alloc] at k3
  replace k2 := Lib.hid k2
  replace k3 := Lib.hid k3
  by_cases hn : 3000 < n
  · clear h
    go_enter Try.func10, Try.ntmps10
    go_wp2_with (go_at_call 42; refine (awake10 _).mono ?_; rintro e w' ⟨rfl, hb1⟩)
    go_ret
    exact ⟨rfl, hb0.out.trans (hb1.mono hb0.out.size)⟩
  · have i1 := Lib.hid (info_six6 hs)
    have i2 := Lib.hid (info_six6 hd)
    have i3 := Lib.hid info_icmp6
    have hB := Lib.hid (fun W (hW : Below w.heap.size w W) => Build6_any s d m A n c W hs hd (h.below hW))
    have hRB := Lib.hid (fun W (hW : Below w.heap.size w W) => RefBuild6_any s d m A n c W hs hd (h.below hW))
    have hPs := Lib.hid (fun W => Pseudo6_any s d next size W hs hd)
    have hRPs := Lib.hid (fun W => RefPseudo6_any s d next size W hs hd)
    have hF := Lib.hid (fun W => toB (Fault6_any next W))
    have hRF := Lib.hid (fun W => toB (RefFault6_any next W))
    generalize built6? s d m n = r at *
    generalize checkI m n = ck at *
    generalize pseudo6 s d next size = pb at *
    generalize fault6 next = fl at *
    clear h
    go_enter Try.func10, Try.ntmps10
    go_wp2_with (first
      | (refine wpList_load_row rfl 52 (.tmp 5) rfl w.heap.size rfl _ (cells6 s) _ _ k1.out.at_ Try.underlying52 rfl i1.out ?_)
      | (refine wpList_load_row rfl 52 (.tmp 6) rfl (w.heap.size + 1) rfl _ (cells6 d) _ _ k2.out.at_ Try.underlying52 rfl i2.out ?_)
      | (refine wpList_load_row rfl 24 (.tmp 7) rfl (w.heap.size + 1 + 1) rfl _ (cellsI m A n c) _ _ k3.out.at_ Try.underlying24 rfl i3.out ?_)
      | (go_at_call 43; refine (hB.out _ hb0.out).mono ?_; rintro e w1 ⟨A1, n1, c1, rfl, r1, hb1⟩; have hB1 := hb0.out.trans (hb1.mono hb0.out.size); have q1 := Lib.hid (k1.out.to hb1); have q2 := Lib.hid (k2.out.to hb1); have q3 := Lib.hid (k3.out.to hb1); replace hb1 := 0)
      | (refine wpList_load_row rfl 52 (.tmp 5) rfl w.heap.size rfl _ (cells6 s) _ _ q1.out.at_ Try.underlying52 rfl i1.out ?_)
      | (refine wpList_load_row rfl 52 (.tmp 6) rfl (w.heap.size + 1) rfl _ (cells6 d) _ _ q2.out.at_ Try.underlying52 rfl i2.out ?_)
      | (refine wpList_load_row rfl 24 (.tmp 7) rfl (w.heap.size + 1 + 1) rfl _ (cellsI m A n c) _ _ q3.out.at_ Try.underlying24 rfl i3.out ?_)
      | (go_at_call 44; refine (hRB.out _ hB1).mono ?_; rintro e w2 ⟨A2, n2, c2, rfl, r2, hb2⟩; replace r1 := r1.below hb2; have hB2 := hB1.trans (hb2.mono hB1.size); have m1 := q1.out.to hb2; have m2 := q2.out.to hb2; have m3 := q3.out.to hb2; replace hb2 := 0)
      | fail)
    have hK : ∀ W W', (Blk W w.heap.size (cells6 s) 52 ∧ Blk W (w.heap.size + 1) (cells6 d) 52 ∧ RB W A1 n1 c1 r ∧ RB W A2 n2 c2 r ∧ Below w.heap.size w W) → Below W.heap.size W W' →
        (Blk W' w.heap.size (cells6 s) 52 ∧ Blk W' (w.heap.size + 1) (cells6 d) 52 ∧ RB W' A1 n1 c1 r ∧ RB W' A2 n2 c2 r ∧ Below w.heap.size w W') := fun W W' ⟨a1, a2, a3, a4, a5⟩ hW =>
      ⟨a1.to hW, a2.to hW, a3.below hW, a4.below hW, a5.trans (hW.mono a5.size)⟩
    have hS0 := hK w2 w2.drew ⟨m1, m2, r1, r2, hB2⟩ (Below.refl _ _).drew
    replace hK := Lib.hid hK
    clear m1 m2 m3 r1 r2 hB2 hB1 hB hRB q1 q2 q3 k1 k2 k3
    refine wp_region_loose (fun W => Blk W w.heap.size (cells6 s) 52 ∧ Blk W (w.heap.size + 1) (cells6 d) 52 ∧ RB W A1 n1 c1 r ∧ RB W A2 n2 c2 r ∧ Below w.heap.size w W) (by kernel_rfl) (by kernel_rfl) (by kernel_rfl) hS0 ?_
    repeat (first
      | (refine looseL_skip (by rfl) (by rfl) rfl ?_; simp only [putV, List.setIfInBounds_toArray, List.set_cons_zero, List.set_cons_succ])
      | (refine looseL_row (by rfl) (by rfl) (by rfl) rfl 52 (.tmp 5) rfl w.heap.size rfl _ (cells6 s) _ _ (fun W hS => hS.1.at_) Try.underlying52 rfl i1.out ?_; simp only [putV, List.setIfInBounds_toArray, List.set_cons_zero, List.set_cons_succ])
      | (refine looseL_row (by rfl) (by rfl) (by rfl) rfl 52 (.tmp 6) rfl (w.heap.size + 1) rfl _ (cells6 d) _ _ (fun W hS => hS.2.1.at_) Try.underlying52 rfl i2.out ?_; simp only [putV, List.setIfInBounds_toArray, List.set_cons_zero, List.set_cons_succ])
      | (refine looseL_call2 (v := .bool true) (by rfl) rfl 16 (.tmp 38) (.tmp 39) _ rfl en_S6Equal (by rfl) ?_ ?_; (intro vx vy W hS hx hy; cases hx; cases hy; exact (toB (Equal_same _ _ _ _ _ _ _ W hS.2.2.1 hS.2.2.2.1)).mono fun e W' ⟨he, hb⟩ => ⟨he, hK.out W W' hS hb, hb⟩); simp only [putV, List.setIfInBounds_toArray, List.set_cons_zero, List.set_cons_succ])
      | (refine looseL_call4E (d := 47) (Byt6 pb) (by rfl) rfl 45 (.tmp 43) (.tmp 44) (.tmp 45) (.tmp 46) _ rfl en_S6Pseudo rfl (Byt6.stable pb) ?_ ?_; (intro vx vy vz vu W hS hx hy hz hu; cases hx; cases hy; cases hz; cases hu; exact (hPs.out W).mono fun e W' ⟨A9, c9, he, ho, hb⟩ => ⟨⟨_, he, A9, _, c9, rfl, ho.rb⟩, hK.out W W' hS hb, hb⟩))
      | (refine looseL_call4E (d := 52) (Byt6 pb) (by rfl) rfl 46 (.tmp 48) (.tmp 49) (.tmp 50) (.tmp 51) _ rfl en_S6RPseudo rfl (Byt6.stable pb) ?_ ?_; (intro vx vy vz vu W hS hx hy hz hu; cases hx; cases hy; cases hz; cases hu; exact (hRPs.out W).mono fun e W' ⟨A9, c9, he, ho, hb⟩ => ⟨⟨_, he, A9, _, c9, rfl, ho.rb⟩, hK.out W W' hS hb, hb⟩))
      | (refine looseL_call2 (v := .bool true) (by rfl) rfl 16 (.tmp 47) (.tmp 52) _ rfl en_S6Equal (by rfl) ?_ ?_; (intro vx vy W hS hx hy; obtain ⟨A8, n8, c8, rfl, r8⟩ := hx; obtain ⟨A9, n9, c9, rfl, r9⟩ := hy; exact (toB (Equal_same _ _ _ _ _ _ _ W r8 r9)).mono fun e W' ⟨he, hb⟩ => ⟨he, hK.out W W' hS hb, hb⟩); simp only [putV, List.setIfInBounds_toArray, List.set_cons_zero, List.set_cons_succ])
      | (refine looseL_call1 (v := .bool fl) (by rfl) rfl 47 (.tmp 56) _ rfl en_S6Fault (by rfl) ?_ ?_; (intro vx W hS hx; cases hx; exact (hF.out W).mono fun e W' ⟨he, hb⟩ => ⟨he, hK.out W W' hS hb, hb⟩); simp only [putV, List.setIfInBounds_toArray, List.set_cons_zero, List.set_cons_succ])
      | (refine looseL_call1 (v := .bool fl) (by rfl) rfl 48 (.tmp 58) _ rfl en_S6RFault (by rfl) ?_ ?_; (intro vx W hS hx; cases hx; exact (hRF.out W).mono fun e W' ⟨he, hb⟩ => ⟨he, hK.out W W' hS hb, hb⟩); simp only [putV, List.setIfInBounds_toArray, List.set_cons_zero, List.set_cons_succ])
      | (refine looseL_call0 (v := .bool true) (by rfl) rfl 42 _ rfl en_S6Awake (by rfl) ?_ ?_; (intro W hS; exact (awake10 W).mono fun e W' ⟨he, hb⟩ => ⟨he, hK.out W W' hS hb, hb⟩); simp only [putV, List.setIfInBounds_toArray, List.set_cons_zero, List.set_cons_succ])
      | (refine looseL_val (v := ?_) (by rfl) (by rfl) (by rfl) rfl (fun W hS => ?_) ?_; rotate_left; (· (clear hS; go_simp; try with_reducible rfl)); simp only [putV, List.setIfInBounds_toArray, List.set_cons_zero, List.set_cons_succ]))
    refine looseL_nil fun a W hS hsz hds hR => ?_
    have hfin : a.tmps.getD 10 undef = .bool true := hR 10 (by simp)
    obtain ⟨T, D⟩ := a
    have hD : D = [] := hds
    subst hD
    have hfin2 : T[10]?.getD undef = .bool true := by simpa using hfin
    clear hR hsz hds
    go_wp2
    exact bodyPost_ret (v := .bool true) (by simp [results, Try.results10, go_sem, hfin2]) rfl ⟨rfl, hS.2.2.2.2⟩
end Go.Proofs.Ytekngoallcogpaa
