/- The law ClampTells: its walk. -/
import Derived.Test.YtipigcpenmcaoaaClampO
import Derived.Test.YtipigcpenmcaoaaClampM
import Derived.Test.YtipigcpenmcaoaaAwake12
import Derived.Test.YtipigcpenmcaoaaReadV4
set_option linter.unusedVariables false
namespace Go.Proofs.Ytipigcpenmcaoaa
open Go Go.RowKit

theorem en_C12Equal (args : Array Value) (w : World) : (callFunc 17 args).run Try.prog w = .ok (.enter 17 args) w := enters Try.func17 (by kernel_rfl) (by kernel_rfl) args w
theorem en_C12Seg (args : Array Value) (w : World) : (callFunc 32 args).run Try.prog w = .ok (.enter 32 args) w := enters Try.func32 (by kernel_rfl) (by kernel_rfl) args w
theorem en_C12RSeg (args : Array Value) (w : World) : (callFunc 33 args).run Try.prog w = .ok (.enter 33 args) w := enters Try.func33 (by kernel_rfl) (by kernel_rfl) args w
theorem en_C12Pack (args : Array Value) (w : World) : (callFunc 28 args).run Try.prog w = .ok (.enter 28 args) w := enters Try.func28 (by kernel_rfl) (by kernel_rfl) args w
theorem en_C12RPack (args : Array Value) (w : World) : (callFunc 34 args).run Try.prog w = .ok (.enter 34 args) w := enters Try.func34 (by kernel_rfl) (by kernel_rfl) args w
theorem en_C12Most (args : Array Value) (w : World) : (callFunc 35 args).run Try.prog w = .ok (.enter 35 args) w := enters Try.func35 (by kernel_rfl) (by kernel_rfl) args w
theorem en_C12RMost (args : Array Value) (w : World) : (callFunc 36 args).run Try.prog w = .ok (.enter 36 args) w := enters Try.func36 (by kernel_rfl) (by kernel_rfl) args w
theorem en_C12Same8 (args : Array Value) (w : World) : (callFunc 31 args).run Try.prog w = .ok (.enter 31 args) w := enters Try.func31 (by kernel_rfl) (by kernel_rfl) args w
theorem en_C12Same5 (args : Array Value) (w : World) : (callFunc 22 args).run Try.prog w = .ok (.enter 22 args) w := enters Try.func22 (by kernel_rfl) (by kernel_rfl) args w
theorem en_C12Awake (args : Array Value) (w : World) : (callFunc 26 args).run Try.prog w = .ok (.enter 26 args) w := enters Try.func26 (by kernel_rfl) (by kernel_rfl) args w
/-- A segment, a packet in a slot. -/
def TcpRl (q : TcpP) (no n : Nat) : Rl := fun u W => ∃ A c B d, u = .agg (cellsT q A no c B n d) ∧ RB W A no c q.opts ∧ RB W B n d q.data
theorem TcpRl.stable (q : TcpP) (no n : Nat) : StableR (TcpRl q no n) := fun u w w' ⟨A, c, B, d, h1, h2, h3⟩ hb => ⟨A, c, B, d, h1, h2.below hb, h3.below hb⟩
def V4Rl (q : V4P) : Rl := fun u W => ∃ Ao no co A n c, u = .agg (cells4 q Ao no co A n c) ∧ RB W Ao no co q.opts ∧ RB W A n c q.data
theorem V4Rl.stable (q : V4P) : StableR (V4Rl q) := fun u w w' ⟨Ao, no, co, A, n, c, h1, h2, h3⟩ hb => ⟨Ao, no, co, A, n, c, h1, h2.below hb, h3.below hb⟩
theorem PackOut.rl {w : World} {q : V4P} {e : Ending} {w' : World} (h : PackOut w q e w') : (∃ u, e = .returned u ∧ V4Rl q u w') ∧ Below w.heap.size w w' := by
  obtain ⟨Ao, no, co, A, n, c, rfl, h1, h2, h3⟩ := h
  exact ⟨⟨_, rfl, Ao, no, co, A, n, c, rfl, h1, h2⟩, h3⟩
theorem Same4_rl {q : V4P} {vx vy : Value} {w : World} (hx : V4Rl q vx w) (hy : V4Rl q vy w) : Calls Try.prog 22 #[vx, vy] w fun e w' => e = .returned (.bool true) ∧ Below w.heap.size w w' := by
  obtain ⟨Ao, no, co, A, n, c, rfl, h1, h2⟩ := hx
  obtain ⟨Ao', no', co', A', n', c', rfl, h3, h4⟩ := hy
  obtain rfl : no = no' := h1.len.symm.trans h3.len
  obtain rfl : n = n' := h2.len.symm.trans h4.len
  exact RefSame4_same q Ao no co A n c Ao' co' A' c' w h1 h2 h3 h4
theorem Same8_rl {q : TcpP} {no n : Nat} {vx vy : Value} {w : World} (hx : TcpRl q no n vx w) (hy : TcpRl q no n vy w) : Calls Try.prog 31 #[vx, vy] w fun e w' => e = .returned (.bool true) ∧ Below w.heap.size w w' := by
  obtain ⟨A, c, B, d, rfl, h1, h2⟩ := hx
  obtain ⟨A', c', B', d', rfl, h3, h4⟩ := hy
  have := RefTcpSame_any q q A no c B n d A' no c' B' n d' w h1 h2 h3 h4
  rw [sameT_refl] at this
  exact this
set_option maxRecDepth 100000 in
set_option maxHeartbeats 4000000 in
theorem ClampTells_walk (m : TcpP) (Ao : Option Addr) (no co : Nat) (A : Option Addr) (n c : Nat) (p : V4P) (Bo : Option Addr) (mo do_ : Nat) (B : Option Addr) (k d : Nat) (x : Int) (w : World)
    (ho : RB w Ao no co m.opts) (h : RB w A n c m.data) (hro : RB w Bo mo do_ p.opts) (hr : RB w B k d p.data) (fit : p.Fit) (hx0 : -9223372036854775808 ≤ x) (hx1 : x ≤ 9223372036854775807) :
    Calls Try.prog 7 #[.agg (cellsT m Ao no co A n c), .agg (cells4 p Bo mo do_ B k d), .int .i64 x] w fun e w' => e = .returned (.bool true) ∧ Below w.heap.size w w' := by
  clear fit
  have hMo := Lib.hid (fun W => ClampMost_any x W hx0 hx1)
  have hRMo := Lib.hid (fun W => RefMost_any x W)
  clear hx0 hx1
  have hb := Lib.hid (((Below.refl _ w).alloc (Nat.le_refl _) (.cells (cellsT m Ao no co A n c) 50)).alloc (by simp) (.cells (cells4 p Bo mo do_ B k d) 24))
  have k1' := (Blk.new w (cellsT m Ao no co A n c) 50).alloc (.cells (cells4 p Bo mo do_ B k d) 24)
  have k2' := Blk.new (w.alloc (.cells (cellsT m Ao no co A n c) 50)) (cells4 p Bo mo do_ B k d) 24
  rw [World.size_alloc] at k2'
  have k1 := Lib.hid k1'
  have k2 := Lib.hid k2'
  clear k1' k2'
  by_cases c1 : 3000 < n
  · have c1i : (3000 : Int) < n := by omega
    clear ho h hro hr
    go_enter Try.func7, Try.ntmps7
    go_wp2_with (first
      | (go_at_call 26; refine (awake12 _).mono ?_; rintro e W1 ⟨rfl, hB⟩; have hb2 := Lib.hid (hb.out.trans (hB.mono hb.out.size)); replace hB := 0)
      | fail)
    go_ret
    exact ⟨by first | rfl | simp, hb2.out⟩
  have c1i : ¬ (3000 : Int) < n := by omega
  by_cases c2 : 200 < no
  · have c2i : (200 : Int) < no := by omega
    clear ho h hro hr
    go_enter Try.func7, Try.ntmps7
    go_wp2_with (first
      | (go_at_call 26; refine (awake12 _).mono ?_; rintro e W1 ⟨rfl, hB⟩; have hb2 := Lib.hid (hb.out.trans (hB.mono hb.out.size)); replace hB := 0)
      | fail)
    go_ret
    exact ⟨by first | rfl | simp, hb2.out⟩
  have c2i : ¬ (200 : Int) < no := by omega
  by_cases c3 : 3000 < k
  · have c3i : (3000 : Int) < k := by omega
    clear ho h hro hr
    go_enter Try.func7, Try.ntmps7
    go_wp2_with (first
      | (go_at_call 26; refine (awake12 _).mono ?_; rintro e W1 ⟨rfl, hB⟩; have hb2 := Lib.hid (hb.out.trans (hB.mono hb.out.size)); replace hB := 0)
      | fail)
    go_ret
    exact ⟨by first | rfl | simp, hb2.out⟩
  have c3i : ¬ (3000 : Int) < k := by omega
  by_cases c4 : 200 < mo
  · have c4i : (200 : Int) < mo := by omega
    clear ho h hro hr
    go_enter Try.func7, Try.ntmps7
    go_wp2_with (first
      | (go_at_call 26; refine (awake12 _).mono ?_; rintro e W1 ⟨rfl, hB⟩; have hb2 := Lib.hid (hb.out.trans (hB.mono hb.out.size)); replace hB := 0)
      | fail)
    go_ret
    exact ⟨by first | rfl | simp, hb2.out⟩
  have c4i : ¬ (200 : Int) < mo := by omega
  have hD := Lib.hid (fun W (hW : Below w.heap.size w W) => And.intro (ho.below hW) (And.intro (h.below hW) (And.intro (hro.below hW) (hr.below hW))))
  have hS1 := Lib.hid (fun W (hW : Below w.heap.size w W) => (Segment_any m x Ao no co A n c W (hD.out W hW).1 (hD.out W hW).2.1 (by omega) (by omega)).mono fun (e : Ending) w' ⟨A8, c8, A9, c9, he, h1, h2, h3⟩ => show (∃ u, e = Ending.returned u ∧ TcpRl (segT m x) no n u w') ∧ Below W.heap.size W w' from ⟨⟨_, he, A8, c8, A9, c9, rfl, h1.rb, by rw [segT_data]; exact h2.rb⟩, h3⟩)
  have hS2 := Lib.hid (fun W (hW : Below w.heap.size w W) => (RefSegment_any m x Ao no co A n c W (hD.out W hW).1 (hD.out W hW).2.1 (by omega) (by omega)).mono fun (e : Ending) w' ⟨A8, c8, A9, c9, he, h1, h2, h3⟩ => show (∃ u, e = Ending.returned u ∧ TcpRl (segT m x) no n u w') ∧ Below W.heap.size W w' from ⟨⟨_, he, A8, c8, A9, c9, rfl, h1, h2⟩, h3⟩)
  have hP1 := Lib.hid (fun W (hW : Below w.heap.size w W) => (ClampPacket_any p x Bo mo do_ B k d W (hD.out W hW).2.2.1 (hD.out W hW).2.2.2 (by omega) (by omega)).mono fun e w' h => h.rl)
  have hP2 := Lib.hid (fun W (hW : Below w.heap.size w W) => (RefClampPacket_any p x Bo mo do_ B k d W (hD.out W hW).2.2.1 (hD.out W hW).2.2.2 (by omega) (by omega)).mono fun e w' h => h.rl)
  have hCl := Lib.hid (fun W (hW : Below w.heap.size w W) => BClone_any Ao no co m.opts W (hD.out W hW).1 (by omega))
  have z8 := k1.out.cell 8 _ rfl
  have z9 := k1.out.cell 9 _ rfl
  have y9 := k2.out.cell 9 _ rfl
  have y10 := k2.out.cell 10 _ rfl
  generalize segT m x = sg at *
  generalize packC p x = pk at *
  generalize mostC x = mx at *
  clear ho h hro hr
  have hi1 := Lib.hid info_tcp
  have hi2 := Lib.hid info_v4
  go_enter Try.func7, Try.ntmps7
  go_wp2_with (first
    | (go_at_call 30; refine (hCl.out _ hb.out).mono ?_; rintro e w1 ⟨A1, c1', rfl, r1, hb1⟩; have hB1 := hb.out.trans (hb1.mono hb.out.size); have l1 := k1.out.to hb1; have l2 := k2.out.to hb1; have r1' := r1.rb; clear z8 z9 y9 y10 r1; replace hb1 := 0)
    | fail)
  have hK : ∀ W W', (Blk W w.heap.size (cellsT m Ao no co A n c) 50 ∧ Blk W (w.heap.size + 1) (cells4 p Bo mo do_ B k d) 24 ∧ RB W A1 no c1' m.opts ∧ Below w.heap.size w W) → Below W.heap.size W W' →
      (Blk W' w.heap.size (cellsT m Ao no co A n c) 50 ∧ Blk W' (w.heap.size + 1) (cells4 p Bo mo do_ B k d) 24 ∧ RB W' A1 no c1' m.opts ∧ Below w.heap.size w W') := fun W W' ⟨a1, a2, a3, a5⟩ hW =>
    ⟨a1.to hW, a2.to hW, a3.below hW, a5.trans (hW.mono a5.size)⟩
  have hS0 := hK w1 w1.drew ⟨l1, l2, r1', hB1⟩ (Below.refl _ _).drew
  replace hK := Lib.hid hK
  clear l1 l2 r1' hB1
  refine wp_region_loose (fun W => Blk W w.heap.size (cellsT m Ao no co A n c) 50 ∧ Blk W (w.heap.size + 1) (cells4 p Bo mo do_ B k d) 24 ∧ RB W A1 no c1' m.opts ∧ Below w.heap.size w W) (by kernel_rfl) (by kernel_rfl) (by kernel_rfl) hS0 ?_
  repeat (first
    | (refine looseL_skip (by rfl) (by rfl) rfl ?_; simp only [putV, List.setIfInBounds_toArray, List.set_cons_zero, List.set_cons_succ])
    | (refine looseL_row (by rfl) (by rfl) (by rfl) rfl 50 (.tmp 3) rfl w.heap.size rfl _ (cellsT m Ao no co A n c) _ _ (fun W hS => hS.1.at_) Try.underlying50 rfl hi1.out ?_; simp only [putV, List.setIfInBounds_toArray, List.set_cons_zero, List.set_cons_succ])
    | (refine looseL_row (by rfl) (by rfl) (by rfl) rfl 24 (.tmp 4) rfl (w.heap.size + 1) rfl _ (cells4 p Bo mo do_ B k d) _ _ (fun W hS => hS.2.1.at_) Try.underlying24 rfl hi2.out ?_; simp only [putV, List.setIfInBounds_toArray, List.set_cons_zero, List.set_cons_succ])
    | (refine looseL_call2E (d := 36) (TcpRl sg no n) (by rfl) rfl 32 (.tmp 34) (.tmp 35) _ rfl en_C12Seg rfl (TcpRl.stable _ _ _) ?_ ?_; (intro vx vy W hS hx hy; cases hx; cases hy; exact (hS1.out W hS.2.2.2).mono fun e W' ⟨⟨u, he, hu⟩, hb⟩ => ⟨⟨u, he, hu⟩, hK.out W W' hS hb, hb⟩))
    | (refine looseL_call2E (d := 39) (TcpRl sg no n) (by rfl) rfl 33 (.tmp 37) (.tmp 38) _ rfl en_C12RSeg rfl (TcpRl.stable _ _ _) ?_ ?_; (intro vx vy W hS hx hy; cases hx; cases hy; exact (hS2.out W hS.2.2.2).mono fun e W' ⟨⟨u, he, hu⟩, hb⟩ => ⟨⟨u, he, hu⟩, hK.out W W' hS hb, hb⟩))
    | (refine looseL_call2E (d := 44) (V4Rl pk) (by rfl) rfl 28 (.tmp 42) (.tmp 43) _ rfl en_C12Pack rfl (V4Rl.stable _) ?_ ?_; (intro vx vy W hS hx hy; cases hx; cases hy; exact (hP1.out W hS.2.2.2).mono fun e W' ⟨⟨u, he, hu⟩, hb⟩ => ⟨⟨u, he, hu⟩, hK.out W W' hS hb, hb⟩))
    | (refine looseL_call2E (d := 47) (V4Rl pk) (by rfl) rfl 34 (.tmp 45) (.tmp 46) _ rfl en_C12RPack rfl (V4Rl.stable _) ?_ ?_; (intro vx vy W hS hx hy; cases hx; cases hy; exact (hP2.out W hS.2.2.2).mono fun e W' ⟨⟨u, he, hu⟩, hb⟩ => ⟨⟨u, he, hu⟩, hK.out W W' hS hb, hb⟩))
    | (refine looseL_call2 (v := .bool true) (by rfl) rfl 31 (.tmp 36) (.tmp 39) _ rfl en_C12Same8 (by rfl) ?_ ?_; (intro vx vy W hS hx hy; exact (Same8_rl hx hy).mono fun e W' ⟨he, hb⟩ => ⟨he, hK.out W W' hS hb, hb⟩); simp only [putV, List.setIfInBounds_toArray, List.set_cons_zero, List.set_cons_succ])
    | (refine looseL_call2 (v := .bool true) (by rfl) rfl 22 (.tmp 44) (.tmp 47) _ rfl en_C12Same5 (by rfl) ?_ ?_; (intro vx vy W hS hx hy; exact (Same4_rl hx hy).mono fun e W' ⟨he, hb⟩ => ⟨he, hK.out W W' hS hb, hb⟩); simp only [putV, List.setIfInBounds_toArray, List.set_cons_zero, List.set_cons_succ])
    | (refine looseL_call1 (v := .int .i64 mx) (by rfl) rfl 35 (.tmp 51) _ rfl en_C12Most (by rfl) ?_ ?_; (intro vx W hS hx; cases hx; exact (hMo.out W).mono fun e W' ⟨he, hb⟩ => ⟨he, hK.out W W' hS hb, hb⟩); simp only [putV, List.setIfInBounds_toArray, List.set_cons_zero, List.set_cons_succ])
    | (refine looseL_call1 (v := .int .i64 mx) (by rfl) rfl 36 (.tmp 53) _ rfl en_C12RMost (by rfl) ?_ ?_; (intro vx W hS hx; cases hx; exact (hRMo.out W).mono fun e W' ⟨he, hb⟩ => ⟨he, hK.out W W' hS hb, hb⟩); simp only [putV, List.setIfInBounds_toArray, List.set_cons_zero, List.set_cons_succ])
    | (refine looseL_call2 (v := .bool true) (by rfl) rfl 17 (.tmp 59) (.tmp 60) _ rfl en_C12Equal (by rfl) ?_ ?_; (intro vx vy W hS hx hy; cases hx; cases hy; exact (toB (Equal_same _ _ _ _ _ _ _ W (hD.out W hS.2.2.2).1 hS.2.2.1)).mono fun e W' ⟨he, hb⟩ => ⟨he, hK.out W W' hS hb, hb⟩); simp only [putV, List.setIfInBounds_toArray, List.set_cons_zero, List.set_cons_succ])
    | (refine looseL_call0 (v := .bool true) (by rfl) rfl 26 _ rfl en_C12Awake (by rfl) ?_ ?_; (intro W hS; exact (awake12 W).mono fun e W' ⟨he, hb⟩ => ⟨he, hK.out W W' hS hb, hb⟩); simp only [putV, List.setIfInBounds_toArray, List.set_cons_zero, List.set_cons_succ])
    | (refine looseL_val (v := ?_) (by rfl) (by rfl) (by rfl) rfl (fun W hS => ?_) ?_; rotate_left; (· (have z8 := hS.1.cell 8 _ rfl; clear hS; go_simp; try with_reducible rfl)); simp only [putV, List.setIfInBounds_toArray, List.set_cons_zero, List.set_cons_succ]))
  refine looseL_nil fun a W hS hsz hds hR => ?_
  have hfin : a.tmps.getD 6 undef = .bool true := hR 6 (by simp)
  obtain ⟨T, D⟩ := a
  have hD : D = [] := hds
  subst hD
  have hfin2 : T[6]?.getD undef = .bool true := by simpa using hfin
  clear hR hsz hds
  go_wp2
  exact bodyPost_ret (v := .bool true) (by simp [results, Try.results7, go_sem, hfin2]) rfl ⟨rfl, hS.2.2.2⟩
end Go.Proofs.Ytipigcpenmcaoaa
