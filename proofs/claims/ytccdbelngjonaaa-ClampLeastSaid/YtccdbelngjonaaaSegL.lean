/- The law ClampLeast: its walk. -/
import Derived.Test.YtccdbelngjonaaaAwake12
set_option linter.unusedVariables false
namespace Go.Proofs.Ytccdbelngjonaaa
open Go.RowKit

theorem segT_f (m : TcpP) (b : Int) : (segT m b).f = m.f := by unfold segT; split <;> rfl
set_option maxRecDepth 100000 in
set_option maxHeartbeats 4000000 in
theorem ClampLeast_walk (m : TcpP) (Ao : Option Addr) (no co : Nat) (A : Option Addr) (n c : Nat) (x : Int) (w : World) (ho : RB w Ao no co m.opts) (h : RB w A n c m.data) (hx0 : 0 ≤ x) (hx1 : x ≤ 65535) :
    Calls Try.prog 14 #[.agg (cellsT m Ao no co A n c), .int .u16 x] w fun e w' => e = .returned (.bool true) ∧ Below w.heap.size w w' := by
  have k1 := Blk.new w (cellsT m Ao no co A n c) 73
  have hb1 := (Below.refl _ w).alloc (Nat.le_refl _) (.cells (cellsT m Ao no co A n c) 73)
  have ho1 := ho.alloc (.cells (cellsT m Ao no co A n c) 73)
  have hd1 := h.alloc (.cells (cellsT m Ao no co A n c) 73)
  obtain ⟨r0, r1, r2, r3, r4, r5, r6, r7, r8, r9⟩ := tcells k1
  by_cases hbig : 3000 < n ∨ 200 < no
  · have hbig' : (3000 < n) ∨ (¬ 3000 < n ∧ 200 < no) := by omega
    replace hb1 := Lib.hid hb1
    clear h ho k1 ho1 hd1
    rcases hbig' with h1 | ⟨h1, h2⟩
    · have h1i : (3000 : Int) < n := by omega
      go_enter Try.func14, Try.ntmps14
      go_wp2_with (first
        | (go_at_call 60; refine (awake12 _).mono ?_; rintro e W1 ⟨rfl, hB⟩; have hb2 := Lib.hid (hb1.out.trans (hB.mono hb1.out.size)); replace hB := 0)
        | fail)
      go_ret
      exact ⟨by first | rfl | simp, hb2.out⟩
    · have h1i : ¬ (3000 : Int) < n := by omega
      have h2i : (200 : Int) < no := by omega
      go_enter Try.func14, Try.ntmps14
      go_wp2_with (first
        | (go_at_call 60; refine (awake12 _).mono ?_; rintro e W1 ⟨rfl, hB⟩; have hb2 := Lib.hid (hb1.out.trans (hB.mono hb1.out.size)); replace hB := 0)
        | fail)
      go_ret
      exact ⟨by first | rfl | simp, hb2.out⟩
  · have h1i : ¬ (3000 : Int) < n := by omega
    have h2i : ¬ (200 : Int) < no := by omega
    have hf : fitsP x ((2 : Nat) : Int) := ⟨by omega, hx0, show x < 65536 by omega⟩
    have hsm := seg_mss (m := m) (bound := x) hf ho.byt
    have hwx : IntKind.i64.wrap x = x := by rw [IntKind.wrap_i64]; omega
    have hS := fun W (hr : RB W Ao no co m.opts) (hq : RB W A n c m.data) => Segment_any m x Ao no co A n c W hr hq (by omega) (by omega)
    have hM1 := fun W (hr : RB W Ao no co m.opts) => MSS_any m Ao no co A n c W hr (by omega)
    have hM2 := fun A8 c8 A9 c9 W (hr : RB W A8 no c8 (segT m x).opts) => MSS_any (segT m x) A8 no c8 A9 n c9 W hr (by omega)
    generalize segT m x = q at *
    obtain ⟨⟨v, at_, ok⟩, hR⟩ : ∃ R, mssT m.opts = R := ⟨_, rfl⟩
    obtain ⟨⟨v', at', ok'⟩, hR'⟩ : ∃ R, mssT q.opts = R := ⟨_, rfl⟩
    rw [hR] at hM1 hsm
    rw [hR'] at hM2 hsm
    obtain ⟨hs1, hs2⟩ := hsm
    obtain ⟨rfl, rfl⟩ : at' = at_ ∧ ok' = ok := by simpa using hs1
    replace hs2 : v' = if (bits .and .i64 m.f 2 == 0) = true then v else min v x := hs2
    replace hM1 := Lib.hid hM1
    replace hM2 := Lib.hid hM2
    replace hS := Lib.hid hS
    replace hb1 := Lib.hid hb1
    replace k1 := Lib.hid k1
    replace ho1 := Lib.hid ho1
    replace hd1 := Lib.hid hd1
    clear hbig h ho hf hx0 hx1 hR hR' hs1
    cases hb : (bits .and .i64 m.f 2 == 0)
    all_goals
      rw [hb] at hs2
      simp only [Bool.false_eq_true, if_false, if_true] at hs2
      go_enter Try.func14, Try.ntmps14
      go_wp2_with (first
        | (go_at_call 60; refine (awake12 _).mono ?_; rintro e W1 ⟨rfl, hB⟩; have hb5 := Lib.hid (hb4.out.trans (hB.mono hb4.out.size)); replace hB := 0)
        | (go_at_call 58; refine (hM2.out _ _ _ _ _ ho3.out).mono ?_; rintro e w3 ⟨rfl, hB3⟩; unfold mssV; have hb4 := Lib.hid (hb3.out.trans (hB3.mono hb3.out.size)); have k4 := Lib.hid (k3.out.to hB3); obtain ⟨r0, r1, r2, r3, r4, r5, r6, r7, r8, r9⟩ := tcells k4.out; replace hB3 := 0)
        | (go_at_call 61; refine (hS.out _ ho2.out hd2.out).mono ?_; rintro e w2 ⟨A8, c8, A9, c9, rfl, ho3, hd3, hB2⟩; have hb3 := Lib.hid (hb2.out.trans (hB2.mono hb2.out.size)); have k3 := Lib.hid (k2.out.to hB2); replace hd3 := 0; replace hB2 := 0; replace ho3 := Lib.hid ho3.rb)
        | (refine wpList_load_W rfl (.tmp 2) rfl w.heap.size rfl (cellsT m Ao no co A n c) k2.out rfl ?_)
        | (go_at_call 58; refine (hM1.out _ ho1.out).mono ?_; rintro e w1 ⟨rfl, hB1⟩; unfold mssV; have k2 := Lib.hid (k1.out.to hB1); have hb2 := Lib.hid (hb1.out.trans (hB1.mono hb1.out.size)); have ho2 := Lib.hid (ho1.out.below hB1); have hd2 := Lib.hid (hd1.out.below hB1); clear r0 r1 r2 r3 r4 r5 r6 r7 r8 r9; replace hB1 := 0)
        | (refine wpList_load_W rfl (.tmp 2) rfl w.heap.size rfl (cellsT m Ao no co A n c) k1.out rfl ?_)
        | fail)
      all_goals
        go_ret
        exact ⟨by first | rfl | simp, hb5.out⟩
end Go.Proofs.Ytccdbelngjonaaa
