/- The laws Icmp6Parses, Icmp6Back: their walks. -/
import Derived.Test.YtekngoallcogpaaIcmp6Plain
import Derived.Test.YtekngoallcogpaaAwake10
set_option linter.unusedVariables false
namespace Go.Proofs.Ytekngoallcogpaa
open Go.RowKit

theorem same6_refl (m : IcmpP) : sameI m m = true := by simp [sameI]


set_option maxRecDepth 100000 in
set_option maxHeartbeats 2000000 in
theorem Icmp6Parses_walk (s d : List Int) (A : Option Addr) (n c : Nat) (bs : List Int) (w : World) (hs : Six s) (hd : Six d) (h : RB w A n c bs) :
    Calls Try.prog 11 #[.agg (cells6 s), .agg (cells6 d), .slice A n c] w fun e w' => e = .returned (.bool true) ∧ Below w.heap.size w w' := by
  have hb0 := Lib.hid (((Below.refl _ w).alloc (Nat.le_refl _) (.cells (cells6 s) 52)).alloc (by simp) (.cells (cells6 d) 52))
  have k1 := Lib.hid ((Blk.new w (cells6 s) 52).alloc (.cells (cells6 d) 52))
  have k2 := Blk.new (w.alloc (.cells (cells6 s) 52)) (cells6 d) 52
  rw [World.size_alloc] at k2
  replace k2 := Lib.hid k2
  have i1 := Lib.hid (info_six6 hs)
  have i2 := Lib.hid (info_six6 hd)
  by_cases hn : 3000 < n
  · clear h
    go_enter Try.func11, Try.ntmps11
    go_wp2_with (go_at_call 42; refine (awake10 _).mono ?_; rintro e w' ⟨rfl, hb1⟩)
    go_ret
    exact ⟨rfl, hb0.out.trans (hb1.mono hb0.out.size)⟩
  · have hP := Lib.hid (fun W (hW : Below w.heap.size w W) => Parse6_any s d A n c bs W hs hd (h.below hW))
    have hR := Lib.hid (fun W (hW : Below w.heap.size w W) => RefParse6_any s d A n c bs W hs hd (h.below hW))
    have hsm := same6_refl (read6 s d bs)
    generalize read6 s d bs = m at *
    generalize code6 s d bs = k at *
    replace hsm := Lib.hid hsm
    clear h
    go_enter Try.func11, Try.ntmps11
    go_wp2_with (first
      | (refine wpList_load_row rfl 52 (.tmp 3) rfl w.heap.size rfl _ (cells6 s) _ _ k1.out.at_ Try.underlying52 rfl i1.out ?_)
      | (refine wpList_load_row rfl 52 (.tmp 4) rfl (w.heap.size + 1) rfl _ (cells6 d) _ _ k2.out.at_ Try.underlying52 rfl i2.out ?_)
      | (go_at_call 49; refine (hP.out _ hb0.out).mono ?_; rintro e w1 ⟨A1, n1, c1, rfl, ho1, hB1⟩; unfold cellsI; have q1 := Lib.hid ((k1.out.to hB1).alloc (.cells (cellsI m A1 n1 c1) 24)); have q2 := Lib.hid ((k2.out.to hB1).alloc (.cells (cellsI m A1 n1 c1) 24)); have hBt1 := hb0.out.trans (hB1.mono hb0.out.size); have hv1 := Lib.hid (VBox.new w1 (cellsI m A1 n1 c1) 24); have hr1 := Lib.hid (ho1.rb.alloc (.cells (cellsI m A1 n1 c1) 24)); have hb1 := Lib.hid (hBt1.alloc hBt1.size (.cells (cellsI m A1 n1 c1) 24)); replace ho1 := 0; replace hB1 := 0; replace hBt1 := 0)
      | (refine wpList_load_row rfl 52 (.tmp 3) rfl w.heap.size rfl _ (cells6 s) _ _ q1.out.at_ Try.underlying52 rfl i1.out ?_)
      | (refine wpList_load_row rfl 52 (.tmp 4) rfl (w.heap.size + 1) rfl _ (cells6 d) _ _ q2.out.at_ Try.underlying52 rfl i2.out ?_)
      | (go_at_call 50; refine (hR.out _ hb1.out).mono ?_; rintro e w2 ⟨A2, n2, c2, rfl, ho2, hB2⟩; unfold cellsI; have hv2 := hv1.out.below hB2 hv1.out.lt; have z0 := hv2.at_ 0 _ rfl; have z1 := hv2.at_ 1 _ rfl; have z2 := hv2.at_ 2 _ rfl; have z3 := hv2.at_ 3 _ rfl; have hlt := hv2.lt; have hr3 := Lib.hid ((hr1.out.below hB2).alloc (.cells (cellsI m A2 n2 c2) 24)); have hr4 := Lib.hid (ho2.rb.alloc (.cells (cellsI m A2 n2 c2) 24)); have hBt := hb1.out.trans (hB2.mono hb1.out.size); have hb2 := Lib.hid (hBt.alloc hBt.size (.cells (cellsI m A2 n2 c2) 24)); replace hv2 := 0; replace ho2 := 0; replace hB2 := 0; replace hBt := 0)
      | (go_at_call 20; refine (RefIcmpSame_any m m A1 A2 n1 c1 n2 c2 _ hr3.out hr4.out).mono ?_; rintro e w3 ⟨rfl, hB3⟩; rw [hsm.out]; have hBt := Lib.hid (hb2.out.trans (hB3.mono hb2.out.size)); replace hB3 := 0)
      | (go_at_call 42; refine (awake10 _).mono ?_; rintro e w4 ⟨rfl, hB4⟩)
      | fail)
    go_ret
    exact ⟨by first | rfl | simp, hBt.out.trans (hB4.mono hBt.out.size)⟩
set_option maxRecDepth 100000 in
set_option maxHeartbeats 4000000 in
theorem Icmp6Back_walk (s d : List Int) (m : IcmpP) (A : Option Addr) (n c : Nat) (w : World) (hs : Six s) (hd : Six d) (h : RB w A n c m.data) :
    Calls Try.prog 12 #[.agg (cells6 s), .agg (cells6 d), .agg (cellsI m A n c)] w fun e w' => e = .returned (.bool true) ∧ Below w.heap.size w w' := by
  have hb0 := Lib.hid ((((Below.refl _ w).alloc (Nat.le_refl _) (.cells (cells6 s) 52)).alloc (by simp) (.cells (cells6 d) 52)).alloc (by simp; omega) (.cells (cellsI m A n c) 24))
  have k1 := Lib.hid (((Blk.new w (cells6 s) 52).alloc (.cells (cells6 d) 52)).alloc (.cells (cellsI m A n c) 24))
  have k2 := (Blk.new (w.alloc (.cells (cells6 s) 52)) (cells6 d) 52).alloc (.cells (cellsI m A n c) 24)
  have k3 := Blk.new ((w.alloc (.cells (cells6 s) 52)).alloc (.cells (cells6 d) 52)) (cellsI m A n c) 24
  rw [World.size_alloc] at k2
  rw [World.size_alloc, World.size_alloc] at k3
  replace k2 := Lib.hid k2
  replace k3 := Lib.hid k3
  have i1 := Lib.hid (info_six6 hs)
  have i2 := Lib.hid (info_six6 hd)
  by_cases hn : 3000 < n
  · clear h
    go_enter Try.func12, Try.ntmps12
    go_wp2_with (go_at_call 42; refine (awake10 _).mono ?_; rintro e w' ⟨rfl, hb1⟩)
    go_ret
    exact ⟨rfl, hb0.out.trans (hb1.mono hb0.out.size)⟩
  · have hB := Lib.hid (fun W (hW : Below w.heap.size w W) => Build6_any s d m A n c W hs hd (h.below hW))
    by_cases hok : checkI m n = 0
    · have e1 : built6? s d m n = built6 s d m := by unfold built6?; rw [if_pos hok]
      rw [hok, e1] at hB
      have hP := Lib.hid (fun A n c W (hr : RB W A n c (built6 s d m)) => Parse6_any s d A n c _ W hs hd hr)
      rw [back6_read hs hd h.len hok h.byt, back6_code hs hd h.len hok h.byt] at hP
      have hD := Lib.hid (fun W (hW : Below w.heap.size w W) => h.below hW)
      have hsm := Lib.hid (same6_refl m)
      replace e1 := 0
      clear h hok
      go_enter Try.func12, Try.ntmps12
      go_wp2_with (first
        | (refine wpList_load_row rfl 52 (.tmp 3) rfl w.heap.size rfl _ (cells6 s) _ _ k1.out.at_ Try.underlying52 rfl i1.out ?_)
        | (refine wpList_load_row rfl 52 (.tmp 4) rfl (w.heap.size + 1) rfl _ (cells6 d) _ _ k2.out.at_ Try.underlying52 rfl i2.out ?_)
        | (go_at_call 43; refine (hB.out _ hb0.out).mono ?_; rintro e w1 ⟨A1, n1, c1, rfl, hr1, hB1⟩; have q1 := Lib.hid (k1.out.to hB1); have q2 := Lib.hid (k2.out.to hB1); have hv1 := Lib.hid (k3.out.vbox.below hB1 k3.out.lt); have hb1 := Lib.hid (hb0.out.trans (hB1.mono hb0.out.size)); replace hB1 := 0)
        | (refine wpList_load_row rfl 52 (.tmp 3) rfl w.heap.size rfl _ (cells6 s) _ _ q1.out.at_ Try.underlying52 rfl i1.out ?_)
        | (refine wpList_load_row rfl 52 (.tmp 4) rfl (w.heap.size + 1) rfl _ (cells6 d) _ _ q2.out.at_ Try.underlying52 rfl i2.out ?_)
        | (go_at_call 49; refine (hP.out _ _ _ _ hr1).mono ?_; rintro e w2 ⟨A2, n2, c2, rfl, ho2, hB2⟩; unfold cellsI; have hv2 := hv1.out.below hB2 hv1.out.lt; have z0 := hv2.at_ 0 _ rfl; have z1 := hv2.at_ 1 _ rfl; have z2 := hv2.at_ 2 _ rfl; have z3 := hv2.at_ 3 _ rfl; have hlt := hv2.lt; have hBt := hb1.out.trans (hB2.mono hb1.out.size); have hr3 := Lib.hid (ho2.rb.alloc (.cells (cellsI m A2 n2 c2) 24)); have hb2 := Lib.hid (hBt.alloc hBt.size (.cells (cellsI m A2 n2 c2) 24)); replace hv2 := 0; replace ho2 := 0; replace hB2 := 0; replace hBt := 0)
        | (go_at_call 20; refine (RefIcmpSame_any m m A A2 n c n2 c2 _ (hD.out _ hb2.out) hr3.out).mono ?_; rintro e w3 ⟨rfl, hB3⟩; rw [hsm.out]; have hBt := Lib.hid (hb2.out.trans (hB3.mono hb2.out.size)); replace hB3 := 0)
        | (go_at_call 42; refine (awake10 _).mono ?_; rintro e w4 ⟨rfl, hB4⟩)
        | fail)
      go_ret
      exact ⟨by first | rfl | simp, hBt.out.trans (hB4.mono hBt.out.size)⟩
    · have e1 : built6? s d m n = [] := by unfold built6?; rw [if_neg hok]
      rw [e1] at hB
      have hc := checkI_code m n
      generalize checkI m n = e0 at *
      replace e1 := 0
      clear h
      rcases hc with rfl | rfl | rfl
      · exact absurd rfl hok
      all_goals
        clear hok
        go_enter Try.func12, Try.ntmps12
        go_wp2_with (first
          | (refine wpList_load_row rfl 52 (.tmp 3) rfl w.heap.size rfl _ (cells6 s) _ _ k1.out.at_ Try.underlying52 rfl i1.out ?_)
          | (refine wpList_load_row rfl 52 (.tmp 4) rfl (w.heap.size + 1) rfl _ (cells6 d) _ _ k2.out.at_ Try.underlying52 rfl i2.out ?_)
          | (go_at_call 43; refine (hB.out _ hb0.out).mono ?_; rintro e w1 ⟨A1, n1, c1, rfl, hr1, hB1⟩; obtain rfl : n1 = 0 := hr1.len.symm; have hb1 := Lib.hid (hb0.out.trans (hB1.mono hb0.out.size)); replace hB1 := 0; replace hr1 := 0)
          | (go_at_call 42; refine (awake10 _).mono ?_; rintro e w4 ⟨rfl, hB4⟩)
          | fail)
        go_ret
        exact ⟨by first | rfl | simp, hb1.out.trans (hB4.mono hb1.out.size)⟩
end Go.Proofs.Ytekngoallcogpaa
