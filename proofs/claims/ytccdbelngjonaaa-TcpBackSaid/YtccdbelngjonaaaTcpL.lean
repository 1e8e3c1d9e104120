/- The laws TcpParses, TcpBack: their walks. -/
import Derived.Test.YtccdbelngjonaaaAwake08
set_option linter.unusedVariables false
namespace Go.Proofs.Ytccdbelngjonaaa
open Go.RowKit


set_option maxRecDepth 100000 in
set_option maxHeartbeats 2000000 in
theorem TcpParses_walk (src dst : Int) (A : Option Addr) (n c : Nat) (bs : List Int) (w : World)
    (_a1 : -9223372036854775808 ≤ src) (_a2 : src ≤ 9223372036854775807) (_a3 : -9223372036854775808 ≤ dst) (_a4 : dst ≤ 9223372036854775807) (h : RB w A n c bs) :
    Calls Try.prog 11 #[.int .i64 src, .int .i64 dst, .slice A n c] w fun e w' => e = .returned (.bool true) ∧ Below w.heap.size w w' := by
  clear _a1 _a2 _a3 _a4
  by_cases hn : 3000 < n
  · clear h
    go_enter Try.func11, Try.ntmps11
    go_wp2_with (go_at_call 46; refine (awake08 _).mono ?_; rintro e w' ⟨rfl, hb1⟩)
    go_ret
    exact ⟨rfl, hb1⟩
  · have hP := Lib.hid (TcpParse_any src dst A n c bs w h)
    have hR := Lib.hid (fun W (hW : Below w.heap.size w W) => RefTcpParse_any src dst A n c bs W (h.below hW))
    have hsm := Lib.hid (sameT_refl (readT src dst bs))
    generalize readT src dst bs = m at *
    generalize codeT src dst bs = k at *
    clear h
    go_enter Try.func11, Try.ntmps11
    go_wp2_with (first
      | (go_at_call 53; refine hP.out.mono ?_; rintro e w1 ⟨Bo, mo, do_, B, l, d, rfl, ho1, hd1, hB1⟩; have k1 := Lib.hid (Blk.new w1 (cellsT m Bo mo do_ B l d) 73); have q1 := Lib.hid (ho1.rb.alloc (.cells (cellsT m Bo mo do_ B l d) 73)); have r1 := Lib.hid (hd1.rb.alloc (.cells (cellsT m Bo mo do_ B l d) 73)); have hb1 := Lib.hid (hB1.alloc hB1.size (.cells (cellsT m Bo mo do_ B l d) 73)); replace ho1 := 0; replace hd1 := 0; replace hB1 := 0)
      | (go_at_call 54; refine (hR.out _ hb1.out).mono ?_; rintro e w2 ⟨Co, po, co, C, p, f, rfl, ho2, hd2, hB2⟩; have k2 := Lib.hid ((k1.out.to hB2).alloc (.cells (cellsT m Co po co C p f) 73)); have l2 := Lib.hid (Blk.new w2 (cellsT m Co po co C p f) 73); have q2 := Lib.hid ((q1.out.below hB2).alloc (.cells (cellsT m Co po co C p f) 73)); have r2 := Lib.hid ((r1.out.below hB2).alloc (.cells (cellsT m Co po co C p f) 73)); have s2 := Lib.hid (ho2.rb.alloc (.cells (cellsT m Co po co C p f) 73)); have t2 := Lib.hid (hd2.rb.alloc (.cells (cellsT m Co po co C p f) 73)); have hb2 := hb1.out.trans (hB2.mono hb1.out.size); have hb3 := Lib.hid (hb2.alloc hb2.size (.cells (cellsT m Co po co C p f) 73)); replace ho2 := 0; replace hd2 := 0; replace hB2 := 0; replace hb2 := 0)
      | (refine wpList_load_W rfl (.tmp 7) rfl w1.heap.size rfl (cellsT m Bo mo do_ B l d) k2.out rfl ?_)
      | (refine wpList_load_W rfl (.tmp 9) rfl w2.heap.size rfl (cellsT m Co po co C p f) l2.out rfl ?_)
      | (go_at_call 52; refine (RefTcpSame_any m m Bo mo do_ B l d Co po co C p f _ q2.out r2.out s2.out t2.out).mono ?_; rintro e w3 ⟨rfl, hB3⟩; rw [hsm.out]; have hBt := Lib.hid (hb3.out.trans (hB3.mono hb3.out.size)); replace hB3 := 0)
      | (go_at_call 46; refine (awake08 _).mono ?_; rintro e w4 ⟨rfl, hB4⟩)
      | fail)
    go_ret
    exact ⟨by first | rfl | simp, hBt.out.trans (hB4.mono hBt.out.size)⟩

set_option maxRecDepth 100000 in
set_option maxHeartbeats 2000000 in
theorem TcpBack_walk (src dst : Int) (m : TcpP) (Ao : Option Addr) (no co : Nat) (A : Option Addr) (n c : Nat) (w : World)
    (_a1 : -9223372036854775808 ≤ src) (_a2 : src ≤ 9223372036854775807) (_a3 : -9223372036854775808 ≤ dst) (_a4 : dst ≤ 9223372036854775807) (ho : RB w Ao no co m.opts) (h : RB w A n c m.data) :
    Calls Try.prog 13 #[.int .i64 src, .int .i64 dst, .agg (cellsT m Ao no co A n c)] w fun e w' => e = .returned (.bool true) ∧ Below w.heap.size w w' := by
  clear _a1 _a2 _a3 _a4
  have hb0 := Lib.hid ((Below.refl _ w).alloc (Nat.le_refl _) (.cells (cellsT m Ao no co A n c) 73))
  have k0 := Lib.hid (Blk.new w (cellsT m Ao no co A n c) 73)
  by_cases hn : 3000 < n
  · skip
    clear ho h
    go_enter Try.func13, Try.ntmps13
    go_wp2_with (go_at_call 46; refine (awake08 _).mono ?_; rintro e w' ⟨rfl, hb1⟩)
    go_ret
    exact ⟨rfl, hb0.out.trans (hb1.mono hb0.out.size)⟩
  · by_cases hno : 200 < no
    · skip
      clear ho h
      go_enter Try.func13, Try.ntmps13
      go_wp2_with (go_at_call 46; refine (awake08 _).mono ?_; rintro e w' ⟨rfl, hb1⟩)
      go_ret
      exact ⟨rfl, hb0.out.trans (hb1.mono hb0.out.size)⟩
    · have hB := Lib.hid (fun W (hW : Below w.heap.size w W) => TcpBuild_any src dst m Ao no co A n c W (ho.below hW) (h.below hW) (by omega))
      by_cases hok : checkT m no n = 0
      · have e1 : builtT? src dst m no n = builtT src dst m := by unfold builtT?; rw [if_pos hok]
        rw [hok, e1] at hB
        have hP := Lib.hid (fun A n c W (hr : RB W A n c (builtT src dst m)) => TcpParse_any src dst A n c _ W hr)
        rw [back8_read ho.len h.len hok ho.byt h.byt, back8_code ho.len h.len hok ho.byt h.byt] at hP
        have hS := Lib.hid (fun Bo mo do_ B k d W (hW : Below w.heap.size w W) hq1 hq2 => TcpSame_any m m Ao no co A n c Bo mo do_ B k d W (ho.below hW) (h.below hW) hq1 hq2)
        rw [sameT_refl] at hS
        generalize builtT src dst m = bb at *
        replace e1 := 0
        clear ho h hok
        go_enter Try.func13, Try.ntmps13
        go_wp2_with (first
          | (refine wpList_load_W rfl (.tmp 5) rfl w.heap.size rfl (cellsT m Ao no co A n c) k0.out rfl ?_)
          | (go_at_call 47; refine (hB.out _ hb0.out).mono ?_; rintro e w1 ⟨A1, n1, c1, rfl, hr1, hB1⟩; have k1 := Lib.hid (k0.out.to hB1); have hb1 := Lib.hid (hb0.out.trans (hB1.mono hb0.out.size)); replace hr1 := Lib.hid hr1; replace hB1 := 0)
          | (go_at_call 53; refine (hP.out _ _ _ _ hr1.out).mono ?_; rintro e w2 ⟨Bo, mo, do_, B, k, d, rfl, ho3, hd3, hB3⟩; have k4 := Lib.hid ((k1.out.to hB3).alloc (.cells (cellsT m Bo mo do_ B k d) 73)); have q4 := Lib.hid (Blk.new w2 (cellsT m Bo mo do_ B k d) 73); have hb4 := hb1.out.trans (hB3.mono hb1.out.size); have hb5 := Lib.hid (hb4.alloc hb4.size (.cells (cellsT m Bo mo do_ B k d) 73)); have ho4 := Lib.hid (ho3.rb.alloc (.cells (cellsT m Bo mo do_ B k d) 73)); have hd4 := Lib.hid (hd3.rb.alloc (.cells (cellsT m Bo mo do_ B k d) 73)); replace ho3 := 0; replace hd3 := 0; replace hB3 := 0; replace hb4 := 0)
          | (refine wpList_load_W rfl (.tmp 5) rfl w.heap.size rfl (cellsT m Ao no co A n c) k4.out rfl ?_)
          | (refine wpList_load_W rfl (.tmp 9) rfl w2.heap.size rfl (cellsT m Bo mo do_ B k d) q4.out rfl ?_)
          | (go_at_call 51; refine (hS.out Bo mo do_ B k d _ hb5.out ho4.out hd4.out).mono ?_; rintro e w3 ⟨rfl, hB3⟩; have hBt := Lib.hid (hb5.out.trans (hB3.mono hb5.out.size)); replace hB3 := 0)
          | (go_at_call 46; refine (awake08 _).mono ?_; rintro e w4 ⟨rfl, hB4⟩)
          | fail)
        go_ret
        exact ⟨by first | rfl | simp, hBt.out.trans (hB4.mono hBt.out.size)⟩
      · have e1 : builtT? src dst m no n = [] := by unfold builtT?; rw [if_neg hok]
        rw [e1] at hB
        have hc := checkT_code m no n
        generalize checkT m no n = e0 at *
        replace e1 := 0
        clear ho h
        rcases hc with rfl | rfl | rfl
        · exact absurd rfl hok
        all_goals
          clear hok
          go_enter Try.func13, Try.ntmps13
          go_wp2_with (first
            | (refine wpList_load_W rfl (.tmp 5) rfl w.heap.size rfl (cellsT m Ao no co A n c) k0.out rfl ?_)
            | (go_at_call 47; refine (hB.out _ hb0.out).mono ?_; rintro e w1 ⟨A1, n1, c1, rfl, hr1, hB1⟩; obtain rfl : n1 = 0 := hr1.len.symm; have hb1 := Lib.hid (hb0.out.trans (hB1.mono hb0.out.size)); replace hB1 := 0; replace hr1 := 0)
            | (go_at_call 46; refine (awake08 _).mono ?_; rintro e w4 ⟨rfl, hB4⟩)
            | fail)
          go_ret
          exact ⟨by first | rfl | simp, hb1.out.trans (hB4.mono hb1.out.size)⟩
end Go.Proofs.Ytccdbelngjonaaa
