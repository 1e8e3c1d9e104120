/- The law PcpBuilds: its walk. -/
import Derived.Test.YtldjecilmcnpiaaPcpVa
import Derived.Test.YtldjecilmcnpiaaPcpO
import Derived.Test.YtldjecilmcnpiaaPcpX
import Derived.Test.YtldjecilmcnpiaaEqual
set_option linter.unusedVariables false
namespace Go.Proofs.Ytldjecilmcnpiaa
open Go Go.RowKit

set_option maxRecDepth 100000 in
set_option maxHeartbeats 4000000 in
theorem PcpBuilds_walk (t : ToldP) (n : Int) (s : List Int) (w : World) (h : AskOk t.ask) (hn0 : -9223372036854775808 ≤ n) (hn1 : n ≤ 9223372036854775807) (hs : Six s) :
    Calls Try.prog 8 #[.agg (rowT t).toArray, .int .i64 n, .agg (cells6 s)] w fun e w' => e = .returned (.bool true) ∧ Below w.heap.size w w' := by
  clear hn0 hn1
  have k0 := Lib.hid ((Blk.new w (rowT t).toArray 58).alloc (.cells (cells6 s) 44))
  have q0 := Blk.new (w.alloc (.cells (rowT t).toArray 58)) (cells6 s) 44
  rw [World.size_alloc] at q0
  replace q0 := Lib.hid q0
  have hb0 := Lib.hid (((Below.refl _ w).alloc (Nat.le_refl _) (.cells (rowT t).toArray 58)).alloc (by simp) (.cells (cells6 s) 44))
  have hmid := Lib.hid (fun W (k : Blk W w.heap.size (rowT t).toArray 58) => rowT_mid k)
  have hi := Lib.hid (show (Try.prog.info? 51).map (·.size) = some (rowA t.ask).length by rw [rowA_len h]; exact info_ask)
  have hsT := Lib.hid (rowT_size h)
  have h16 := Lib.hid (cells6_size hs)
  have hB := Lib.hid (fun W => PcpBuild_any t.ask h W)
  have hRB := Lib.hid (fun W => RefBuild43_any t.ask h W)
  have hO := Lib.hid (fun W => Own43_any t.ask h W)
  have hAn := Lib.hid (fun W => PcpAnswer_any t h W)
  have hRA := Lib.hid (fun W => RefAnswer43_any t h W)
  have hTo := Lib.hid (fun W => Told43_any t h W)
  have hP := Lib.hid (fun W => Plain_any s hs W)
  have hRP := Lib.hid (fun W => RefPlain_any s hs W)
  have hM := Lib.hid (fun W => Mapped_any n W)
  have hRM := Lib.hid (fun W => RefMapped_any n W)
  have hnum := Lib.hid (cells6_nums (mapL n))
  have hle := Lib.hid (show Try.prog.cellsOf 44 ≤ (cells6 (mapL n)).size from Nat.le_of_eq (eqt_six.2.2.2.trans (cells6_size (mapL_six n)).symm))
  clear h hs
  unfold TwoOut at hB hRB hAn hRA
  generalize mapL n = m at *
  generalize plainV s = pl at *
  generalize codeAsk t.ask = ka at *
  generalize builtAsk t.ask = ba at *
  generalize codeTold t = kt at *
  generalize builtTold t = bt at *
  obtain ⟨x, q⟩ := pl
  dsimp only at hP hRP
  go_enter Try.func8, Try.ntmps8
  go_upto_region 2 with (first
    | (refine wpList_load_mid rfl 51 (.tmp 20) rfl w.heap.size 2 rfl (rowA t.ask) _ (hmid.out _ k0.out) Try.underlying51 rfl hi.out ?_)
    | (go_at_call 34; refine (hB.out _).mono ?_; rintro e w1 ⟨A1, n1, c1, rfl, r1, hB1⟩; have k1 := Lib.hid (k0.out.to hB1); have q1 := Lib.hid (q0.out.to hB1); have hb1 := Lib.hid (hb0.out.trans (hB1.mono hb0.out.size)); replace r1 := Lib.hid r1; clear hB1)
    | fail)
  go_upto_region 3 with (first
    | (refine wpList_load_mid rfl 51 (.tmp 26) rfl w.heap.size 2 rfl (rowA t.ask) _ (hmid.out _ k1.out) Try.underlying51 rfl hi.out ?_)
    | (go_at_call 32; refine (hO.out _).mono ?_; rintro e w2 ⟨rfl, hB2⟩; have k2 := Lib.hid (k1.out.to hB2); have q2 := Lib.hid (q1.out.to hB2); have s1 := Lib.hid (r1.out.below hB2); have hb2 := Lib.hid (hb1.out.trans (hB2.mono hb1.out.size)); clear hB2)
    | (go_at_call 35; refine (hRB.out _).mono ?_; rintro e w3 ⟨A3, n3, c3, rfl, r3, hB3⟩; have k3 := Lib.hid (k2.out.to hB3); have q3 := Lib.hid (q2.out.to hB3); have t1 := Lib.hid (s1.out.below hB3); have hb3 := Lib.hid (hb2.out.trans (hB3.mono hb2.out.size)); replace r3 := Lib.hid r3; clear hB3)
    | fail)
  replace r1 := 0
  replace s1 := 0
  go_upto_region 4 with (first
    | (refine wpList_load_T rfl (.tmp 3) rfl w.heap.size rfl (rowT t).toArray k3.out hsT.out ?_)
    | (go_at_call 36; refine (hAn.out _).mono ?_; rintro e w4 ⟨A4, n4, c4, rfl, r4, hB4⟩; have k4 := Lib.hid (k3.out.to hB4); have q4 := Lib.hid (q3.out.to hB4); have u1 := Lib.hid (t1.out.below hB4); have u3 := Lib.hid (r3.out.below hB4); have hb4 := Lib.hid (hb3.out.trans (hB4.mono hb3.out.size)); replace r4 := Lib.hid r4; clear hB4)
    | fail)
  replace t1 := 0
  replace r3 := 0
  go_upto_region 5 with (first
    | (refine wpList_load_T rfl (.tmp 3) rfl w.heap.size rfl (rowT t).toArray k4.out hsT.out ?_)
    | (go_at_call 33; refine (hTo.out _).mono ?_; rintro e w5 ⟨rfl, hB5⟩; have q5 := Lib.hid (q4.out.to hB5); have v1 := Lib.hid (u1.out.below hB5); have v3 := Lib.hid (u3.out.below hB5); have v4 := Lib.hid (r4.out.below hB5); have hb5 := Lib.hid (hb4.out.trans (hB5.mono hb4.out.size)); clear hB5)
    | (go_at_call 37; refine (hRA.out _).mono ?_; rintro e w6 ⟨A6, n6, c6, rfl, r6, hB6⟩; have q6 := Lib.hid (q5.out.to hB6); have x1 := Lib.hid (v1.out.below hB6); have x3 := Lib.hid (v3.out.below hB6); have x4 := Lib.hid (v4.out.below hB6); have hb6 := Lib.hid (hb5.out.trans (hB6.mono hb5.out.size)); replace r6 := Lib.hid r6; clear hB6)
    | fail)
  replace u1 := 0
  replace u3 := 0
  replace r4 := 0
  replace v1 := 0
  replace v3 := 0
  replace v4 := 0
  go_upto_region 7 with (first
    | (refine wpList_load_S6 rfl (.tmp 5) rfl (w.heap.size + 1) rfl (cells6 s) q6.out h16.out ?_)
    | (go_at_call 25; refine (hP.out _).mono ?_; rintro e w7 ⟨rfl, hB7⟩; have q7 := Lib.hid (q6.out.to hB7); have y1 := Lib.hid (x1.out.below hB7); have y3 := Lib.hid (x3.out.below hB7); have y4 := Lib.hid (x4.out.below hB7); have y6 := Lib.hid (r6.out.below hB7); have hb7 := Lib.hid (hb6.out.trans (hB7.mono hb6.out.size)); clear hB7)
    | (refine wpList_load_S6 rfl (.tmp 5) rfl (w.heap.size + 1) rfl (cells6 s) q7.out h16.out ?_)
    | (go_at_call 38; refine (hRP.out _).mono ?_; rintro e w8 ⟨rfl, hB8⟩; have z1 := Lib.hid (y1.out.below hB8); have z3 := Lib.hid (y3.out.below hB8); have z4 := Lib.hid (y4.out.below hB8); have z6 := Lib.hid (y6.out.below hB8); have hb8 := Lib.hid (hb7.out.trans (hB8.mono hb7.out.size)); clear hB8)
    | fail)
  replace x1 := 0
  replace x3 := 0
  replace x4 := 0
  replace r6 := 0
  go_wp2_with (first
    | (go_at_call_of 16 (Value.slice A3 n3 c3); refine (Equal_same A1 A3 n1 c1 n3 c3 ba _ z1.out z3.out).mono ?_; rintro e w' ⟨rfl, rfl⟩)
    | (go_at_call 16; refine (Equal_same A4 A6 n4 c4 n6 c6 bt _ z4.out z6.out).mono ?_; rintro e w' ⟨rfl, rfl⟩)
    | (go_at_call 26; refine (hM.out _).mono ?_; rintro e w9 ⟨rfl, hB9⟩; have hb9 := Lib.hid (hb8.out.trans (hB9.mono hb8.out.size)); clear hB9)
    | (go_at_call 39; refine (hRM.out _).mono ?_; rintro e w10 ⟨rfl, hB10⟩; have hb10 := Lib.hid (hb9.out.trans (hB10.mono hb9.out.size)); clear hB10)
    | (refine wpList_eql_same (by rfl) 44 (.tmp 73) (.tmp 75) rfl (cells6 m) rfl rfl eqt_six.1 eqt_six.2.1 eqt_six.2.2.1 hle.out hnum.out ?_)
    | (go_at_call 27; refine (PAwake_any _).mono ?_; rintro e w11 ⟨rfl, hB11⟩; have hb11 := Lib.hid (hb10.out.trans (hB11.mono hb10.out.size)); clear hB11)
    | fail)
  go_ret
  exact ⟨by first | rfl | simp, hb11.out⟩
end Go.Proofs.Ytldjecilmcnpiaa
