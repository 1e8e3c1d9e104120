/- The law's awake (layer 8). -/
import Derived.Test.YtccdbelngjonaaaTcpM
import Derived.Test.YtccdbelngjonaaaTcpS
import Derived.Test.YtccdbelngjonaaaTcpBR
import Derived.Test.YtccdbelngjonaaaTcpPlain
set_option linter.unusedVariables false
namespace Go.Proofs.Ytccdbelngjonaaa
open Go.RowKit

/-- A whole segment is loaded, guarded or not. -/
theorem wpList_load_W {ops : Array Oper} {rest : List Oper} {op : Oper} {a : Act} {W : World} {Q : Exit → Act → World → Prop} (hgd : Region.wanted op (yielded ops a.tmps) = true) (x : Operand) (ho : op.op = .load 73 x)
    (g : Nat) (hx : a.eval x = .pointer (some ⟨g, 0, none⟩)) (cs : Array Value) (hk : Blk W g cs 73) (hs : cs.size = 10)
    (h : wpList Try.prog ops Q rest (a.put op.dst (.agg cs)) W) : wpList Try.prog ops Q (op :: rest) a W :=
  BigFrame.wpList_want hgd fun _ hK => by
    unfold Oper.wp execOp
    simp only [ho, hx, Instr.loadAt, Instr.sureAddr, Sem.run_bind, Sem.run_pure, Result.andThen_ok, run_load_blk hk hs]
    exact hK _ _ h
def wake8 : TcpP := ⟨1, 2, 0, 0, 0, 0, 0, 0, [1, 2, 4, 5, 180, 1, 1, 1], []⟩
theorem wake8_check : checkT wake8 8 0 = 0 := by decide
theorem wake8_mss : mssV (mssT [1, 2, 4, 5, 180, 1, 1, 1]) = .tuple #[.int .i64 1460, .int .i64 1, .bool true] := by
  have : mssT [1, 2, 4, 5, 180, 1, 1, 1] = (1460, 1, true) := by decide +kernel
  rw [this]; rfl
theorem wake8_byts : Byts wake8.opts := fun z hz => by
  simp [wake8] at hz
  constructor <;> omega
theorem wake8_lit (w : World) : RB (w.alloc (.cells #[.int .u8 1, .int .u8 2, .int .u8 4, .int .u8 5, .int .u8 180, .int .u8 1, .int .u8 1, .int .u8 1] 5)) (some ⟨w.heap.size, 0, none⟩) 8 8 wake8.opts := by
  have := RB.lit w 5 wake8.opts wake8_byts (by decide)
  simpa [u8s, wake8] using this

set_option maxRecDepth 100000 in
set_option maxHeartbeats 2000000 in
theorem awake08 (w : World) : Calls Try.prog 46 #[] w fun e w' => e = .returned (.bool true) ∧ Below w.heap.size w w' := by
  have hl := wake8_lit w
  have hb0 := (Below.refl _ w).alloc (Nat.le_refl _) (.cells #[.int .u8 1, .int .u8 2, .int .u8 4, .int .u8 5, .int .u8 180, .int .u8 1, .int .u8 1, .int .u8 1] 5)
  have hb1 := hb0.alloc hb0.size (.cells (cellsT wake8 (some ⟨w.heap.size, 0, none⟩) 8 8 none 0 0) 73)
  have k1 := Blk.new (w.alloc (.cells #[.int .u8 1, .int .u8 2, .int .u8 4, .int .u8 5, .int .u8 180, .int .u8 1, .int .u8 1, .int .u8 1] 5)) (cellsT wake8 (some ⟨w.heap.size, 0, none⟩) 8 8 none 0 0) 73
  rw [World.size_alloc] at k1
  have hl1 := hl.alloc (.cells (cellsT wake8 (some ⟨w.heap.size, 0, none⟩) 8 8 none 0 0) 73)
  have hM := fun W (hr : RB W (some ⟨w.heap.size, 0, none⟩) 8 8 wake8.opts) => MSS_any wake8 _ 8 8 none 0 0 W hr (by omega)
  rw [show mssT wake8.opts = mssT [1, 2, 4, 5, 180, 1, 1, 1] from rfl, wake8_mss] at hM
  have hB := fun W (hr : RB W (some ⟨w.heap.size, 0, none⟩) 8 8 wake8.opts) => TcpBuild_any 3 4 wake8 _ 8 8 none 0 0 W hr (RB.nil W) (by omega)
  rw [wake8_check, show builtT? 3 4 wake8 8 0 = builtT 3 4 wake8 by unfold builtT?; rw [if_pos wake8_check]] at hB
  have hP := fun A n c W (hr : RB W A n c (builtT 3 4 wake8)) => TcpParse_any 3 4 A n c _ W hr
  rw [back8_read (no := 8) (n := 0) rfl rfl wake8_check wake8_byts (fun z hz => by simp [wake8] at hz), back8_code (no := 8) (n := 0) rfl rfl wake8_check wake8_byts (fun z hz => by simp [wake8] at hz)] at hP
  have hS := fun Bo mo do_ B k d W hr hq1 hq2 => TcpSame_any wake8 wake8 (some ⟨w.heap.size, 0, none⟩) 8 8 none 0 0 Bo mo do_ B k d W hr (RB.nil W) hq1 hq2
  rw [sameT_refl] at hS
  generalize builtT 3 4 wake8 = bb at *
  replace hM := Lib.hid hM
  replace hB := Lib.hid hB
  replace hP := Lib.hid hP
  replace hS := Lib.hid hS
  replace hl := 0
  replace hb0 := 0
  replace hb1 := Lib.hid hb1
  replace k1 := Lib.hid k1
  replace hl1 := Lib.hid hl1
  go_enter Try.func46, Try.ntmps46
  go_wp2_with (first
    | (refine wpList_load_W rfl (.tmp 1) rfl (w.heap.size + 1) rfl (cellsT wake8 (some ⟨w.heap.size, 0, none⟩) 8 8 none 0 0) k1.out rfl ?_)
    | (go_at_call 58; refine (hM.out _ hl1.out).mono ?_; rintro e w1 ⟨rfl, hB1⟩; have k2 := Lib.hid (k1.out.to hB1); have hl2 := Lib.hid (hl1.out.below hB1); have hb2 := Lib.hid (hb1.out.trans (hB1.mono hb1.out.size)); replace hB1 := 0)
    | (refine wpList_load_W rfl (.tmp 1) rfl (w.heap.size + 1) rfl (cellsT wake8 (some ⟨w.heap.size, 0, none⟩) 8 8 none 0 0) k2.out rfl ?_)
    | (go_at_call 47; refine (hB.out _ hl2.out).mono ?_; rintro e w2 ⟨A2, n2, c2, rfl, hr2, hB2⟩; have k3 := Lib.hid (k2.out.to hB2); have hl3 := Lib.hid (hl2.out.below hB2); have hb3 := Lib.hid (hb2.out.trans (hB2.mono hb2.out.size)); replace hB2 := 0; replace hr2 := Lib.hid hr2)
    | (go_at_call 53; refine (hP.out _ _ _ _ hr2.out).mono ?_; rintro e w3 ⟨Bo, mo, do_, B, k, d, rfl, ho3, hd3, hB3⟩; have k4 := Lib.hid ((k3.out.to hB3).alloc (.cells (cellsT wake8 Bo mo do_ B k d) 73)); have q4 := Lib.hid (Blk.new w3 (cellsT wake8 Bo mo do_ B k d) 73); have hl4 := Lib.hid ((hl3.out.below hB3).alloc (.cells (cellsT wake8 Bo mo do_ B k d) 73)); have hb4 := hb3.out.trans (hB3.mono hb3.out.size); have hb5 := Lib.hid (hb4.alloc hb4.size (.cells (cellsT wake8 Bo mo do_ B k d) 73)); have ho4 := Lib.hid (ho3.rb.alloc (.cells (cellsT wake8 Bo mo do_ B k d) 73)); have hd4 := Lib.hid (hd3.rb.alloc (.cells (cellsT wake8 Bo mo do_ B k d) 73)); replace ho3 := 0; replace hd3 := 0; replace hB3 := 0; replace hb4 := 0)
    | (refine wpList_load_W rfl (.tmp 1) rfl (w.heap.size + 1) rfl (cellsT wake8 (some ⟨w.heap.size, 0, none⟩) 8 8 none 0 0) k4.out rfl ?_)
    | (refine wpList_load_W rfl (.tmp 7) rfl w3.heap.size rfl (cellsT wake8 Bo mo do_ B k d) q4.out rfl ?_)
    | (go_at_call 51; refine (hS.out Bo mo do_ B k d _ hl4.out ho4.out hd4.out).mono ?_; rintro e w5 ⟨rfl, hB5⟩)
    | fail)
  go_ret
  exact ⟨by first | rfl | simp, hb5.out.trans (hB5.mono hb5.out.size)⟩
end Go.Proofs.Ytccdbelngjonaaa
