/- The law's awake (layer 12), and clamp.Most. -/
import Derived.Test.YtccdbelngjonaaaSeg
import Derived.Test.YtccdbelngjonaaaSegPlain
import Derived.Test.YtccdbelngjonaaaAwake08
set_option linter.unusedVariables false
namespace Go.Proofs.Ytccdbelngjonaaa
open Go.RowKit

def wake12 : TcpP := ⟨0, 0, 0, 0, 0, 2, 0, 0, [2, 4, 5, 180], []⟩
theorem wake12_mss : mssV (mssT (segT wake12 1400).opts) = .tuple #[.int .i64 1400, .int .i64 0, .bool true] := by
  have : mssT (segT wake12 1400).opts = (1400, 0, true) := by decide +kernel
  rw [this]; rfl
theorem wake12_lit (w : World) : RB (w.alloc (.cells #[.int .u8 2, .int .u8 4, .int .u8 5, .int .u8 180] 5)) (some ⟨w.heap.size, 0, none⟩) 4 4 wake12.opts := by
  have := RB.lit w 5 wake12.opts (fun z hz => by
    simp [wake12] at hz
    constructor <;> omega) (by decide)
  simpa [u8s, wake12] using this
theorem Most_1500 (w : World) : Calls Try.prog 93 #[.int .i64 1500] w fun e w' => e = .returned (.int .i64 1460) ∧ Below w.heap.size w w' := by
  have hbt := Lib.hid (Below.refl w.heap.size w)
  go_enter Try.func93, Try.ntmps93
  go_wp2
  go_ret
  exact ⟨by first | rfl | simp, hbt.out⟩

set_option maxRecDepth 100000 in
set_option maxHeartbeats 2000000 in
theorem awake12 (w : World) : Calls Try.prog 60 #[] w fun e w' => e = .returned (.bool true) ∧ Below w.heap.size w w' := by
  have hl := wake12_lit w
  have hb0 := (Below.refl _ w).alloc (Nat.le_refl _) (.cells #[.int .u8 2, .int .u8 4, .int .u8 5, .int .u8 180] 5)
  have hb1 := hb0.alloc hb0.size (.cells (cellsT wake12 (some ⟨w.heap.size, 0, none⟩) 4 4 none 0 0) 73)
  have k1 := Blk.new (w.alloc (.cells #[.int .u8 2, .int .u8 4, .int .u8 5, .int .u8 180] 5)) (cellsT wake12 (some ⟨w.heap.size, 0, none⟩) 4 4 none 0 0) 73
  rw [World.size_alloc] at k1
  have hl1 := hl.alloc (.cells (cellsT wake12 (some ⟨w.heap.size, 0, none⟩) 4 4 none 0 0) 73)
  have hS := fun W (hr : RB W (some ⟨w.heap.size, 0, none⟩) 4 4 wake12.opts) => Segment_any wake12 1400 _ 4 4 none 0 0 W hr (RB.nil W) (by omega) (by omega)
  have hM := fun A c B d W (hr : RB W A 4 c (segT wake12 1400).opts) => MSS_any (segT wake12 1400) A 4 c B 0 d W hr (by omega)
  rw [wake12_mss] at hM
  generalize segT wake12 1400 = q at *
  replace hM := Lib.hid hM
  replace hS := Lib.hid hS
  replace hl := 0
  replace hb0 := 0
  replace hb1 := Lib.hid hb1
  replace k1 := Lib.hid k1
  replace hl1 := Lib.hid hl1
  go_enter Try.func60, Try.ntmps60
  go_wp2_with (first
    | (refine wpList_load_W rfl (.tmp 1) rfl (w.heap.size + 1) rfl (cellsT wake12 (some ⟨w.heap.size, 0, none⟩) 4 4 none 0 0) k1.out rfl ?_)
    | (go_at_call 61; refine (hS.out _ hl1.out).mono ?_; rintro e w1 ⟨A8, c8, A9, c9, rfl, ho1, hd1, hB1⟩; have hb2 := Lib.hid (hb1.out.trans (hB1.mono hb1.out.size)); replace hd1 := 0; replace hB1 := 0; replace ho1 := Lib.hid ho1.rb)
    | (go_at_call 58; refine (hM.out _ _ _ _ _ ho1.out).mono ?_; rintro e w2 ⟨rfl, hB2⟩; have hb3 := Lib.hid (hb2.out.trans (hB2.mono hb2.out.size)); replace hB2 := 0)
    | (go_at_call 93; refine (Most_1500 _).mono ?_; rintro e w3 ⟨rfl, hB3⟩)
    | fail)
  go_ret
  exact ⟨by first | rfl | simp, hb3.out.trans (hB3.mono hb3.out.size)⟩
end Go.Proofs.Ytccdbelngjonaaa
