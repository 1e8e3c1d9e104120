/- Messages of ICMP (icmp, and the reference): walks of WithID. -/
import Derived.Test.YtehecefapiblpaaIcmpT
set_option linter.unusedVariables false
namespace Go.Proofs.Ytehecefapiblpaa
open Go.RowKit

/-- A message with another identifier. -/
def withI (m : IcmpP) (id : Int) : IcmpP := ⟨m.t, m.cd, id % 65536 * 65536 + m.r % 65536, m.data⟩


set_option maxRecDepth 100000 in
set_option maxHeartbeats 2000000 in
theorem IcmpWithID_any (m : IcmpP) (id : Int) (A : Option Addr) (n c : Nat) (w : World) (hd : RB w A n c m.data) (hn : n ≤ 100000) :
    Calls Try.prog 155 #[.agg (cellsI m A n c), .int .i64 id] w (IcmpOne w (withI m id)) := by
  have ha := bits_low id
  have hr := bits_low m.r
  have hwi := Lib.hid (show withI m id = ⟨m.t, m.cd, id % 65536 * 65536 + m.r % 65536, m.data⟩ from rfl)
  have hx : 0 ≤ id % 65536 ∧ id % 65536 < 65536 := by omega
  have hy : 0 ≤ m.r % 65536 ∧ m.r % 65536 < 65536 := by omega
  generalize id % 65536 = x at *
  generalize m.r % 65536 = y at *
  have hor : bits .or .i64 (x * 65536) y = x * 65536 + y := i64_join 16 _ _ (by omega) (by omega) (by omega) (by omega) hy.1 hy.2
  obtain ⟨hx0, hx1⟩ := hx
  obtain ⟨hy0, hy1⟩ := hy
  have hb0 := ((Below.refl _ w).alloc (Nat.le_refl _) (.cells #[.int .i64 m.t, .int .i64 m.cd, .int .i64 (x * 65536 + y), .slice A n c] 49)).alloc (by simp) (.cells #[.int .i64 0, .int .i64 0, .int .i64 0, .slice none 0 0] 49)
  have hk1 := (Blk.new w #[.int .i64 m.t, .int .i64 m.cd, .int .i64 (x * 65536 + y), .slice A n c] 49).alloc (.cells #[.int .i64 0, .int .i64 0, .int .i64 0, .slice none 0 0] 49)
  have hk2 := Blk.new (w.alloc (.cells #[.int .i64 m.t, .int .i64 m.cd, .int .i64 (x * 65536 + y), .slice A n c] 49)) #[.int .i64 0, .int .i64 0, .int .i64 0, .slice none 0 0] 49
  rw [World.size_alloc] at hk2
  have hC := Lib.hid (Clone_any A n c m.data _ (hd.below hb0) (by omega))
  replace hb0 := Lib.hid hb0
  replace hk1 := Lib.hid hk1
  replace hk2 := Lib.hid hk2
  clear hd
  go_enter Try.func155, Try.ntmps155
  go_wp2_with (first
    | (go_at_call 50; refine hC.out.mono ?_; rintro e w3 ⟨A3, c3, rfl, ho3, hb3⟩; obtain ⟨⟨x0, x1, x2, x3⟩, g0, g1, g2, g3⟩ := (hk1.out.to hb3).z4; obtain ⟨⟨z0, z1, z2, z3⟩, f0, f1, f2, f3⟩ := (hk2.out.to hb3).z4; have hlt := (hk2.out.to hb3).lt; have hv2 := Lib.hid (hk2.out.to hb3); have hB3 := hb0.out.trans (hb3.mono hb0.out.size); replace hb3 := 0)
    | fail)
  go_wp2
  have hk4 := hv2.out.far (B' := w.heap.size) (by omega) 3 (.slice A3 n c3)
  have hBt := hB3.setCell (p := ⟨w.heap.size, 3, none⟩) (Nat.le_refl _) (.slice A3 n c3)
  have ho4 := ho3.set_low (B := w.heap.size) (by simp; omega) 3 (.slice A3 n c3)
  clear hB3 z0 z1 z2 z3 f0 f1 f2 f3 x0 x1 x2 x3 g0 g1 g2 g3
  generalize w3.setCell ⟨w.heap.size, 3, none⟩ (.slice A3 n c3) = W0 at *
  obtain ⟨⟨z0, z1, z2, z3⟩, f0, f1, f2, f3⟩ := hk4.z4
  have hob := Lib.hid (ho4.set4 (B := w.heap.size + 1) (by simp) (.int .i64 m.t) (.int .i64 m.cd) (.int .i64 (x * 65536 + y)) (.slice A3 n c3))
  have hfold : ((((W0.setCell ⟨(w.heap.size + 1), 0, none⟩ (.int .i64 m.t)).setCell ⟨(w.heap.size + 1), 1, none⟩ (.int .i64 m.cd)).setCell ⟨(w.heap.size + 1), 2, none⟩ (.int .i64 (x * 65536 + y))).setCell ⟨(w.heap.size + 1), 3, none⟩ (.slice A3 n c3)) = set4 W0 (w.heap.size + 1) (.int .i64 m.t) (.int .i64 m.cd) (.int .i64 (x * 65536 + y)) (.slice A3 n c3) := rfl
  rw [hfold]
  obtain ⟨r0, r1, r2, r3⟩ := set4_at W0 (w.heap.size + 1) (.int .i64 m.t) (.int .i64 m.cd) (.int .i64 (x * 65536 + y)) (.slice A3 n c3) z0 z1 z2 z3
  have hbf := below_set4 (B := (w.heap.size + 1)) hBt (by omega) (.int .i64 m.t) (.int .i64 m.cd) (.int .i64 (x * 65536 + y)) (.slice A3 n c3)
  clear hfold z0 z1 z2 z3 f0 f1 f2 f3 hBt
  generalize set4 W0 (w.heap.size + 1) (.int .i64 m.t) (.int .i64 m.cd) (.int .i64 (x * 65536 + y)) (.slice A3 n c3) = Wf at *
  exact bodyPost_ret (v := .agg #[(.int .i64 m.t), (.int .i64 m.cd), (.int .i64 (x * 65536 + y)), (.slice A3 n c3)]) (by simp [results, Try.results155, go_sem, r0, r1, r2, r3]) rfl ((by rw [hwi.out]; exact ⟨A3, n, c3, rfl, hob.out.mono (by simp; omega), hbf⟩))
end Go.Proofs.Ytehecefapiblpaa
