/- Events: walks of Code. -/
import Derived.Test.YtccdbelngjonaaaEvent
import Derived.Test.YtccdbelngjonaaaRefPut
import Derived.Test.YtccdbelngjonaaaConcat
import Derived.Test.YtccdbelngjonaaaHeld
import Derived.Test.YtccdbelngjonaaaTotal
set_option linter.unusedVariables false
namespace Go.Proofs.Ytccdbelngjonaaa
open Go.RowKit

theorem info_event : (Try.prog.info? 25).map (·.size) = some 4 := by kernel_rfl
theorem run_load_E {W : World} {B : Nat} {cs : Array Value} (h : Blk W B cs 25) (hs : cs.size = 4) : (loadVar 25 ⟨B, 0, none⟩).run Try.prog W = .ok (.agg cs) W :=
  run_loadVar_row W B 25 25 cs _ _ h.at_ Try.underlying25 rfl (by rw [info_event, hs])
theorem wpList_load_E {ops : Array Oper} {rest : List Oper} {op : Oper} {a : Act} {W : World} {Q : Exit → Act → World → Prop} (hgd : Region.wanted op (yielded ops a.tmps) = true) (x : Operand) (ho : op.op = .load 25 x)
    (g : Nat) (hx : a.eval x = .pointer (some ⟨g, 0, none⟩)) (cs : Array Value) (hk : Blk W g cs 25) (hs : cs.size = 4)
    (h : wpList Try.prog ops Q rest (a.put op.dst (.agg cs)) W) : wpList Try.prog ops Q (op :: rest) a W :=
  BigFrame.wpList_want hgd fun _ hK => by
    unfold Oper.wp execOp
    simp only [ho, hx, Instr.loadAt, Instr.sureAddr, Sem.run_bind, Sem.run_pure, Result.andThen_ok, run_load_E hk hs]
    exact hK _ _ h
theorem wpList_store_E {ops : Array Oper} {rest : List Oper} {op : Oper} {a : Act} {W : World} {Q : Exit → Act → World → Prop} (hgd : op.guard = none) (x y : Operand) (ho : op.op = .store 25 x y)
    (g : Nat) (cells : Array Value) (hx : a.eval x = .pointer (some ⟨g, 0, none⟩)) (hy : a.eval y = .agg cells) (old : Array Value) (hk : Blk W g old 25) (ho' : old.size = 4) (hs : cells.size = 4) (h1 : cells.all (·.oneCell') = true)
    (h : wpList Try.prog ops Q rest (a.put op.dst undef) (W.setRow g cells)) : wpList Try.prog ops Q (op :: rest) a W :=
  wpList_store_row hgd 25 x y ho g cells hx hy 25 old hk.at_ (by rw [info_event, hs]) (by rw [ho', hs]) h1 h

def codeE (q : QP) (n : Nat) : List Int := if checkE q n = true then [q.x, q.y] ++ digL q.z 4 ++ digL n 2 ++ q.data else []
theorem checkE_ok {q : QP} {n : Nat} (h : checkE q n = true) : 1 ≤ q.x ∧ q.x ≤ 9 ∧ (0 ≤ q.y ∧ q.y ≤ 255) ∧ 0 ≤ q.z ∧ q.z ≤ 2147483648 ∧ n ≤ 65535 := of_decide_eq_true h
theorem fits4 {z : Int} (h0 : 0 ≤ z) (h1 : z ≤ 4294967295) : fitsP z ((4 : Nat) : Int) := ⟨by omega, h0, show z < 4294967296 by omega⟩
theorem fits2 {z : Int} (h0 : 0 ≤ z) (h1 : z ≤ 65535) : fitsP z ((2 : Nat) : Int) := ⟨by omega, h0, show z < 65536 by omega⟩

set_option maxRecDepth 100000 in
set_option maxHeartbeats 2000000 in
theorem EvCode_any (q : QP) (A : Option Addr) (n c : Nat) (w : World) (h : RB w A n c q.data) (hn : n ≤ 100000) :
    Calls Try.prog 27 #[.agg (cellsQ q A n c)] w (PutOut w (codeE q n)) := by
  have hb0 := Lib.hid ((Below.refl _ w).alloc (Nat.le_refl _) (.cells (cellsQ q A n c) 25))
  have k0 := Lib.hid (Blk.new w (cellsQ q A n c) 25)
  have hck := Lib.hid (fun W => EvCheck_any q A n c W (by omega))
  unfold codeE
  cases hok : checkE q n
  · rw [hok] at hck
    rw [if_neg (by decide)]
    clear h
    go_enter Try.func27, Try.ntmps27
    go_wp2_with (first
      | (refine wpList_load_E rfl (.tmp 1) rfl w.heap.size rfl (cellsQ q A n c) k0.out rfl ?_)
      | (go_at_call 24; refine (hck.out _).mono ?_; rintro e w1 ⟨rfl, hB1⟩; have hb1 := Lib.hid (hb0.out.trans (hB1.mono hb0.out.size)); replace hB1 := 0)
      | fail)
    go_ret
    exact ⟨none, 0, 0, by first | rfl | simp, RB.nil _, hb1.out⟩
  · rw [hok] at hck
    rw [if_pos rfl]
    obtain ⟨hx0, hx1, ⟨hy0, hy1⟩, hz0, hz1, hn1⟩ := checkE_ok hok
    have hwx : IntKind.u8.wrap q.x = q.x := by rw [IntKind.wrap_u8]; omega
    have hwy : IntKind.u8.wrap q.y = q.y := by rw [IntKind.wrap_u8]; omega
    have hlit := Lib.hid (fun (W : World) => show RB (W.alloc (.cells #[.int .u8 q.x, .int .u8 q.y] 5)) (some ⟨W.heap.size, 0, none⟩) 2 2 [q.x, q.y] from by
      have := RB.lit W 5 [q.x, q.y] (fun z hz => by simp at hz; omega) (by simp)
      simpa [u8s] using this)
    have hP4 := Lib.hid (fun A c W (hr : RB W A 2 c [q.x, q.y]) => Put_yes A 2 c _ q.z 4 W hr (by omega) (fits4 hz0 (by omega)))
    have hP2 := Lib.hid (fun A c W (hr : RB W A (2 + 4) c ([q.x, q.y] ++ digL q.z 4)) => Put_yes A (2 + 4) c _ (n : Int) 2 W hr (by omega) (fits2 (by omega) (by omega)))
    have hD := Lib.hid (fun W (hW : Below w.heap.size w W) => h.below hW)
    have hlen := h.len
    have hCc := Lib.hid (fun A W (hr : RBB W A 2 2 [[q.x, q.y] ++ digL q.z 4 ++ digL (n : Int) 2, q.data]) => Concat_any A 2 2 _ W hr (by omega) (by simp [digL_length]; omega))
    replace hlen := Lib.hid hlen
    clear h
    go_enter Try.func27, Try.ntmps27
    go_wp2_with (first
      | (refine wpList_load_E rfl (.tmp 1) rfl w.heap.size rfl (cellsQ q A n c) k0.out rfl ?_)
      | (go_at_call 24; refine (hck.out _).mono ?_; rintro e w1 ⟨rfl, hB1⟩; have hb1 := Lib.hid (hb0.out.trans (hB1.mono hb0.out.size)); have k1 := Lib.hid (k0.out.to hB1); obtain ⟨r0, r1, r2, r3⟩ := qcells k1.out; have s2 := (qcells (k1.out.alloc (.cells #[.int .u8 q.x, .int .u8 q.y] 5))).2.2.1; replace hB1 := 0)
      | (go_at_call_of 66 (Value.int IntKind.i64 (4 : Int)); refine (hP4.out _ _ _ (hlit.out w1)).mono ?_; rintro e w2 ⟨A2, c2, rfl, ho2, hB2⟩; have hb1a := hb1.out.alloc hb1.out.size (.cells #[.int .u8 q.x, .int .u8 q.y] 5); have hb2 := Lib.hid (hb1a.trans (hB2.mono hb1a.size)); have k2 := Lib.hid ((k1.out.alloc (.cells #[.int .u8 q.x, .int .u8 q.y] 5)).to hB2); clear r0 r1 r2 r3 hb1a s2; obtain ⟨r0, r1, r2, r3⟩ := qcells k2.out; replace ho2 := Lib.hid ho2.rb; replace hB2 := 0)
      | (go_at_call 66; refine (hP2.out _ _ _ ho2.out).mono ?_; rintro e w3 ⟨A3, c3, rfl, ho3, hB3⟩; have hb3 := Lib.hid (hb2.out.trans (hB3.mono hb2.out.size)); have k3 := Lib.hid (k2.out.to hB3); clear r0 r1 r2 r3; obtain ⟨r0, r1, r2, r3⟩ := qcells k3.out; have hrr := Lib.hid (rbb_two ho3.rb (hD.out _ hb3.out)); replace ho3 := 0; replace hB3 := 0)
      | (go_at_call 67; refine (hCc.out _ _ hrr.out).mono ?_; rintro e w4 ⟨A4, c4, rfl, ho4, hB4⟩)
      | fail)
    go_ret
    refine ⟨A4, _, c4, by first | rfl | simp, ?_, ?_⟩
    · have := ho4.rb
      simpa using this
    · exact (hb3.out.alloc hb3.out.size _).trans (hB4.mono (by have := hb3.out.size; simp; omega))

set_option maxRecDepth 100000 in
set_option maxHeartbeats 2000000 in
theorem RefEvCode_any (q : QP) (A : Option Addr) (n c : Nat) (w : World) (h : RB w A n c q.data) (hn : n ≤ 100000) :
    Calls Try.prog 28 #[.agg (cellsQ q A n c)] w (PutOut w (codeE q n)) := by
  have hb0 := Lib.hid ((Below.refl _ w).alloc (Nat.le_refl _) (.cells (cellsQ q A n c) 25))
  have k0 := Lib.hid (Blk.new w (cellsQ q A n c) 25)
  have hck := Lib.hid (fun W => RefEvCheck_any q A n c W (by omega))
  unfold codeE
  cases hok : checkE q n
  · rw [hok] at hck
    rw [if_neg (by decide)]
    clear h
    go_enter Try.func28, Try.ntmps28
    go_wp2_with (first
      | (refine wpList_load_E rfl (.tmp 1) rfl w.heap.size rfl (cellsQ q A n c) k0.out rfl ?_)
      | (go_at_call 25; refine (hck.out _).mono ?_; rintro e w1 ⟨rfl, hB1⟩; have hb1 := Lib.hid (hb0.out.trans (hB1.mono hb0.out.size)); replace hB1 := 0)
      | fail)
    go_ret
    exact ⟨none, 0, 0, by first | rfl | simp, RB.nil _, hb1.out⟩
  · rw [hok] at hck
    rw [if_pos rfl]
    obtain ⟨hx0, hx1, ⟨hy0, hy1⟩, hz0, hz1, hn1⟩ := checkE_ok hok
    have hwx : IntKind.u8.wrap q.x = q.x := by rw [IntKind.wrap_u8]; omega
    have hwy : IntKind.u8.wrap q.y = q.y := by rw [IntKind.wrap_u8]; omega
    have hlit := Lib.hid (fun (W : World) => show RB (W.alloc (.cells #[.int .u8 q.x, .int .u8 q.y] 5)) (some ⟨W.heap.size, 0, none⟩) 2 2 [q.x, q.y] from by
      have := RB.lit W 5 [q.x, q.y] (fun z hz => by simp at hz; omega) (by simp)
      simpa [u8s] using this)
    have hP4 := Lib.hid (fun A c W (hr : RB W A 2 c [q.x, q.y]) => RefPut_yes A 2 c _ q.z 4 W hr (by omega) (fits4 hz0 (by omega)))
    have hP2 := Lib.hid (fun A c W (hr : RB W A (2 + 4) c ([q.x, q.y] ++ digL q.z 4)) => RefPut_yes A (2 + 4) c _ (n : Int) 2 W hr (by omega) (fits2 (by omega) (by omega)))
    have hD := Lib.hid (fun W (hW : Below w.heap.size w W) => h.below hW)
    have hn64 : n ≤ 65535 := hn1
    clear h
    go_enter Try.func28, Try.ntmps28
    go_wp2_with (first
      | (refine wpList_load_E rfl (.tmp 1) rfl w.heap.size rfl (cellsQ q A n c) k0.out rfl ?_)
      | (go_at_call 25; refine (hck.out _).mono ?_; rintro e w1 ⟨rfl, hB1⟩; have hb1 := Lib.hid (hb0.out.trans (hB1.mono hb0.out.size)); have k1 := Lib.hid (k0.out.to hB1); obtain ⟨r0, r1, r2, r3⟩ := qcells k1.out; have s2 := (qcells (k1.out.alloc (.cells #[.int .u8 q.x, .int .u8 q.y] 5))).2.2.1; replace hB1 := 0)
      | (go_at_call_of 68 (Value.int IntKind.i64 (4 : Int)); refine (hP4.out _ _ _ (hlit.out w1)).mono ?_; rintro e w2 ⟨A2, c2, rfl, ho2, hB2⟩; have hb1a := hb1.out.alloc hb1.out.size (.cells #[.int .u8 q.x, .int .u8 q.y] 5); have hb2 := Lib.hid (hb1a.trans (hB2.mono hb1a.size)); have k2 := Lib.hid ((k1.out.alloc (.cells #[.int .u8 q.x, .int .u8 q.y] 5)).to hB2); clear r0 r1 r2 r3 hb1a s2; replace ho2 := Lib.hid ho2.rb; replace hB2 := 0)
      | fail)
    have hF : ∀ W, Below w2.heap.size w2 W → W.cell? ⟨w.heap.size, 3, none⟩ = some (.slice A n c) := fun W hW => (k2.out.to hW).cell 3 _ rfl
    have hR : ∀ W, Below w2.heap.size w2 W → RB W A n c q.data := fun W hW => hD.out _ (hb2.out.trans (hW.mono hb2.out.size))
    have hPut := Lib.hid (fun W (hW : Below w2.heap.size w2 W) => hP2.out A2 c2 W (ho2.out.below hW))
    replace hF := Lib.hid hF
    replace hR := Lib.hid hR
    replace k2 := 0
    replace hP2 := 0
    replace ho2 := 0
    go_region_held3 (fun W => W.cell? ⟨w.heap.size, 3, none⟩ = some (.slice A n c) ∧ Below w2.heap.size w2 W)
      (first | assumption | exact held0 hF.out | exact heldAl hF.out _ (by assumption))
      (first
      | (go_at_call 68; refine Calls.mono (hPut.out _ ?_) ?_; exact held0 hF.out |>.2; rintro e w3 ⟨A3, c3, rfl, ho3, hb3⟩; have hS3 := heldTo hF.out (held0 hF.out) hb3; replace ho3 := ho3.mono (base' := w2.heap.size) (held0 hF.out).2.size; clear hb3)
      | (refine step_append_bytes (A := A3) (n := 2 + 4 + 2) (c := c3) (A' := A) (m := n) (c' := c) rfl (.tmp 21) (.tmp 23) rfl rfl rfl ho3 (hR.out _ hS3.2) ?_ hS3.2.size ?_; omega; intro A4 c4 w4 ho4 hg hr; have hS4 := heldGr hF.out hS3 ho3 hg; clear hg hr)
      | fail)
    go_wp2
    go_ret
    refine ⟨A4, _, c4, by first | rfl | simp, ?_, hb2.out.trans (hS4.2.mono hb2.out.size)⟩
    have := ho4.rb
    exact this
end Go.Proofs.Ytccdbelngjonaaa
