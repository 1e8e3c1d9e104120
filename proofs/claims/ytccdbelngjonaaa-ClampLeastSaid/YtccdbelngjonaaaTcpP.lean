/- Segments (tcp): what bytes are; walk of Parse where they are none. -/
import Derived.Test.YtccdbelngjonaaaTcpB
import Derived.Test.YtccdbelngjonaaaFld
import Derived.Test.YtccdbelngjonaaaGet
set_option linter.unusedVariables false
namespace Go.Proofs.Ytccdbelngjonaaa
open Go.RowKit

def headL (bs : List Int) : Int := bs[12]?.getD 0 / 16 * 4
def codeT (src dst : Int) (bs : List Int) : Int :=
  if bs.length < 20 then 3 else if headL bs < 20 then 4 else if (bs.length : Int) < headL bs then 3 else if 65535 < bs.length then 6 else
    if foldI (totalI [pseudoB src dst 6 (bs.length : Nat), bs]) == 65535 then 0 else 5
def parsedT (bs : List Int) : TcpP :=
  ⟨(getV bs 0 2).1, (getV bs 2 2).1, (getV bs 4 4).1, (getV bs 8 4).1, bs[12]?.getD 0 % 16, bs[13]?.getD 0, (getV bs 14 2).1, (getV bs 18 2).1, (bs.drop 20).take ((headL bs).toNat - 20), bs.drop (headL bs).toNat⟩
def zeroP : TcpP := ⟨0, 0, 0, 0, 0, 0, 0, 0, [], []⟩
def readT (src dst : Int) (bs : List Int) : TcpP := if codeT src dst bs = 0 then parsedT bs else zeroP
def TcpOut (w : World) (m : TcpP) (e0 : Int) (e : Ending) (w' : World) : Prop :=
  ∃ Ao no co A n c, e = .returned (.tuple #[.agg (cellsT m Ao no co A n c), .int .i64 e0]) ∧ OB w' w.heap.size Ao no co m.opts ∧ OB w' w.heap.size A n c m.data ∧ Below w.heap.size w w'
abbrev zeroT : Array Value := #[.int .i64 0, .int .i64 0, .int .i64 0, .int .i64 0, .int .i64 0, .int .i64 0, .int .i64 0, .int .i64 0, .slice none 0 0, .slice none 0 0]
theorem TcpOut.bad {w w' : World} {src dst : Int} {bs : List Int} {k : Int} (hk : codeT src dst bs = k) (h0 : k ≠ 0) (hb : Below w.heap.size w w') : TcpOut w (readT src dst bs) (codeT src dst bs) (.returned (.tuple #[.agg zeroT, .int .i64 k])) w' := by
  unfold readT
  rw [hk, if_neg h0]
  exact ⟨none, 0, 0, none, 0, 0, rfl, OB.nil _ _, OB.nil _ _, hb⟩
theorem info_tcp : (Try.prog.info? 73).map (·.size) = some 10 := by kernel_rfl

/-- A shift of a byte, and its low half. -/
theorem u8_low4 (x : Int) (h0 : 0 ≤ x) (h1 : x < 256) : bits .and .u8 x 15 = x % 16 := by
  have hc : ∀ n : Fin 256, bits .and .u8 (n.val : Int) 15 = (n.val : Int) % 16 := by decide +kernel
  have := hc ⟨x.toNat, by omega⟩
  rwa [show ((⟨x.toNat, by omega⟩ : Fin 256).val : Int) = x from Int.toNat_of_nonneg h0] at this

set_option maxRecDepth 100000 in
set_option maxHeartbeats 4000000 in
theorem TcpParse_bad (src dst : Int) (A : Option Addr) (n c : Nat) (bs : List Int) (w : World) (h : RB w A n c bs) (hbad : n < 20 ∨ headL bs < 20 ∨ (n : Int) < headL bs ∨ 65535 < n) :
    Calls Try.prog 53 #[.int .i64 src, .int .i64 dst, .slice A n c] w (TcpOut w (readT src dst bs) (codeT src dst bs)) := by
  have hb0 := Lib.hid (((Below.refl _ w).alloc (Nat.le_refl _) (.cells #[.slice A n c] 22)).alloc (by simp) (.cells zeroT 73))
  have hlen := h.len
  by_cases h20 : n < 20
  · have hk := Lib.hid (show codeT src dst bs = 3 by unfold codeT; rw [hlen, if_pos h20])
    clear h hlen hbad
    go_enter Try.func53, Try.ntmps53
    go_wp2
    exact bodyPost_ret (v := .tuple #[.agg zeroT, .int .i64 3]) (by simp [results, Try.results53, go_sem]) rfl (TcpOut.bad hk.out (by decide) hb0.out)
  · obtain ⟨b, off, rfl, hbl, hc⟩ := h.mem (by omega)
    have hc12 := hc 12 (by omega)
    have y0 := h.byt.get 12
    have hcode : codeT src dst bs = if headL bs < 20 then 4 else if (n : Int) < headL bs then 3 else if 65535 < n then 6 else if foldI (totalI [pseudoB src dst 6 (n : Nat), bs]) == 65535 then 0 else 5 := by
      unfold codeT; rw [hlen, if_neg h20]
    have hhd : headL bs = bs[12]?.getD 0 / 16 * 4 := rfl
    rw [hhd] at hcode hbad
    generalize bs[12]?.getD 0 = x at *
    have hnc := h.nc
    have hi12 : 12 < n := by omega
    clear h hlen hc
    by_cases s1 : x / 16 * 4 < 20
    · have hk := Lib.hid (hcode.trans (if_pos s1))
      clear hcode hbad
      go_enter Try.func53, Try.ntmps53
      go_wp2
      exact bodyPost_ret (v := .tuple #[.agg zeroT, .int .i64 4]) (by simp [results, Try.results53, go_sem]) rfl (TcpOut.bad hk.out (by decide) hb0.out)
    · by_cases s2 : (n : Int) < x / 16 * 4
      · have hk := Lib.hid (hcode.trans ((if_neg s1).trans (if_pos s2)))
        clear hcode hbad
        go_enter Try.func53, Try.ntmps53
        go_wp2
        exact bodyPost_ret (v := .tuple #[.agg zeroT, .int .i64 3]) (by simp [results, Try.results53, go_sem]) rfl (TcpOut.bad hk.out (by decide) hb0.out)
      · have s3 : 65535 < n := by omega
        have hk := Lib.hid (hcode.trans ((if_neg s1).trans ((if_neg s2).trans (if_pos s3))))
        clear hcode hbad
        go_enter Try.func53, Try.ntmps53
        go_wp2
        exact bodyPost_ret (v := .tuple #[.agg zeroT, .int .i64 6]) (by simp [results, Try.results53, go_sem]) rfl (TcpOut.bad hk.out (by decide) hb0.out)

theorem setRow_heap_ne (w : World) (g b : Nat) (cs : Array Value) (hb : b ≠ g) : (w.setRow g cs).heap[b]? = w.heap[b]? := by
  unfold World.setRow
  simp only [Array.getElem?_modify]
  rw [if_neg (fun e => hb e.symm)]
theorem Keep.setRow {B : Nat} (w : World) (cs : Array Value) : Keep B w (w.setRow B cs) := ⟨by simp, fun b _ hb => setRow_heap_ne w B b cs hb⟩
theorem Blk.row {W : World} {B : Nat} {P : Array Value} {T : TypeId} (h : Blk W B P T) (P' : Array Value) : Blk (W.setRow B P') B P' T := ⟨setRow_heap W B P P' T _ h.at_⟩
theorem below_setRow {w0 w : World} {N B : Nat} (h : Below N w0 w) (hB : N ≤ B) (P' : Array Value) : Below N w0 (w.setRow B P') :=
  ⟨h.os, h.tape, h.output, by rw [setRow_size]; exact h.size, fun j hj => (setRow_heap_ne w B j P' (by omega)).trans (h.block j hj)⟩
theorem tcells {W : World} {B : Nat} {T : TypeId} {m : TcpP} {Ao : Option Addr} {no co : Nat} {A : Option Addr} {n c : Nat} (h : Blk W B (cellsT m Ao no co A n c) T) :
    W.cell? ⟨B, 0, none⟩ = some (.int .i64 m.s) ∧ W.cell? ⟨B, 1, none⟩ = some (.int .i64 m.d) ∧ W.cell? ⟨B, 2, none⟩ = some (.int .i64 m.q) ∧ W.cell? ⟨B, 3, none⟩ = some (.int .i64 m.a) ∧ W.cell? ⟨B, 4, none⟩ = some (.int .i64 m.r) ∧
    W.cell? ⟨B, 5, none⟩ = some (.int .i64 m.f) ∧ W.cell? ⟨B, 6, none⟩ = some (.int .i64 m.w) ∧ W.cell? ⟨B, 7, none⟩ = some (.int .i64 m.u) ∧ W.cell? ⟨B, 8, none⟩ = some (.slice Ao no co) ∧ W.cell? ⟨B, 9, none⟩ = some (.slice A n c) :=
  ⟨h.cell 0 _ rfl, h.cell 1 _ rfl, h.cell 2 _ rfl, h.cell 3 _ rfl, h.cell 4 _ rfl, h.cell 5 _ rfl, h.cell 6 _ rfl, h.cell 7 _ rfl, h.cell 8 _ rfl, h.cell 9 _ rfl⟩
theorem run_load_blk {W : World} {B : Nat} {cs : Array Value} (h : Blk W B cs 73) (hs : cs.size = 10) : (loadVar 73 ⟨B, 0, none⟩).run Try.prog W = .ok (.agg cs) W :=
  run_loadVar_row W B 73 73 cs _ _ h.at_ Try.underlying73 rfl (by rw [info_tcp, hs])

theorem one_T (m : TcpP) (Ao : Option Addr) (no co : Nat) (A : Option Addr) (n c : Nat) : (cellsT m Ao no co A n c).all (·.oneCell') = true := by simp [Value.oneCell']
theorem wpList_store_T {ops : Array Oper} {rest : List Oper} {op : Oper} {a : Act} {W : World} {Q : Exit → Act → World → Prop} (hgd : op.guard = none) (x y : Operand) (ho : op.op = .store 73 x y)
    (g : Nat) (cells : Array Value) (hx : a.eval x = .pointer (some ⟨g, 0, none⟩)) (hy : a.eval y = .agg cells) (old : Array Value) (hk : Blk W g old 73) (ho' : old.size = 10) (hs : cells.size = 10) (h1 : cells.all (·.oneCell') = true)
    (h : wpList Try.prog ops Q rest (a.put op.dst undef) (W.setRow g cells)) : wpList Try.prog ops Q (op :: rest) a W :=
  wpList_store_row hgd 73 x y ho g cells hx hy 73 old hk.at_ (by rw [info_tcp, hs]) (by rw [ho', hs]) h1 h

set_option maxRecDepth 100000 in
set_option maxHeartbeats 4000000 in
theorem TcpParse_sum (src dst : Int) (A : Option Addr) (n c : Nat) (bs : List Int) (w : World) (h : RB w A n c bs) (h20 : 20 ≤ n) (h21 : 20 ≤ headL bs) (h22 : headL bs ≤ (n : Int)) (h23 : n ≤ 65535) (hq : (foldI (totalI [pseudoB src dst 6 (n : Nat), bs]) == 65535) = false) :
    Calls Try.prog 53 #[.int .i64 src, .int .i64 dst, .slice A n c] w (TcpOut w (readT src dst bs) (codeT src dst bs)) := by
  have hb0 := Lib.hid (((Below.refl _ w).alloc (Nat.le_refl _) (.cells #[.slice A n c] 22)).alloc (by simp) (.cells zeroT 73))
  have hlen := h.len
  obtain ⟨b, off, rfl, hbl, hc⟩ := h.mem (by omega)
  have hc12 := hc 12 (by omega)
  have y0 := h.byt.get 12
  have hk := Lib.hid (show codeT src dst bs = 5 by unfold codeT; rw [hlen, if_neg (by omega), if_neg (by omega), if_neg (by omega), if_neg (by omega), hq]; rfl)
  have hhd : headL bs = bs[12]?.getD 0 / 16 * 4 := rfl
  rw [hhd] at h21 h22
  have hsmall := Lib.hid (small_two (pseudoB_byts src dst 6 (n : Int)) (by rw [pseudoB_length]; omega) h.byt (by omega))
  generalize bs[12]?.getD 0 = x at *
  have hnc := h.nc
  have hi12 : 12 < n := by omega
  replace hq := Lib.hid hq
  replace hhd := 0
  replace h := Lib.hid h
  clear hc hlen
  go_enter Try.func53, Try.ntmps53
  go_wp2
  have hW0 : ∃ W0, (w.alloc (.cells #[.slice (some ⟨b, off, none⟩) n c] 22)).alloc (.cells zeroT 73) = W0 := ⟨_, rfl⟩
  obtain ⟨W0, hW0⟩ := hW0
  have kb0 : Blk W0 w.heap.size #[.slice (some ⟨b, off, none⟩) n c] 22 := by rw [← hW0]; exact (Blk.new w _ _).alloc _
  have kz0 : Blk W0 (w.heap.size + 1) zeroT 73 := by
    rw [← hW0]
    have := Blk.new (w.alloc (.cells #[.slice (some ⟨b, off, none⟩) n c] 22)) zeroT 73
    rwa [World.size_alloc] at this
  have hBW : Below w.heap.size w W0 := by rw [← hW0]; exact hb0.out
  rw [hW0]
  replace hW0 := Lib.hid hW0
  have hF : ∀ W, Below W0.heap.size W0 W → W.cell? ⟨w.heap.size, 0, none⟩ = some (.slice (some ⟨b, off, none⟩) n c) := fun W hW => (kb0.to hW).cell 0 _ rfl
  replace hF := Lib.hid hF
  replace kb0 := Lib.hid kb0
  replace kz0 := Lib.hid kz0
  replace hBW := Lib.hid hBW
  go_region_held3 (fun W => W.cell? ⟨w.heap.size, 0, none⟩ = some (.slice (some ⟨b, off, none⟩) n c) ∧ Below W0.heap.size W0 W)
    (first | assumption | exact held0 hF.out | exact heldAl hF.out _ (by assumption))
    (first
    | (go_at_call 84; refine (Pseudo_any src dst 6 (n : Int) _).mono ?_; rintro e W2 ⟨A3, c3, rfl, ho3, hb2⟩; have hS2 := heldTo hF.out (held0 hF.out) hb2; have hrr := Lib.hid (rbb_two ho3.rb (h.out.below (hBW.out.trans (hS2.2.mono hBW.out.size)))); replace ho3 := 0; replace hb2 := 0)
    | (go_at_call 88; refine (Right_any _ 2 2 [pseudoB src dst 6 (n : Int), bs] _ hrr.out hsmall.out).mono ?_; rintro e W4 ⟨rfl, hb4⟩; rw [hq.out]; have hS4 := heldTo hF.out (heldAl hF.out _ hS2) hb4; replace hb4 := 0)
    | fail)
  have kb4 := Lib.hid (kb0.out.to hS4.2)
  have kz4 := kz0.out.to hS4.2
  have hB4 := Lib.hid (hBW.out.trans (hS4.2.mono hBW.out.size))
  clear hS4 hS2
  go_wp2_with (first
    | (refine wpList_store_T rfl (.tmp 6) (.tmp 46) rfl (w.heap.size + 1) zeroT rfl rfl _ kz4 rfl rfl (one_T zeroP none 0 0 none 0 0) ?_)
    | fail)
  obtain ⟨r0, r1, r2, r3, r4, r5, r6, r7, r8, r9⟩ := tcells (m := zeroP) (Ao := none) (no := 0) (co := 0) (A := none) (n := 0) (c := 0) (kz4.row zeroT)
  exact bodyPost_ret (v := .tuple #[.agg zeroT, .int .i64 5]) (by simp [results, Try.results53, go_sem, r0, r1, r2, r3, r4, r5, r6, r7, r8, r9, zeroP]) rfl (TcpOut.bad hk.out (by decide) (below_setRow hB4.out (by omega) _))
end Go.Proofs.Ytccdbelngjonaaa
