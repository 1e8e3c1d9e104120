/- Packets of IPv6 (the reference): walks of read, Parse, Quoted, where the bytes are none. -/
import Derived.Test.YtbbdkfadcafpfaaV6P
import Derived.BigQuiet
import Derived.Deep.QuietTactic
set_option linter.unusedVariables false
namespace Go.Proofs.Ytbbdkfadcafpfaa
open Go Go.RowKit

/-- Numbers of four bytes, and of two. -/
theorem getV4_eq {bs : List Int} (hl : 4 ≤ bs.length) : (getV bs 0 4).1 = ((bs[0]?.getD 0 * 256 + bs[1]?.getD 0) * 256 + bs[2]?.getD 0) * 256 + bs[3]?.getD 0 := by
  unfold getV
  rw [if_neg (by omega), if_neg (by omega)]
  match bs, hl with
  | a :: b :: c :: d :: r, _ => simp [cutI, beNum]
theorem getV2_eq {bs : List Int} (hl : 6 ≤ bs.length) : (getV bs 4 2).1 = bs[4]?.getD 0 * 256 + bs[5]?.getD 0 := by
  unfold getV
  rw [if_neg (by omega), if_neg (by omega)]
  match bs, hl with
  | a :: b :: c :: d :: e :: f :: r, _ => simp [cutI, beNum]

set_option maxRecDepth 100000 in
set_option maxHeartbeats 1000000 in
theorem RefV6Read_bad (A : Option Addr) (n c : Nat) (bs : List Int) (q : Bool) (w : World) (h : RB w A n c bs) (hn : n ≤ 100000) (hbad : codeV6 q bs ≠ 0) :
    Calls Try.prog 58 #[.slice A n c, .bool q] w (V6Out w (readV6 q bs) (codeV6 q bs)) := by
  have hb0 := Lib.hid ((Below.refl _ w).alloc (Nat.le_refl _) (.cells zeroVc 26))
  have hz0 := Lib.hid (Blk.new w zeroVc 26)
  have hlen := h.len
  have hcode : codeV6 q bs = if n < 40 then 3 else if (getV bs 0 4).1 / 268435456 ≠ 6 then 4 else if (n : Int) - 40 < (getV bs 4 2).1 ∧ q = false then 3 else 0 := by unfold codeV6; rw [hlen]
  by_cases h40 : n < 40
  · have hk := Lib.hid (hcode.trans (if_pos h40))
    clear hcode hbad hlen h
    go_enter Try.func58, Try.ntmps58
    go_wp2_with (first
      | (refine wpList_store_V rfl (.tmp 4) (.tmp 12) rfl w.heap.size zeroVc rfl rfl _ hz0.out rfl rfl (rowV_one rfl) ?_)
      | fail)
    exact bodyPost_ret (results_ct Try.results58 rfl (run_load_V (Blk.mk (setRow_heap _ _ _ zeroVc _ _ hz0.out.at_)) rfl)) rfl (V6Out.bad hk.out (by decide) (below_row hb0.out (Nat.le_refl _) _))
  · rw [if_neg h40] at hcode
    obtain ⟨b, off, rfl, hbl, hc⟩ := h.mem (by omega)
    have hc0 := hc 0 (by omega)
    rw [Nat.add_zero] at hc0
    have hc1 := hc 1 (by omega)
    have hc2 := hc 2 (by omega)
    have hc3 := hc 3 (by omega)
    have hc4 := hc 4 (by omega)
    have hc5 := hc 5 (by omega)
    have hc6 := hc 6 (by omega)
    have hc7 := hc 7 (by omega)
    have y0 := h.byt.get 0
    have y1 := h.byt.get 1
    have y2 := h.byt.get 2
    have y3 := h.byt.get 3
    have y4 := h.byt.get 4
    have y5 := h.byt.get 5
    have y6 := h.byt.get 6
    have y7 := h.byt.get 7
    have hnc := h.nc
    have e4 := getV4_eq (bs := bs) (by omega)
    have e2 := getV2_eq (bs := bs) (by omega)
    rw [e4, e2] at hcode
    generalize bs[0]?.getD 0 = x0 at *
    obtain ⟨ya0, yb0⟩ := y0
    have i0 : (0 : Int) < n := by omega
    have j0 : 0 < n := by omega
    have wx0 : IntKind.i64.wrap x0 = x0 := by rw [IntKind.wrap_i64]; omega
    generalize bs[1]?.getD 0 = x1 at *
    obtain ⟨ya1, yb1⟩ := y1
    have i1 : (1 : Int) < n := by omega
    have j1 : 1 < n := by omega
    have wx1 : IntKind.i64.wrap x1 = x1 := by rw [IntKind.wrap_i64]; omega
    generalize bs[2]?.getD 0 = x2 at *
    obtain ⟨ya2, yb2⟩ := y2
    have i2 : (2 : Int) < n := by omega
    have j2 : 2 < n := by omega
    have wx2 : IntKind.i64.wrap x2 = x2 := by rw [IntKind.wrap_i64]; omega
    generalize bs[3]?.getD 0 = x3 at *
    obtain ⟨ya3, yb3⟩ := y3
    have i3 : (3 : Int) < n := by omega
    have j3 : 3 < n := by omega
    have wx3 : IntKind.i64.wrap x3 = x3 := by rw [IntKind.wrap_i64]; omega
    generalize bs[4]?.getD 0 = x4 at *
    obtain ⟨ya4, yb4⟩ := y4
    have i4 : (4 : Int) < n := by omega
    have j4 : 4 < n := by omega
    have wx4 : IntKind.i64.wrap x4 = x4 := by rw [IntKind.wrap_i64]; omega
    generalize bs[5]?.getD 0 = x5 at *
    obtain ⟨ya5, yb5⟩ := y5
    have i5 : (5 : Int) < n := by omega
    have j5 : 5 < n := by omega
    have wx5 : IntKind.i64.wrap x5 = x5 := by rw [IntKind.wrap_i64]; omega
    generalize bs[6]?.getD 0 = x6 at *
    obtain ⟨ya6, yb6⟩ := y6
    have i6 : (6 : Int) < n := by omega
    have j6 : 6 < n := by omega
    have wx6 : IntKind.i64.wrap x6 = x6 := by rw [IntKind.wrap_i64]; omega
    generalize bs[7]?.getD 0 = x7 at *
    obtain ⟨ya7, yb7⟩ := y7
    have i7 : (7 : Int) < n := by omega
    have j7 : 7 < n := by omega
    have wx7 : IntKind.i64.wrap x7 = x7 := by rw [IntKind.wrap_i64]; omega
    have hwn : IntKind.i64.wrap ((n : Int) - 40) = (n : Int) - 40 := by rw [IntKind.wrap_i64]; omega
    have t0 : x0.tdiv 16 = x0 / 16 := Int.tdiv_eq_ediv_of_nonneg (by omega)
    have t1 : IntKind.u8.wrap (x0 / 16) = x0 / 16 := by rw [IntKind.wrap_u8]; omega
    have m0 : IntKind.i64.wrap (x4 * 256) = x4 * 256 := by rw [IntKind.wrap_i64]; omega
    have m1 : IntKind.i64.wrap (x4 * 256 + x5) = x4 * 256 + x5 := by rw [IntKind.wrap_i64]; omega
    have f6 : (((x0 * 256 + x1) * 256 + x2) * 256 + x3) / 268435456 = x0 / 16 := by omega
    by_cases h6 : x0 / 16 = 6
    · rw [if_neg (by omega)] at hcode
      by_cases h3 : (n : Int) - 40 < x4 * 256 + x5 ∧ q = false
      · have hk := Lib.hid (hcode.trans (if_pos h3))
        clear hcode hbad
        obtain ⟨h3, rfl⟩ := h3
        have hne : (x0 / 16 != 6) = false := by simpa using h6
        replace h6 := 0
        replace h := Lib.hid h
        clear hc f6 e4 e2
        go_enter Try.func58, Try.ntmps58
        go_wp2
        have hC1 := Lib.hid (show ∀ W, (Below w.heap.size w W ∧ Blk W w.heap.size zeroVc 26) → W.cell? ⟨b, off + 4, none⟩ = some (.int .u8 x4) ∧ W.cell? ⟨b, off + 5, none⟩ = some (.int .u8 x5) ∧ True from fun W hS =>
          ⟨(hS.1.cell (p := ⟨b, off + 4, none⟩) hbl).trans hc4, (hS.1.cell (p := ⟨b, off + 5, none⟩) hbl).trans hc5, trivial⟩)
        refine wp_region_tame (fun W => Below w.heap.size w W ∧ Blk W w.heap.size zeroVc 26) (by kernel_rfl) (by kernel_rfl) ⟨hb0.out.drew, hz0.out.drew⟩ ?_
        repeat (first
          | (refine tameL_skip rfl ?_; simp only [Act.put, List.setIfInBounds_toArray, List.set_cons_zero, List.set_cons_succ])
          | (refine tameL_val (v := ?_) rfl (fun W hS => ?_) ?_; rotate_left; (· (obtain ⟨g0, g1, g2⟩ := hC1.out W hS; clear hS; go_simp; try with_reducible rfl)); simp only [Act.put, List.setIfInBounds_toArray, List.set_cons_zero, List.set_cons_succ]))
        refine tameL_nil fun W hS => ?_
        replace hC1 := 0
        obtain ⟨hB9, hz9⟩ := hS
        have hbW : b < W.heap.size := Nat.lt_of_lt_of_le hbl hB9.size
        replace hc0 := (hB9.cell (p := ⟨b, off, none⟩) hbl).trans hc0
        replace hc1 := (hB9.cell (p := ⟨b, off + 1, none⟩) hbl).trans hc1
        replace hc2 := (hB9.cell (p := ⟨b, off + 2, none⟩) hbl).trans hc2
        replace hc3 := (hB9.cell (p := ⟨b, off + 3, none⟩) hbl).trans hc3
        replace hc4 := (hB9.cell (p := ⟨b, off + 4, none⟩) hbl).trans hc4
        replace hc5 := (hB9.cell (p := ⟨b, off + 5, none⟩) hbl).trans hc5
        replace hc6 := (hB9.cell (p := ⟨b, off + 6, none⟩) hbl).trans hc6
        replace hc7 := (hB9.cell (p := ⟨b, off + 7, none⟩) hbl).trans hc7
        replace hB9 := Lib.hid hB9
        replace hz9 := Lib.hid hz9
        replace hb0 := 0
        replace hz0 := 0
        go_wp2_with (first
          | (refine wpList_store_V rfl (.tmp 4) (.tmp 38) rfl w.heap.size zeroVc rfl rfl _ hz9.out rfl rfl (rowV_one rfl) ?_)
          | fail)
        exact bodyPost_ret (results_ct Try.results58 rfl (run_load_V (Blk.mk (setRow_heap _ _ _ zeroVc _ _ hz9.out.at_)) rfl)) rfl (V6Out.bad hk.out (by decide) (below_row hB9.out (Nat.le_refl _) _))
      · exact absurd (hcode.trans (if_neg h3)) hbad
    · have hk := Lib.hid (hcode.trans (if_pos (by omega)))
      have hne : (x0 / 16 != 6) = true := by simpa using h6
      clear hcode hbad
      replace h := Lib.hid h
      clear hc f6 e4 e2
      go_enter Try.func58, Try.ntmps58
      go_wp2
      have hC1 := Lib.hid (show ∀ W, (Below w.heap.size w W ∧ Blk W w.heap.size zeroVc 26) → W.cell? ⟨b, off + 4, none⟩ = some (.int .u8 x4) ∧ W.cell? ⟨b, off + 5, none⟩ = some (.int .u8 x5) ∧ True from fun W hS =>
        ⟨(hS.1.cell (p := ⟨b, off + 4, none⟩) hbl).trans hc4, (hS.1.cell (p := ⟨b, off + 5, none⟩) hbl).trans hc5, trivial⟩)
      refine wp_region_tame (fun W => Below w.heap.size w W ∧ Blk W w.heap.size zeroVc 26) (by kernel_rfl) (by kernel_rfl) ⟨hb0.out.drew, hz0.out.drew⟩ ?_
      repeat (first
        | (refine tameL_skip rfl ?_; simp only [Act.put, List.setIfInBounds_toArray, List.set_cons_zero, List.set_cons_succ])
        | (refine tameL_val (v := ?_) rfl (fun W hS => ?_) ?_; rotate_left; (· (obtain ⟨g0, g1, g2⟩ := hC1.out W hS; clear hS; go_simp; try with_reducible rfl)); simp only [Act.put, List.setIfInBounds_toArray, List.set_cons_zero, List.set_cons_succ]))
      refine tameL_nil fun W hS => ?_
      replace hC1 := 0
      obtain ⟨hB9, hz9⟩ := hS
      have hbW : b < W.heap.size := Nat.lt_of_lt_of_le hbl hB9.size
      replace hc0 := (hB9.cell (p := ⟨b, off, none⟩) hbl).trans hc0
      replace hc1 := (hB9.cell (p := ⟨b, off + 1, none⟩) hbl).trans hc1
      replace hc2 := (hB9.cell (p := ⟨b, off + 2, none⟩) hbl).trans hc2
      replace hc3 := (hB9.cell (p := ⟨b, off + 3, none⟩) hbl).trans hc3
      replace hc4 := (hB9.cell (p := ⟨b, off + 4, none⟩) hbl).trans hc4
      replace hc5 := (hB9.cell (p := ⟨b, off + 5, none⟩) hbl).trans hc5
      replace hc6 := (hB9.cell (p := ⟨b, off + 6, none⟩) hbl).trans hc6
      replace hc7 := (hB9.cell (p := ⟨b, off + 7, none⟩) hbl).trans hc7
      replace hB9 := Lib.hid hB9
      replace hz9 := Lib.hid hz9
      replace hb0 := 0
      replace hz0 := 0
      go_wp2_with (first
        | (refine wpList_store_V rfl (.tmp 4) (.tmp 28) rfl w.heap.size zeroVc rfl rfl _ hz9.out rfl rfl (rowV_one rfl) ?_)
        | fail)
      exact bodyPost_ret (results_ct Try.results58 rfl (run_load_V (Blk.mk (setRow_heap _ _ _ zeroVc _ _ hz9.out.at_)) rfl)) rfl (V6Out.bad hk.out (by decide) (below_row hB9.out (Nat.le_refl _) _))
end Go.Proofs.Ytbbdkfadcafpfaa
