/- Packets of IPv6 (the reference): walk of read, where the bytes are a packet, whole, that may be quoted. -/
import Derived.Test.YtbbdkfadcafpfaaV6PRL
set_option linter.unusedVariables false
namespace Go.Proofs.Ytbbdkfadcafpfaa
open Go Go.RowKit

set_option maxRecDepth 100000 in
set_option maxHeartbeats 8000000 in
theorem RefV6Read_c (A : Option Addr) (n c : Nat) (bs : List Int) (q : Bool) (w : World) (h : RB w A n c bs) (hn : n ≤ 100000) (hok : codeV6 q bs = 0) (hlong : ¬ (n : Int) - 40 < (getV bs 4 2).1) (hq : q = true) :
    Calls Try.prog 58 #[.slice A n c, .bool q] w (V6Out w (readV6 q bs) (codeV6 q bs)) := by
  have hb0 := Lib.hid ((Below.refl _ w).alloc (Nat.le_refl _) (.cells zeroVc 26))
  have hz0 := Lib.hid (Blk.new w zeroVc 26)
  have hlen := h.len
  have hcode : codeV6 q bs = if n < 40 then 3 else if (getV bs 0 4).1 / 268435456 ≠ 6 then 4 else if (n : Int) - 40 < (getV bs 4 2).1 ∧ q = false then 3 else 0 := by unfold codeV6; rw [hlen]
  have hread := Lib.hid (show readV6 q bs = parsedV bs from if_pos hok)
  have hpar : parsedV bs = ⟨(getV bs 0 4).1 / 1048576 % 256, (getV bs 0 4).1 % 1048576, bs[6]?.getD 0, bs[7]?.getD 0, (bs.drop 8).take 16, (bs.drop 24).take 16, (bs.drop 40).take (min (getV bs 4 2).1.toNat (bs.length - 40))⟩ := rfl
  rw [hlen] at hpar
  rw [hok] at hcode
  have h40 : ¬ n < 40 := fun h' => by rw [if_pos h'] at hcode; simp at hcode
  rw [if_neg h40] at hcode
  obtain ⟨b, off, rfl, hbl, hc⟩ := h.mem (by omega)
  have hc0 := hc 0 (by omega)
  rw [Nat.add_zero] at hc0
  have hc1 := hc 1 (by omega)
  have hc2 := hc 2 (by omega)
  have hc3 := hc 3 (by omega)
  have hc4 := hc 4 (by omega)
  have hc5 := hc 5 (by omega)
  have hc6 := hc 6 (by omega)
  have hc7 := hc 7 (by omega)
  have y0 := h.byt.get 0
  have y1 := h.byt.get 1
  have y2 := h.byt.get 2
  have y3 := h.byt.get 3
  have y4 := h.byt.get 4
  have y5 := h.byt.get 5
  have y6 := h.byt.get 6
  have y7 := h.byt.get 7
  have hnc := h.nc
  have e4 := getV4_eq (bs := bs) (by omega)
  have e2 := getV2_eq (bs := bs) (by omega)
  rw [e4, e2] at hcode
  generalize bs[0]?.getD 0 = x0 at *
  obtain ⟨ya0, yb0⟩ := y0
  have i0 : (0 : Int) < n := by omega
  have j0 : 0 < n := by omega
  have wx0 : IntKind.i64.wrap x0 = x0 := by rw [IntKind.wrap_i64]; omega
  generalize bs[1]?.getD 0 = x1 at *
  obtain ⟨ya1, yb1⟩ := y1
  have i1 : (1 : Int) < n := by omega
  have j1 : 1 < n := by omega
  have wx1 : IntKind.i64.wrap x1 = x1 := by rw [IntKind.wrap_i64]; omega
  generalize bs[2]?.getD 0 = x2 at *
  obtain ⟨ya2, yb2⟩ := y2
  have i2 : (2 : Int) < n := by omega
  have j2 : 2 < n := by omega
  have wx2 : IntKind.i64.wrap x2 = x2 := by rw [IntKind.wrap_i64]; omega
  generalize bs[3]?.getD 0 = x3 at *
  obtain ⟨ya3, yb3⟩ := y3
  have i3 : (3 : Int) < n := by omega
  have j3 : 3 < n := by omega
  have wx3 : IntKind.i64.wrap x3 = x3 := by rw [IntKind.wrap_i64]; omega
  generalize bs[4]?.getD 0 = x4 at *
  obtain ⟨ya4, yb4⟩ := y4
  have i4 : (4 : Int) < n := by omega
  have j4 : 4 < n := by omega
  have wx4 : IntKind.i64.wrap x4 = x4 := by rw [IntKind.wrap_i64]; omega
  generalize bs[5]?.getD 0 = x5 at *
  obtain ⟨ya5, yb5⟩ := y5
  have i5 : (5 : Int) < n := by omega
  have j5 : 5 < n := by omega
  have wx5 : IntKind.i64.wrap x5 = x5 := by rw [IntKind.wrap_i64]; omega
  generalize bs[6]?.getD 0 = x6 at *
  obtain ⟨ya6, yb6⟩ := y6
  have i6 : (6 : Int) < n := by omega
  have j6 : 6 < n := by omega
  have wx6 : IntKind.i64.wrap x6 = x6 := by rw [IntKind.wrap_i64]; omega
  generalize bs[7]?.getD 0 = x7 at *
  obtain ⟨ya7, yb7⟩ := y7
  have i7 : (7 : Int) < n := by omega
  have j7 : 7 < n := by omega
  have wx7 : IntKind.i64.wrap x7 = x7 := by rw [IntKind.wrap_i64]; omega
  have hwn : IntKind.i64.wrap ((n : Int) - 40) = (n : Int) - 40 := by rw [IntKind.wrap_i64]; omega
  have t0 : x0.tdiv 16 = x0 / 16 := Int.tdiv_eq_ediv_of_nonneg (by omega)
  have t1 : IntKind.u8.wrap (x0 / 16) = x0 / 16 := by rw [IntKind.wrap_u8]; omega
  have m0 : IntKind.i64.wrap (x4 * 256) = x4 * 256 := by rw [IntKind.wrap_i64]; omega
  have m1 : IntKind.i64.wrap (x4 * 256 + x5) = x4 * 256 + x5 := by rw [IntKind.wrap_i64]; omega
  have f6 : (((x0 * 256 + x1) * 256 + x2) * 256 + x3) / 268435456 = x0 / 16 := by omega
  rw [e4, e2] at hpar
  have h6 : x0 / 16 = 6 := Decidable.byContradiction fun h' => by rw [if_pos (by omega)] at hcode; simp at hcode
  rw [if_neg (by omega)] at hcode
  have h3 : ¬ ((n : Int) - 40 < x4 * 256 + x5 ∧ q = false) := fun h' => by rw [if_pos h'] at hcode; simp at hcode
  clear hcode
  have hne : (x0 / 16 != 6) = false := by simpa using h6
  obtain ⟨s, hs⟩ := Int.eq_ofNat_of_zero_le (show 0 ≤ x4 * 256 + x5 by omega)
  have hss := Lib.hid (show s < 65536 by omega)
  rw [hs, Int.toNat_natCast] at hpar
  rw [show ((((x0 * 256 + x1) * 256 + x2) * 256 + x3) / 1048576 % 256 : Int) = x0 % 16 * 16 + x1 / 16 by omega, show ((((x0 * 256 + x1) * 256 + x2) * 256 + x3) % 1048576 : Int) = x1 % 16 * 65536 + x2 * 256 + x3 by omega] at hpar
  replace h6 := 0
  have hsz := hlong
  rw [e2] at hsz
  rw [show min s (n - 40) = s by omega] at hpar
  have hsn : s ≤ n - 40 := by omega
  replace h3 := 0
  replace hlong := 0
  replace hs := Lib.hid hs
  subst hq
  replace h := Lib.hid h
  clear hc f6 e4 e2
  go_enter Try.func58, Try.ntmps58
  go_wp2
  have hC1 := Lib.hid (show ∀ W, (Below w.heap.size w W ∧ Blk W w.heap.size zeroVc 26) → W.cell? ⟨b, off + 4, none⟩ = some (.int .u8 x4) ∧ W.cell? ⟨b, off + 5, none⟩ = some (.int .u8 x5) ∧ True from fun W hS =>
    ⟨(hS.1.cell (p := ⟨b, off + 4, none⟩) hbl).trans hc4, (hS.1.cell (p := ⟨b, off + 5, none⟩) hbl).trans hc5, trivial⟩)
  refine wp_region_tame (fun W => Below w.heap.size w W ∧ Blk W w.heap.size zeroVc 26) (by kernel_rfl) (by kernel_rfl) ⟨hb0.out.drew, hz0.out.drew⟩ ?_
  repeat (first
    | (refine tameL_skip rfl ?_; simp only [Act.put, List.setIfInBounds_toArray, List.set_cons_zero, List.set_cons_succ])
    | (refine tameL_val (v := ?_) rfl (fun W hS => ?_) ?_; rotate_left; (· (obtain ⟨g0, g1, g2⟩ := hC1.out W hS; clear hS; go_simp; try with_reducible rfl)); simp only [Act.put, List.setIfInBounds_toArray, List.set_cons_zero, List.set_cons_succ]))
  refine tameL_nil fun W hS => ?_
  replace hC1 := 0
  obtain ⟨hB9, hz9⟩ := hS
  have hbW : b < W.heap.size := Nat.lt_of_lt_of_le hbl hB9.size
  replace hc0 := (hB9.cell (p := ⟨b, off, none⟩) hbl).trans hc0
  replace hc1 := (hB9.cell (p := ⟨b, off + 1, none⟩) hbl).trans hc1
  replace hc2 := (hB9.cell (p := ⟨b, off + 2, none⟩) hbl).trans hc2
  replace hc3 := (hB9.cell (p := ⟨b, off + 3, none⟩) hbl).trans hc3
  replace hc4 := (hB9.cell (p := ⟨b, off + 4, none⟩) hbl).trans hc4
  replace hc5 := (hB9.cell (p := ⟨b, off + 5, none⟩) hbl).trans hc5
  replace hc6 := (hB9.cell (p := ⟨b, off + 6, none⟩) hbl).trans hc6
  replace hc7 := (hB9.cell (p := ⟨b, off + 7, none⟩) hbl).trans hc7
  replace hB9 := Lib.hid hB9
  replace hz9 := Lib.hid hz9
  replace hb0 := 0
  replace hz0 := 0
  replace hC1 := 0
  have hz9l := Lib.hid hz9.out.lt
  have hC0 := Lib.hid (show ∀ W', (Below W.heap.size W W' ∧ (fun _ => True) W') → (W'.cell? ⟨b, off + 6, none⟩ = some (.int .u8 x6) ∧ W'.cell? ⟨b, off + 7, none⟩ = some (.int .u8 x7)) from fun W' hS =>
    ⟨(hS.1.cell (p := ⟨b, off + 6, none⟩) hbW).trans hc6, (hS.1.cell (p := ⟨b, off + 7, none⟩) hbW).trans hc7⟩)
  go_wp2
  refine wp_region_writ (JA W W.heap.size 26 37 7 (fun _ => True)) (EA W.heap.size 26 (rowV 0 0 x6 x7 z16 z16 (.slice none 0 0)).toArray) (by kernel_rfl) (by kernel_rfl) (by kernel_rfl) EA.refl ⟨(Below.refl _ W).drew, trivial, .inl ⟨rfl, by simp⟩⟩ ?_
  repeat (first
    | (refine alc_store (by rfl) (by rfl) rfl (Nat.le_refl _) (fun _ _ _ _ => trivial) (by rfl) (.tmp 47) rfl rfl rfl (by kernel_rfl) rfl (rowV_one rfl) ?_)
    | (refine alc_alloc (by rfl) rfl (by rfl) (by rfl) zeroVc rfl rfl (show (7 : Nat) < 110 from by decide) (Nat.le_refl _) (fun _ _ _ _ => trivial) (Nat.le_refl _) (fun a W => ?_) ?_; (unfold execOp; simp [go_sem]; try rfl); simp only [putV, List.setIfInBounds_toArray, List.set_cons_zero, List.set_cons_succ])
    | (refine alc_val (v := ?_) (by rfl) (by rfl) (by rfl) (by rfl) (by rfl) (by decide) (fun W hS => ?_) ?_; rotate_left; (· (obtain ⟨g0, g1⟩ := hC0.out W hS; clear hS; go_simp; try with_reducible rfl)); simp only [putV, List.setIfInBounds_toArray, List.set_cons_zero, List.set_cons_succ]))
  refine writL_nil fun a W1 hS hsz hds hR => ?_
  have FB : Blk W1 W.heap.size (rowV 0 0 x6 x7 z16 z16 (.slice none 0 0)).toArray 26 := hR 120
  have hT := tmps_eql (T := a.tmps) [] (by rw [hsz]; rfl) (by rw [hsz]; rfl) hR
  rw [List.foldl_nil] at hT
  obtain ⟨T, D⟩ := a
  have hD' : D = [] := hds
  subst hD'
  dsimp only at hT
  subst hT
  clear hR hsz hds
  obtain ⟨hB1, _, _⟩ := hS
  obtain ⟨H, hH⟩ : ∃ H, W.heap.size = H := ⟨_, rfl⟩
  have hBw := Lib.hid (hB9.out.trans (hB1.mono hB9.out.size))
  have hz1 := Lib.hid (hz9.out.to hB1)
  have hbl1 : b < H := by rw [← hH]; exact hbW
  have hzH := Lib.hid (show w.heap.size < H by rw [← hH]; exact hz9l.out)
  replace hc0 := (hB1.cell (p := ⟨b, off, none⟩) hbW).trans hc0
  replace hc1 := (hB1.cell (p := ⟨b, off + 1, none⟩) hbW).trans hc1
  replace hc2 := (hB1.cell (p := ⟨b, off + 2, none⟩) hbW).trans hc2
  replace hc3 := (hB1.cell (p := ⟨b, off + 3, none⟩) hbW).trans hc3
  rw [hH] at FB
  replace hC0 := 0
  replace hc4 := 0
  replace hc5 := 0
  replace hc6 := 0
  replace hc7 := 0
  clear hB1
  rw [hH]
  clear hbW
  replace hz9 := 0
  replace hB9 := 0
  replace hz9l := 0
  replace hH := 0
  have z0 := FB.cell 0 _ rfl
  have z1 := FB.cell 1 _ rfl
  have g0 := FB.frz 0
  have g1 := FB.frz 1
  replace FB := Lib.hid FB
  have tm0 : x0.tmod 16 = x0 % 16 := Int.tmod_eq_emod_of_nonneg (by omega)
  have tm1 : x1.tmod 16 = x1 % 16 := Int.tmod_eq_emod_of_nonneg (by omega)
  have td1 : x1.tdiv 16 = x1 / 16 := Int.tdiv_eq_ediv_of_nonneg (by omega)
  have v0 : IntKind.u8.wrap (x0 % 16) = x0 % 16 := by rw [IntKind.wrap_u8]; omega
  have v1 : IntKind.u8.wrap (x1 % 16) = x1 % 16 := by rw [IntKind.wrap_u8]; omega
  have v2 : IntKind.u8.wrap (x1 / 16) = x1 / 16 := by rw [IntKind.wrap_u8]; omega
  have u0 : IntKind.i64.wrap (x0 % 16) = x0 % 16 := by rw [IntKind.wrap_i64]; omega
  have u1 : IntKind.i64.wrap (x1 % 16) = x1 % 16 := by rw [IntKind.wrap_i64]; omega
  have u2 : IntKind.i64.wrap (x1 / 16) = x1 / 16 := by rw [IntKind.wrap_i64]; omega
  have s0 : IntKind.i64.wrap (x0 % 16 * 16) = x0 % 16 * 16 := by rw [IntKind.wrap_i64]; omega
  have s1 : IntKind.i64.wrap (x0 % 16 * 16 + x1 / 16) = x0 % 16 * 16 + x1 / 16 := by rw [IntKind.wrap_i64]; omega
  have s2 : IntKind.i64.wrap (x1 % 16 * 65536) = x1 % 16 * 65536 := by rw [IntKind.wrap_i64]; omega
  have s3 : IntKind.i64.wrap (x2 * 256) = x2 * 256 := by rw [IntKind.wrap_i64]; omega
  have s4 : IntKind.i64.wrap (x1 % 16 * 65536 + x2 * 256) = x1 % 16 * 65536 + x2 * 256 := by rw [IntKind.wrap_i64]; omega
  have s5 : IntKind.i64.wrap (x1 % 16 * 65536 + x2 * 256 + x3) = x1 % 16 * 65536 + x2 * 256 + x3 := by rw [IntKind.wrap_i64]; omega
  go_wp2_with fail
  go_still_tail 13, (by kernel_rfl)
  change wpList _ _ _ _ _ W1.drew
  go_wp2_with fail
  have F2 : Blk (W1.setCell ⟨H, 0, none⟩ (.int .i64 (x0 % 16 * 16 + x1 / 16))).drew H (rowV (x0 % 16 * 16 + x1 / 16) 0 x6 x7 z16 z16 (.slice none 0 0)).toArray 26 := (FB.out.set 0 _).drew
  have hz2 := (hz1.out.far (B' := H) (Nat.ne_of_lt hzH.out) 0 (.int .i64 (x0 % 16 * 16 + x1 / 16))).drew
  have hB2 := (hBw.out.setCell (p := ⟨H, 0, none⟩) (Nat.le_of_lt hzH.out) (.int .i64 (x0 % 16 * 16 + x1 / 16))).drew
  replace hc1 : (W1.setCell ⟨H, 0, none⟩ (.int .i64 (x0 % 16 * 16 + x1 / 16))).drew.cell? ⟨b, off + 1, none⟩ = _ := (World.cell?_setCell_other W1 ⟨H, 0, none⟩ ⟨b, off + 1, none⟩ (.int .i64 (x0 % 16 * 16 + x1 / 16)) (fun e => Nat.ne_of_gt hbl1 (congrArg Addr.block e))).trans hc1
  replace hc2 : (W1.setCell ⟨H, 0, none⟩ (.int .i64 (x0 % 16 * 16 + x1 / 16))).drew.cell? ⟨b, off + 2, none⟩ = _ := (World.cell?_setCell_other W1 ⟨H, 0, none⟩ ⟨b, off + 2, none⟩ (.int .i64 (x0 % 16 * 16 + x1 / 16)) (fun e => Nat.ne_of_gt hbl1 (congrArg Addr.block e))).trans hc2
  replace hc3 : (W1.setCell ⟨H, 0, none⟩ (.int .i64 (x0 % 16 * 16 + x1 / 16))).drew.cell? ⟨b, off + 3, none⟩ = _ := (World.cell?_setCell_other W1 ⟨H, 0, none⟩ ⟨b, off + 3, none⟩ (.int .i64 (x0 % 16 * 16 + x1 / 16)) (fun e => Nat.ne_of_gt hbl1 (congrArg Addr.block e))).trans hc3
  generalize (W1.setCell ⟨H, 0, none⟩ (.int .i64 (x0 % 16 * 16 + x1 / 16))).drew = W2 at *
  clear hc0 z0 z1 g0 g1
  have z1 := F2.cell 1 _ rfl
  have g1 := F2.frz 1
  replace F2 := Lib.hid F2
  replace hz2 := Lib.hid hz2
  replace hB2 := Lib.hid hB2
  replace FB := 0
  replace hz1 := 0
  replace hBw := 0
  go_still_tail 18, (by kernel_rfl)
  change wpList _ _ _ _ _ W2.drew
  go_wp2_with fail
  have F3 : Blk (W2.setCell ⟨H, 1, none⟩ (.int .i64 (x1 % 16 * 65536 + x2 * 256 + x3))).drew H (rowV (x0 % 16 * 16 + x1 / 16) (x1 % 16 * 65536 + x2 * 256 + x3) x6 x7 z16 z16 (.slice none 0 0)).toArray 26 := (F2.out.set 1 _).drew
  have hz3 := (hz2.out.far (B' := H) (Nat.ne_of_lt hzH.out) 1 (.int .i64 (x1 % 16 * 65536 + x2 * 256 + x3))).drew
  have hB3 := (hB2.out.setCell (p := ⟨H, 1, none⟩) (Nat.le_of_lt hzH.out) (.int .i64 (x1 % 16 * 65536 + x2 * 256 + x3))).drew
  generalize (W2.setCell ⟨H, 1, none⟩ (.int .i64 (x1 % 16 * 65536 + x2 * 256 + x3))).drew = W3 at *
  clear hc1 hc2 hc3 z1 g1
  replace F2 := 0
  replace hz2 := 0
  replace hB2 := 0
  clear wx0 wx1 wx2 wx3 wx4 wx5 wx6 wx7 t0 t1 m0 m1 tm0 tm1 td1 v0 v1 v2 u0 u1 u2 s0 s1 s2 s3 s4 s5 i0 i1 i2 i3 i4 i5 i6 i7 j0 j1 j2 j3 j4 j5 j6 j7 hne hwn
  have hszh := Lib.hid hsz
  clear hlen hsz
  have hd8 := (h.out.drop_any 8 (by omega)).first_ (show 16 ≤ n - 8 by omega)
  have hd24 := (h.out.drop_any 24 (by omega)).first_ (show 16 ≤ n - 24 by omega)
  have l8 : ((bs.drop 8).take 16).length = 16 := hd8.len
  have l24 : ((bs.drop 24).take 16).length = 16 := hd24.len
  have by8 := Lib.hid hd8.byt
  have by24 := Lib.hid hd24.byt
  have hel8 : ∀ k, k < 16 → bs[8 + k]?.getD 0 = ((bs.drop 8).take 16)[k]?.getD 0 := fun k hk => by rw [List.getElem?_take, if_pos hk, List.getElem?_drop]
  have hel24 : ∀ k, k < 16 → bs[24 + k]?.getD 0 = ((bs.drop 24).take 16)[k]?.getD 0 := fun k hk => by rw [List.getElem?_take, if_pos hk, List.getElem?_drop]
  have hcl8 : ∀ k, k < 16 → ∀ W, Below w.heap.size w W → W.cell? ⟨b, off + (8 + k), none⟩ = some (.int .u8 (((bs.drop 8).take 16)[k]?.getD 0)) := fun k hk W hW => by
    obtain ⟨b', off', e, _, hc⟩ := h.out.mem (by omega)
    cases e
    rw [← hel8 k hk]
    exact (hW.cell (p := ⟨b, off + (8 + k), none⟩) hbl).trans (hc (8 + k) (by omega))
  have hcl24 : ∀ k, k < 16 → ∀ W, Below w.heap.size w W → W.cell? ⟨b, off + (24 + k), none⟩ = some (.int .u8 (((bs.drop 24).take 16)[k]?.getD 0)) := fun k hk W hW => by
    obtain ⟨b', off', e, _, hc⟩ := h.out.mem (by omega)
    cases e
    rw [← hel24 k hk]
    exact (hW.cell (p := ⟨b, off + (24 + k), none⟩) hbl).trans (hc (24 + k) (by omega))
  replace hd8 := 0
  replace hd24 := 0
  clear hel8 hel24
  have hd40 := ((h.out.drop_any 40 (by omega)).first_ (show s ≤ n - 40 by omega))
  generalize (bs.drop 8).take 16 = sr at *
  generalize (bs.drop 24).take 16 = ds at *
  obtain ⟨A1, hif1⟩ : ∃ A1, (if c = 40 then some (⟨b, off, none⟩ : Addr) else some ⟨b, off + 40, none⟩) = A1 := ⟨_, rfl⟩
  rw [hif1] at hd40
  generalize (bs.drop 40).take s = dt at *
  have hD40 := Lib.hid (fun W (hW : Below w.heap.size w W) => hd40.below hW)
  replace hd40 := 0
  obtain ⟨tt, htt⟩ : ∃ t, x0 % 16 * 16 + x1 / 16 = t := ⟨_, rfl⟩
  obtain ⟨ff, hff⟩ : ∃ t, x1 % 16 * 65536 + x2 * 256 + x3 = t := ⟨_, rfl⟩
  rw [htt, hff] at hpar F3
  clear htt hff
  have hV3 := Lib.hid (rowV_V (p := ⟨tt, ff, x6, x7, z16, z16, []⟩) (A := none) (n := 0) (c := 0) z16_len z16_len z16_byts z16_byts)
  replace hcl8 := Lib.hid hcl8
  replace hcl24 := Lib.hid hcl24
  replace l8 := Lib.hid l8
  replace l24 := Lib.hid l24
  replace hpar := Lib.hid hpar
  replace F3 := Lib.hid F3
  replace hz3 := Lib.hid hz3
  replace hB3 := Lib.hid hB3
  go_loopw [8] (fun i wr => ∃ (k : Nat) (cs : Array Value), k ≤ 16 ∧ i = .int .i64 k ∧ Blk wr H cs 26 ∧ V6V cs ⟨tt, ff, x6, x7, partA sr k, partA ds k, []⟩ none 0 0 ∧ Blk wr w.heap.size zeroVc 26 ∧ Below w.heap.size w wr) (fun i _ => 16 - (intOf i).toNat)
  case atStart => exact ⟨0, _, by omega, rfl, F3.out, hV3.out, hz3.out, hB3.out⟩
  case round =>
    obtain ⟨k, cs, hk, rfl, hBk, hV, hz, hB⟩ := hrel
    replace F3 := 0
    replace hV3 := 0
    replace hz3 := 0
    replace hB3 := 0
    by_cases hlt : k < 16
    · have hc8 := Lib.hid (hcl8.out k hlt)
      have hc24 := Lib.hid (hcl24.out k hlt)
      replace hcl8 := 0
      replace hcl24 := 0
      have hstep := Lib.hid (fun cs' => hV.step (P' := cs') hlt l8.out l24.out by8.out by24.out)
      have hcsz := Lib.hid hV.size
      replace hV := 0
      generalize sr[k]?.getD 0 = s8 at *
      generalize ds[k]?.getD 0 = s24 at *
      have wk8 : IntKind.i64.wrap (8 + (k : Int)) = 8 + (k : Int) := by rw [IntKind.wrap_i64]; omega
      have wk24 : IntKind.i64.wrap (24 + (k : Int)) = 24 + (k : Int) := by rw [IntKind.wrap_i64]; omega
      have k8 : (8 + (k : Int)).toNat = 8 + k := by omega
      have k24 : (24 + (k : Int)).toNat = 24 + k := by omega
      have b8 : 8 + (k : Int) < n := by omega
      have b24 : 24 + (k : Int) < n := by omega
      have p8 : (0 : Int) ≤ 8 + (k : Int) := by omega
      have p24 : (0 : Int) ≤ 24 + (k : Int) := by omega
      have n8 : 8 + k < n := by omega
      have n24 : 24 + k < n := by omega
      have hlti : (k : Int) < 16 := by omega
      have hPj := Lib.hid (show ∀ j, StbK H ((fun (j : Nat) (v : Value) (W : World) => (j = 4 + k ∧ v = .int .u8 s8) ∨ (j = 20 + k ∧ v = .int .u8 s24)) j) from fun j u w w' h hk => h)
      have hCk := Lib.hid (show ∀ W W', (fun W => Blk W w.heap.size zeroVc 26) W → Keep H W W' → (fun W => Blk W w.heap.size zeroVc 26) W' from fun W W' h1 hk => h1.kept hk (Nat.ne_of_lt hzH.out))
      have hC0 := Lib.hid (show ∀ W, SF w H 26 cs (fun (j : Nat) (v : Value) (W : World) => (j = 4 + k ∧ v = .int .u8 s8) ∨ (j = 20 + k ∧ v = .int .u8 s24)) (fun W => Blk W w.heap.size zeroVc 26) W → (W.cell? ⟨b, off + (8 + k), none⟩ = some (.int .u8 s8) ∧ W.cell? ⟨b, off + (24 + k), none⟩ = some (.int .u8 s24) ∧ True) from fun W hS => ⟨hc8.out W hS.1, hc24.out W hS.1, trivial⟩)
      have hBw := Lib.hid (Nat.le_of_lt hzH.out)
      go_wp2
      refine wp_region_writ (fun _ => SF w H 26 cs (fun (j : Nat) (v : Value) (W : World) => (j = 4 + k ∧ v = .int .u8 s8) ∨ (j = 20 + k ∧ v = .int .u8 s24)) (fun W => Blk W w.heap.size zeroVc 26)) (EF w H 26 cs (fun (j : Nat) (v : Value) (W : World) => (j = 4 + k ∧ v = .int .u8 s8) ∨ (j = 20 + k ∧ v = .int .u8 s24)) (fun W => Blk W w.heap.size zeroVc 26)) (by kernel_rfl) (by kernel_rfl) (by kernel_rfl) EF.refl ⟨hB.drew, ⟨cs, hBk.drew, rfl, fun j _ => .inl rfl⟩, hz.drew⟩ ?_
      repeat (first
        | (refine fld_store (by rfl) (by rfl) rfl hPj.out hCk.out hBw.out 5 96 (.tmp 89) rfl (4 + k) (by rw [hcsz.out]; omega) rfl (by rfl) (by kernel_rfl) (fun vy W hS hy => by cases hy; exact ⟨rfl, .inl ⟨rfl, rfl⟩⟩) ?_)
        | (refine fld_store (by rfl) (by rfl) rfl hPj.out hCk.out hBw.out 5 98 (.tmp 94) rfl (20 + k) (by rw [hcsz.out]; omega) rfl (by rfl) (by kernel_rfl) (fun vy W hS hy => by cases hy; exact ⟨rfl, .inr ⟨rfl, rfl⟩⟩) ?_)
        | (refine fld_val (v := ?_) (by rfl) (by rfl) (by rfl) (by rfl) (by rfl) (fun W hS => ?_) ?_; rotate_left; (· (obtain ⟨g0, g1, g2⟩ := hC0.out W hS; clear hS; go_simp; try with_reducible rfl)); simp only [putV, List.setIfInBounds_toArray, List.set_cons_zero, List.set_cons_succ]))
      refine writL_nil fun a W7 hS hsz hds hR => ?_
      have F8 : FF w H 26 _ _ _ (4 + k) undef W7 := hR 124
      have F9 : FF w H 26 _ _ _ (20 + k) undef W7 := hR 127
      have hT := tmps_eql (T := a.tmps) [] (by rw [hsz]; rfl) (by rw [hsz]; rfl) hR
      rw [List.foldl_nil] at hT
      clear hR hsz
      obtain ⟨T, D⟩ := a
      have hD : D = [] := hds
      subst hD
      dsimp only at hT
      subst hT
      clear hds
      obtain ⟨hB7, ⟨cs', hcs', hsz', hall⟩, hz7⟩ := hS
      obtain ⟨_, z8, e8, hp8⟩ := F8
      obtain ⟨_, z9, e9, hp9⟩ := F9
      have hv8 : z8 = .int .u8 s8 := by rcases hp8 with ⟨_, e⟩ | ⟨e, _⟩; exact e; omega
      have hv9 : z9 = .int .u8 s24 := by rcases hp9 with ⟨e, _⟩ | ⟨_, e⟩; omega; exact e
      subst hv8
      subst hv9
      have hV' := hstep.out cs' (hsz'.trans hcsz.out) (fun j hj h4 h20 => by
        rcases hall j (by rw [hcsz.out]; exact hj) with e | ⟨v, _, hp⟩
        · exact e
        · rcases hp with ⟨e, _⟩ | ⟨e, _⟩ <;> omega) (by rw [← hcs'.cell_eq, e8]) (by rw [← hcs'.cell_eq, e9])
      replace hPj := 0
      replace hCk := 0
      replace hC0 := 0
      clear hall e8 e9 hp8 hp9 hsz'
      replace hV' := Lib.hid hV'
      replace hcs' := Lib.hid hcs'
      replace hz7 := Lib.hid hz7
      replace hB7 := Lib.hid hB7
      go_wp2
      go_roundw
      case rel => exact ⟨k + 1, cs', by omega, by go_num, hcs'.out, hV'.out, hz7.out, hB7.out⟩
      case measure => simp [intOf]; omega
    · obtain rfl : k = 16 := by omega
      rw [partA_all l8.out, partA_all l24.out] at hV
      rw [hs.out]
      have hsz := hszh.out
      rw [hs.out] at hsz
      have hwn : IntKind.i64.wrap ((n : Int) - 40) = (n : Int) - 40 := by rw [IntKind.wrap_i64]; omega
      have hcm : c ≤ maxLen := h.out.cm
      unfold maxLen at hcm
      have hm40 : IntKind.i64.wrap (40 + (s : Int)) = 40 + (s : Int) := by have := hss.out; rw [IntKind.wrap_i64]; omega
      have q3 : 40 + s - 40 = s := by omega
      have e36 := hBk.cell 36 _ hV.h36
      have f36 := hBk.frz 36
      have hBk36 := Lib.hid e36
      have hVd := Lib.hid (fun A n c => hV.setData dt A n c)
      have hzl := Lib.hid (hBk.lt)
      replace hV := 0
      replace hBk := Lib.hid hBk
      replace hz := Lib.hid hz
      replace hB := Lib.hid hB
      replace hcl8 := 0
      replace hcl24 := 0
      replace hcm := 0
      go_wp2_with (first
        | (at_builtin; refine wpList_append_bytes _ rfl (.const (.slice none 0 0)) (.tmp 106) rfl rfl rfl (OB.nil _ wr.heap.size) ((by rw [Nat.add_sub_cancel_left]; exact hD40.out _ hB.out : RB wr A1 (40 + s - 40) (c - 40) dt)) (by omega) (Nat.le_refl _) ?_; intro A3 c3 w3 ho3 hg3 hr3; simp only [Nat.zero_add, List.nil_append, Nat.add_sub_cancel_left] at ho3; have hb3 := (Below.refl wr.heap.size wr).grown hg3 (Nat.le_refl _) (fun k hk => by simp [ownBlk] at hk); have F3 := hBk.out.to hb3; clear e36 f36; have e36 := F3.cell_eq 36; rw [← hBk.out.cell_eq 36, hBk36.out] at e36; have f36 := F3.frz 36; have F4 := Lib.hid (F3.set 36 (.slice A3 s c3)); have z4 := Lib.hid ((hz.out.to hb3).far (B' := H) (Nat.ne_of_lt hzH.out) 36 (.slice A3 s c3)); have ho4 := Lib.hid ((ho3.mono (show H + 1 ≤ wr.heap.size from hzl.out)).kept (B := H) (Keep.set w3 36 (.slice A3 s c3)) (Nat.lt_succ_self _)); have b4 := Lib.hid ((hB.out.trans (hb3.mono hB.out.size)).setCell (p := ⟨H, 36, none⟩) (Nat.le_of_lt hzH.out) (.slice A3 s c3)); clear F3 ho3 hg3 hr3 hb3)
        | (refine wpList_load_V rfl (.tmp 7) rfl H rfl _ F4.out (hVd.out A3 s c3).size ?_)
        | (refine wpList_store_V rfl (.tmp 4) (.tmp 109) rfl w.heap.size _ rfl rfl _ z4.out rfl (hVd.out A3 s c3).size (hVd.out A3 s c3).one ?_)
        | fail)
      refine bodyPost_ret (results_ct Try.results58 rfl (run_load_V ⟨setRow_heap _ _ _ _ _ _ z4.out.at_⟩ (hVd.out A3 s c3).size)) rfl ?_
      unfold V6Out
      rw [hread.out, hpar.out]
      exact ⟨_, A3, _, c3, by first | rfl | (rw [hok]; rfl), hVd.out A3 s c3, (ho4.out.stay (StayT.row z4.out _) (show 5 ≠ 26 from by decide)).mono (by have := hzH.out; omega), below_row b4.out (Nat.le_refl _) _⟩
end Go.Proofs.Ytbbdkfadcafpfaa
