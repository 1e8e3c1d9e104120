/- Segments (the reference): walk of Parse. -/
import Derived.Test.YtehecefapiblpaaGreatTcpPO
import Derived.Test.YtehecefapiblpaaGreatAlc
set_option linter.unusedVariables false
namespace Go.Proofs.YtehecefapiblpaaGreat
open Go.RowKit

theorem en_RTcpNum (args : Array Value) (w : World) : (callFunc 51 args).run Tryz.prog w = .ok (.enter 51 args) w := enters Tryz.func51 (by kernel_rfl) (by kernel_rfl) args w
theorem RefTcpNum_any (A : Option Addr) (n c : Nat) (bs : List Int) (a s : Int) (W : World) (h : RB W A n c bs) (hn : n ≤ 100000) :
    Calls Tryz.prog 51 #[.slice A n c, .int .i64 a, .int .i64 s] W fun e w' => e = .returned (.int .i64 (getV bs a s).1) ∧ W = w' := by
  go_enter Tryz.func51, Tryz.ntmps51
  go_wp2_with (go_at_call 48; refine (RefGet_any A n c bs a s _ h hn).mono ?_; rintro e w' ⟨rfl, rfl⟩)
  go_ret
  exact ⟨rfl, rfl⟩

set_option maxRecDepth 100000 in
set_option maxHeartbeats 4000000 in
theorem RefTcpParse_bad (src dst : Int) (A : Option Addr) (n c : Nat) (bs : List Int) (w : World) (h : RB w A n c bs) (hbad : n < 20 ∨ headL bs < 20 ∨ (n : Int) < headL bs ∨ 65535 < n) :
    Calls Tryz.prog 26 #[.int .i64 src, .int .i64 dst, .slice A n c] w (TcpOut w (readT src dst bs) (codeT src dst bs)) := by
  have hb0 := Lib.hid ((Below.refl _ w).alloc (Nat.le_refl _) (.cells zeroT 57))
  have hlen := h.len
  by_cases h20 : n < 20
  · have hk := Lib.hid (show codeT src dst bs = 3 by unfold codeT; rw [hlen, if_pos h20])
    clear h hlen hbad
    go_enter Tryz.func26, Tryz.ntmps26
    go_wp2
    exact bodyPost_ret (v := .tuple #[.agg zeroT, .int .i64 3]) (by simp [results, Tryz.results26, go_sem]) rfl (TcpOut.bad hk.out (by decide) hb0.out)
  · obtain ⟨b, off, rfl, hbl, hc⟩ := h.mem (by omega)
    have hc12 := hc 12 (by omega)
    have y0 := h.byt.get 12
    have hcode : codeT src dst bs = if headL bs < 20 then 4 else if (n : Int) < headL bs then 3 else if 65535 < n then 6 else if foldI (totalI [pseudoB src dst 6 (n : Nat), bs]) == 65535 then 0 else 5 := by
      unfold codeT; rw [hlen, if_neg h20]
    have hhd : headL bs = bs[12]?.getD 0 / 16 * 4 := rfl
    rw [hhd] at hcode hbad
    generalize bs[12]?.getD 0 = x at *
    have hnc := h.nc
    have hi12 : 12 < n := by omega
    have htd : x.tdiv 16 = x / 16 := Int.tdiv_eq_ediv_of_nonneg (by omega)
    have htm : x.tmod 16 = x % 16 := Int.tmod_eq_emod_of_nonneg (by omega)
    have hwx : IntKind.i64.wrap (x % 16) = x % 16 := by rw [IntKind.wrap_i64]; omega
    have hwx8 : IntKind.u8.wrap (x % 16) = x % 16 := by rw [IntKind.wrap_u8]; omega
    have hwd8 : IntKind.u8.wrap (x / 16) = x / 16 := by rw [IntKind.wrap_u8]; omega
    have hwd : IntKind.i64.wrap (x / 16) = x / 16 := by rw [IntKind.wrap_i64]; omega
    clear h hlen hc
    by_cases s1 : x / 16 * 4 < 20
    · have hk := Lib.hid (hcode.trans (if_pos s1))
      clear hcode hbad
      go_enter Tryz.func26, Tryz.ntmps26
      go_wp2
      exact bodyPost_ret (v := .tuple #[.agg zeroT, .int .i64 4]) (by simp [results, Tryz.results26, go_sem]) rfl (TcpOut.bad hk.out (by decide) hb0.out)
    · by_cases s2 : (n : Int) < x / 16 * 4
      · have hk := Lib.hid (hcode.trans ((if_neg s1).trans (if_pos s2)))
        clear hcode hbad
        go_enter Tryz.func26, Tryz.ntmps26
        go_wp2
        exact bodyPost_ret (v := .tuple #[.agg zeroT, .int .i64 3]) (by simp [results, Tryz.results26, go_sem]) rfl (TcpOut.bad hk.out (by decide) hb0.out)
      · have s3 : 65535 < n := by omega
        have hk := Lib.hid (hcode.trans ((if_neg s1).trans ((if_neg s2).trans (if_pos s3))))
        clear hcode hbad
        go_enter Tryz.func26, Tryz.ntmps26
        go_wp2
        exact bodyPost_ret (v := .tuple #[.agg zeroT, .int .i64 6]) (by simp [results, Tryz.results26, go_sem]) rfl (TcpOut.bad hk.out (by decide) hb0.out)

set_option maxRecDepth 100000 in
set_option maxHeartbeats 4000000 in
theorem RefTcpParse_sum (src dst : Int) (A : Option Addr) (n c : Nat) (bs : List Int) (w : World) (h : RB w A n c bs) (h20 : 20 ≤ n) (h21 : 20 ≤ headL bs) (h22 : headL bs ≤ (n : Int)) (h23 : n ≤ 65535) (hq : (foldI (totalI [pseudoB src dst 6 (n : Nat), bs]) == 65535) = false) :
    Calls Tryz.prog 26 #[.int .i64 src, .int .i64 dst, .slice A n c] w (TcpOut w (readT src dst bs) (codeT src dst bs)) := by
  have hb0 := Lib.hid ((Below.refl _ w).alloc (Nat.le_refl _) (.cells zeroT 57))
  have hz0 := Lib.hid (Blk.new w zeroT 57)
  have hlen := h.len
  obtain ⟨b, off, rfl, hbl, hc⟩ := h.mem (by omega)
  have hc12 := hc 12 (by omega)
  have y0 := h.byt.get 12
  have hk := Lib.hid (show codeT src dst bs = 5 by unfold codeT; rw [hlen, if_neg (by omega), if_neg (by omega), if_neg (by omega), if_neg (by omega), hq]; rfl)
  have hhd : headL bs = bs[12]?.getD 0 / 16 * 4 := rfl
  rw [hhd] at h21 h22
  have hsmall := Lib.hid (small_two (pseudoB_byts src dst 6 (n : Int)) (by rw [pseudoB_length]; omega) h.byt (by omega))
  generalize bs[12]?.getD 0 = x at *
  have hnc := h.nc
  have hi12 : 12 < n := by omega
  have htd : x.tdiv 16 = x / 16 := Int.tdiv_eq_ediv_of_nonneg (by omega)
  have htm : x.tmod 16 = x % 16 := Int.tmod_eq_emod_of_nonneg (by omega)
  have hwx : IntKind.i64.wrap (x % 16) = x % 16 := by rw [IntKind.wrap_i64]; omega
  have hwx8 : IntKind.u8.wrap (x % 16) = x % 16 := by rw [IntKind.wrap_u8]; omega
  have hwd8 : IntKind.u8.wrap (x / 16) = x / 16 := by rw [IntKind.wrap_u8]; omega
  have hwd : IntKind.i64.wrap (x / 16) = x / 16 := by rw [IntKind.wrap_i64]; omega
  replace hq := Lib.hid hq
  replace hhd := 0
  replace h := Lib.hid h
  clear hc hlen
  go_enter Tryz.func26, Tryz.ntmps26
  go_wp2_with (first
    | (go_at_call 50; refine (RefPseudo_any src dst 6 (n : Int) _).mono ?_; rintro e W2 ⟨A3, c3, rfl, ho3, hb2⟩; have hrr := Lib.hid (rbb_two ho3.rb ((h.out.below hb0.out).below hb2)); have hz2 := Lib.hid (hz0.out.to hb2); have hB2 := Lib.hid (hb0.out.trans (hb2.mono hb0.out.size)); replace ho3 := 0; replace hb2 := 0)
    | (go_at_call 49; refine (RefRight_any _ 2 2 [pseudoB src dst 6 (n : Int), bs] _ hrr.out hsmall.out).mono ?_; rintro e W4 ⟨rfl, hb4⟩; rw [hq.out]; have kz4 := Lib.hid ((hz2.out.alloc (.cells #[.slice A3 12 c3, .slice (some ⟨b, off, none⟩) n c] 22)).to hb4); have hB3 := hB2.out.alloc hB2.out.size (.cells #[.slice A3 12 c3, .slice (some ⟨b, off, none⟩) n c] 22); have hB4 := Lib.hid (hB3.trans (hb4.mono hB3.size)); replace hB3 := 0; replace hb4 := 0)
    | (refine wpList_store_T rfl (.tmp 6) (.tmp 45) rfl w.heap.size zeroT rfl rfl _ kz4.out rfl rfl (one_T zeroP none 0 0 none 0 0) ?_)
    | fail)
  obtain ⟨r0, r1, r2, r3, r4, r5, r6, r7, r8, r9⟩ := tcells (m := zeroP) (Ao := none) (no := 0) (co := 0) (A := none) (n := 0) (c := 0) (kz4.out.row zeroT)
  exact bodyPost_ret (v := .tuple #[.agg zeroT, .int .i64 5]) (by simp [results, Tryz.results26, go_sem, r0, r1, r2, r3, r4, r5, r6, r7, r8, r9, zeroP]) rfl (TcpOut.bad hk.out (by decide) (below_setRow hB4.out (Nat.le_refl _) _))

set_option maxRecDepth 100000 in
set_option maxHeartbeats 8000000 in
theorem RefTcpParse_ok (src dst : Int) (A : Option Addr) (n c : Nat) (bs : List Int) (w : World) (h : RB w A n c bs) (h20 : 20 ≤ n) (h21 : 20 ≤ headL bs) (h22 : headL bs ≤ (n : Int)) (h23 : n ≤ 65535) (hq : (foldI (totalI [pseudoB src dst 6 (n : Nat), bs]) == 65535) = true) :
    Calls Tryz.prog 26 #[.int .i64 src, .int .i64 dst, .slice A n c] w (TcpOut w (readT src dst bs) (codeT src dst bs)) := by
  have hb0 := Lib.hid ((Below.refl _ w).alloc (Nat.le_refl _) (.cells zeroT 57))
  have hz0 := Lib.hid (Blk.new w zeroT 57)
  have hlen := h.len
  have hcm : c ≤ 9223372036854775807 := by have := h.cm; unfold maxLen at this; omega
  obtain ⟨b, off, rfl, hbl, hc⟩ := h.mem (by omega)
  have hc12 := hc 12 (by omega)
  have hc13 := hc 13 (by omega)
  have y0 := h.byt.get 12
  have y1 := h.byt.get 13
  have hk := Lib.hid (show codeT src dst bs = 0 by unfold codeT; rw [hlen, if_neg (by omega), if_neg (by omega), if_neg (by omega), if_neg (by omega), hq]; rfl)
  have hhd : headL bs = bs[12]?.getD 0 / 16 * 4 := rfl
  have hsmall := Lib.hid (small_two (pseudoB_byts src dst 6 (n : Int)) (by rw [pseudoB_length]; omega) h.byt (by omega))
  obtain ⟨k, hkx⟩ := Int.eq_ofNat_of_zero_le (show 0 ≤ headL bs by omega)
  have hpar := show parsedT bs = ⟨(getV bs 0 2).1, (getV bs 2 2).1, (getV bs 4 4).1, (getV bs 8 4).1, bs[12]?.getD 0 % 16, bs[13]?.getD 0, (getV bs 14 2).1, (getV bs 18 2).1, (bs.drop 20).take ((headL bs).toNat - 20), bs.drop (headL bs).toNat⟩ from rfl
  rw [hkx, Int.toNat_natCast] at hpar
  rw [hkx] at h21 h22 hhd
  replace hkx := hhd.symm
  replace hhd := 0
  have hk20 : 20 ≤ k := by omega
  have hkn : k ≤ n := by omega
  have hd20 := (h.drop_any 20 h20).first_ (show k - 20 ≤ n - 20 by omega)
  have hdk := h.drop_any k hkn
  obtain ⟨A1, hif1⟩ : ∃ A1, (if c = 20 then some (⟨b, off, none⟩ : Addr) else some ⟨b, off + 20, none⟩) = A1 := ⟨_, rfl⟩
  obtain ⟨A2, hif2⟩ : ∃ A2, (if c = k then some (⟨b, off, none⟩ : Addr) else some ⟨b, off + k, none⟩) = A2 := ⟨_, rfl⟩
  rw [hif1] at hd20
  rw [hif2] at hdk
  have hD1 := Lib.hid (fun W (hW : Below w.heap.size w W) => hd20.below hW)
  have hD2 := Lib.hid (fun W (hW : Below w.heap.size w W) => hdk.below hW)
  have hNum := Lib.hid (fun a s W (hW : Below w.heap.size w W) => RefTcpNum_any (some ⟨b, off, none⟩) n c bs a s W (h.below hW) (by omega))
  generalize bs[12]?.getD 0 = x at *
  generalize bs[13]?.getD 0 = y at *
  have htd : x.tdiv 16 = x / 16 := Int.tdiv_eq_ediv_of_nonneg (by omega)
  have htm : x.tmod 16 = x % 16 := Int.tmod_eq_emod_of_nonneg (by omega)
  have hwx : IntKind.i64.wrap (x % 16) = x % 16 := by rw [IntKind.wrap_i64]; omega
  have hwx8 : IntKind.u8.wrap (x % 16) = x % 16 := by rw [IntKind.wrap_u8]; omega
  have hwd8 : IntKind.u8.wrap (x / 16) = x / 16 := by rw [IntKind.wrap_u8]; omega
  have hwd : IntKind.i64.wrap (x / 16) = x / 16 := by rw [IntKind.wrap_i64]; omega
  have hwy : IntKind.i64.wrap y = y := by rw [IntKind.wrap_i64]; omega
  have hnc := h.nc
  have hi12 : 12 < n := by omega
  have hi13 : 13 < n := by omega
  have hi12' : (12 : Int) < n := by omega
  have hi13' : (13 : Int) < n := by omega
  replace hd20 := 0
  replace hdk := 0
  replace hq := Lib.hid hq
  replace h := Lib.hid h
  clear hc hlen
  have hN0 := Lib.hid (fun W hW => hNum.out 0 2 W hW)
  have hN1 := Lib.hid (fun W hW => hNum.out 2 2 W hW)
  have hN2 := Lib.hid (fun W hW => hNum.out 4 4 W hW)
  have hN3 := Lib.hid (fun W hW => hNum.out 8 4 W hW)
  have hN6 := Lib.hid (fun W hW => hNum.out 14 2 W hW)
  have hN7 := Lib.hid (fun W hW => hNum.out 18 2 W hW)
  generalize (getV bs 0 2).1 = v0 at *
  generalize (getV bs 2 2).1 = v1 at *
  generalize (getV bs 4 4).1 = v2 at *
  generalize (getV bs 8 4).1 = v3 at *
  generalize (getV bs 14 2).1 = v6 at *
  generalize (getV bs 18 2).1 = v7 at *
  generalize List.take (k - 20) (List.drop 20 bs) = o at *
  generalize List.drop k bs = d at *
  replace hNum := 0
  replace hpar := Lib.hid hpar
  go_enter Tryz.func26, Tryz.ntmps26
  go_wp2_with (first
    | (go_at_call 50; refine (RefPseudo_any src dst 6 (n : Int) _).mono ?_; rintro e W2 ⟨A3, c3, rfl, ho3, hb2⟩; have hrr := Lib.hid (rbb_two ho3.rb ((h.out.below hb0.out).below hb2)); have hz2 := Lib.hid (hz0.out.to hb2); have hB2 := Lib.hid (hb0.out.trans (hb2.mono hb0.out.size)); replace ho3 := 0; replace hb2 := 0)
    | (go_at_call 49; refine (RefRight_any _ 2 2 [pseudoB src dst 6 (n : Int), bs] _ hrr.out hsmall.out).mono ?_; rintro e W4 ⟨rfl, hb4⟩; rw [hq.out]; have kz4 := Lib.hid ((hz2.out.alloc (.cells #[.slice A3 12 c3, .slice (some ⟨b, off, none⟩) n c] 22)).to hb4); have hB3 := hB2.out.alloc hB2.out.size (.cells #[.slice A3 12 c3, .slice (some ⟨b, off, none⟩) n c] 22); have hB4 := Lib.hid (hB3.trans (hb4.mono hB3.size)); replace hB3 := 0; replace hb4 := 0)
    | fail
    | fail)
  obtain ⟨H, hH⟩ : ∃ H, W4.heap.size = H := ⟨_, rfl⟩
  have hHw := Lib.hid (show w.heap.size ≤ H by rw [← hH]; exact hB4.out.size)
  have hHz := Lib.hid (show w.heap.size ≠ H by rw [← hH]; exact Nat.ne_of_lt kz4.out.lt)
  have hCk := Lib.hid (show ∀ W W', (fun W => Blk W w.heap.size zeroT 57) W → Keep H W W' → (fun W => Blk W w.heap.size zeroT 57) W' from fun W W' h1 hk => h1.kept hk hHz.out)
  have hC0 := Lib.hid (show ∀ W, (Below w.heap.size w W ∧ (fun W => Blk W w.heap.size zeroT 57) W) → (W.cell? ⟨b, off + 12, none⟩ = some (.int .u8 x) ∧ W.cell? ⟨b, off + 13, none⟩ = some (.int .u8 y)) from fun W hS =>
    ⟨(hS.1.cell (p := ⟨b, off + 12, none⟩) hbl).trans hc12, (hS.1.cell (p := ⟨b, off + 13, none⟩) hbl).trans hc13⟩)
  refine wp_region_writ (JA w H 57 10 9 (fun W => Blk W w.heap.size zeroT 57)) (EA H 57 #[.int .i64 v0, .int .i64 v1, .int .i64 v2, .int .i64 v3, .int .i64 (x % 16), .int .i64 y, .int .i64 0, .int .i64 0, .slice none 0 0, .slice none 0 0]) (by kernel_rfl) (by kernel_rfl) (by kernel_rfl) EA.refl ⟨hB4.out.drew, kz4.out.drew, .inl ⟨rfl, hH⟩⟩ ?_
  repeat (first
    | (refine alc_call (.int .i64 v0) (by rfl) (by rfl) (by rfl) (by rfl) (by rfl) (by decide) 51 #[.slice (some ⟨b, off, none⟩) n c, .int .i64 0, .int .i64 2] (fun W => exec_call3 _ en_RTcpNum (.tmp 46) (.const (.int .i64 0)) (.const (.int .i64 2)) #[22, 3, 3] rfl rfl rfl rfl W) (fun W hW => ?_) ?_; (exact hN0.out W hW); simp only [putV, List.setIfInBounds_toArray, List.set_cons_zero, List.set_cons_succ])
    | (refine alc_call (.int .i64 v1) (by rfl) (by rfl) (by rfl) (by rfl) (by rfl) (by decide) 51 #[.slice (some ⟨b, off, none⟩) n c, .int .i64 2, .int .i64 2] (fun W => exec_call3 _ en_RTcpNum (.tmp 48) (.const (.int .i64 2)) (.const (.int .i64 2)) #[22, 3, 3] rfl rfl rfl rfl W) (fun W hW => ?_) ?_; (exact hN1.out W hW); simp only [putV, List.setIfInBounds_toArray, List.set_cons_zero, List.set_cons_succ])
    | (refine alc_call (.int .i64 v2) (by rfl) (by rfl) (by rfl) (by rfl) (by rfl) (by decide) 51 #[.slice (some ⟨b, off, none⟩) n c, .int .i64 4, .int .i64 4] (fun W => exec_call3 _ en_RTcpNum (.tmp 50) (.const (.int .i64 4)) (.const (.int .i64 4)) #[22, 3, 3] rfl rfl rfl rfl W) (fun W hW => ?_) ?_; (exact hN2.out W hW); simp only [putV, List.setIfInBounds_toArray, List.set_cons_zero, List.set_cons_succ])
    | (refine alc_call (.int .i64 v3) (by rfl) (by rfl) (by rfl) (by rfl) (by rfl) (by decide) 51 #[.slice (some ⟨b, off, none⟩) n c, .int .i64 8, .int .i64 4] (fun W => exec_call3 _ en_RTcpNum (.tmp 52) (.const (.int .i64 8)) (.const (.int .i64 4)) #[22, 3, 3] rfl rfl rfl rfl W) (fun W hW => ?_) ?_; (exact hN3.out W hW); simp only [putV, List.setIfInBounds_toArray, List.set_cons_zero, List.set_cons_succ])
    | (refine alc_store (by rfl) (by rfl) rfl hHw.out hCk.out (by rfl) (.tmp 63) rfl rfl rfl (by kernel_rfl) rfl (by simp [Value.oneCell']) ?_)
    | (refine alc_alloc (by rfl) rfl (by rfl) (by rfl) zeroT rfl rfl (show (9 : Nat) < 81 from by decide) hHw.out hCk.out hHw.out (fun a W => ?_) ?_; (unfold execOp; simp [go_sem]); simp only [putV, List.setIfInBounds_toArray, List.set_cons_zero, List.set_cons_succ])
    | (refine alc_val (v := ?_) (by rfl) (by rfl) (by rfl) (by rfl) (by rfl) (by decide) (fun W hS => ?_) ?_; rotate_left; (· (obtain ⟨g0, g1⟩ := hC0.out W hS; clear hS; go_simp; try with_reducible rfl)); simp only [putV, List.setIfInBounds_toArray, List.set_cons_zero, List.set_cons_succ]))
  refine writL_nil fun a W hS hsz hds hR => ?_
  have FB : Blk W H #[.int .i64 v0, .int .i64 v1, .int .i64 v2, .int .i64 v3, .int .i64 (x % 16), .int .i64 y, .int .i64 0, .int .i64 0, .slice none 0 0, .slice none 0 0] 57 := hR 100
  have hT := tmps_eq (T := a.tmps) (by rw [hsz]; rfl) (by rw [hsz]; rfl) hR
  clear hR hsz
  obtain ⟨T, D⟩ := a
  have hD : D = [] := hds
  subst hD
  dsimp only at hT
  subst hT
  clear hds
  obtain ⟨hB5, kz5, _⟩ := hS
  replace hC0 := 0
  replace hCk := 0
  have hzh := hHz.out
  have hlz5 := kz5.lt
  have z6 := FB.cell 6 _ rfl
  have z7 := FB.cell 7 _ rfl
  have f6 := FB.frz 6
  have f7 := FB.frz 7
  have kt6 := (FB.set 6 (.int .i64 v6)).set 7 (.int .i64 v7)
  have kz6 := (kz5.far (B' := H) hzh 6 (.int .i64 v6)).far (B' := H) hzh 7 (.int .i64 v7)
  have hB6 := (hB5.setCell (p := ⟨H, 6, none⟩) hHw.out (.int .i64 v6)).setCell (p := ⟨H, 7, none⟩) hHw.out (.int .i64 v7)
  replace FB := Lib.hid FB
  replace hB5 := Lib.hid hB5
  replace kz5 := Lib.hid kz5
  replace kt6 := Lib.hid (show Blk _ H #[.int .i64 v0, .int .i64 v1, .int .i64 v2, .int .i64 v3, .int .i64 (x % 16), .int .i64 y, .int .i64 v6, .int .i64 v7, .slice none 0 0, .slice none 0 0] 57 from kt6)
  replace kz6 := Lib.hid kz6
  replace hB6 := Lib.hid hB6
  go_wp2_with (first
    | (go_at_call_of 51 (Value.int IntKind.i64 (14 : Int)); refine (hN6.out _ hB5.out).mono ?_; rintro e w' ⟨rfl, rfl⟩)
    | (go_at_call 51; refine (hN7.out _ hB5.out).mono ?_; rintro e w' ⟨rfl, rfl⟩)
    | fail)
  obtain ⟨W6, hW6⟩ : ∃ W6, (W.setCell ⟨H, 6, none⟩ (.int .i64 v6)).setCell ⟨H, 7, none⟩ (.int .i64 v7) = W6 := ⟨_, rfl⟩
  rw [hW6] at kt6 kz6 hB6 ⊢
  replace hW6 := 0
  clear z6 z7 f6 f7 hlz5
  have hPj := Lib.hid (show ∀ j, StbK H ((fun (j : Nat) (v : Value) (W : World) => (j = 8 ∧ OwnR (H + 1) (k - 20) o v W) ∨ (j = 9 ∧ OwnR (H + 1) (n - k) d v W)) j) from fun j u w w' h hk => by
    rcases h with ⟨h1, h2⟩ | ⟨h1, h2⟩
    · exact .inl ⟨h1, OwnR.stb (Nat.lt_succ_self H) _ _ _ h2 hk⟩
    · exact .inr ⟨h1, OwnR.stb (Nat.lt_succ_self H) _ _ _ h2 hk⟩)
  have hCk := Lib.hid (show ∀ W W', (fun W => Blk W w.heap.size zeroT 57) W → Keep H W W' → (fun W => Blk W w.heap.size zeroT 57) W' from fun W W' h1 hk => h1.kept hk hHz.out)
  have hC0 := Lib.hid (show ∀ W, SF w H 57 #[.int .i64 v0, .int .i64 v1, .int .i64 v2, .int .i64 v3, .int .i64 (x % 16), .int .i64 y, .int .i64 v6, .int .i64 v7, .slice none 0 0, .slice none 0 0] (fun (j : Nat) (v : Value) (W : World) => (j = 8 ∧ OwnR (H + 1) (k - 20) o v W) ∨ (j = 9 ∧ OwnR (H + 1) (n - k) d v W)) (fun W => Blk W w.heap.size zeroT 57) W → (True ∧ True ∧ True) from fun W hS => ⟨trivial, trivial, trivial⟩)
  have hL := Lib.hid (show ∀ W, SF w H 57 #[.int .i64 v0, .int .i64 v1, .int .i64 v2, .int .i64 v3, .int .i64 (x % 16), .int .i64 y, .int .i64 v6, .int .i64 v7, .slice none 0 0, .slice none 0 0] (fun (j : Nat) (v : Value) (W : World) => (j = 8 ∧ OwnR (H + 1) (k - 20) o v W) ∨ (j = 9 ∧ OwnR (H + 1) (n - k) d v W)) (fun W => Blk W w.heap.size zeroT 57) W → H + 1 ≤ W.heap.size from fun W hS => by obtain ⟨_, ⟨cs, h, _⟩, _⟩ := hS; exact h.lt)
  have hR1 := Lib.hid (show ∀ W, SF w H 57 #[.int .i64 v0, .int .i64 v1, .int .i64 v2, .int .i64 v3, .int .i64 (x % 16), .int .i64 y, .int .i64 v6, .int .i64 v7, .slice none 0 0, .slice none 0 0] (fun (j : Nat) (v : Value) (W : World) => (j = 8 ∧ OwnR (H + 1) (k - 20) o v W) ∨ (j = 9 ∧ OwnR (H + 1) (n - k) d v W)) (fun W => Blk W w.heap.size zeroT 57) W → RB W A1 (k - 20) (c - 20) o from fun W hS => hD1.out W hS.1)
  have hR2 := Lib.hid (show ∀ W, SF w H 57 #[.int .i64 v0, .int .i64 v1, .int .i64 v2, .int .i64 v3, .int .i64 (x % 16), .int .i64 y, .int .i64 v6, .int .i64 v7, .slice none 0 0, .slice none 0 0] (fun (j : Nat) (v : Value) (W : World) => (j = 8 ∧ OwnR (H + 1) (k - 20) o v W) ∨ (j = 9 ∧ OwnR (H + 1) (n - k) d v W)) (fun W => Blk W w.heap.size zeroT 57) W → RB W A2 (n - k) (c - k) d from fun W hS => hD2.out W hS.1)
  have hBw := hHw
  have i20 : (20 : Int) ≤ c := by omega
  have ikc : (k : Int) ≤ c := by omega
  have jkc : k ≤ c := by omega
  have j20 : 20 ≤ c := by omega
  have hS1 : SF w H 57 #[.int .i64 v0, .int .i64 v1, .int .i64 v2, .int .i64 v3, .int .i64 (x % 16), .int .i64 y, .int .i64 v6, .int .i64 v7, .slice none 0 0, .slice none 0 0] (fun (j : Nat) (v : Value) (W : World) => (j = 8 ∧ OwnR (H + 1) (k - 20) o v W) ∨ (j = 9 ∧ OwnR (H + 1) (n - k) d v W)) (fun W => Blk W w.heap.size zeroT 57) W6.drew := ⟨hB6.out.drew, ⟨_, kt6.out.drew, rfl, fun j _ => .inl rfl⟩, kz6.out.drew⟩
  refine wp_region_writ (fun _ => SF w H 57 #[.int .i64 v0, .int .i64 v1, .int .i64 v2, .int .i64 v3, .int .i64 (x % 16), .int .i64 y, .int .i64 v6, .int .i64 v7, .slice none 0 0, .slice none 0 0] (fun (j : Nat) (v : Value) (W : World) => (j = 8 ∧ OwnR (H + 1) (k - 20) o v W) ∨ (j = 9 ∧ OwnR (H + 1) (n - k) d v W)) (fun W => Blk W w.heap.size zeroT 57)) (EF w H 57 #[.int .i64 v0, .int .i64 v1, .int .i64 v2, .int .i64 v3, .int .i64 (x % 16), .int .i64 y, .int .i64 v6, .int .i64 v7, .slice none 0 0, .slice none 0 0] (fun (j : Nat) (v : Value) (W : World) => (j = 8 ∧ OwnR (H + 1) (k - 20) o v W) ∨ (j = 9 ∧ OwnR (H + 1) (n - k) d v W)) (fun W => Blk W w.heap.size zeroT 57)) (by kernel_rfl) (by kernel_rfl) (by kernel_rfl) EF.refl hS1 ?_
  repeat (first
    | (refine fld_append (d := 73) (H + 1) (k - 20) o (by rfl) (by rfl) rfl (by rfl) hPj.out hCk.out (Nat.lt_succ_self H) (.tmp 72) rfl rfl hR1.out (by omega) hL.out ?_)
    | (refine fld_append (d := 77) (H + 1) (n - k) d (by rfl) (by rfl) rfl (by rfl) hPj.out hCk.out (Nat.lt_succ_self H) (.tmp 76) rfl rfl hR2.out (by omega) hL.out ?_)
    | (refine fld_store (by rfl) (by rfl) rfl hPj.out hCk.out hBw.out 22 78 (.tmp 73) rfl 8 (show (8 : Nat) < 10 from by decide) rfl (by rfl) (by kernel_rfl) (fun vy W hS hy => (by obtain ⟨_, A, c, rfl, ho⟩ := hy; exact ⟨rfl, .inl ⟨rfl, A, c, rfl, ho⟩⟩)) ?_)
    | (refine fld_store (by rfl) (by rfl) rfl hPj.out hCk.out hBw.out 22 79 (.tmp 77) rfl 9 (show (9 : Nat) < 10 from by decide) rfl (by rfl) (by kernel_rfl) (fun vy W hS hy => (by obtain ⟨_, A, c, rfl, ho⟩ := hy; exact ⟨rfl, .inr ⟨rfl, A, c, rfl, ho⟩⟩)) ?_)
    | (refine fld_val (v := ?_) (by rfl) (by rfl) (by rfl) (by rfl) (by rfl) (fun W hS => ?_) ?_; rotate_left; (· (obtain ⟨g0, g1, g2⟩ := hC0.out W hS; clear hS; go_simp; try with_reducible rfl)); simp only [putV, List.setIfInBounds_toArray, List.set_cons_zero, List.set_cons_succ]))
  refine writL_nil fun a W7 hS hsz hds hR => ?_
  have F8 : FF w H 57 _ _ _ 8 undef W7 := hR 90
  have F9 : FF w H 57 _ _ _ 9 undef W7 := hR 92
  have hT := tmps_eq2 (T := a.tmps) 73 77 (by rw [hsz]; rfl) (by rw [hsz]; rfl) hR
  generalize a.tmps.getD 73 undef = u1 at hT
  generalize a.tmps.getD 77 undef = u2 at hT
  simp only [List.setIfInBounds_toArray, List.set_cons_zero, List.set_cons_succ] at hT
  clear hR hsz
  obtain ⟨T, D⟩ := a
  have hD : D = [] := hds
  subst hD
  dsimp only at hT
  subst hT
  clear hds hS1
  obtain ⟨hB7, ⟨cs, hcs, hcsz, hall⟩, kz7⟩ := hS
  obtain ⟨_, z8, e8, hp8⟩ := F8
  obtain ⟨_, z9, e9, hp9⟩ := F9
  simp at hp8 hp9
  obtain ⟨A8, c8, rfl, ho8⟩ := hp8
  obtain ⟨A9, c9, rfl, ho9⟩ := hp9
  have g0 : cs[0]? = some (.int .i64 v0) := by rcases hall 0 (show (0 : Nat) < 10 by decide) with e | ⟨v, e, hp⟩; exact e; simp at hp
  have g1 : cs[1]? = some (.int .i64 v1) := by rcases hall 1 (show (1 : Nat) < 10 by decide) with e | ⟨v, e, hp⟩; exact e; simp at hp
  have g2 : cs[2]? = some (.int .i64 v2) := by rcases hall 2 (show (2 : Nat) < 10 by decide) with e | ⟨v, e, hp⟩; exact e; simp at hp
  have g3 : cs[3]? = some (.int .i64 v3) := by rcases hall 3 (show (3 : Nat) < 10 by decide) with e | ⟨v, e, hp⟩; exact e; simp at hp
  have g4 : cs[4]? = some (.int .i64 (x % 16)) := by rcases hall 4 (show (4 : Nat) < 10 by decide) with e | ⟨v, e, hp⟩; exact e; simp at hp
  have g5 : cs[5]? = some (.int .i64 y) := by rcases hall 5 (show (5 : Nat) < 10 by decide) with e | ⟨v, e, hp⟩; exact e; simp at hp
  have g6 : cs[6]? = some (.int .i64 v6) := by rcases hall 6 (show (6 : Nat) < 10 by decide) with e | ⟨v, e, hp⟩; exact e; simp at hp
  have g7 : cs[7]? = some (.int .i64 v7) := by rcases hall 7 (show (7 : Nat) < 10 by decide) with e | ⟨v, e, hp⟩; exact e; simp at hp
  have g8 : cs[8]? = some (.slice A8 (k - 20) c8) := by rw [← hcs.cell_eq, e8]
  have g9 : cs[9]? = some (.slice A9 (n - k) c9) := by rw [← hcs.cell_eq, e9]
  have hcse := arr10 hcsz g0 g1 g2 g3 g4 g5 g6 g7 g8 g9
  subst hcse
  clear g0 g1 g2 g3 g4 g5 g6 g7 g8 g9 hall hcsz e8 e9
  replace hPj := 0
  replace hCk := 0
  replace hC0 := 0
  replace hL := 0
  replace hR1 := 0
  replace hR2 := 0
  have hBlt := hHw.out
  have hfin : Blk (W7.setRow w.heap.size (cellsT ⟨v0, v1, v2, v3, x % 16, y, v6, v7, o, d⟩ A8 (k - 20) c8 A9 (n - k) c9)) w.heap.size (cellsT ⟨v0, v1, v2, v3, x % 16, y, v6, v7, o, d⟩ A8 (k - 20) c8 A9 (n - k) c9) 57 := kz7.row _
  have hbf := below_setRow hB7 (B := w.heap.size) (Nat.le_refl _) (cellsT ⟨v0, v1, v2, v3, x % 16, y, v6, v7, o, d⟩ A8 (k - 20) c8 A9 (n - k) c9)
  have ho8f := ho8.kept (B := w.heap.size) (Keep.setRow W7 (cellsT ⟨v0, v1, v2, v3, x % 16, y, v6, v7, o, d⟩ A8 (k - 20) c8 A9 (n - k) c9)) (by omega)
  have ho9f := ho9.kept (B := w.heap.size) (Keep.setRow W7 (cellsT ⟨v0, v1, v2, v3, x % 16, y, v6, v7, o, d⟩ A8 (k - 20) c8 A9 (n - k) c9)) (by omega)
  replace hcs := Lib.hid hcs
  replace kz7 := Lib.hid kz7
  replace hB7 := Lib.hid hB7
  replace hfin := Lib.hid hfin
  replace hbf := Lib.hid hbf
  replace ho8f := Lib.hid ho8f
  replace ho9f := Lib.hid ho9f
  go_wp2_with (first
    | (refine wpList_load_row rfl 57 (.tmp 9) rfl H rfl _ (cellsT ⟨v0, v1, v2, v3, x % 16, y, v6, v7, o, d⟩ A8 (k - 20) c8 A9 (n - k) c9) _ _ hcs.out.at_ Tryz.underlying57 rfl info_tcp ?_)
    | (refine wpList_store_T rfl (.tmp 6) (.tmp 80) rfl w.heap.size (cellsT ⟨v0, v1, v2, v3, x % 16, y, v6, v7, o, d⟩ A8 (k - 20) c8 A9 (n - k) c9) rfl rfl _ kz7.out rfl rfl (one_T _ _ _ _ _ _ _) ?_)
    | fail)
  obtain ⟨r0, r1, r2, r3, r4, r5, r6, r7, r8, r9⟩ := tcells hfin.out
  exact bodyPost_ret (v := .tuple #[.agg (cellsT ⟨v0, v1, v2, v3, x % 16, y, v6, v7, o, d⟩ A8 (k - 20) c8 A9 (n - k) c9), .int .i64 0]) (by simp [results, Tryz.results26, go_sem, r0, r1, r2, r3, r4, r5, r6, r7, r8, r9]) rfl (by unfold readT; rw [hk.out, if_pos rfl, hpar.out]; exact ⟨A8, _, c8, A9, _, c9, rfl, ho8f.out.mono (by omega), ho9f.out.mono (by omega), hbf.out⟩)

set_option maxHeartbeats 1000000 in
theorem RefTcpParse_any (src dst : Int) (A : Option Addr) (n c : Nat) (bs : List Int) (w : World) (h : RB w A n c bs) :
    Calls Tryz.prog 26 #[.int .i64 src, .int .i64 dst, .slice A n c] w (TcpOut w (readT src dst bs) (codeT src dst bs)) := by
  by_cases hbad : n < 20 ∨ headL bs < 20 ∨ (n : Int) < headL bs ∨ 65535 < n
  · exact RefTcpParse_bad src dst A n c bs w h hbad
  · cases hq : (foldI (totalI [pseudoB src dst 6 (n : Nat), bs]) == 65535)
    · exact RefTcpParse_sum src dst A n c bs w h (by omega) (by omega) (by omega) (by omega) hq
    · exact RefTcpParse_ok src dst A n c bs w h (by omega) (by omega) (by omega) (by omega) hq
end Go.Proofs.YtehecefapiblpaaGreat
