/- Packets of IPv6 (v6): walk of read, where the bytes are a packet. -/
import Derived.Test.YtbbdkfadcafpfaaV6P
set_option linter.unusedVariables false
namespace Go.Proofs.Ytbbdkfadcafpfaa
open Go Go.RowKit

set_option maxRecDepth 100000 in
set_option maxHeartbeats 1000000 in
theorem V6Read_ok (A : Option Addr) (n c : Nat) (bs : List Int) (q : Bool) (w : World) (h : RB w A n c bs) (hn : n ≤ 100000) (hok : codeV6 q bs = 0) :
    Calls Try.prog 57 #[.slice A n c, .bool q] w (V6Out w (readV6 q bs) (codeV6 q bs)) := by
  have hb0 := Lib.hid ((Below.refl _ w).alloc (Nat.le_refl _) (.cells zeroVc 26))
  have hz0 := Lib.hid (Blk.new w zeroVc 26)
  have hlen := h.len
  have hG1 := Lib.hid (fun W (hW : Below w.heap.size w W) => Get_any A n c bs 0 4 W (h.below hW) (by omega))
  have hG2 := Lib.hid (fun W (hW : Below w.heap.size w W) => Get_any A n c bs 4 2 W (h.below hW) (by omega))
  have hcode : codeV6 q bs = if n < 40 then 3 else if (getV bs 0 4).1 / 268435456 ≠ 6 then 4 else if (n : Int) - 40 < (getV bs 4 2).1 ∧ q = false then 3 else 0 := by unfold codeV6; rw [hlen]
  have hread := Lib.hid (show readV6 q bs = parsedV bs from if_pos hok)
  have hpar : parsedV bs = ⟨(getV bs 0 4).1 / 1048576 % 256, (getV bs 0 4).1 % 1048576, bs[6]?.getD 0, bs[7]?.getD 0, (bs.drop 8).take 16, (bs.drop 24).take 16, (bs.drop 40).take (min (getV bs 4 2).1.toNat (bs.length - 40))⟩ := rfl
  rw [hlen] at hpar
  obtain ⟨hf0, hf1⟩ := getV4_bd h.byt 0
  obtain ⟨hs0, hs1⟩ := getV2_bd h.byt 4
  generalize (getV bs 0 4).1 = f at *
  generalize (getV bs 4 2).1 = s at *
  rw [hok] at hcode
  have h40 : ¬ n < 40 := fun h' => by rw [if_pos h'] at hcode; simp at hcode
  rw [if_neg h40] at hcode
  have h6 : f / 268435456 = 6 := Decidable.byContradiction fun h' => by rw [if_pos h'] at hcode; simp at hcode
  rw [if_neg (by omega)] at hcode
  have h3 : ¬ ((n : Int) - 40 < s ∧ q = false) := fun h' => by rw [if_pos h'] at hcode; simp at hcode
  clear hcode
  have hne : (f / 268435456 != 6) = false := by simpa using h6
  obtain ⟨s, rfl⟩ := Int.eq_ofNat_of_zero_le hs0
  rw [Int.toNat_natCast] at hpar
  obtain ⟨b, off, rfl, hbl, hc⟩ := h.mem (by omega)
  have hcb6 := hc 6 (by omega)
  have hcb7 := hc 7 (by omega)
  have y0 := h.byt.get 6
  have y1 := h.byt.get 7
  have hnc := h.nc
  have hcm : c ≤ 9223372036854775807 := by have := h.cm; unfold maxLen at this; omega
  generalize bs[6]?.getD 0 = x6 at *
  generalize bs[7]?.getD 0 = x7 at *
  clear hc hlen
  have hi6 : (6 : Int) < n := by omega
  have hi7 : (7 : Int) < n := by omega
  have hi6n : 6 < n := by omega
  have hi7n : 7 < n := by omega
  have hwn : IntKind.i64.wrap ((n : Int) - 40) = (n : Int) - 40 := by rw [IntKind.wrap_i64]; omega
  by_cases hsz : (n : Int) - 40 < s
  · obtain rfl : q = true := by cases q; exact absurd ⟨hsz, rfl⟩ h3; rfl
    rw [show min s (n - 40) = n - 40 by omega] at hpar
    skip
    have hd8 := ((h.drop_any 8 (by omega)).first_ (show 16 ≤ n - 8 by omega))
    have hd24 := ((h.drop_any 24 (by omega)).first_ (show 16 ≤ n - 24 by omega))
    have hd40 := ((h.drop_any 40 (by omega)).first_ (show (n - 40) ≤ n - 40 by omega))
    rw [if_neg (by omega)] at hd8 hd24
    obtain ⟨A1, hif1⟩ : ∃ A1, (if c = 40 then some (⟨b, off, none⟩ : Addr) else some ⟨b, off + 40, none⟩) = A1 := ⟨_, rfl⟩
    rw [hif1] at hd40
    have l8 : ((bs.drop 8).take 16).length = 16 := hd8.len
    have l24 : ((bs.drop 24).take 16).length = 16 := hd24.len
    have hd40l := hd40.len
    generalize (bs.drop 8).take 16 = sr at *
    generalize (bs.drop 24).take 16 = ds at *
    generalize (bs.drop 40).take (n - 40) = dt at *
    have hD40 := Lib.hid (fun W (hW : Below w.heap.size w W) => hd40.below hW)
    have i8 : (8 : Int) ≤ n := by omega
    have i24 : (24 : Int) ≤ n := by omega
    have j8 : 8 ≤ n := by omega
    have j24 : 24 ≤ n := by omega
    have hnci : (n : Int) ≤ c := by omega
    have hc8 : ¬ c = 8 := by omega
    have hc24 : ¬ c = 24 := by omega
    have hx6 : IntKind.i64.wrap x6 = x6 := by rw [IntKind.wrap_i64]; omega
    have hx7 : IntKind.i64.wrap x7 = x7 := by rw [IntKind.wrap_i64]; omega
    have hm1 : bits .and .i64 (f / 1048576) 255 = f / 1048576 % 256 := i64_mask 8 (by decide) (f / 1048576) (by omega) (by omega)
    have hm2 : bits .and .i64 f 1048575 = f % 1048576 := i64_mask 20 (by decide) f (by omega) (by omega)
    have by8 := hd8.byt
    have by24 := hd24.byt
    have p8 := hd8.mem (by omega)
    have p24 := hd24.mem (by omega)
    replace hd8 := Lib.hid hd8
    replace hd24 := Lib.hid hd24
    replace hd40 := Lib.hid hd40
    replace hpar := Lib.hid hpar
    replace p8 := Lib.hid p8
    replace p24 := Lib.hid p24
    replace l8 := Lib.hid l8
    replace l24 := Lib.hid l24
    replace hd40l := Lib.hid hd40l
    replace by8 := Lib.hid by8
    replace by24 := Lib.hid by24
    replace h6 := 0
    replace h3 := 0
    replace hs0 := 0
    replace hs1 := Lib.hid (show s < 65536 by omega)
    replace hm1 := Lib.hid hm1
    replace hm2 := Lib.hid hm2
    replace hcm := Lib.hid hcm
    replace hx6 := Lib.hid hx6
    replace hx7 := Lib.hid hx7
    clear h
    go_enter Try.func57, Try.ntmps57
    go_wp2_with (first
      | (go_at_call_of 54 (Value.int IntKind.i64 (0 : Int)); refine (hG1.out _ hb0.out).mono ?_; rintro e w1 ⟨rfl, rfl⟩)
      | (go_at_call 54; refine (hG2.out _ hb0.out).mono ?_; rintro e w1 ⟨rfl, rfl⟩)
      | fail)
    have hm1 := hm1.out
    have hm2 := hm2.out
    have hx6 := hx6.out
    have hx7 := hx7.out
    have hHw := Lib.hid (Nat.le_succ w.heap.size)
    have hCk := Lib.hid (show ∀ W W', (fun W => Blk W w.heap.size zeroVc 26) W → Keep (w.heap.size + 1) W W' → (fun W => Blk W w.heap.size zeroVc 26) W' from fun W W' h1 hk => h1.kept hk (by omega))
    have hC0 := Lib.hid (show ∀ W, (Below w.heap.size w W ∧ (fun W => Blk W w.heap.size zeroVc 26) W) → (W.cell? ⟨b, off + 6, none⟩ = some (.int .u8 x6) ∧ W.cell? ⟨b, off + 7, none⟩ = some (.int .u8 x7)) from fun W hS =>
      ⟨(hS.1.cell (p := ⟨b, off + 6, none⟩) hbl).trans hcb6, (hS.1.cell (p := ⟨b, off + 7, none⟩) hbl).trans hcb7⟩)
    refine wp_region_writ (JA w (w.heap.size + 1) 26 37 10 (fun W => Blk W w.heap.size zeroVc 26)) (EA (w.heap.size + 1) 26 (rowV (f / 1048576 % 256) (f % 1048576) x6 x7 z16 z16 (.slice none 0 0)).toArray) (by kernel_rfl) (by kernel_rfl) (by kernel_rfl) EA.refl ⟨hb0.out.drew, hz0.out.drew, .inl ⟨rfl, by simp⟩⟩ ?_
    repeat (first
      | (refine alc_store (by rfl) (by rfl) rfl hHw.out hCk.out (by rfl) (.tmp 54) rfl rfl rfl (by kernel_rfl) rfl (rowV_one rfl) ?_)
      | (refine alc_alloc (by rfl) rfl (by rfl) (by rfl) zeroVc rfl rfl (show (10 : Nat) < 75 from by decide) hHw.out hCk.out hHw.out (fun a W => ?_) ?_; (unfold execOp; simp [go_sem]; try rfl); simp only [putV, List.setIfInBounds_toArray, List.set_cons_zero, List.set_cons_succ])
      | (refine alc_val (v := ?_) (by rfl) (by rfl) (by rfl) (by rfl) (by rfl) (by decide) (fun W hS => ?_) ?_; rotate_left; (· (obtain ⟨g0, g1⟩ := hC0.out W hS; clear hS; go_simp; try with_reducible rfl)); simp only [putV, List.setIfInBounds_toArray, List.set_cons_zero, List.set_cons_succ]))
    refine writL_nil fun a W hS hsz hds hR => ?_
    have FB : Blk W (w.heap.size + 1) (rowV (f / 1048576 % 256) (f % 1048576) x6 x7 z16 z16 (.slice none 0 0)).toArray 26 := hR 90
    have hT := tmps_eql (T := a.tmps) [] (by rw [hsz]; rfl) (by rw [hsz]; rfl) hR
    rw [List.foldl_nil] at hT
    obtain ⟨T, D⟩ := a
    have hD' : D = [] := hds
    subst hD'
    dsimp only at hT
    subst hT
    clear hR hsz hds
    obtain ⟨hB5, kz5, _⟩ := hS
    replace FB := Lib.hid FB
    replace hB5 := Lib.hid hB5
    replace kz5 := Lib.hid kz5
    replace hC0 := 0
    replace hCk := 0
    replace hm1 := 0
    replace hm2 := 0
    go_wp2_with fail
    go_still_tail 4, (by kernel_rfl)
    change wpList _ _ _ _ _ W.drew
    refine wpList_copy_splice rfl (.tmp 56) (.tmp 58) 24 24 rfl 5 Try.underlying24 (by kernel_rfl) (some ⟨w.heap.size + 1, 4, none⟩) (some ⟨b, off + 8, none⟩) 16 16 (n - 8) (c - 8) rfl rfl (w.heap.size + 1) 4 _ 26 FB.out.drew.at_ (u8s sr) (by rw [u8s_length, l8.out]; exact (Nat.min_eq_right (by omega)).symm) (fun _ => ⟨rfl, _, rfl, fun j v hv => hd8.out.src hB5.out.drew j v hv⟩) (by rw [u8s_length, l8.out, rowV_len z16_len z16_len]; decide) (u8s_one sr) (w.heap.size + 1) W.drew (Below.refl _ _) (Nat.le_refl _) ?_
    intro W1 k1 hb1
    have k1' := k1.out
    rw [rowV_src z16_len l8.out] at k1'
    have F1 := Lib.hid (show Blk W1 (w.heap.size + 1) (rowV (f / 1048576 % 256) (f % 1048576) x6 x7 sr z16 (.slice none 0 0)).toArray 26 from ⟨k1'⟩)
    have z1 := Lib.hid (kz5.out.drew.upto hb1 (Nat.lt_succ_self _))
    have b1 := Lib.hid (hB5.out.drew.trans (hb1.mono (Nat.le_succ _)))
    clear k1' hb1
    replace k1 := 0
    replace FB := 0
    replace hB5 := 0
    replace kz5 := 0
    go_wp2_with fail
    go_still_tail 4, (by kernel_rfl)
    change wpList _ _ _ _ _ W1.drew
    refine wpList_copy_splice rfl (.tmp 61) (.tmp 63) 24 24 rfl 5 Try.underlying24 (by kernel_rfl) (some ⟨w.heap.size + 1, 20, none⟩) (some ⟨b, off + 24, none⟩) 16 16 (n - 24) (c - 24) rfl rfl (w.heap.size + 1) 20 _ 26 F1.out.drew.at_ (u8s ds) (by rw [u8s_length, l24.out]; exact (Nat.min_eq_right (by omega)).symm) (fun _ => ⟨rfl, _, rfl, fun j v hv => hd24.out.src b1.out.drew j v hv⟩) (by rw [u8s_length, l24.out, rowV_len l8.out z16_len]; decide) (u8s_one ds) (w.heap.size + 1) W1.drew (Below.refl _ _) (Nat.le_refl _) ?_
    intro W2 k2 hb2
    have k2' := k2.out
    rw [rowV_dst l8.out z16_len l24.out] at k2'
    have F2' : Blk W2 (w.heap.size + 1) (rowV (f / 1048576 % 256) (f % 1048576) x6 x7 sr ds (.slice none 0 0)).toArray 26 := ⟨k2'⟩
    have z2 := Lib.hid (z1.out.drew.upto hb2 (Nat.lt_succ_self _))
    have b2 := Lib.hid (b1.out.drew.trans (hb2.mono (Nat.le_succ _)))
    have F2 := Lib.hid F2'
    clear k2' hb2 F2'
    replace k2 := 0
    replace F1 := 0
    replace z1 := 0
    replace b1 := 0
    have hwr : IntKind.i64.wrap (40 + (s : Int)) = 40 + (s : Int) := by rw [IntKind.wrap_i64]; have := hs1.out; omega
    go_wp2_with (first
      | (go_at_call 55; refine (Clone_any A1 (n - 40) (c - 40) dt _ (hD40.out _ b2.out) (by omega)).mono ?_; rintro e W3 ⟨A3, c3, rfl, ho3, hb3⟩; have F3 := F2.out.to hb3; have e36 := F3.cell 36 _ (by rw [List.getElem?_toArray]; exact rowV_get36 l8.out l24.out); have f36 := F3.frz 36; have z3 := Lib.hid (z2.out.to hb3); have b3 := Lib.hid (b2.out.trans (hb3.mono b2.out.size)); have F4 := F3.set 36 (.slice A3 (n - 40) c3); rw [rowV_set l8.out l24.out] at F4; replace F4 := Lib.hid F4; have z4 := Lib.hid (z3.out.far (B' := w.heap.size + 1) (by omega) 36 (.slice A3 (n - 40) c3)); have ho4 := Lib.hid ((ho3.mono (show w.heap.size + 2 ≤ W2.heap.size from F2.out.lt)).kept (B := w.heap.size + 1) (Keep.set W3 36 (.slice A3 (n - 40) c3)) (Nat.lt_succ_self _)); have b4 := Lib.hid (b3.out.setCell (p := ⟨w.heap.size + 1, 36, none⟩) (Nat.le_succ _) (.slice A3 (n - 40) c3)); replace F3 := 0; replace ho3 := 0; replace hb3 := 0; replace z3 := 0; replace b3 := 0)
      | (refine wpList_load_V rfl (.tmp 10) rfl (w.heap.size + 1) rfl _ F4.out (rowV_size l8.out l24.out) ?_)
      | (refine wpList_store_V rfl (.tmp 4) (.tmp 74) rfl w.heap.size _ rfl rfl _ z4.out rfl (rowV_size l8.out l24.out) (rowV_one rfl) ?_)
      | fail)
    refine bodyPost_ret (results_ct Try.results57 rfl (run_load_V ⟨setRow_heap _ _ _ _ _ _ z4.out.at_⟩ (rowV_size l8.out l24.out))) rfl ?_
    unfold V6Out
    rw [hread.out, hpar.out]
    exact ⟨_, A3, _, c3, by first | rfl | (rw [hok]; rfl), rowV_V (p := ⟨f / 1048576 % 256, f % 1048576, x6, x7, sr, ds, dt⟩) l8.out l24.out by8.out by24.out, (ho4.out.stay (StayT.row z4.out _) (show 5 ≠ 26 from by decide)).mono (by omega), below_row b4.out (Nat.le_refl _) _⟩
  · rw [show min s (n - 40) = s by omega] at hpar
    skip
    have hd8 := ((h.drop_any 8 (by omega)).first_ (show 16 ≤ n - 8 by omega))
    have hd24 := ((h.drop_any 24 (by omega)).first_ (show 16 ≤ n - 24 by omega))
    have hd40 := ((h.drop_any 40 (by omega)).first_ (show s ≤ n - 40 by omega))
    rw [if_neg (by omega)] at hd8 hd24
    obtain ⟨A1, hif1⟩ : ∃ A1, (if c = 40 then some (⟨b, off, none⟩ : Addr) else some ⟨b, off + 40, none⟩) = A1 := ⟨_, rfl⟩
    rw [hif1] at hd40
    have l8 : ((bs.drop 8).take 16).length = 16 := hd8.len
    have l24 : ((bs.drop 24).take 16).length = 16 := hd24.len
    have hd40l := hd40.len
    generalize (bs.drop 8).take 16 = sr at *
    generalize (bs.drop 24).take 16 = ds at *
    generalize (bs.drop 40).take s = dt at *
    have hD40 := Lib.hid (fun W (hW : Below w.heap.size w W) => hd40.below hW)
    have i8 : (8 : Int) ≤ n := by omega
    have i24 : (24 : Int) ≤ n := by omega
    have j8 : 8 ≤ n := by omega
    have j24 : 24 ≤ n := by omega
    have hnci : (n : Int) ≤ c := by omega
    have hc8 : ¬ c = 8 := by omega
    have hc24 : ¬ c = 24 := by omega
    have hx6 : IntKind.i64.wrap x6 = x6 := by rw [IntKind.wrap_i64]; omega
    have hx7 : IntKind.i64.wrap x7 = x7 := by rw [IntKind.wrap_i64]; omega
    have hm1 : bits .and .i64 (f / 1048576) 255 = f / 1048576 % 256 := i64_mask 8 (by decide) (f / 1048576) (by omega) (by omega)
    have hm2 : bits .and .i64 f 1048575 = f % 1048576 := i64_mask 20 (by decide) f (by omega) (by omega)
    have by8 := hd8.byt
    have by24 := hd24.byt
    have p8 := hd8.mem (by omega)
    have p24 := hd24.mem (by omega)
    replace hd8 := Lib.hid hd8
    replace hd24 := Lib.hid hd24
    replace hd40 := Lib.hid hd40
    replace hpar := Lib.hid hpar
    replace p8 := Lib.hid p8
    replace p24 := Lib.hid p24
    replace l8 := Lib.hid l8
    replace l24 := Lib.hid l24
    replace hd40l := Lib.hid hd40l
    replace by8 := Lib.hid by8
    replace by24 := Lib.hid by24
    replace h6 := 0
    replace h3 := 0
    replace hs0 := 0
    replace hs1 := Lib.hid (show s < 65536 by omega)
    replace hm1 := Lib.hid hm1
    replace hm2 := Lib.hid hm2
    replace hcm := Lib.hid hcm
    replace hx6 := Lib.hid hx6
    replace hx7 := Lib.hid hx7
    clear h
    go_enter Try.func57, Try.ntmps57
    go_wp2_with (first
      | (go_at_call_of 54 (Value.int IntKind.i64 (0 : Int)); refine (hG1.out _ hb0.out).mono ?_; rintro e w1 ⟨rfl, rfl⟩)
      | (go_at_call 54; refine (hG2.out _ hb0.out).mono ?_; rintro e w1 ⟨rfl, rfl⟩)
      | fail)
    have hm1 := hm1.out
    have hm2 := hm2.out
    have hx6 := hx6.out
    have hx7 := hx7.out
    have hHw := Lib.hid (Nat.le_succ w.heap.size)
    have hCk := Lib.hid (show ∀ W W', (fun W => Blk W w.heap.size zeroVc 26) W → Keep (w.heap.size + 1) W W' → (fun W => Blk W w.heap.size zeroVc 26) W' from fun W W' h1 hk => h1.kept hk (by omega))
    have hC0 := Lib.hid (show ∀ W, (Below w.heap.size w W ∧ (fun W => Blk W w.heap.size zeroVc 26) W) → (W.cell? ⟨b, off + 6, none⟩ = some (.int .u8 x6) ∧ W.cell? ⟨b, off + 7, none⟩ = some (.int .u8 x7)) from fun W hS =>
      ⟨(hS.1.cell (p := ⟨b, off + 6, none⟩) hbl).trans hcb6, (hS.1.cell (p := ⟨b, off + 7, none⟩) hbl).trans hcb7⟩)
    refine wp_region_writ (JA w (w.heap.size + 1) 26 37 10 (fun W => Blk W w.heap.size zeroVc 26)) (EA (w.heap.size + 1) 26 (rowV (f / 1048576 % 256) (f % 1048576) x6 x7 z16 z16 (.slice none 0 0)).toArray) (by kernel_rfl) (by kernel_rfl) (by kernel_rfl) EA.refl ⟨hb0.out.drew, hz0.out.drew, .inl ⟨rfl, by simp⟩⟩ ?_
    repeat (first
      | (refine alc_store (by rfl) (by rfl) rfl hHw.out hCk.out (by rfl) (.tmp 54) rfl rfl rfl (by kernel_rfl) rfl (rowV_one rfl) ?_)
      | (refine alc_alloc (by rfl) rfl (by rfl) (by rfl) zeroVc rfl rfl (show (10 : Nat) < 75 from by decide) hHw.out hCk.out hHw.out (fun a W => ?_) ?_; (unfold execOp; simp [go_sem]; try rfl); simp only [putV, List.setIfInBounds_toArray, List.set_cons_zero, List.set_cons_succ])
      | (refine alc_val (v := ?_) (by rfl) (by rfl) (by rfl) (by rfl) (by rfl) (by decide) (fun W hS => ?_) ?_; rotate_left; (· (obtain ⟨g0, g1⟩ := hC0.out W hS; clear hS; go_simp; try with_reducible rfl)); simp only [putV, List.setIfInBounds_toArray, List.set_cons_zero, List.set_cons_succ]))
    refine writL_nil fun a W hS hsz hds hR => ?_
    have FB : Blk W (w.heap.size + 1) (rowV (f / 1048576 % 256) (f % 1048576) x6 x7 z16 z16 (.slice none 0 0)).toArray 26 := hR 90
    have hT := tmps_eql (T := a.tmps) [] (by rw [hsz]; rfl) (by rw [hsz]; rfl) hR
    rw [List.foldl_nil] at hT
    obtain ⟨T, D⟩ := a
    have hD' : D = [] := hds
    subst hD'
    dsimp only at hT
    subst hT
    clear hR hsz hds
    obtain ⟨hB5, kz5, _⟩ := hS
    replace FB := Lib.hid FB
    replace hB5 := Lib.hid hB5
    replace kz5 := Lib.hid kz5
    replace hC0 := 0
    replace hCk := 0
    replace hm1 := 0
    replace hm2 := 0
    go_wp2_with fail
    go_still_tail 4, (by kernel_rfl)
    change wpList _ _ _ _ _ W.drew
    refine wpList_copy_splice rfl (.tmp 56) (.tmp 58) 24 24 rfl 5 Try.underlying24 (by kernel_rfl) (some ⟨w.heap.size + 1, 4, none⟩) (some ⟨b, off + 8, none⟩) 16 16 (n - 8) (c - 8) rfl rfl (w.heap.size + 1) 4 _ 26 FB.out.drew.at_ (u8s sr) (by rw [u8s_length, l8.out]; exact (Nat.min_eq_right (by omega)).symm) (fun _ => ⟨rfl, _, rfl, fun j v hv => hd8.out.src hB5.out.drew j v hv⟩) (by rw [u8s_length, l8.out, rowV_len z16_len z16_len]; decide) (u8s_one sr) (w.heap.size + 1) W.drew (Below.refl _ _) (Nat.le_refl _) ?_
    intro W1 k1 hb1
    have k1' := k1.out
    rw [rowV_src z16_len l8.out] at k1'
    have F1 := Lib.hid (show Blk W1 (w.heap.size + 1) (rowV (f / 1048576 % 256) (f % 1048576) x6 x7 sr z16 (.slice none 0 0)).toArray 26 from ⟨k1'⟩)
    have z1 := Lib.hid (kz5.out.drew.upto hb1 (Nat.lt_succ_self _))
    have b1 := Lib.hid (hB5.out.drew.trans (hb1.mono (Nat.le_succ _)))
    clear k1' hb1
    replace k1 := 0
    replace FB := 0
    replace hB5 := 0
    replace kz5 := 0
    go_wp2_with fail
    go_still_tail 4, (by kernel_rfl)
    change wpList _ _ _ _ _ W1.drew
    refine wpList_copy_splice rfl (.tmp 61) (.tmp 63) 24 24 rfl 5 Try.underlying24 (by kernel_rfl) (some ⟨w.heap.size + 1, 20, none⟩) (some ⟨b, off + 24, none⟩) 16 16 (n - 24) (c - 24) rfl rfl (w.heap.size + 1) 20 _ 26 F1.out.drew.at_ (u8s ds) (by rw [u8s_length, l24.out]; exact (Nat.min_eq_right (by omega)).symm) (fun _ => ⟨rfl, _, rfl, fun j v hv => hd24.out.src b1.out.drew j v hv⟩) (by rw [u8s_length, l24.out, rowV_len l8.out z16_len]; decide) (u8s_one ds) (w.heap.size + 1) W1.drew (Below.refl _ _) (Nat.le_refl _) ?_
    intro W2 k2 hb2
    have k2' := k2.out
    rw [rowV_dst l8.out z16_len l24.out] at k2'
    have F2' : Blk W2 (w.heap.size + 1) (rowV (f / 1048576 % 256) (f % 1048576) x6 x7 sr ds (.slice none 0 0)).toArray 26 := ⟨k2'⟩
    have z2 := Lib.hid (z1.out.drew.upto hb2 (Nat.lt_succ_self _))
    have b2 := Lib.hid (b1.out.drew.trans (hb2.mono (Nat.le_succ _)))
    have F2 := Lib.hid F2'
    clear k2' hb2 F2'
    replace k2 := 0
    replace F1 := 0
    replace z1 := 0
    replace b1 := 0
    have hwr : IntKind.i64.wrap (40 + (s : Int)) = 40 + (s : Int) := by rw [IntKind.wrap_i64]; have := hs1.out; omega
    go_wp2_with (first
      | (go_at_call 55; refine (Clone_any A1 s (c - 40) dt _ (hD40.out _ b2.out) (by omega)).mono ?_; rintro e W3 ⟨A3, c3, rfl, ho3, hb3⟩; have F3 := F2.out.to hb3; have e36 := F3.cell 36 _ (by rw [List.getElem?_toArray]; exact rowV_get36 l8.out l24.out); have f36 := F3.frz 36; have z3 := Lib.hid (z2.out.to hb3); have b3 := Lib.hid (b2.out.trans (hb3.mono b2.out.size)); have F4 := F3.set 36 (.slice A3 s c3); rw [rowV_set l8.out l24.out] at F4; replace F4 := Lib.hid F4; have z4 := Lib.hid (z3.out.far (B' := w.heap.size + 1) (by omega) 36 (.slice A3 s c3)); have ho4 := Lib.hid ((ho3.mono (show w.heap.size + 2 ≤ W2.heap.size from F2.out.lt)).kept (B := w.heap.size + 1) (Keep.set W3 36 (.slice A3 s c3)) (Nat.lt_succ_self _)); have b4 := Lib.hid (b3.out.setCell (p := ⟨w.heap.size + 1, 36, none⟩) (Nat.le_succ _) (.slice A3 s c3)); replace F3 := 0; replace ho3 := 0; replace hb3 := 0; replace z3 := 0; replace b3 := 0)
      | (refine wpList_load_V rfl (.tmp 10) rfl (w.heap.size + 1) rfl _ F4.out (rowV_size l8.out l24.out) ?_)
      | (refine wpList_store_V rfl (.tmp 4) (.tmp 74) rfl w.heap.size _ rfl rfl _ z4.out rfl (rowV_size l8.out l24.out) (rowV_one rfl) ?_)
      | fail)
    refine bodyPost_ret (results_ct Try.results57 rfl (run_load_V ⟨setRow_heap _ _ _ _ _ _ z4.out.at_⟩ (rowV_size l8.out l24.out))) rfl ?_
    unfold V6Out
    rw [hread.out, hpar.out]
    exact ⟨_, A3, _, c3, by first | rfl | (rw [hok]; rfl), rowV_V (p := ⟨f / 1048576 % 256, f % 1048576, x6, x7, sr, ds, dt⟩) l8.out l24.out by8.out by24.out, (ho4.out.stay (StayT.row z4.out _) (show 5 ≠ 26 from by decide)).mono (by omega), below_row b4.out (Nat.le_refl _) _⟩

theorem V6Read_any (A : Option Addr) (n c : Nat) (bs : List Int) (q : Bool) (w : World) (h : RB w A n c bs) (hn : n ≤ 100000) :
    Calls Try.prog 57 #[.slice A n c, .bool q] w (V6Out w (readV6 q bs) (codeV6 q bs)) := by
  by_cases hok : codeV6 q bs = 0
  · exact V6Read_ok A n c bs q w h hn hok
  · exact V6Read_bad A n c bs q w h hn hok

set_option maxRecDepth 100000 in
set_option maxHeartbeats 1000000 in
theorem V6Parse_any (A : Option Addr) (n c : Nat) (bs : List Int) (w : World) (h : RB w A n c bs) (hn : n ≤ 100000) :
    Calls Try.prog 27 #[.slice A n c] w (V6Out w (readV6 false bs) (codeV6 false bs)) := by
  have hb0 := Lib.hid ((Below.refl _ w).alloc (Nat.le_refl _) (.cells zeroVc 26))
  have hz0 := Lib.hid (Blk.new w zeroVc 26)
  have hR := fun W (hW : Below w.heap.size w W) => V6Read_any A n c bs false W (h.below hW) hn
  unfold V6Out at hR
  replace hR := Lib.hid hR
  clear h
  generalize readV6 false bs = p at *
  generalize codeV6 false bs = k at *
  go_enter Try.func27, Try.ntmps27
  go_wp2_with (first
    | (go_at_call 57; refine (hR.out _ hb0.out).mono ?_; rintro e w1 ⟨P, A1, m, c1, rfl, hV, ho, hb1⟩; have z1 := Lib.hid (hz0.out.to hb1); have b1 := Lib.hid (hb0.out.trans (hb1.mono hb0.out.size)); have hz0s := hb0.out.size; replace ho := Lib.hid (ho.mono hz0s); replace hV := Lib.hid hV; have one1 := Lib.hid hV.out.one; replace hb1 := 0; clear hz0s)
    | (refine wpList_store_V rfl (.tmp 2) (.tmp 6) rfl w.heap.size P rfl rfl _ z1.out rfl hV.out.size one1.out ?_)
    | fail)
  refine bodyPost_ret (results_ct Try.results27 rfl (run_load_V ⟨setRow_heap _ _ _ _ _ _ z1.out.at_⟩ hV.out.size)) rfl ?_
  exact ⟨P, A1, m, c1, rfl, hV.out, ho.out.stay (StayT.row z1.out _) (show 5 ≠ 26 from by decide), below_row b1.out (Nat.le_refl _) _⟩
set_option maxRecDepth 100000 in
set_option maxHeartbeats 1000000 in
theorem V6Quoted_any (A : Option Addr) (n c : Nat) (bs : List Int) (w : World) (h : RB w A n c bs) (hn : n ≤ 100000) :
    Calls Try.prog 29 #[.slice A n c] w (V6Out w (readV6 true bs) (codeV6 true bs)) := by
  have hb0 := Lib.hid ((Below.refl _ w).alloc (Nat.le_refl _) (.cells zeroVc 26))
  have hz0 := Lib.hid (Blk.new w zeroVc 26)
  have hR := fun W (hW : Below w.heap.size w W) => V6Read_any A n c bs true W (h.below hW) hn
  unfold V6Out at hR
  replace hR := Lib.hid hR
  clear h
  generalize readV6 true bs = p at *
  generalize codeV6 true bs = k at *
  go_enter Try.func29, Try.ntmps29
  go_wp2_with (first
    | (go_at_call 57; refine (hR.out _ hb0.out).mono ?_; rintro e w1 ⟨P, A1, m, c1, rfl, hV, ho, hb1⟩; have z1 := Lib.hid (hz0.out.to hb1); have b1 := Lib.hid (hb0.out.trans (hb1.mono hb0.out.size)); have hz0s := hb0.out.size; replace ho := Lib.hid (ho.mono hz0s); replace hV := Lib.hid hV; have one1 := Lib.hid hV.out.one; replace hb1 := 0; clear hz0s)
    | (refine wpList_store_V rfl (.tmp 2) (.tmp 6) rfl w.heap.size P rfl rfl _ z1.out rfl hV.out.size one1.out ?_)
    | fail)
  refine bodyPost_ret (results_ct Try.results29 rfl (run_load_V ⟨setRow_heap _ _ _ _ _ _ z1.out.at_⟩ hV.out.size)) rfl ?_
  exact ⟨P, A1, m, c1, rfl, hV.out, ho.out.stay (StayT.row z1.out _) (show 5 ≠ 26 from by decide), below_row b1.out (Nat.le_refl _) _⟩
end Go.Proofs.Ytbbdkfadcafpfaa
