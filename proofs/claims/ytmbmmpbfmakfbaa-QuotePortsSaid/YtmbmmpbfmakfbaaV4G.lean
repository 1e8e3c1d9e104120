/- Packets of IPv4 (the reference): num, fields. -/
import Derived.Test.YtmbmmpbfmakfbaaV4C
import Derived.Test.YtmbmmpbfmakfbaaRow4
import Derived.Test.YtmbmmpbfmakfbaaAlc
import Derived.Test.YtmbmmpbfmakfbaaTcpM
import Derived.Deep.DeepCutAuto
import Derived.Deep.WholeRow
set_option linter.unusedVariables false
namespace Go.Proofs.Ytmbmmpbfmakfbaa
open Go Go.RowKit

set_option maxHeartbeats 1000000 in
theorem RefNum05_any (A : Option Addr) (n c : Nat) (bs : List Int) (a s : Int) (W : World) (h : RB W A n c bs) (hn : n ≤ 100000) :
    Calls Try.prog 51 #[.slice A n c, .int .i64 a, .int .i64 s] W fun e w' => e = .returned (.int .i64 (getV bs a s).1) ∧ W = w' := by
  have hG := Lib.hid (RefGet_any A n c bs a s W h hn)
  clear h
  go_enter Try.func51, Try.ntmps51
  go_wp2_with (go_at_call 28; refine (hG.out).mono ?_; rintro e w' ⟨rfl, rfl⟩)
  go_ret
  exact ⟨rfl, rfl⟩
theorem en_R05num (args : Array Value) (w : World) : (callFunc 51 args).run Try.prog w = .ok (.enter 51 args) w := enters Try.func51 (by kernel_rfl) (by kernel_rfl) args w
def rowQ (x0 x1 x2 x3 x4 x5 x6 : Int) : V4P := ⟨x0, x1, x2, x3, x4, x5, x6, false, false, [], []⟩
set_option maxRecDepth 100000 in
set_option maxHeartbeats 4000000 in
theorem RefFields4_any (b off n c : Nat) (bs : List Int) (D : Option Addr) (m k : Nat) (ds : List Int) (w : World) (hr : RB w (some ⟨b, off, none⟩) n c bs) (hd : RB w D m k ds) (hn : n ≤ 100000) (hm : m ≤ 100000) (h20 : 20 ≤ n) (hh1 : 20 ≤ hd4 bs) (hh2 : hd4 bs ≤ n) (hbl : b < w.heap.size) :
    Calls Try.prog 52 #[.slice (some ⟨b, off, none⟩) n c, .slice D m k] w fun e w' => ∃ Ao co A' c', e = .returned (.agg (cells4 { pack4 bs with data := ds } Ao (hd4 bs - 20) co A' m c')) ∧ OB w' w.heap.size Ao (hd4 bs - 20) co (pack4 bs).opts ∧ OB w' w.heap.size A' m c' ds ∧ Below w.heap.size w w' := by
  have hlen := hr.len
  have hnc := hr.nc
  have hb0 := Lib.hid ((Below.refl _ w).alloc (Nat.le_refl _) (.cells zero4c 32))
  have kZ := Lib.hid (Blk.new w zero4c 32)
  obtain ⟨_, _, e, _, hc⟩ := hr.mem (by omega)
  cases e
  have hc0 := hc 0 (by omega)
  have hc1 := hc 1 (by omega)
  have hc8 := hc 8 (by omega)
  have hc9 := hc 9 (by omega)
  rw [Nat.add_zero] at hc0
  have y0 := hr.byt.get 0
  have y1 := hr.byt.get 1
  have y8 := hr.byt.get 8
  have y9 := hr.byt.get 9
  have hhd := hd4_nat hr.byt
  have f0 := getV2_in hr.byt 6
  have hNum := Lib.hid (fun a s W (hW : Below w.heap.size w W) => RefNum05_any (some ⟨b, off, none⟩) n c bs a s W (hr.below hW) hn)
  have hN4 := Lib.hid (fun W hW => hNum.out 4 2 W hW)
  have hN6 := Lib.hid (fun W hW => hNum.out 6 2 W hW)
  have hN12 := Lib.hid (fun W hW => hNum.out 12 4 W hW)
  have hN16 := Lib.hid (fun W hW => hNum.out 16 4 W hW)
  have hpk : ({ pack4 bs with data := ds } : V4P) = ⟨bs[1]?.getD 0, (getV bs 4 2).1, (getV bs 6 2).1 % 8192 * 8, bs[8]?.getD 0, bs[9]?.getD 0, (getV bs 12 4).1, (getV bs 16 4).1, decide ((getV bs 6 2).1 / 16384 % 2 = 1), decide ((getV bs 6 2).1 / 8192 % 2 = 1), (bs.take (hd4 bs)).drop 20, ds⟩ := rfl
  have hpo : (pack4 bs).opts = (bs.take (hd4 bs)).drop 20 := rfl
  rw [hpo, hpk]
  replace hNum := 0
  generalize (getV bs 4 2).1 = v4 at *
  generalize (getV bs 6 2).1 = fl at *
  generalize (getV bs 12 4).1 = v12 at *
  generalize (getV bs 16 4).1 = v16 at *
  have hdr := (hr.first_ hh2).drop_any 20 hh1
  generalize hd4 bs = hd' at *
  have hDr := Lib.hid (fun W (hW : Below w.heap.size w W) => hdr.below hW)
  have hDd := Lib.hid (fun W (hW : Below w.heap.size w W) => hd.below hW)
  generalize bs[0]?.getD 0 = x0 at *
  generalize bs[1]?.getD 0 = x1 at *
  generalize bs[8]?.getD 0 = x8 at *
  generalize bs[9]?.getD 0 = x9 at *
  have t0 : x0.tmod 16 = x0 % 16 := Int.tmod_eq_emod_of_nonneg y0.1
  have t1 : IntKind.u8.wrap (x0 % 16) = x0 % 16 := by rw [IntKind.wrap_u8]; omega
  have t2 : IntKind.i64.wrap (x0 % 16) = x0 % 16 := by rw [IntKind.wrap_i64]; omega
  have t3 : IntKind.i64.wrap (x0 % 16 * 4) = x0 % 16 * 4 := by rw [IntKind.wrap_i64]; omega
  have t4 : IntKind.i64.wrap x1 = x1 := by rw [IntKind.wrap_i64]; omega
  have t5 : IntKind.i64.wrap x8 = x8 := by rw [IntKind.wrap_i64]; omega
  have t6 : IntKind.i64.wrap x9 = x9 := by rw [IntKind.wrap_i64]; omega
  have t7 : fl.tmod 8192 = fl % 8192 := Int.tmod_eq_emod_of_nonneg f0.1
  have t8 : IntKind.i64.wrap (fl % 8192) = fl % 8192 := by rw [IntKind.wrap_i64]; omega
  have t9 : IntKind.i64.wrap (fl % 8192 * 8) = fl % 8192 * 8 := by rw [IntKind.wrap_i64]; omega
  have i0 : (0 : Int) < n := by omega
  have i1 : (1 : Int) < n := by omega
  have i8 : (8 : Int) < n := by omega
  have i9 : (9 : Int) < n := by omega
  have j0 : 0 < n := by omega
  have j1 : 1 < n := by omega
  have j8 : 8 < n := by omega
  have j9 : 9 < n := by omega
  have hhd' := Lib.hid hhd
  clear hr hd hc hlen hdr hpk hpo hhd
  go_enter Try.func52, Try.ntmps52
  go_upto_region 3 with (first
    | (go_at_call 51; refine (hN6.out _ hb0.out).mono ?_; rintro e w' ⟨rfl, rfl⟩)
    | fail)
  rw [← hhd'.out]
  obtain ⟨w1, hw1⟩ : ∃ w1, w.alloc (.cells zero4c 32) = w1 := ⟨_, rfl⟩
  rw [hw1]
  have hs1 : w1.heap.size = w.heap.size + 1 := by rw [← hw1]; simp
  have kZ1 : Blk w1 w.heap.size zero4c 32 := by rw [← hw1]; exact kZ.out
  have hb1 : Below w.heap.size w w1 := by rw [← hw1]; exact hb0.out
  obtain ⟨H, hH⟩ : ∃ H, w1.heap.size = H := ⟨_, rfl⟩
  have hHw := Lib.hid (show w.heap.size ≤ H by omega)
  have hHz := Lib.hid (show w.heap.size ≠ H by omega)
  have hCk := Lib.hid (show ∀ W W', (fun W => Blk W w.heap.size zero4c 32) W → Keep H W W' → (fun W => Blk W w.heap.size zero4c 32) W' from fun W W' h1 hk => h1.kept hk hHz.out)
  have hC0 := Lib.hid (show ∀ W, (Below w.heap.size w W ∧ (fun W => Blk W w.heap.size zero4c 32) W) → (W.cell? ⟨b, off + 1, none⟩ = some (.int .u8 x1) ∧ W.cell? ⟨b, off + 8, none⟩ = some (.int .u8 x8) ∧ W.cell? ⟨b, off + 9, none⟩ = some (.int .u8 x9)) from fun W hS =>
    ⟨(hS.1.cell (p := ⟨b, off + 1, none⟩) hbl).trans hc1, (hS.1.cell (p := ⟨b, off + 8, none⟩) hbl).trans hc8, (hS.1.cell (p := ⟨b, off + 9, none⟩) hbl).trans hc9⟩)
  try simp only [Act.put]
  refine wp_region_writ (JA w H 32 11 7 (fun W => Blk W w.heap.size zero4c 32)) (EA H 32 (cells4 (rowQ x1 v4 (fl % 8192 * 8) x8 x9 v12 v16) none 0 0 none 0 0)) (by kernel_rfl) (by kernel_rfl) (by kernel_rfl) EA.refl ⟨hb1.drew, kZ1.drew, .inl ⟨rfl, hH⟩⟩ ?_
  repeat (first
    | (refine alc_call (.int .i64 v4) (by rfl) (by rfl) (by rfl) (by rfl) (by rfl) (by decide) 51 #[.slice (some ⟨b, off, none⟩) n c, .int .i64 4, .int .i64 2] (fun W => exec_call3 _ en_R05num (.tmp 20) (.const (.int .i64 4)) (.const (.int .i64 2)) #[24, 3, 3] rfl rfl rfl rfl W) (fun W hW => ?_) ?_; (exact hN4.out W hW); simp only [putV, List.setIfInBounds_toArray, List.set_cons_zero, List.set_cons_succ])
    | (refine alc_call (.int .i64 v12) (by rfl) (by rfl) (by rfl) (by rfl) (by rfl) (by decide) 51 #[.slice (some ⟨b, off, none⟩) n c, .int .i64 12, .int .i64 4] (fun W => exec_call3 _ en_R05num (.tmp 33) (.const (.int .i64 12)) (.const (.int .i64 4)) #[24, 3, 3] rfl rfl rfl rfl W) (fun W hW => ?_) ?_; (exact hN12.out W hW); simp only [putV, List.setIfInBounds_toArray, List.set_cons_zero, List.set_cons_succ])
    | (refine alc_call (.int .i64 v16) (by rfl) (by rfl) (by rfl) (by rfl) (by rfl) (by decide) 51 #[.slice (some ⟨b, off, none⟩) n c, .int .i64 16, .int .i64 4] (fun W => exec_call3 _ en_R05num (.tmp 35) (.const (.int .i64 16)) (.const (.int .i64 4)) #[24, 3, 3] rfl rfl rfl rfl W) (fun W hW => ?_) ?_; (exact hN16.out W hW); simp only [putV, List.setIfInBounds_toArray, List.set_cons_zero, List.set_cons_succ])
    | (refine alc_store (by rfl) (by rfl) rfl hHw.out hCk.out (by rfl) (.tmp 37) rfl rfl rfl (by kernel_rfl) rfl (one4 _ _ _ _ _ _ _) ?_)
    | (refine alc_alloc (by rfl) rfl (by rfl) (by rfl) zero4c rfl rfl (show (7 : Nat) < 57 from by decide) hHw.out hCk.out hHw.out (fun a W => ?_) ?_; (unfold execOp; simp [go_sem]); simp only [putV, List.setIfInBounds_toArray, List.set_cons_zero, List.set_cons_succ])
    | (refine alc_val (v := ?_) (by rfl) (by rfl) (by rfl) (by rfl) (by rfl) (by decide) (fun W hS => ?_) ?_; rotate_left; (· (obtain ⟨g0, g1, g2⟩ := hC0.out W hS; clear hS; go_simp; try with_reducible rfl)); simp only [putV, List.setIfInBounds_toArray, List.set_cons_zero, List.set_cons_succ]))
  refine writL_nil fun a W hS hsz hds hR => ?_
  have FB : Blk W H (cells4 (rowQ x1 v4 (fl % 8192 * 8) x8 x9 v12 v16) none 0 0 none 0 0) 32 := hR 80
  have hT := tmps_eql (T := a.tmps) [] (by rw [hsz]; rfl) (by rw [hsz]; rfl) hR
  rw [List.foldl_nil] at hT
  clear hR hsz
  obtain ⟨T, D'⟩ := a
  have hD : D' = [] := hds
  subst hD
  dsimp only at hT
  subst hT
  clear hds
  obtain ⟨hB5, kz5, _⟩ := hS
  replace hC0 := 0
  replace hCk := 0
  have hd14 : (fl.tdiv 16384).tmod 2 = fl / 16384 % 2 := by rw [Int.tdiv_eq_ediv_of_nonneg f0.1, Int.tmod_eq_emod_of_nonneg (by omega)]
  have hd13 : (fl.tdiv 8192).tmod 2 = fl / 8192 % 2 := by rw [Int.tdiv_eq_ediv_of_nonneg f0.1, Int.tmod_eq_emod_of_nonneg (by omega)]
  have u1 : fl.tdiv 16384 = fl / 16384 := Int.tdiv_eq_ediv_of_nonneg f0.1
  have u2 : fl.tdiv 8192 = fl / 8192 := Int.tdiv_eq_ediv_of_nonneg f0.1
  have u3 : (fl / 16384).tmod 2 = fl / 16384 % 2 := Int.tmod_eq_emod_of_nonneg (by omega)
  have u4 : (fl / 8192).tmod 2 = fl / 8192 % 2 := Int.tmod_eq_emod_of_nonneg (by omega)
  have u5 : IntKind.i64.wrap (fl / 16384) = fl / 16384 := by rw [IntKind.wrap_i64]; omega
  have u6 : IntKind.i64.wrap (fl / 8192) = fl / 8192 := by rw [IntKind.wrap_i64]; omega
  have u7 : IntKind.i64.wrap (fl / 16384 % 2) = fl / 16384 % 2 := by rw [IntKind.wrap_i64]; omega
  have u8 : IntKind.i64.wrap (fl / 8192 % 2) = fl / 8192 % 2 := by rw [IntKind.wrap_i64]; omega
  obtain ⟨df, hdf⟩ : ∃ df : Bool, decide (fl / 16384 % 2 = 1) = df := ⟨_, rfl⟩
  obtain ⟨mf, hmf⟩ : ∃ mf : Bool, decide (fl / 8192 % 2 = 1) = mf := ⟨_, rfl⟩
  have u9 : (fl / 16384 % 2 == 1) = df := hdf ▸ by by_cases h : fl / 16384 % 2 = 1 <;> simp [h]
  have u10 : (fl / 8192 % 2 == 1) = mf := hmf ▸ by by_cases h : fl / 8192 % 2 = 1 <;> simp [h]
  replace hdf := Lib.hid hdf
  replace hmf := Lib.hid hmf
  have k7 := FB.set 7 (.bool df)
  have c7 := FB.cell 7 _ rfl
  have g7 := FB.frz 7
  have c8 := k7.cell 8 _ rfl
  have g8 := k7.frz 8
  have kc := Lib.hid (k7.set 8 (.bool mf))
  have kzc := Lib.hid ((kz5.far hHz.out 7 (.bool df)).far hHz.out 8 (.bool mf))
  have hbc := Lib.hid ((hB5.setCell (p := ⟨H, 7, none⟩) hHw.out (.bool df)).setCell (p := ⟨H, 8, none⟩) hHw.out (.bool mf))
  have hHl := Lib.hid FB.lt
  clear k7 hd14 hd13
  replace FB := 0
  replace kz5 := 0
  replace hB5 := 0
  go_upto_region 5 with fail
  obtain ⟨w4, hw4⟩ : ∃ w4, (W.setCell ⟨H, 7, none⟩ (.bool df)).setCell ⟨H, 8, none⟩ (.bool mf) = w4 := ⟨_, rfl⟩
  have k4 : Blk w4 H (cells4 ⟨x1, v4, fl % 8192 * 8, x8, x9, v12, v16, df, mf, [], []⟩ none 0 0 none 0 0) 32 := by rw [← hw4]; simpa [rowQ] using kc.out
  have kz4 : Blk w4 w.heap.size zero4c 32 := by rw [← hw4]; exact kzc.out
  have hb4 : Below w.heap.size w w4 := by rw [← hw4]; exact hbc.out
  rw [hw4]
  replace kc := 0
  replace kzc := 0
  replace hbc := 0
  clear hw4 c7 g7 c8 g8 u1 u2 u3 u4 u5 u6 u7 u8 u9 u10
  have hH4 : H < w4.heap.size := k4.lt
  have hdr := hDr.out _ hb4
  have hdd := Lib.hid (fun W (hW : Below w.heap.size w W) => hDd.out _ hW)
  have q1 : (hd' : Int) ≤ c := by omega
  have q2 : (20 : Int) ≤ hd' := by omega
  have q3 : hd' ≤ c := by omega
  have q4 : 20 ≤ hd' := by omega
  have hz1 := Lib.hid (show 0 + (hd' - 20) ≤ 140737488355328 by omega)
  have hz2 := Lib.hid (show 0 + m ≤ 140737488355328 by omega)
  replace k4 := Lib.hid k4
  replace kz4 := Lib.hid kz4
  replace hb4 := Lib.hid hb4
  replace hhd' := 0
  go_cut [] (fun wx => ∃ A3 c3 A6 c6, Blk wx H (cells4 ⟨x1, v4, fl % 8192 * 8, x8, x9, v12, v16, df, mf, [], []⟩ A3 (hd' - 20) c3 A6 m c6) 32 ∧ OB wx w4.heap.size A3 (hd' - 20) c3 ((bs.take hd').drop 20) ∧ OB wx w4.heap.size A6 m c6 ds ∧ Blk wx w.heap.size zero4c 32 ∧ Below w.heap.size w wx)
  case first =>
    by_cases hc20 : c = 20
    · have e0 := Lib.hid (show hd' - 20 = 0 by omega)
      rw [if_pos hc20, show c - 20 = 0 by omega, e0.out] at hdr
      rw [e0.out] at hz1
      subst hc20
      replace hdr := Lib.hid hdr
      go_wp2_with (first
        | (at_builtin; refine wpList_append_bytes _ rfl (.const (.slice none 0 0)) (.tmp 50) rfl rfl rfl (OB.nil _ w4.heap.size) hdr.out hz1.out (Nat.le_refl _) ?_; intro A3 c3 w5 ho5 hg5 hr5; have hB5 := Lib.hid ((Below.refl _ w4).grown hg5 (Nat.le_refl _) (fun k hk => by cases hk)); replace ho5 := Lib.hid ho5; clear hg5 hr5)
        | (at_builtin; refine wpList_append_bytes _ rfl (.const (.slice none 0 0)) (.tmp 52) rfl rfl rfl (OB.nil _ w5.heap.size) (hdd.out _ (hb4.out.trans (hB5.out.mono hb4.out.size))) hz2.out (Nat.le_refl _) ?_; intro A6 c6 w6 ho6 hg6 hr6; have hB6 := Lib.hid ((Below.refl _ w5).grown hg6 (Nat.le_refl _) (fun k hk => by cases hk)); have hB56 := Lib.hid (hB5.out.trans (hB6.out.mono hB5.out.size)); have k6 := k4.out.to hB56.out; have c9 := k6.cell 9 _ rfl; have g9 := k6.frz 9; have k7 := k6.set 9 (.slice A3 (0) c3); have c10 := k7.cell 10 _ rfl; have g10 := k7.frz 10; replace k7 := Lib.hid (k7.set 10 (.slice A6 m c6)); replace ho6 := Lib.hid ho6; clear hg6 hr6 k6)
        | fail)
      go_meet
      rw [e0.out]
      have ho5' := ho5.out
      have ho6' := ho6.out
      rw [Nat.zero_add, List.nil_append] at ho5' ho6'
      have hs5 := hB5.out.size
      exact ⟨A3, c3, A6, c6, by simpa using k7.out, ((ho5'.below hB6.out).set_low hH4 9 _).set_low hH4 10 _, ((ho6'.mono hs5).set_low hH4 9 _).set_low hH4 10 _, ((kz4.out.to hB56.out).far hHz.out 9 _).far hHz.out 10 _, ((hb4.out.trans (hB56.out.mono hb4.out.size)).setCell (p := ⟨H, 9, none⟩) hHw.out _).setCell (p := ⟨H, 10, none⟩) hHw.out _⟩
    · rw [if_neg hc20] at hdr
      replace hdr := Lib.hid hdr
      go_wp2_with (first
        | (at_builtin; refine wpList_append_bytes _ rfl (.const (.slice none 0 0)) (.tmp 50) rfl rfl rfl (OB.nil _ w4.heap.size) hdr.out hz1.out (Nat.le_refl _) ?_; intro A3 c3 w5 ho5 hg5 hr5; have hB5 := Lib.hid ((Below.refl _ w4).grown hg5 (Nat.le_refl _) (fun k hk => by cases hk)); replace ho5 := Lib.hid ho5; clear hg5 hr5)
        | (at_builtin; refine wpList_append_bytes _ rfl (.const (.slice none 0 0)) (.tmp 52) rfl rfl rfl (OB.nil _ w5.heap.size) (hdd.out _ (hb4.out.trans (hB5.out.mono hb4.out.size))) hz2.out (Nat.le_refl _) ?_; intro A6 c6 w6 ho6 hg6 hr6; have hB6 := Lib.hid ((Below.refl _ w5).grown hg6 (Nat.le_refl _) (fun k hk => by cases hk)); have hB56 := Lib.hid (hB5.out.trans (hB6.out.mono hB5.out.size)); have k6 := k4.out.to hB56.out; have c9 := k6.cell 9 _ rfl; have g9 := k6.frz 9; have k7 := k6.set 9 (.slice A3 ((hd' - 20)) c3); have c10 := k7.cell 10 _ rfl; have g10 := k7.frz 10; replace k7 := Lib.hid (k7.set 10 (.slice A6 m c6)); replace ho6 := Lib.hid ho6; clear hg6 hr6 k6)
        | fail)
      go_meet
      skip
      have ho5' := ho5.out
      have ho6' := ho6.out
      rw [Nat.zero_add, List.nil_append] at ho5' ho6'
      have hs5 := hB5.out.size
      exact ⟨A3, c3, A6, c6, by simpa using k7.out, ((ho5'.below hB6.out).set_low hH4 9 _).set_low hH4 10 _, ((ho6'.mono hs5).set_low hH4 9 _).set_low hH4 10 _, ((kz4.out.to hB56.out).far hHz.out 9 _).far hHz.out 10 _, ((hb4.out.trans (hB56.out.mono hb4.out.size)).setCell (p := ⟨H, 9, none⟩) hHw.out _).setCell (p := ⟨H, 10, none⟩) hHw.out _⟩
  case rest =>
    obtain ⟨A3, c3, A6, c6, k6, o6', o7', kZ6, hb6⟩ := hcut
    replace k6 := Lib.hid k6
    replace kZ6 := Lib.hid kZ6
    have hz4 := hb4.out.size
    have q6 := Lib.hid ((o6'.farRow kZ6.out (show 5 ≠ 32 from by decide) (cells4 ⟨x1, v4, fl % 8192 * 8, x8, x9, v12, v16, df, mf, [], []⟩ A3 (hd' - 20) c3 A6 m c6)).mono hz4)
    have q7 := Lib.hid ((o7'.farRow kZ6.out (show 5 ≠ 32 from by decide) (cells4 ⟨x1, v4, fl % 8192 * 8, x8, x9, v12, v16, df, mf, [], []⟩ A3 (hd' - 20) c3 A6 m c6)).mono hz4)
    have hbe := Lib.hid (below_setRow hb6 (Nat.le_refl w.heap.size) (cells4 ⟨x1, v4, fl % 8192 * 8, x8, x9, v12, v16, df, mf, [], []⟩ A3 (hd' - 20) c3 A6 m c6))
    clear o6' o7' hb6 hdr
    go_wp2_with (first
      | (refine wpList_load_4 rfl (.tmp 7) rfl H rfl _ k6.out rfl ?_)
      | (refine wpList_store_4 rfl (.tmp 4) (.tmp 56) rfl w.heap.size (cells4 ⟨x1, v4, fl % 8192 * 8, x8, x9, v12, v16, df, mf, [], []⟩ A3 (hd' - 20) c3 A6 m c6) rfl rfl _ kZ6.out rfl rfl (one4 _ _ _ _ _ _ _) ?_)
      | fail)
    refine bodyPost_ret (results_c Try.results52 rfl (run_load_4 (Blk.mk (setRow_heap _ _ _ _ _ _ kZ6.out.at_)) rfl)) rfl ?_
    rw [hdf.out, hmf.out]
    exact ⟨A3, c3, A6, c6, rfl, q6.out, q7.out, hbe.out⟩
end Go.Proofs.Ytmbmmpbfmakfbaa
