/- Packets of IPv4 (the reference): read, Parse, Quoted. -/
import Derived.Test.YtmbmmpbfmakfbaaV4G
import Derived.Test.YtmbmmpbfmakfbaaV4L
import Derived.Test.YtmbmmpbfmakfbaaV4R
set_option linter.unusedVariables false
namespace Go.Proofs.Ytmbmmpbfmakfbaa
open Go Go.RowKit

set_option maxRecDepth 100000 in
set_option maxHeartbeats 4000000 in
theorem RefRead4_any (A : Option Addr) (n c : Nat) (bs : List Int) (q : Bool) (w : World) (hr : RB w A n c bs) (hn : n ≤ 100000) :
    Calls Try.prog 27 #[.slice A n c, .bool q] w (V4Out w (readV4 q bs) (codeV4 q bs)) := by
  have hb0 := Lib.hid ((Below.refl _ w).alloc (Nat.le_refl _) (.cells zero4c 32))
  have kZ := Lib.hid (Blk.new w zero4c 32)
  have hlen := hr.len
  have hno := Lib.hid (fun k w' => @V4Out.no w w' q bs k)
  by_cases h20 : n < 20
  · have hk : codeO q bs = 3 := by unfold codeO; rw [hlen, if_pos h20]
    have hcv := Lib.hid (show codeV4 q bs = 3 by unfold codeV4; rw [if_pos (by omega), hk])
    have d1 : decide ((n : Int) < 20) = true := decide_eq_true (by omega)
    clear hr hlen hk
    go_enter Try.func27, Try.ntmps27
    go_wp2_with (first
      | (refine wpList_store_4 rfl (.tmp 4) (.tmp 12) rfl w.heap.size zero4c rfl rfl _ kZ.out rfl rfl (one4 zero4 none 0 0 none 0 0) ?_; rw [setRow_self _ _ _ _ _ kZ.out.at_])
      | fail)
    refine bodyPost_ret (results_ct Try.results27 rfl (run_load_4 kZ.out rfl)) rfl ?_
    exact hno.out _ _ hcv.out (by decide) hb0.out
  have d1 : decide ((n : Int) < 20) = false := decide_eq_false (by omega)
  obtain ⟨b, off, rfl, hbl, hc⟩ := hr.mem (by omega)
  have hc0 := hc 0 (by omega)
  rw [Nat.add_zero] at hc0
  have hx0 := hr.byt.get 0
  have hhd := hd4_nat hr.byt
  have hs2 := getV2_in hr.byt 2
  have hs6 := getV2_in hr.byt 6
  have hnc := hr.nc
  have hcode : codeV4 q bs = if bs[0]?.getD 0 / 16 ≠ 4 ∨ hd4 bs < 20 then 4 else if n < hd4 bs ∨ ((n : Int) < sz4 bs ∧ q = false) then 3 else if sz4 bs < hd4 bs ∨ 32768 ≤ (getV bs 6 2).1 then 4 else if q = true then 0 else if (foldI (totalI [bs.take (hd4 bs)]) == 65535) = false then 5 else if chk4 (pack4 bs) ≠ 0 then 4 else 0 := by
    have e : codeO q bs = if bs[0]?.getD 0 / 16 ≠ 4 ∨ hd4 bs < 20 then 4 else if n < hd4 bs ∨ ((n : Int) < sz4 bs ∧ q = false) then 3 else if sz4 bs < hd4 bs ∨ 32768 ≤ (getV bs 6 2).1 then 4 else 0 := by
      unfold codeO; rw [hlen, if_neg h20]; rfl
    unfold codeV4
    rw [e]
    by_cases h1 : bs[0]?.getD 0 / 16 ≠ 4 ∨ hd4 bs < 20
    · rw [if_pos h1, if_pos (show (4 : Int) ≠ 0 by decide), if_pos h1]
    rw [if_neg h1, if_neg h1]
    by_cases h2 : n < hd4 bs ∨ ((n : Int) < sz4 bs ∧ q = false)
    · rw [if_pos h2, if_pos (show (3 : Int) ≠ 0 by decide), if_pos h2]
    rw [if_neg h2, if_neg h2]
    by_cases h3 : sz4 bs < hd4 bs ∨ 32768 ≤ (getV bs 6 2).1
    · rw [if_pos h3, if_pos (show (4 : Int) ≠ 0 by decide), if_pos h3]
    rw [if_neg h3, if_neg h3, if_neg (show ¬ (0 : Int) ≠ 0 by decide)]
  have hN := Lib.hid (fun a s W (hW : Below w.heap.size w W) => RefNum05_any (some ⟨b, off, none⟩) n c bs a s W (hr.below hW) hn)
  have hN2 := fun W hW => hN.out 2 2 W hW
  rw [show (getV bs 2 2).1 = sz4 bs from rfl] at hN2
  have hN6 := Lib.hid (fun W hW => hN.out 6 2 W hW)
  replace hN2 := Lib.hid hN2
  have hF := Lib.hid (fun D m k ds W (hW : Below w.heap.size w W) (hd : RB W D m k ds) (hm : m ≤ 100000) (h1 : 20 ≤ hd4 bs) (h2 : hd4 bs ≤ n) => RefFields4_any b off n c bs D m k ds W (hr.below hW) hd hn hm (by omega) h1 h2 (Nat.lt_of_lt_of_le hbl hW.size))
  have hend : end4 bs = min (sz4 bs).toNat n := by unfold end4; rw [hlen]
  have hsm := Lib.hid (fun (h : hd4 bs ≤ n) => small_one (hr.byt.take (hd4 bs)) (by rw [List.length_take]; omega))
  have hR := Lib.hid (fun W (hW : Below w.heap.size w W) => hr.below hW)
  have hpd : ({ pack4 bs with data := (bs.take (end4 bs)).drop (hd4 bs) } : V4P) = pack4 bs := rfl
  have hpo : ((bs.take (end4 bs)).drop (hd4 bs)) = (pack4 bs).data := rfl
  have hdl : ∀ h : hd4 bs ≤ n, (pack4 bs).data.length ≤ 100000 ∧ (pack4 bs).opts.length ≤ 100000 := fun h => by
    unfold pack4; simp only [List.length_drop, List.length_take]; omega
  have hfin := Lib.hid (fun w' B old Ao no co A n c => @V4Out.yes w w' q bs B old Ao no co A n c)
  rw [show (getV bs 2 2).1 = sz4 bs from rfl] at hs2
  obtain ⟨cv, hcv⟩ : ∃ cv, codeV4 q bs = cv := ⟨_, rfl⟩
  rw [hcv] at hno hfin hcode ⊢
  clear hcv hlen
  obtain ⟨pk, hpk⟩ : ∃ pk, pack4 bs = pk := ⟨_, rfl⟩
  rw [hpk] at hpd hpo hfin hcode hdl hF
  clear hpk
  generalize (getV bs 6 2).1 = fl at *
  generalize hd4 bs = hd at *
  generalize sz4 bs = sz at *
  generalize end4 bs = en at *
  generalize bs[0]?.getD 0 = x0 at *
  have t0 : x0.tmod 16 = x0 % 16 := Int.tmod_eq_emod_of_nonneg hx0.1
  have t1 : IntKind.u8.wrap (x0 % 16) = x0 % 16 := by rw [IntKind.wrap_u8]; omega
  have t2 : IntKind.i64.wrap (x0 % 16) = x0 % 16 := by rw [IntKind.wrap_i64]; omega
  have t3 : IntKind.i64.wrap (x0 % 16 * 4) = x0 % 16 * 4 := by rw [IntKind.wrap_i64]; omega
  have t4 : x0.tdiv 16 = x0 / 16 := Int.tdiv_eq_ediv_of_nonneg hx0.1
  have t5 : IntKind.u8.wrap (x0 / 16) = x0 / 16 := by rw [IntKind.wrap_u8]; omega
  have i0 : (0 : Int) < n := by omega
  have j0 : 0 < n := by omega
  obtain ⟨w0, hw0⟩ : ∃ w0, w.alloc (.cells zero4c 32) = w0 := ⟨_, rfl⟩
  have kZ0 : Blk w0 w.heap.size zero4c 32 := by rw [← hw0]; exact kZ.out
  have hb00 : Below w.heap.size w w0 := by rw [← hw0]; exact hb0.out
  have hK := Lib.hid (show ∀ W W', (fun W => Below w0.heap.size w0 W) W → Below W.heap.size W W' → (fun W => Below w0.heap.size w0 W) W' from fun W W' h1 h2 => h1.trans (h2.mono h1.size))
  have hC1 := Lib.hid (show ∀ W, (fun W => Below w0.heap.size w0 W) W → W.cell? ⟨b, off, none⟩ = some (.int .u8 x0) ∧ True ∧ True from fun W hW => ⟨((hb00.trans (hW.mono hb00.size)).cell (p := ⟨b, off, none⟩) hbl).trans hc0, trivial, trivial⟩)
  have hw0' := Lib.hid hw0
  have hbW := Lib.hid (fun W (hW : Below w0.heap.size w0 W) => hb00.trans (hW.mono hb00.size))
  have hhd' := Lib.hid hhd
  replace hcode := Lib.hid hcode
  replace hpd := Lib.hid hpd
  replace hpo := Lib.hid hpo
  replace hdl := Lib.hid hdl
  replace hend := Lib.hid hend
  clear hw0 hr hhd hc
  go_enter Try.func27, Try.ntmps27
  go_upto_region 3 with fail
  rw [hw0'.out]
  try simp only [Act.put]
  refine wp_region_tame (fun W => Below w0.heap.size w0 W) (by kernel_rfl) (by kernel_rfl) (Below.refl _ w0).drew ?_
  repeat (first
    | (refine tameL_skip rfl ?_; simp only [Act.put, List.setIfInBounds_toArray, List.set_cons_zero, List.set_cons_succ])
    | (refine tameL_call3 (v := .int .i64 sz) rfl 51 (.tmp 19) (.const (.int .i64 2)) (.const (.int .i64 2)) _ rfl en_R05num rfl rfl rfl ?_ ?_; exact fun W hS => (toB (hN2.out W (hbW.out W hS))).mono fun e W' ⟨he, hb⟩ => ⟨he, hK.out W W' hS hb⟩; simp only [Act.put, List.setIfInBounds_toArray, List.set_cons_zero, List.set_cons_succ])
    | (refine tameL_val (v := ?_) rfl (fun W hS => ?_) ?_; rotate_left; (· (obtain ⟨g0, g1, g2⟩ := hC1.out W hS; clear hS; go_simp; try with_reducible rfl)); simp only [Act.put, List.setIfInBounds_toArray, List.set_cons_zero, List.set_cons_succ]))
  refine tameL_nil fun w3 hS => ?_
  have hb3 := hbW.out w3 hS
  have kZ3 := kZ0.to hS
  have hcb := (hC1.out w3 hS).1
  rw [← hhd'.out]
  replace hb3 := Lib.hid hb3
  replace kZ3 := Lib.hid kZ3
  replace hC1 := 0
  replace hK := 0
  clear hS kZ0 hb00 hc0
  by_cases c4 : x0 / 16 = 4
  rotate_left
  · have hne : (x0 / 16 != 4) = true := by simpa using c4
    have hk := Lib.hid (show cv = 4 by rw [hcode.out]; rw [if_pos (Or.inl c4)])
    go_wp2_with (first
      | (go_at_call 51; refine (hN6.out _ hb3.out).mono ?_; rintro e w' ⟨rfl, rfl⟩)
      | (refine wpList_store_4 rfl (.tmp 4) (.tmp 31) rfl w.heap.size zero4c rfl rfl _ kZ3.out rfl rfl (one4 zero4 none 0 0 none 0 0) ?_; rw [setRow_self _ _ _ _ _ kZ3.out.at_])
      | fail)
    refine bodyPost_ret (results_ct Try.results27 rfl (run_load_4 kZ3.out rfl)) rfl ?_
    exact hno.out _ _ hk.out (by decide) hb3.out
  have hne : (x0 / 16 != 4) = false := by simpa using c4
  have hc4 := Lib.hid c4
  clear c4
  by_cases c5 : hd < 20
  · have d5 : decide ((hd : Int) < 20) = true := decide_eq_true (by omega)
    have hk := Lib.hid (show cv = 4 by rw [hcode.out]; rw [if_pos (Or.inr c5)])
    go_wp2_with (first
      | (go_at_call 51; refine (hN6.out _ hb3.out).mono ?_; rintro e w' ⟨rfl, rfl⟩)
      | (refine wpList_store_4 rfl (.tmp 4) (.tmp 31) rfl w.heap.size zero4c rfl rfl _ kZ3.out rfl rfl (one4 zero4 none 0 0 none 0 0) ?_; rw [setRow_self _ _ _ _ _ kZ3.out.at_])
      | fail)
    refine bodyPost_ret (results_ct Try.results27 rfl (run_load_4 kZ3.out rfl)) rfl ?_
    exact hno.out _ _ hk.out (by decide) hb3.out
  have d5 : decide ((hd : Int) < 20) = false := decide_eq_false (by omega)
  have hor1 := Lib.hid (show ¬ (x0 / 16 ≠ 4 ∨ hd < 20) from fun h => by rcases h with h | h; exact h hc4.out; exact c5 h)
  by_cases c6 : n < hd
  · have d6 : decide ((n : Int) < (hd : Int)) = true := decide_eq_true (by omega)
    have hk := Lib.hid (show cv = 3 by rw [hcode.out]; rw [if_neg hor1.out, if_pos (Or.inl c6)])
    go_wp2_with (first
      | (go_at_call 51; refine (hN6.out _ hb3.out).mono ?_; rintro e w' ⟨rfl, rfl⟩)
      | (refine wpList_store_4 rfl (.tmp 4) (.tmp 47) rfl w.heap.size zero4c rfl rfl _ kZ3.out rfl rfl (one4 zero4 none 0 0 none 0 0) ?_; rw [setRow_self _ _ _ _ _ kZ3.out.at_])
      | fail)
    refine bodyPost_ret (results_ct Try.results27 rfl (run_load_4 kZ3.out rfl)) rfl ?_
    exact hno.out _ _ hk.out (by decide) hb3.out
  have d6 : decide ((n : Int) < (hd : Int)) = false := decide_eq_false (by omega)
  have d6n : decide (n < hd) = false := decide_eq_false c6
  by_cases c7 : (n : Int) < sz ∧ q = false
  · obtain ⟨c7a, rfl⟩ := c7
    have d7 : decide ((n : Int) < sz) = true := decide_eq_true c7a
    have hk := Lib.hid (show cv = 3 by rw [hcode.out]; rw [if_neg hor1.out, if_pos (Or.inr ⟨c7a, rfl⟩)])
    go_wp2_with (first
      | (go_at_call 51; refine (hN6.out _ hb3.out).mono ?_; rintro e w' ⟨rfl, rfl⟩)
      | (refine wpList_store_4 rfl (.tmp 4) (.tmp 47) rfl w.heap.size zero4c rfl rfl _ kZ3.out rfl rfl (one4 zero4 none 0 0 none 0 0) ?_; rw [setRow_self _ _ _ _ _ kZ3.out.at_])
      | fail)
    refine bodyPost_ret (results_ct Try.results27 rfl (run_load_4 kZ3.out rfl)) rfl ?_
    exact hno.out _ _ hk.out (by decide) hb3.out
  have hor2 := Lib.hid (show ¬ (n < hd ∨ (n : Int) < sz ∧ q = false) from fun h => by rcases h with h | h; exact c6 h; exact c7 h)
  cases q
  · have h7 : ¬ (n : Int) < sz := fun h => c7 ⟨h, rfl⟩
    have d7 : decide ((n : Int) < sz) = false := decide_eq_false h7
    have h7' := Lib.hid h7
    clear c7 h7
    by_cases c8 : sz < hd
    · have d8 : decide (sz < (hd : Int)) = true := decide_eq_true c8
      have hk := Lib.hid (show cv = 4 by rw [hcode.out]; rw [if_neg hor1.out, if_neg hor2.out, if_pos (Or.inl c8)])
      go_wp2_with (first
        | (go_at_call 51; refine (hN6.out _ hb3.out).mono ?_; rintro e w' ⟨rfl, rfl⟩)
        | (refine wpList_store_4 rfl (.tmp 4) (.tmp 57) rfl w.heap.size zero4c rfl rfl _ kZ3.out rfl rfl (one4 zero4 none 0 0 none 0 0) ?_; rw [setRow_self _ _ _ _ _ kZ3.out.at_])
        | fail)
      refine bodyPost_ret (results_ct Try.results27 rfl (run_load_4 kZ3.out rfl)) rfl ?_
      exact hno.out _ _ hk.out (by decide) hb3.out
    have d8 : decide (sz < (hd : Int)) = false := decide_eq_false c8
    by_cases c9 : 32768 ≤ fl
    · have d9 : decide ((32768 : Int) ≤ fl) = true := decide_eq_true c9
      have hk := Lib.hid (show cv = 4 by rw [hcode.out]; rw [if_neg hor1.out, if_neg hor2.out, if_pos (Or.inr c9)])
      go_wp2_with (first
        | (go_at_call 51; refine (hN6.out _ hb3.out).mono ?_; rintro e w' ⟨rfl, rfl⟩)
        | (refine wpList_store_4 rfl (.tmp 4) (.tmp 57) rfl w.heap.size zero4c rfl rfl _ kZ3.out rfl rfl (one4 zero4 none 0 0 none 0 0) ?_; rw [setRow_self _ _ _ _ _ kZ3.out.at_])
        | fail)
      refine bodyPost_ret (results_ct Try.results27 rfl (run_load_4 kZ3.out rfl)) rfl ?_
      exact hno.out _ _ hk.out (by decide) hb3.out
    have d9 : decide ((32768 : Int) ≤ fl) = false := decide_eq_false c9
    have hcode4 := Lib.hid (hcode.out.trans ((if_neg hor1.out).trans ((if_neg hor2.out).trans (if_neg (show ¬ (sz < (hd : Int) ∨ 32768 ≤ fl) from fun h => by rcases h with h | h; exact c8 h; exact c9 h)))))
    go_upto_region 10 with (first
      | (go_at_call 51; refine (hN6.out _ hb3.out).mono ?_; rintro e w' ⟨rfl, rfl⟩)
      | fail)
    have hcode5 := Lib.hid (show cv = if (foldI (totalI [bs.take hd]) == 65535) = false then 5 else if chk4 pk ≠ 0 then 4 else 0 from hcode4.out)
    obtain ⟨qb, hqe⟩ : ∃ qb : Bool, (foldI (totalI [bs.take hd]) == 65535) = qb := ⟨_, rfl⟩
    have hcode6 := hcode5.out
    rw [hqe] at hcode6
    have hqq := Lib.hid hqe
    have hrr := Lib.hid (rbb_one ((hR.out _ hb3.out).first_ (show hd ≤ n by omega)))
    have hsm' := Lib.hid (hsm.out (by omega))
    have hbx := Lib.hid (hb3.out.alloc hb3.out.size (.cells #[.slice (some ⟨b, off, none⟩) hd c] 24))
    have i1 : (hd : Int) ≤ c := by omega
    have i2 : hd ≤ c := by omega
    replace hcode6 := Lib.hid hcode6
    clear hqe
    cases qb
    · have h5 := Lib.hid (show cv = 5 from hcode6.out)
      go_wp2_with (first
        | (refine wpList_store_4 rfl (.tmp 4) (.tmp 69) rfl w.heap.size zero4c rfl rfl _ kZ5.out rfl rfl (one4 zero4 none 0 0 none 0 0) ?_; rw [setRow_self _ _ _ _ _ kZ5.out.at_])
        | (go_at_call 29; refine (RefRight_any _ 1 1 [bs.take hd] _ hrr.out hsm'.out).mono ?_; rintro e w5 ⟨rfl, hB5⟩; rw [hqq.out]; have hb5 := Lib.hid (hbx.out.trans (hB5.mono hbx.out.size)); have kZ5 := Lib.hid ((kZ3.out.alloc (.cells #[.slice (some ⟨b, off, none⟩) hd c] 24)).to hB5); replace hB5 := 0)
        | fail)
      refine bodyPost_ret (results_ct Try.results27 rfl (run_load_4 kZ5.out rfl)) rfl ?_
      exact hno.out _ _ h5.out (by decide) hb5.out
    · have hcode2 := Lib.hid (show cv = if chk4 pk ≠ 0 then 4 else 0 from hcode6.out)
      go_upto_region 12 with (first
        | (go_at_call 29; refine (RefRight_any _ 1 1 [bs.take hd] _ hrr.out hsm'.out).mono ?_; rintro e w5 ⟨rfl, hB5⟩; rw [hqq.out]; have hb5 := Lib.hid (hbx.out.trans (hB5.mono hbx.out.size)); have kZ5 := Lib.hid ((kZ3.out.alloc (.cells #[.slice (some ⟨b, off, none⟩) hd c] 24)).to hB5); replace hB5 := 0)
        | fail)
      replace hrr := 0
      replace hbx := 0
      replace hsm' := 0
      have hen := hend.out
      have h7'' := h7'.out
      have j1 : (hd : Int) ≤ en := by omega
      have j2 : (en : Int) ≤ c := by omega
      have j3 : en ≤ c := by omega
      have j4 : hd ≤ en := by omega
      have q5 := Lib.hid (show 20 ≤ hd by omega)
      have q6 := Lib.hid (show hd ≤ n by omega)
      have hdr := ((hR.out _ hb5.out).first_ (show en ≤ n by omega)).drop_any hd j4
      rw [hpo.out] at hdr
      go_upto_region 12 with fail
      go_cut [8] (fun v wx => ∃ H Ao co A' c', v = .pointer (some ⟨H, 0, none⟩) ∧ Blk wx H (cells4 pk Ao (hd - 20) co A' (en - hd) c') 32 ∧ OB wx w.heap.size Ao (hd - 20) co pk.opts ∧ OB wx w.heap.size A' (en - hd) c' pk.data ∧ Blk wx w.heap.size zero4c 32 ∧ Below w.heap.size w wx)
      case first =>
        (obtain rfl : sz.toNat = en := by omega)
        clear hen
        by_cases hchd : c = hd
        · have e0 := Lib.hid (show sz.toNat - hd = 0 by omega)
          rw [if_pos hchd, show c - hd = 0 by omega, e0.out] at hdr
          obtain rfl := hchd.symm
          replace hdr := Lib.hid hdr
          go_wp2_with (first
            | (go_at_call 52; refine (hF.out _ _ _ _ _ hb5.out hdr.out (by omega) q5.out q6.out).mono ?_; rintro e w6 ⟨Ao, co, A', c', rfl, ho6, hd6, hB6⟩; have hz6 := hb5.out.size; have hb6 := hb5.out.trans (hB6.mono hz6); have kZ6 := (kZ5.out.to hB6).alloc (.cells (cells4 pk Ao (hd - 20) co A' (0) c') 32); have k6 := Blk.new w6 (cells4 pk Ao (hd - 20) co A' (0) c') 32; have hb7 := hb6.alloc hb6.size (.cells (cells4 pk Ao (hd - 20) co A' (0) c') 32); have ho7 := (ho6.mono hz6).alloc (.cells (cells4 pk Ao (hd - 20) co A' (0) c') 32); have hd7 := (hd6.mono hz6).alloc (.cells (cells4 pk Ao (hd - 20) co A' (0) c') 32); clear ho6 hd6 hB6 hz6 hb6; replace kZ6 := Lib.hid kZ6; replace k6 := Lib.hid k6; replace hb7 := Lib.hid hb7; replace ho7 := Lib.hid ho7; replace hd7 := Lib.hid hd7)
            | (refine wpList_store_4 rfl (.tmp 8) (.tmp 78) rfl w6.heap.size (cells4 pk Ao (hd - 20) co A' (0) c') rfl rfl _ (Blk.new _ zero4c 32) rfl rfl (one4 _ _ _ _ _ _ _) ?_; rw [World.setRow_alloc_new])
            | fail)
          go_meet
          rw [e0.out]
          exact ⟨_, Ao, co, A', c', rfl, k6.out, ho7.out, hd7.out, kZ6.out, hb7.out⟩
        · rw [if_neg hchd] at hdr
          replace hdr := Lib.hid hdr
          go_wp2_with (first
            | (go_at_call 52; refine (hF.out _ _ _ _ _ hb5.out hdr.out (by omega) q5.out q6.out).mono ?_; rintro e w6 ⟨Ao, co, A', c', rfl, ho6, hd6, hB6⟩; have hz6 := hb5.out.size; have hb6 := hb5.out.trans (hB6.mono hz6); have kZ6 := (kZ5.out.to hB6).alloc (.cells (cells4 pk Ao (hd - 20) co A' (sz.toNat - hd) c') 32); have k6 := Blk.new w6 (cells4 pk Ao (hd - 20) co A' (sz.toNat - hd) c') 32; have hb7 := hb6.alloc hb6.size (.cells (cells4 pk Ao (hd - 20) co A' (sz.toNat - hd) c') 32); have ho7 := (ho6.mono hz6).alloc (.cells (cells4 pk Ao (hd - 20) co A' (sz.toNat - hd) c') 32); have hd7 := (hd6.mono hz6).alloc (.cells (cells4 pk Ao (hd - 20) co A' (sz.toNat - hd) c') 32); clear ho6 hd6 hB6 hz6 hb6; replace kZ6 := Lib.hid kZ6; replace k6 := Lib.hid k6; replace hb7 := Lib.hid hb7; replace ho7 := Lib.hid ho7; replace hd7 := Lib.hid hd7)
            | (refine wpList_store_4 rfl (.tmp 8) (.tmp 78) rfl w6.heap.size (cells4 pk Ao (hd - 20) co A' (sz.toNat - hd) c') rfl rfl _ (Blk.new _ zero4c 32) rfl rfl (one4 _ _ _ _ _ _ _) ?_; rw [World.setRow_alloc_new])
            | fail)
          go_meet
          skip
          exact ⟨_, Ao, co, A', c', rfl, k6.out, ho7.out, hd7.out, kZ6.out, hb7.out⟩
      case rest =>
      obtain ⟨H, Ao, co, A', c', rfl, k8, ho8, hd8, kZ8, hb8⟩ := hcut
      obtain ⟨w8, rfl⟩ : ∃ w8, w8 = wc := ⟨_, rfl⟩
      clear hen hdr h7''
      replace k8 := Lib.hid k8
      replace ho8 := Lib.hid ho8
      replace hd8 := Lib.hid hd8
      replace kZ8 := Lib.hid kZ8
      replace hb8 := Lib.hid hb8
      have hol := ho8.out.len
      have hml := hd8.out.len
      have hdl2 := hdl.out (by omega)
      have hck : chk4 pk = checkV4 pk (hd - 20) (en - hd) := by unfold chk4; rw [hol, hml]
      rw [hol, hml] at hdl2
      have hK := fun W => RefCheck4_any pk Ao (hd - 20) co A' (en - hd) c' W hdl2.2 hdl2.1
      have hcode3 := hcode2.out
      rw [hck] at hcode3
      obtain ⟨ck, hcke⟩ : ∃ ck, checkV4 pk (hd - 20) (en - hd) = ck := ⟨_, rfl⟩
      rw [hcke] at hK hcode3
      replace hK := Lib.hid hK
      replace hcode3 := Lib.hid hcode3
      clear hck hcke hol hml hdl2
      by_cases hc : ck = 0
      · have h0 := Lib.hid (show cv = 0 by rw [hcode3.out, if_neg (by omega)])
        subst hc
        go_wp2_with (first
          | (refine wpList_load_4 (by rfl) (.tmp 8) rfl H rfl _ k9.out rfl ?_)
          | (refine wpList_load_4 (by rfl) (.tmp 8) rfl H rfl _ k8.out rfl ?_)
          | (refine wpList_store_4 rfl (.tmp 4) (.tmp 87) rfl w.heap.size (cells4 pk Ao (hd - 20) co A' (en - hd) c') rfl rfl _ kZ9.out rfl rfl (one4 _ _ _ _ _ _ _) ?_)
          | (go_at_call 41; refine (hK.out _).mono ?_; rintro e w9 ⟨rfl, hB9⟩; have k9 := Lib.hid (k8.out.to hB9); have kZ9 := Lib.hid (kZ8.out.to hB9); have ho9 := Lib.hid (ho8.out.below hB9); have hd9 := Lib.hid (hd8.out.below hB9); have hb9 := Lib.hid (hb8.out.trans (hB9.mono hb8.out.size)); replace hB9 := 0)
          | fail)
        refine bodyPost_ret (results_ct Try.results27 rfl (run_load_4 (Blk.mk (setRow_heap _ _ _ _ _ _ kZ9.out.at_)) rfl)) rfl ?_
        exact hfin.out _ _ _ _ _ _ _ _ _ h0.out kZ9.out (Nat.le_refl _) ho9.out hd9.out hb9.out
      · have h4 := Lib.hid (show cv = 4 by rw [hcode3.out, if_pos hc])
        have hcn : (ck != 0) = true := by simpa using hc
        go_wp2_with (first
          | (refine wpList_load_4 (by rfl) (.tmp 8) rfl H rfl _ k8.out rfl ?_)
          | (refine wpList_store_4 rfl (.tmp 4) (.tmp 86) rfl w.heap.size zero4c rfl rfl _ kZ9.out rfl rfl (one4 zero4 none 0 0 none 0 0) ?_; rw [setRow_self _ _ _ _ _ kZ9.out.at_])
          | (go_at_call 41; refine (hK.out _).mono ?_; rintro e w9 ⟨rfl, hB9⟩; have kZ9 := Lib.hid (kZ8.out.to hB9); have hb9 := Lib.hid (hb8.out.trans (hB9.mono hb8.out.size)); replace hB9 := 0)
          | fail)
        refine bodyPost_ret (results_ct Try.results27 rfl (run_load_4 kZ9.out rfl)) rfl ?_
        exact hno.out _ _ h4.out (by decide) hb9.out
  · clear c7
    by_cases h7 : (n : Int) < sz
    · have d7 : decide ((n : Int) < sz) = true := decide_eq_true h7
      have h7' := Lib.hid h7
      clear h7
      by_cases c8 : sz < hd
      · have d8 : decide (sz < (hd : Int)) = true := decide_eq_true c8
        have hk := Lib.hid (show cv = 4 by rw [hcode.out]; rw [if_neg hor1.out, if_neg hor2.out, if_pos (Or.inl c8)])
        go_wp2_with (first
          | (go_at_call 51; refine (hN6.out _ hb3.out).mono ?_; rintro e w' ⟨rfl, rfl⟩)
          | (refine wpList_store_4 rfl (.tmp 4) (.tmp 57) rfl w.heap.size zero4c rfl rfl _ kZ3.out rfl rfl (one4 zero4 none 0 0 none 0 0) ?_; rw [setRow_self _ _ _ _ _ kZ3.out.at_])
          | fail)
        refine bodyPost_ret (results_ct Try.results27 rfl (run_load_4 kZ3.out rfl)) rfl ?_
        exact hno.out _ _ hk.out (by decide) hb3.out
      have d8 : decide (sz < (hd : Int)) = false := decide_eq_false c8
      by_cases c9 : 32768 ≤ fl
      · have d9 : decide ((32768 : Int) ≤ fl) = true := decide_eq_true c9
        have hk := Lib.hid (show cv = 4 by rw [hcode.out]; rw [if_neg hor1.out, if_neg hor2.out, if_pos (Or.inr c9)])
        go_wp2_with (first
          | (go_at_call 51; refine (hN6.out _ hb3.out).mono ?_; rintro e w' ⟨rfl, rfl⟩)
          | (refine wpList_store_4 rfl (.tmp 4) (.tmp 57) rfl w.heap.size zero4c rfl rfl _ kZ3.out rfl rfl (one4 zero4 none 0 0 none 0 0) ?_; rw [setRow_self _ _ _ _ _ kZ3.out.at_])
          | fail)
        refine bodyPost_ret (results_ct Try.results27 rfl (run_load_4 kZ3.out rfl)) rfl ?_
        exact hno.out _ _ hk.out (by decide) hb3.out
      have d9 : decide ((32768 : Int) ≤ fl) = false := decide_eq_false c9
      have hcode4 := Lib.hid (hcode.out.trans ((if_neg hor1.out).trans ((if_neg hor2.out).trans (if_neg (show ¬ (sz < (hd : Int) ∨ 32768 ≤ fl) from fun h => by rcases h with h | h; exact c8 h; exact c9 h)))))
      go_upto_region 10 with (first
        | (go_at_call 51; refine (hN6.out _ hb3.out).mono ?_; rintro e w' ⟨rfl, rfl⟩)
        | fail)
      have hcode5 := Lib.hid (show cv = 0 from hcode4.out)
      have hen := hend.out
      have h7'' := h7'.out
      have j1 : (hd : Int) ≤ en := by omega
      have j2 : (en : Int) ≤ c := by omega
      have j3 : en ≤ c := by omega
      have j4 : hd ≤ en := by omega
      have q5 := Lib.hid (show 20 ≤ hd by omega)
      have q6 := Lib.hid (show hd ≤ n by omega)
      have hdr := ((hR.out _ hb3.out).first_ (show en ≤ n by omega)).drop_any hd j4
      rw [hpo.out] at hdr
      go_upto_region 12 with fail
      go_cut [8] (fun v wx => ∃ H Ao co A' c', v = .pointer (some ⟨H, 0, none⟩) ∧ Blk wx H (cells4 pk Ao (hd - 20) co A' (en - hd) c') 32 ∧ OB wx w.heap.size Ao (hd - 20) co pk.opts ∧ OB wx w.heap.size A' (en - hd) c' pk.data ∧ Blk wx w.heap.size zero4c 32 ∧ Below w.heap.size w wx)
      case first =>
        (obtain rfl : n = en := by omega)
        clear hen
        by_cases hchd : c = hd
        · have e0 := Lib.hid (show n - hd = 0 by omega)
          rw [if_pos hchd, show c - hd = 0 by omega, e0.out] at hdr
          obtain rfl := hchd.symm
          replace hdr := Lib.hid hdr
          go_wp2_with (first
            | (go_at_call 52; refine (hF.out _ _ _ _ _ hb3.out hdr.out (by omega) q5.out q6.out).mono ?_; rintro e w6 ⟨Ao, co, A', c', rfl, ho6, hd6, hB6⟩; have hz6 := hb3.out.size; have hb6 := hb3.out.trans (hB6.mono hz6); have kZ6 := (kZ3.out.to hB6).alloc (.cells (cells4 pk Ao (hd - 20) co A' (0) c') 32); have k6 := Blk.new w6 (cells4 pk Ao (hd - 20) co A' (0) c') 32; have hb7 := hb6.alloc hb6.size (.cells (cells4 pk Ao (hd - 20) co A' (0) c') 32); have ho7 := (ho6.mono hz6).alloc (.cells (cells4 pk Ao (hd - 20) co A' (0) c') 32); have hd7 := (hd6.mono hz6).alloc (.cells (cells4 pk Ao (hd - 20) co A' (0) c') 32); clear ho6 hd6 hB6 hz6 hb6; replace kZ6 := Lib.hid kZ6; replace k6 := Lib.hid k6; replace hb7 := Lib.hid hb7; replace ho7 := Lib.hid ho7; replace hd7 := Lib.hid hd7)
            | (refine wpList_store_4 rfl (.tmp 8) (.tmp 78) rfl w6.heap.size (cells4 pk Ao (hd - 20) co A' (0) c') rfl rfl _ (Blk.new _ zero4c 32) rfl rfl (one4 _ _ _ _ _ _ _) ?_; rw [World.setRow_alloc_new])
            | fail)
          go_meet
          rw [e0.out]
          exact ⟨_, Ao, co, A', c', rfl, k6.out, ho7.out, hd7.out, kZ6.out, hb7.out⟩
        · rw [if_neg hchd] at hdr
          replace hdr := Lib.hid hdr
          go_wp2_with (first
            | (go_at_call 52; refine (hF.out _ _ _ _ _ hb3.out hdr.out (by omega) q5.out q6.out).mono ?_; rintro e w6 ⟨Ao, co, A', c', rfl, ho6, hd6, hB6⟩; have hz6 := hb3.out.size; have hb6 := hb3.out.trans (hB6.mono hz6); have kZ6 := (kZ3.out.to hB6).alloc (.cells (cells4 pk Ao (hd - 20) co A' (n - hd) c') 32); have k6 := Blk.new w6 (cells4 pk Ao (hd - 20) co A' (n - hd) c') 32; have hb7 := hb6.alloc hb6.size (.cells (cells4 pk Ao (hd - 20) co A' (n - hd) c') 32); have ho7 := (ho6.mono hz6).alloc (.cells (cells4 pk Ao (hd - 20) co A' (n - hd) c') 32); have hd7 := (hd6.mono hz6).alloc (.cells (cells4 pk Ao (hd - 20) co A' (n - hd) c') 32); clear ho6 hd6 hB6 hz6 hb6; replace kZ6 := Lib.hid kZ6; replace k6 := Lib.hid k6; replace hb7 := Lib.hid hb7; replace ho7 := Lib.hid ho7; replace hd7 := Lib.hid hd7)
            | (refine wpList_store_4 rfl (.tmp 8) (.tmp 78) rfl w6.heap.size (cells4 pk Ao (hd - 20) co A' (n - hd) c') rfl rfl _ (Blk.new _ zero4c 32) rfl rfl (one4 _ _ _ _ _ _ _) ?_; rw [World.setRow_alloc_new])
            | fail)
          go_meet
          skip
          exact ⟨_, Ao, co, A', c', rfl, k6.out, ho7.out, hd7.out, kZ6.out, hb7.out⟩
      case rest =>
      obtain ⟨H, Ao, co, A', c', rfl, k8, ho8, hd8, kZ8, hb8⟩ := hcut
      obtain ⟨w8, rfl⟩ : ∃ w8, w8 = wc := ⟨_, rfl⟩
      clear hen hdr h7''
      replace k8 := Lib.hid k8
      replace ho8 := Lib.hid ho8
      replace hd8 := Lib.hid hd8
      replace kZ8 := Lib.hid kZ8
      replace hb8 := Lib.hid hb8
      go_wp2_with (first
        | (refine wpList_load_4 rfl (.tmp 8) rfl H rfl _ k8.out rfl ?_)
        | (refine wpList_store_4 rfl (.tmp 4) (.tmp 87) rfl w.heap.size (cells4 pk Ao (hd - 20) co A' (en - hd) c') rfl rfl _ kZ8.out rfl rfl (one4 _ _ _ _ _ _ _) ?_)
        | fail)
      refine bodyPost_ret (results_ct Try.results27 rfl (run_load_4 (Blk.mk (setRow_heap _ _ _ _ _ _ kZ8.out.at_)) rfl)) rfl ?_
      exact hfin.out _ _ _ _ _ _ _ _ _ hcode5.out kZ8.out (Nat.le_refl _) ho8.out hd8.out hb8.out
    · have d7 : decide ((n : Int) < sz) = false := decide_eq_false h7
      have h7' := Lib.hid h7
      clear h7
      by_cases c8 : sz < hd
      · have d8 : decide (sz < (hd : Int)) = true := decide_eq_true c8
        have hk := Lib.hid (show cv = 4 by rw [hcode.out]; rw [if_neg hor1.out, if_neg hor2.out, if_pos (Or.inl c8)])
        go_wp2_with (first
          | (go_at_call 51; refine (hN6.out _ hb3.out).mono ?_; rintro e w' ⟨rfl, rfl⟩)
          | (refine wpList_store_4 rfl (.tmp 4) (.tmp 57) rfl w.heap.size zero4c rfl rfl _ kZ3.out rfl rfl (one4 zero4 none 0 0 none 0 0) ?_; rw [setRow_self _ _ _ _ _ kZ3.out.at_])
          | fail)
        refine bodyPost_ret (results_ct Try.results27 rfl (run_load_4 kZ3.out rfl)) rfl ?_
        exact hno.out _ _ hk.out (by decide) hb3.out
      have d8 : decide (sz < (hd : Int)) = false := decide_eq_false c8
      by_cases c9 : 32768 ≤ fl
      · have d9 : decide ((32768 : Int) ≤ fl) = true := decide_eq_true c9
        have hk := Lib.hid (show cv = 4 by rw [hcode.out]; rw [if_neg hor1.out, if_neg hor2.out, if_pos (Or.inr c9)])
        go_wp2_with (first
          | (go_at_call 51; refine (hN6.out _ hb3.out).mono ?_; rintro e w' ⟨rfl, rfl⟩)
          | (refine wpList_store_4 rfl (.tmp 4) (.tmp 57) rfl w.heap.size zero4c rfl rfl _ kZ3.out rfl rfl (one4 zero4 none 0 0 none 0 0) ?_; rw [setRow_self _ _ _ _ _ kZ3.out.at_])
          | fail)
        refine bodyPost_ret (results_ct Try.results27 rfl (run_load_4 kZ3.out rfl)) rfl ?_
        exact hno.out _ _ hk.out (by decide) hb3.out
      have d9 : decide ((32768 : Int) ≤ fl) = false := decide_eq_false c9
      have hcode4 := Lib.hid (hcode.out.trans ((if_neg hor1.out).trans ((if_neg hor2.out).trans (if_neg (show ¬ (sz < (hd : Int) ∨ 32768 ≤ fl) from fun h => by rcases h with h | h; exact c8 h; exact c9 h)))))
      go_upto_region 10 with (first
        | (go_at_call 51; refine (hN6.out _ hb3.out).mono ?_; rintro e w' ⟨rfl, rfl⟩)
        | fail)
      have hcode5 := Lib.hid (show cv = 0 from hcode4.out)
      have hen := hend.out
      have h7'' := h7'.out
      have j1 : (hd : Int) ≤ en := by omega
      have j2 : (en : Int) ≤ c := by omega
      have j3 : en ≤ c := by omega
      have j4 : hd ≤ en := by omega
      have q5 := Lib.hid (show 20 ≤ hd by omega)
      have q6 := Lib.hid (show hd ≤ n by omega)
      have hdr := ((hR.out _ hb3.out).first_ (show en ≤ n by omega)).drop_any hd j4
      rw [hpo.out] at hdr
      go_upto_region 12 with fail
      go_cut [8] (fun v wx => ∃ H Ao co A' c', v = .pointer (some ⟨H, 0, none⟩) ∧ Blk wx H (cells4 pk Ao (hd - 20) co A' (en - hd) c') 32 ∧ OB wx w.heap.size Ao (hd - 20) co pk.opts ∧ OB wx w.heap.size A' (en - hd) c' pk.data ∧ Blk wx w.heap.size zero4c 32 ∧ Below w.heap.size w wx)
      case first =>
        (obtain rfl : sz.toNat = en := by omega)
        clear hen
        by_cases hchd : c = hd
        · have e0 := Lib.hid (show sz.toNat - hd = 0 by omega)
          rw [if_pos hchd, show c - hd = 0 by omega, e0.out] at hdr
          obtain rfl := hchd.symm
          replace hdr := Lib.hid hdr
          go_wp2_with (first
            | (go_at_call 52; refine (hF.out _ _ _ _ _ hb3.out hdr.out (by omega) q5.out q6.out).mono ?_; rintro e w6 ⟨Ao, co, A', c', rfl, ho6, hd6, hB6⟩; have hz6 := hb3.out.size; have hb6 := hb3.out.trans (hB6.mono hz6); have kZ6 := (kZ3.out.to hB6).alloc (.cells (cells4 pk Ao (hd - 20) co A' (0) c') 32); have k6 := Blk.new w6 (cells4 pk Ao (hd - 20) co A' (0) c') 32; have hb7 := hb6.alloc hb6.size (.cells (cells4 pk Ao (hd - 20) co A' (0) c') 32); have ho7 := (ho6.mono hz6).alloc (.cells (cells4 pk Ao (hd - 20) co A' (0) c') 32); have hd7 := (hd6.mono hz6).alloc (.cells (cells4 pk Ao (hd - 20) co A' (0) c') 32); clear ho6 hd6 hB6 hz6 hb6; replace kZ6 := Lib.hid kZ6; replace k6 := Lib.hid k6; replace hb7 := Lib.hid hb7; replace ho7 := Lib.hid ho7; replace hd7 := Lib.hid hd7)
            | (refine wpList_store_4 rfl (.tmp 8) (.tmp 78) rfl w6.heap.size (cells4 pk Ao (hd - 20) co A' (0) c') rfl rfl _ (Blk.new _ zero4c 32) rfl rfl (one4 _ _ _ _ _ _ _) ?_; rw [World.setRow_alloc_new])
            | fail)
          go_meet
          rw [e0.out]
          exact ⟨_, Ao, co, A', c', rfl, k6.out, ho7.out, hd7.out, kZ6.out, hb7.out⟩
        · rw [if_neg hchd] at hdr
          replace hdr := Lib.hid hdr
          go_wp2_with (first
            | (go_at_call 52; refine (hF.out _ _ _ _ _ hb3.out hdr.out (by omega) q5.out q6.out).mono ?_; rintro e w6 ⟨Ao, co, A', c', rfl, ho6, hd6, hB6⟩; have hz6 := hb3.out.size; have hb6 := hb3.out.trans (hB6.mono hz6); have kZ6 := (kZ3.out.to hB6).alloc (.cells (cells4 pk Ao (hd - 20) co A' (sz.toNat - hd) c') 32); have k6 := Blk.new w6 (cells4 pk Ao (hd - 20) co A' (sz.toNat - hd) c') 32; have hb7 := hb6.alloc hb6.size (.cells (cells4 pk Ao (hd - 20) co A' (sz.toNat - hd) c') 32); have ho7 := (ho6.mono hz6).alloc (.cells (cells4 pk Ao (hd - 20) co A' (sz.toNat - hd) c') 32); have hd7 := (hd6.mono hz6).alloc (.cells (cells4 pk Ao (hd - 20) co A' (sz.toNat - hd) c') 32); clear ho6 hd6 hB6 hz6 hb6; replace kZ6 := Lib.hid kZ6; replace k6 := Lib.hid k6; replace hb7 := Lib.hid hb7; replace ho7 := Lib.hid ho7; replace hd7 := Lib.hid hd7)
            | (refine wpList_store_4 rfl (.tmp 8) (.tmp 78) rfl w6.heap.size (cells4 pk Ao (hd - 20) co A' (sz.toNat - hd) c') rfl rfl _ (Blk.new _ zero4c 32) rfl rfl (one4 _ _ _ _ _ _ _) ?_; rw [World.setRow_alloc_new])
            | fail)
          go_meet
          skip
          exact ⟨_, Ao, co, A', c', rfl, k6.out, ho7.out, hd7.out, kZ6.out, hb7.out⟩
      case rest =>
      obtain ⟨H, Ao, co, A', c', rfl, k8, ho8, hd8, kZ8, hb8⟩ := hcut
      obtain ⟨w8, rfl⟩ : ∃ w8, w8 = wc := ⟨_, rfl⟩
      clear hen hdr h7''
      replace k8 := Lib.hid k8
      replace ho8 := Lib.hid ho8
      replace hd8 := Lib.hid hd8
      replace kZ8 := Lib.hid kZ8
      replace hb8 := Lib.hid hb8
      go_wp2_with (first
        | (refine wpList_load_4 rfl (.tmp 8) rfl H rfl _ k8.out rfl ?_)
        | (refine wpList_store_4 rfl (.tmp 4) (.tmp 87) rfl w.heap.size (cells4 pk Ao (hd - 20) co A' (en - hd) c') rfl rfl _ kZ8.out rfl rfl (one4 _ _ _ _ _ _ _) ?_)
        | fail)
      refine bodyPost_ret (results_ct Try.results27 rfl (run_load_4 (Blk.mk (setRow_heap _ _ _ _ _ _ kZ8.out.at_)) rfl)) rfl ?_
      exact hfin.out _ _ _ _ _ _ _ _ _ hcode5.out kZ8.out (Nat.le_refl _) ho8.out hd8.out hb8.out
end Go.Proofs.Ytmbmmpbfmakfbaa
