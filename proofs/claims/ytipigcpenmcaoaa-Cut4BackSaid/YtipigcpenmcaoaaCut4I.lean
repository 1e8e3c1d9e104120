/- Fragments of IPv4 (cut4): walk of Glue. -/
import Derived.Test.YtipigcpenmcaoaaCut4G
import Derived.Test.YtipigcpenmcaoaaCut4L
import Derived.Test.YtipigcpenmcaoaaRound
import Derived.Deep.RegionWith
import Derived.Deep.DeepCutAuto
import Derived.Deep.WholeRow
import Derived.Laws.CopyRow
set_option linter.unusedVariables false
namespace Go.Proofs.Ytipigcpenmcaoaa
open Go Go.RowKit
attribute [local go_sem] Oper.semAt_some

theorem lr4_ex {w : World} {A : Option Addr} {n c : Nat} {qs : List kV4.β} {l : List V4P} (hL : LR kV4 w A n c qs) (hq : qs.map (·.p) = l) {i : Nat} (hi : i < n) :
    ∃ x b off ao no co a m k, l[i]? = some x ∧ A = some ⟨b, off, none⟩ ∧ b < w.heap.size ∧ w.rangeAt b (off + i * 11) (cells4 x ao no co a m k).toList ∧ RB w ao no co x.opts ∧ RB w a m k x.data := by
  have hl := lr4_len hL hq
  obtain ⟨b, off, ao, no, co, a, m, k, e, _, h1, h2, h3, h4⟩ := lr4_get hL hq (i := i) (x := l[i]'(by omega)) (List.getElem?_eq_getElem _)
  exact ⟨_, b, off, ao, no, co, a, m, k, List.getElem?_eq_getElem (by omega), e, h1, h2, h3, h4⟩
theorem en_Cut4Follows (args : Array Value) (w : World) : (callFunc 62 args).run Try.prog w = .ok (.enter 62 args) w := enters Try.func62 (by kernel_rfl) (by kernel_rfl) args w
set_option maxRecDepth 100000 in
set_option maxHeartbeats 4000000 in
theorem Glue4_any (A : Option Addr) (n c : Nat) (qs : List kV4.β) (l : List V4P) (w : World) (hL : LR kV4 w A n c qs) (hq : qs.map (·.p) = l) (hn : n ≤ 10000) (hsm : ∀ x ∈ l, x.opts.length ≤ 100000 ∧ x.data.length ≤ 100000) (hall : (l.flatMap (·.data)).length ≤ 100000) :
    Calls Try.prog 20 #[.slice A n c] w (GlueOut w l) := by
  have hln := Lib.hid (lr4_len hL hq)
  have hb0 := Lib.hid ((Below.refl _ w).alloc (Nat.le_refl _) (.cells zero4c 24))
  have kZ := Lib.hid (Blk.new w zero4c 24)
  by_cases h0 : n = 0
  · have hk := Lib.hid (show glueK l = 1 by unfold glueK; rw [if_pos (by rw [hln.out]; exact h0)])
    subst h0
    clear hL hq hsm hall
    go_enter Try.func20, Try.ntmps20
    go_wp2_with (first
      | (refine wpList_store_4 rfl (.tmp 2) (.tmp 14) rfl w.heap.size zero4c rfl rfl _ kZ.out rfl rfl (one4 zero4 none 0 0 none 0 0) ?_; rw [setRow_self _ _ _ _ _ kZ.out.at_])
      | fail)
    refine bodyPost_ret (results_ct Try.results20 rfl (run_load_4 kZ.out rfl)) rfl ?_
    exact GlueOut.bad hk.out (by decide) hb0.out
  have hn0 : ((n : Int) == 0) = false := by simp; omega
  have hn1 := Lib.hid (show 0 < n by omega)
  clear h0
  go_enter Try.func20, Try.ntmps20
  go_wp2_with fail
  go_loopw [17] (fun v wr => ∃ k : Nat, k ≤ n ∧ v = .int .i64 k ∧ firstBad (l.take k) = 0 ∧ Blk wr w.heap.size zero4c 24 ∧ Below w.heap.size w wr) (fun v _ => n - (intOf v).toNat)
  case atStart => exact ⟨0, Nat.zero_le _, rfl, rfl, kZ.out, hb0.out⟩
  case round =>
    obtain ⟨k, hk, rfl, hfb, kz, hbr⟩ := hrel
    by_cases hlt : k < n
    · obtain ⟨x, b, off, ao, no, co, a, m, d, hx, rfl, hbl, hr1, ho1, hd1⟩ := lr4_ex hL hq hlt
      obtain ⟨f1, f2⟩ := firstBad_take hx hfb
      obtain ⟨s1, s2⟩ := hsm x (List.mem_of_getElem? hx)
      rw [ho1.len] at s1
      rw [hd1.len] at s2
      have hck : chk4 x = checkV4 x no m := by unfold chk4; rw [ho1.len, hd1.len]
      rw [hck] at f1 f2
      have hK := fun W => Check4_any x ao no co a m d W s1 s2
      have hM1 := Lib.hid (rangeAt_below hr1 hbr hbl)
      have hf1 := Lib.hid (show (Try.prog.info? 24).map (·.size) = some (cells4 x ao no co a m d).size from info_v4)
      have hnc := hL.nc
      have hlti : (k : Int) < (n : Int) := by omega
      have hge : decide ((n : Int) ≤ (k : Int)) = false := by simp; omega
      obtain ⟨ck, hcke⟩ : ∃ ck, checkV4 x no m = ck := ⟨_, rfl⟩
      rw [hcke] at f1 f2 hK
      have hbe := Lib.hid (hbr.alloc hbr.size (.cells (cells4 x ao no co a m d) 24))
      have kX := Lib.hid (Blk.new wr (cells4 x ao no co a m d) 24)
      have kz1 := Lib.hid (kz.alloc (.cells (cells4 x ao no co a m d) 24))
      replace hK := Lib.hid hK
      replace f1 := Lib.hid f1
      replace f2 := Lib.hid f2
      replace hbr := Lib.hid hbr
      replace kz := 0
      replace hr1 := 0
      replace ho1 := 0
      replace hd1 := 0
      clear hck hcke hx hfb s1 s2
      by_cases hc : ck = 0
      · subst hc
        go_wp2_with (first
          | (refine wpList_load_at rfl 24 (.tmp 19) rfl b (off + k * 11) rfl (cells4 x ao no co a m d) _ hM1.out Try.underlying24 rfl hf1.out ?_)
          | (refine wpList_store_4 rfl (.tmp 5) (.tmp 20) rfl wr.heap.size (cells4 x ao no co a m d) rfl rfl _ (Blk.new _ zero4c 24) rfl rfl (one4 _ _ _ _ _ _ _) ?_; rw [World.setRow_alloc_new])
          | (refine wpList_store_4 rfl (.tmp 2) (.tmp 25) rfl w.heap.size zero4c rfl rfl _ kz4.out rfl rfl (one4 zero4 none 0 0 none 0 0) ?_; rw [setRow_self _ _ _ _ _ kz4.out.at_])
          | (refine wpList_load_4 rfl (.tmp 5) rfl wr.heap.size rfl _ kX.out rfl ?_)
          | (go_at_call 24; refine (hK.out _).mono ?_; rintro e w4 ⟨rfl, hB4⟩; have kz4 := Lib.hid (kz1.out.to hB4); have hb4 := Lib.hid (hbe.out.trans (hB4.mono hbe.out.size)); replace hB4 := 0)
          | fail)
        go_roundw
        case rel => exact ⟨k + 1, by omega, by go_num, f1.out, kz4.out, hb4.out⟩
        case measure => simp [intOf]; omega
      · have hcn : (ck != 0) = true := by simpa using hc
        go_wp2_with (first
          | (refine wpList_load_at rfl 24 (.tmp 19) rfl b (off + k * 11) rfl (cells4 x ao no co a m d) _ hM1.out Try.underlying24 rfl hf1.out ?_)
          | (refine wpList_store_4 rfl (.tmp 5) (.tmp 20) rfl wr.heap.size (cells4 x ao no co a m d) rfl rfl _ (Blk.new _ zero4c 24) rfl rfl (one4 _ _ _ _ _ _ _) ?_; rw [World.setRow_alloc_new])
          | (refine wpList_store_4 rfl (.tmp 2) (.tmp 25) rfl w.heap.size zero4c rfl rfl _ kz4.out rfl rfl (one4 zero4 none 0 0 none 0 0) ?_; rw [setRow_self _ _ _ _ _ kz4.out.at_])
          | (refine wpList_load_4 rfl (.tmp 5) rfl wr.heap.size rfl _ kX.out rfl ?_)
          | (go_at_call 24; refine (hK.out _).mono ?_; rintro e w4 ⟨rfl, hB4⟩; have kz4 := Lib.hid (kz1.out.to hB4); have hb4 := Lib.hid (hbe.out.trans (hB4.mono hbe.out.size)); replace hB4 := 0)
          | fail)
        have hkk := Lib.hid (show glueK l = ck by
          have e1 := f2.out hc
          unfold glueK
          rw [if_neg (by rw [hln.out]; have := hn1.out; omega), if_pos (by rw [e1]; exact hc), e1])
        refine bodyPost_ret (results_ct Try.results20 rfl (run_load_4 kz4.out rfl)) rfl ?_
        exact GlueOut.bad hkk.out hc hb4.out
    · obtain rfl : n = k := by omega
      obtain ⟨wh, rfl⟩ : ∃ wh, wh = wr := ⟨_, rfl⟩
      rw [show l.take n = l by rw [List.take_of_length_le (by rw [hln.out]; exact Nat.le_refl _)]] at hfb
      have hall0 := Lib.hid (firstBad_all hfb)
      have hLr := hL.below hbr
      obtain ⟨p0, b, off, ao, no, co, a, m, d, hx0, rfl, hbl, hr0, ho0, hd0⟩ := lr4_ex hLr hq hn1.out
      obtain ⟨s1, s2⟩ := hsm p0 (List.mem_of_getElem? hx0)
      rw [ho0.len] at s1
      rw [hd0.len] at s2
      have hi0 : (0 : Int) < n := by have := hn1.out; omega
      have hf0 := Lib.hid (show (Try.prog.info? 24).map (·.size) = some (cells4 p0 ao no co a m d).size from info_v4)
      have hnc := hL.nc
      have hfb' := Lib.hid hfb
      replace hx0 := Lib.hid hx0
      replace hr0 := Lib.hid hr0
      clear hfb
      go_upto_region 11 with (first
        | (refine wpList_load_at rfl 24 (.tmp 29) rfl b off rfl (cells4 p0 ao no co a m d) _ (by have := hr0.out; rwa [Nat.zero_mul, Nat.add_zero] at this) Try.underlying24 rfl hf0.out ?_)
        | (refine wpList_store_4 rfl (.tmp 7) (.tmp 30) rfl wh.heap.size (cells4 p0 ao no co a m d) rfl rfl _ (Blk.new _ zero4c 24) rfl rfl (one4 _ _ _ _ _ _ _) ?_; rw [World.setRow_alloc_new])
        | fail)
      obtain ⟨w1, hw1⟩ : ∃ w1, wh.alloc (.cells (cells4 p0 ao no co a m d) 24) = w1 := ⟨_, rfl⟩
      rw [hw1]
      have kH : Blk w1 wh.heap.size (cells4 p0 ao no co a m d) 24 := by rw [← hw1]; exact Blk.new wh _ _
      have kz1 : Blk w1 w.heap.size zero4c 24 := by rw [← hw1]; exact kz.alloc _
      have hb1 : Below w.heap.size w w1 := by rw [← hw1]; exact hbr.alloc hbr.size _
      have ro1 : RB w1 ao no co p0.opts := by rw [← hw1]; exact ho0.alloc _
      have rd1 : RB w1 a m d p0.data := by rw [← hw1]; exact hd0.alloc _
      have hz1 := Lib.hid (show w.heap.size < wh.heap.size from kz.lt)
      have hCo := Lib.hid (fun X (hX : Below w1.heap.size w1 X) => Clone_any ao no co p0.opts X (ro1.below hX) (by omega))
      have hCd := Lib.hid (fun X (hX : Below w1.heap.size w1 X) => Clone_any a m d p0.data X (rd1.below hX) (by omega))
      have kd' := kH.drew
      have e9 := kd'.cell 9 (.slice ao no co) rfl
      have e10 := kd'.cell 10 (.slice a m d) rfl
      have ho9 := Lib.hid (Below.refl w1.heap.size w1).drew
      have kd := Lib.hid kd'
      have hz7 := Lib.hid (show wh.heap.size + 1 ≤ w1.heap.size from kH.lt)
      have hb1' := Lib.hid hb1
      have kz1' := Lib.hid kz1
      clear hw1 kH kz1 hb1 ro1 rd1 kd' hd0 ho0 hr0 kz hbr hLr
      try simp only [Act.put]
      go_cut [] (fun wx => ∃ A3 c3 A4 c4, Blk wx wh.heap.size (cells4 p0 A3 no c3 A4 m c4) 24 ∧ RB wx A3 no c3 p0.opts ∧ OB wx (wh.heap.size + 1) A4 m c4 p0.data ∧ (∀ k, ownBlk A3 = some k → ownBlk A4 ≠ some k ∧ k < wx.heap.size) ∧ Below wh.heap.size w1 wx)
      case first =>
        go_region_with (first
          | (go_at_call_of 53 (Value.slice ao no co); refine (hCo.out _ ho9.out).mono ?_; rintro e w3 ⟨A3, c3, rfl, ho3, hB3⟩; have hb3 := Lib.hid (ho9.out.trans (hB3.mono ho9.out.size)); have k3 := kd.out.to hB3; have e103 := k3.cell 10 (.slice a m d) rfl; replace k3 := Lib.hid k3; replace ho3 := Lib.hid ho3)
          | (go_at_call_of 53 (Value.slice a m d); refine (hCd.out _ hb3.out).mono ?_; rintro e w4 ⟨A4, c4, rfl, ho4, hB4⟩; have hb4 := Lib.hid (hb3.out.trans (hB4.mono hb3.out.size)); have k4 := k3.out.to hB4; have c9 := k4.cell 9 (.slice ao no co) rfl; have f9 := k4.frz 9; have c10 := (k4.set 9 (.slice A3 no c3)).cell 10 (.slice a m d) rfl; have f10 := (k4.set 9 (.slice A3 no c3)).frz 10; have ho34 := Lib.hid (ho3.out.below hB4); replace ho4 := Lib.hid ho4)
          | fail)
        all_goals
          go_wp2_with fail
          go_meet
          have nb4 := nbc4 k4
          have k5 : Blk (w4.setCell ⟨wh.heap.size, 9, none⟩ (.slice A3 no c3)) wh.heap.size (cells4 p0 A3 no c3 a m d) 24 := by simpa using k4.set 9 (.slice A3 no c3)
          have nb5 := nbc4 k5
          have hzz := hz7.out
          have hz3 := hb3.out.size
          refine ⟨A3, c3, A4, c4, by simpa using k5.set 10 (.slice A4 m c4), (ho34.out.rb.farN nb4 9 _).farN nb5 10 _, ((ho4.out.mono (show wh.heap.size + 1 ≤ w3.heap.size by omega)).set_low (Nat.lt_succ_self _) 9 _).set_low (Nat.lt_succ_self _) 10 _, fun k hk => ⟨fun h4 => ?_, ?_⟩, ((hb4.out.mono (show wh.heap.size ≤ w1.heap.size by omega)).setCell (p := ⟨wh.heap.size, 9, none⟩) (Nat.le_refl _) _).setCell (p := ⟨wh.heap.size, 10, none⟩) (Nat.le_refl _) _⟩
          · have h5 := (ho3.out.blk hk).2
            have h6 := (ho4.out.blk h4).1
            omega
          · have h5 := (ho34.out.blk hk).2
            simpa [World.setCell] using h5
      case rest =>
      obtain ⟨A3, c3, A4, c4, k5, ro5, od5, hne5, hB5⟩ := hcut
      obtain ⟨w5, rfl⟩ : ∃ w5, w5 = wc := ⟨_, rfl⟩
      replace k5 := Lib.hid k5
      replace ro5 := Lib.hid ro5
      replace od5 := Lib.hid od5
      replace hne5 := Lib.hid hne5
      replace hB5 := Lib.hid hB5
      go_upto_region 12 with fail
      go_cut [40, 41, 42] (fun v40 v41 v42 wx => (v41 = .int .i64 ((n - 1 : Nat) : Int) ∧ v42 = .int .i64 0 ∧ ∃ Ad, v40 = .slice Ad (n - 1) (c - 1) ∧ (1 < n → Ad = some ⟨b, off + 11, none⟩)) ∧ wx = w5)
      case first =>
        have hn2 : 1 ≤ n := hn1.out
        have hc2 : 1 ≤ c := by omega
        have hc3 : (1 : Int) ≤ (n : Int) := by omega
        by_cases hc1 : c = 1
        · obtain rfl : 1 = n := by omega
          subst hc1
          go_wp2_with fail
          go_meet
          exact ⟨⟨rfl, rfl, _, rfl, fun h => absurd h (by decide)⟩, rfl⟩
        · go_wp2_with fail
          go_meet
          exact ⟨⟨by first | rfl | simp, rfl, _, rfl, fun _ => rfl⟩, rfl⟩
      case rest =>
      obtain ⟨⟨rfl, rfl, Ad, rfl, hAd⟩, hww⟩ := hcut
      obtain rfl := hww.symm
      replace hAd := Lib.hid hAd
      go_wp2_with fail
      go_loopw [42] (fun v wr => ∃ (k : Nat) (A5 : Option Addr) (m5 c5 : Nat), k + 1 ≤ n ∧ v = .int .i64 k ∧ Blk wr wh.heap.size (cells4 { p0 with data := cat4 l (k + 1) } A3 no c3 A5 m5 c5) 24 ∧ RB wr A3 no c3 p0.opts ∧ OB wr (wh.heap.size + 1) A5 m5 c5 (cat4 l (k + 1)) ∧ (∀ j, ownBlk A3 = some j → ownBlk A5 ≠ some j ∧ j < wr.heap.size) ∧ (∀ j, j < k → folAt l j = true) ∧ Below wh.heap.size w1 wr) (fun v _ => n - (intOf v).toNat)
      case atStart =>
        have h1 : cat4 l (0 + 1) = p0.data := by rw [cat4_next hx0.out]; unfold cat4; simp
        refine ⟨0, A4, m, c4, by have := hn1.out; omega, rfl, ?_, ro5.out, ?_, hne5.out, fun j hj => absurd hj (by omega), hB5.out⟩
        · rw [h1]; exact k5.out
        · rw [h1]; exact od5.out
      case round =>
        obtain ⟨k, A5, m5, c5, hk, rfl, k6, ro6, od6, hne6, hfol, hB6⟩ := hrel
        have hb6 := hb1'.out.trans (hB6.mono (Nat.le_of_lt hz1.out))
        have kz6 := kz1'.out.below hB6 hz1.out
        by_cases hlt : k + 1 < n
        · obtain ⟨x, b', off', xo, xn, xc, xa, xm, xd, hx, e1, _, hrx, hox, hdx⟩ := lr4_ex (hL.below hb6) hq (show k < n by omega)
          cases e1
          obtain ⟨y, b', off', yo, yn, yc, ya, ym, yd, hy, e1, hby, hry, hoy, hdy⟩ := lr4_ex (hL.below hb6) hq hlt
          cases e1
          obtain rfl := hAd.out (by omega)
          have hxk : chk4 x = 0 := hall0.out x (List.mem_of_getElem? hx)
          obtain ⟨_, t2, t3, t4⟩ := checkV4_ok (p := x) hxk
          have hfa := folAt_at hx hy
          have hcn := cat4_next hy
          have hcl := cat4_le l (k + 1 + 1)
          rw [hcn, List.length_append] at hcl
          have hm5 := od6.len
          have hym := hdy.len
          have hxm := hdx.len
          have hFo := Lib.hid (fun W => Follows4_any x y xo xn xc xa xm xd yo yn yc ya ym yd W hxm t3 (by omega) (by omega))
          have hM1 := fun W (hW : Below wr.heap.size wr W) => rangeAt_below hrx hW hby
          rw [show off + (k + 1) * 11 = off + 11 + k * 11 by omega] at hry
          have hV1 := Lib.hid (show (Try.prog.info? 24).map (·.size) = some (cells4 x xo xn xc xa xm xd).size from info_v4)
          have hV2 := Lib.hid (show (Try.prog.info? 24).map (·.size) = some (cells4 y yo yn yc ya ym yd).size from info_v4)
          have hlti : (k : Int) < ((n - 1 : Nat) : Int) := by omega
          have hltn : (k : Int) < (n : Int) := by omega
          have hltm : k < n - 1 := by omega
          have hge : decide ((n : Int) ≤ (k : Int)) = false := by simp; omega
          have hge2 : decide (n ≤ k) = false := by simp; omega
          have hge3 : decide (n - 1 ≤ k) = false := by simp; omega
          have hcc : n - 1 ≤ c - 1 := by omega
          obtain ⟨fo, hfoe⟩ : ∃ fo, follows4 x y = fo := ⟨_, rfl⟩
          rw [hfoe] at hfa hFo
          obtain ⟨w7, hw7⟩ : ∃ w7, wr.alloc (.cells (cells4 y yo yn yc ya ym yd) 24) = w7 := ⟨_, rfl⟩
          have hB7 : Below wr.heap.size wr w7 := by rw [← hw7]; exact (Below.refl _ wr).alloc (Nat.le_refl _) _
          have kY7 : Blk w7 wr.heap.size (cells4 y yo yn yc ya ym yd) 24 := by rw [← hw7]; exact Blk.new wr _ _
          have hA := Lib.hid (fun W (hW : Below w7.heap.size w7 W) => (kY7.to hW).at_)
          have hK := Lib.hid (show ∀ W W', (fun W => Below w7.heap.size w7 W) W → Below W.heap.size W W' → (fun W => Below w7.heap.size w7 W) W' from fun W W' h1 h2 => h1.trans (h2.mono h1.size))
          have hM7 := Lib.hid (fun W (hW : Below w7.heap.size w7 W) => hM1 W (hB7.trans (hW.mono hB7.size)))
          have hC1 := Lib.hid (show ∀ W, (fun W => Below w7.heap.size w7 W) W → True ∧ True ∧ True from fun _ _ => ⟨trivial, trivial, trivial⟩)
          replace hw7 := Lib.hid hw7
          replace hry := Lib.hid hry
          replace k6 := Lib.hid k6
          replace ro6 := Lib.hid ro6
          replace od6 := Lib.hid od6
          replace hne6 := Lib.hid hne6
          replace hfol := Lib.hid hfol
          replace hB6 := Lib.hid hB6
          replace hb6 := Lib.hid hb6
          replace kz6 := Lib.hid kz6
          replace hB7 := Lib.hid hB7
          replace kY7 := Lib.hid kY7
          replace hfa := Lib.hid hfa
          replace hcn := Lib.hid hcn
          replace hdy := Lib.hid hdy
          replace hx := Lib.hid hx
          replace hy := Lib.hid hy
          replace hrx := 0
          replace hox := 0
          replace hdx := 0
          replace hoy := 0
          clear hM1 hfoe hxk
          go_upto_region 15 with (first
            | (refine wpList_load_at rfl 24 (.tmp 45) rfl b (off + 11 + k * 11) rfl (cells4 y yo yn yc ya ym yd) _ hry.out Try.underlying24 rfl hV2.out ?_)
            | (refine wpList_store_4 rfl (.tmp 9) (.tmp 46) rfl wr.heap.size (cells4 y yo yn yc ya ym yd) rfl rfl _ (Blk.new _ zero4c 24) rfl rfl (one4 _ _ _ _ _ _ _) ?_; rw [World.setRow_alloc_new])
            | fail)
          rw [hw7.out]
          try simp only [Act.put]
          refine wp_region_tame (fun W => Below w7.heap.size w7 W) (by kernel_rfl) (by kernel_rfl) (Below.refl _ w7).drew ?_
          repeat (first
            | (refine tameL_skip rfl ?_; simp only [Act.put, List.setIfInBounds_toArray, List.set_cons_zero, List.set_cons_succ])
            | (refine tameL_at rfl 24 (.tmp 49) rfl b (off + k * 11) rfl (cells4 x xo xn xc xa xm xd) _ (fun W hS => hM7.out W hS) Try.underlying24 rfl hV1.out ?_; simp only [Act.put, List.setIfInBounds_toArray, List.set_cons_zero, List.set_cons_succ])
            | (refine tameL_row rfl 24 (.tmp 9) rfl wr.heap.size rfl _ (cells4 y yo yn yc ya ym yd) _ _ (fun W hS => hA.out W hS) Try.underlying24 rfl hV2.out ?_; simp only [Act.put, List.setIfInBounds_toArray, List.set_cons_zero, List.set_cons_succ])
            | (refine tameL_call2 (v := .bool fo) rfl 62 (.tmp 50) (.tmp 51) _ rfl en_Cut4Follows rfl rfl ?_ ?_; exact fun W hS => (hFo.out W).mono fun e W' ⟨he, hb⟩ => ⟨he, hK.out W W' hS hb⟩; simp only [Act.put, List.setIfInBounds_toArray, List.set_cons_zero, List.set_cons_succ])
            | (refine tameL_val (v := ?_) rfl (fun W hS => ?_) ?_; rotate_left; (· (obtain ⟨g0, g1, g2⟩ := hC1.out W hS; clear hS; go_simp; try with_reducible rfl)); simp only [Act.put, List.setIfInBounds_toArray, List.set_cons_zero, List.set_cons_succ]))
          refine tameL_nil fun W hS => ?_
          have hBW := hB7.out.trans (hS.mono hB7.out.size)
          have kHW := k6.out.to hBW
          have kYW := kY7.out.to hS
          have cH := kHW.cell 10 (.slice A5 m5 c5) rfl
          have cY := kYW.cell 10 (.slice ya ym yd) rfl
          have kzW := Lib.hid (kz6.out.to hBW)
          have hbW := Lib.hid (hb6.out.trans (hBW.mono hb6.out.size))
          have odW := Lib.hid (od6.out.below hBW)
          have roW := Lib.hid (ro6.out.below hBW)
          have hdW := Lib.hid (hdy.out.below hBW)
          have hzW := Lib.hid (show wh.heap.size + 1 ≤ W.heap.size from kHW.lt)
          replace kHW := Lib.hid kHW
          replace hBW := Lib.hid hBW
          clear hS kYW
          cases fo
          · have hkk := Lib.hid (show glueK l = 4 by
              unfold glueK
              rw [if_neg (by rw [hln.out]; have := hn1.out; omega), if_neg (by rw [hfb'.out]; decide), if_pos (chain4_false hx.out hy.out (by rw [← folAt_at hx.out hy.out]; exact hfa.out))])
            clear cH cY
            go_wp2_with (first
              | (refine wpList_store_4 rfl (.tmp 2) (.tmp 54) rfl w.heap.size zero4c rfl rfl _ kzW.out rfl rfl (one4 zero4 none 0 0 none 0 0) ?_; rw [setRow_self _ _ _ _ _ kzW.out.at_])
              | fail)
            refine bodyPost_ret (results_ct Try.results20 rfl (run_load_4 kzW.out rfl)) rfl ?_
            exact GlueOut.bad hkk.out (by decide) hbW.out
          · have hsz := Lib.hid (show m5 + ym ≤ 140737488355328 by omega)
            go_wp2_with (first
              | (at_builtin; refine wpList_append_bytes _ rfl (.tmp 56) (.tmp 58) rfl rfl rfl odW.out hdW.out hsz.out hzW.out ?_; intro A6 c6 w8 ho8 hg8 hr8; have hB8 := (Below.refl (wh.heap.size + 1) W).grown hg8 hzW.out (fun j hj => (odW.out.blk hj).1); have kH8 := kHW.out.below hB8 (Nat.lt_succ_self _); have cH8 := kH8.cell 10 (.slice A5 m5 c5) rfl; have fH8 := kH8.frz 10; replace kH8 := Lib.hid kH8; replace hB8 := Lib.hid hB8; replace ho8 := Lib.hid ho8; replace hg8 := Lib.hid hg8; replace hr8 := Lib.hid hr8; clear cH cY)
              | fail)
            have nb8 := nbc4 kH8.out
            have hzz := hz1.out
            have hz8 := hB8.out.size
            have hzr := hBW.out.size
            have hle6 : wh.heap.size ≤ wr.heap.size := by have h1 := hB6.out.size; have h2 := hz7.out; omega
            go_roundw
            case rel =>
              refine ⟨k + 1, A6, m5 + ym, c6, by omega, by go_num, by rw [hcn.out]; simpa using kH8.out.set 10 (.slice A6 (m5 + ym) c6), (roW.out.grown (fun _ j hj => (hne6.out j hj).1) hg8.out).farN nb8 10 _, by rw [hcn.out]; exact ho8.out.set_low (Nat.lt_succ_self _) 10 _, fun j hj => ⟨fun h6 => ?_, ?_⟩, fun j hj => ?_, (hB6.out.trans ((hBW.out.mono hle6).trans (hB8.out.mono (Nat.le_succ _)))).setCell (p := ⟨wh.heap.size, 10, none⟩) (Nat.le_refl _) _⟩
              · rcases hr8.out with h | h
                · exact (hne6.out j hj).1 (by rw [← h]; exact h6)
                · rw [h] at h6; have := (hne6.out j hj).2; cases h6; omega
              · have := (hne6.out j hj).2; simp [World.setCell]; omega
              · by_cases hjk : j < k
                · exact hfol.out j hjk
                · obtain rfl : j = k := by omega
                  exact hfa.out
            case measure => simp [intOf]; omega
        · obtain rfl : n = k + 1 := by omega
          obtain ⟨x, b', off', xo, xn, xc, xa, xm, xd, hx, e1, hbx, hrx, hox, hdx⟩ := lr4_ex (hL.below hb6) hq (show k < k + 1 by omega)
          cases e1
          have cx : wr.cell? ⟨b, off + k * 11 + 8, none⟩ = some (.bool x.mf) := hrx 8 _ rfl
          have c8 := k6.cell 8 (.bool p0.mf) rfl
          have f8 := k6.frz 8
          replace k6 := Lib.hid k6
          replace ro6 := Lib.hid ro6
          replace od6 := Lib.hid od6
          replace hne6 := Lib.hid hne6
          replace hfol := Lib.hid hfol
          replace hB6 := Lib.hid hB6
          replace hb6 := Lib.hid hb6
          replace kz6 := Lib.hid kz6
          replace hx := Lib.hid hx
          replace hrx := 0
          replace hox := 0
          replace hdx := 0
          go_upto_region 20 with fail
          try simp only [Act.put]
          obtain ⟨w7, hw7⟩ : ∃ w7, wr.setCell ⟨wh.heap.size, 8, none⟩ (.bool x.mf) = w7 := ⟨_, rfl⟩
          have hwhole : whole4 l = { p0 with mf := x.mf, data := cat4 l (k + 1) } := by
            unfold whole4
            have h1 : l.head? = some p0 := by rw [← hx0.out, List.head?_eq_getElem?]
            rw [hln.out, Nat.add_sub_cancel, hx.out, h1, ← cat4_all, hln.out]; rfl
          have k7 : Blk w7 wh.heap.size (cells4 (whole4 l) A3 no c3 A5 m5 c5) 24 := by rw [← hw7, hwhole]; simpa using k6.out.set 8 (.bool x.mf)
          have nb6 := nbc4 k6.out
          have ro7 : RB w7 A3 no c3 (whole4 l).opts := by rw [← hw7, hwhole]; exact ro6.out.farN nb6 8 _
          have od7 : RB w7 A5 m5 c5 (whole4 l).data := by rw [← hw7, hwhole]; exact od6.out.rb.farN nb6 8 _
          have kz7 : Blk w7 w.heap.size zero4c 24 := by rw [← hw7]; exact kz6.out.far (Nat.ne_of_lt hz1.out) 8 _
          have hb7 : Below w.heap.size w w7 := by rw [← hw7]; exact hb6.out.setCell (p := ⟨wh.heap.size, 8, none⟩) (Nat.le_of_lt hz1.out) _
          rw [hw7]
          have hcl := cat4_le l (k + 1)
          have hm5 := od6.out.len
          have hck : chk4 (whole4 l) = checkV4 (whole4 l) no m5 := by unfold chk4; rw [ro7.len, od7.len]
          have hK := fun W => Check4_any (whole4 l) A3 no c3 A5 m5 c5 W s1 (by omega)
          have hch : chain4 l = true := chain4_true fun j hj => hfol.out j (by rw [hln.out] at hj; omega)
          have hgk : glueK l = checkV4 (whole4 l) no m5 := by
            unfold glueK
            rw [if_neg (by rw [hln.out]; omega), if_neg (by rw [hfb'.out]; decide), if_neg (by rw [hch]; decide), hck]
          have hgd := fun (W : World) (h : glueK l = 0) => @GlueOut.good w W l
          obtain ⟨V, hVe⟩ : ∃ V, whole4 l = V := ⟨_, rfl⟩
          have hgood := Lib.hid (fun (W : World) (Ao : Option Addr) (no' co' : Nat) (A' : Option Addr) (n' c' : Nat) (hk : glueK l = 0) (ho : RB W Ao no' co' V.opts) (hd : RB W A' n' c' V.data) (hb : Below w.heap.size w W) => show GlueOut w l (.returned (.tuple #[.agg (cells4 V Ao no' co' A' n' c'), .int .i64 0])) W by
            rw [← hVe] at ho hd ⊢
            exact GlueOut.good hk ho hd hb)
          rw [hVe] at k7 ro7 od7 hK hgk
          obtain ⟨ck, hcke⟩ : ∃ ck, checkV4 V no m5 = ck := ⟨_, rfl⟩
          rw [hcke] at hK hgk
          replace hK := Lib.hid hK
          replace hgk := Lib.hid hgk
          replace k7 := Lib.hid k7
          replace ro7 := Lib.hid ro7
          replace od7 := Lib.hid od7
          replace kz7 := Lib.hid kz7
          replace hb7 := Lib.hid hb7
          clear hw7 hwhole cx c8 f8 nb6 hck hch hVe hcke hgd
          by_cases hc : ck = 0
          · subst hc
            go_wp2_with (first
              | (refine wpList_load_4 rfl (.tmp 7) rfl wh.heap.size rfl _ k8.out rfl ?_)
              | (refine wpList_load_4 rfl (.tmp 7) rfl wh.heap.size rfl _ k7.out rfl ?_)
              | (refine wpList_store_4 rfl (.tmp 2) (.tmp 76) rfl w.heap.size (cells4 V A3 no c3 A5 m5 c5) rfl rfl _ kz8.out rfl rfl (one4 _ _ _ _ _ _ _) ?_)
              | (go_at_call 24; refine (hK.out _).mono ?_; rintro e w8 ⟨rfl, hB8⟩; have k8 := Lib.hid (k7.out.to hB8); have kz8 := Lib.hid (kz7.out.to hB8); have ro8 := Lib.hid (ro7.out.below hB8); have od8 := Lib.hid (od7.out.below hB8); have hb8 := Lib.hid (hb7.out.trans (hB8.mono hb7.out.size)); replace hB8 := 0)
              | fail)
            refine bodyPost_ret (results_ct Try.results20 rfl (run_load_4 (Blk.mk (setRow_heap _ _ _ _ _ _ kz8.out.at_)) rfl)) rfl ?_
            have nbz := nbc4 (q := zero4) (x1 := none) (x2 := 0) (x3 := 0) (y1 := none) (y2 := 0) (y3 := 0) kz8.out
            exact hgood.out _ _ _ _ _ _ _ hgk.out (ro8.out.farRow nbz _) (od8.out.farRow nbz _) (below_row hb8.out (Nat.le_refl _) _)
          · have hcn : (ck != 0) = true := by simpa using hc
            go_wp2_with (first
              | (refine wpList_store_4 rfl (.tmp 2) (.tmp 74) rfl w.heap.size zero4c rfl rfl _ kz8.out rfl rfl (one4 zero4 none 0 0 none 0 0) ?_; rw [setRow_self _ _ _ _ _ kz8.out.at_])
              | (refine wpList_load_4 rfl (.tmp 7) rfl wh.heap.size rfl _ k7.out rfl ?_)
              | (go_at_call 24; refine (hK.out _).mono ?_; rintro e w8 ⟨rfl, hB8⟩; have kz8 := Lib.hid (kz7.out.to hB8); have hb8 := Lib.hid (hb7.out.trans (hB8.mono hb7.out.size)); replace hB8 := 0)
              | fail)
            refine bodyPost_ret (results_ct Try.results20 rfl (run_load_4 kz8.out rfl)) rfl ?_
            exact GlueOut.bad hgk.out hc hb8.out
end Go.Proofs.Ytipigcpenmcaoaa
