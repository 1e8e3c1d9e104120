/- Fragments of IPv4 (the reference): walk of Glue. -/
import Derived.Test.YtipigcpenmcaoaaCut4I
import Derived.Test.YtipigcpenmcaoaaCut4G
set_option linter.unusedVariables false
namespace Go.Proofs.Ytipigcpenmcaoaa
open Go Go.RowKit
attribute [local go_sem] Oper.semAt_some

theorem glue4_fin {p : V4P} {ao : Option Addr} {no co : Nat} {a : Option Addr} {n c : Nat} {w1 X : World} {N b1 b2 : Nat} {A3 A4 : Option Addr} {c3 c4 : Nat} (k : Blk X N (cells4 p ao no co a n c) 24) (ho : OB X b1 A3 no c3 p.opts) (hd : OB X b2 A4 n c4 p.data) (h1 : N + 1 ≤ b1) (h2 : N + 1 ≤ b2) (hb : Below N w1 X) (hne : ∀ k, ownBlk A3 = some k → ownBlk A4 = some k → False) :
    ∃ B3 d3 B4' d4, Blk ((X.setCell ⟨N, 9, none⟩ (.slice A3 no c3)).setCell ⟨N, 10, none⟩ (.slice A4 n c4)) N (cells4 p B3 no d3 B4' n d4) 24 ∧
      RB ((X.setCell ⟨N, 9, none⟩ (.slice A3 no c3)).setCell ⟨N, 10, none⟩ (.slice A4 n c4)) B3 no d3 p.opts ∧ OB ((X.setCell ⟨N, 9, none⟩ (.slice A3 no c3)).setCell ⟨N, 10, none⟩ (.slice A4 n c4)) (N + 1) B4' n d4 p.data ∧
      (∀ k, ownBlk B3 = some k → ownBlk B4' ≠ some k ∧ k < ((X.setCell ⟨N, 9, none⟩ (.slice A3 no c3)).setCell ⟨N, 10, none⟩ (.slice A4 n c4)).heap.size) ∧ Below N w1 ((X.setCell ⟨N, 9, none⟩ (.slice A3 no c3)).setCell ⟨N, 10, none⟩ (.slice A4 n c4)) := by
  have nb := nbc4 k
  have k5 : Blk (X.setCell ⟨N, 9, none⟩ (.slice A3 no c3)) N (cells4 p A3 no c3 a n c) 24 := by simpa using k.set 9 (.slice A3 no c3)
  have nb' := nbc4 k5
  exact ⟨A3, c3, A4, c4, by simpa using k5.set 10 (.slice A4 n c4), (ho.rb.farN nb 9 _).farN nb' 10 _, ((hd.mono h2).set_low (Nat.lt_succ_self _) 9 _).set_low (Nat.lt_succ_self _) 10 _,
    fun j hj => ⟨fun h4 => hne j hj h4, by have := (ho.blk hj).2; simpa [World.setCell] using this⟩, (hb.setCell (p := ⟨N, 9, none⟩) (Nat.le_refl _) _).setCell (p := ⟨N, 10, none⟩) (Nat.le_refl _) _⟩
theorem en_Cut4RFits (args : Array Value) (w : World) : (callFunc 63 args).run Try.prog w = .ok (.enter 63 args) w := enters Try.func63 (by kernel_rfl) (by kernel_rfl) args w
set_option maxRecDepth 100000 in
set_option maxHeartbeats 4000000 in
theorem RefGlue4_any (A : Option Addr) (n c : Nat) (qs : List kV4.β) (l : List V4P) (w : World) (hL : LR kV4 w A n c qs) (hq : qs.map (·.p) = l) (hn : n ≤ 10000) (hsm : ∀ x ∈ l, x.opts.length ≤ 100000 ∧ x.data.length ≤ 100000) (hall : (l.flatMap (·.data)).length ≤ 100000) :
    Calls Try.prog 21 #[.slice A n c] w (GlueOut w l) := by
  have hln := Lib.hid (lr4_len hL hq)
  have hb0 := Lib.hid ((Below.refl _ w).alloc (Nat.le_refl _) (.cells zero4c 24))
  have kZ := Lib.hid (Blk.new w zero4c 24)
  by_cases h0 : n = 0
  · have hk := Lib.hid (show glueK l = 1 by unfold glueK; rw [if_pos (by rw [hln.out]; exact h0)])
    subst h0
    clear hL hq hsm hall
    go_enter Try.func21, Try.ntmps21
    go_wp2_with (first
      | (refine wpList_store_4 rfl (.tmp 2) (.tmp 12) rfl w.heap.size zero4c rfl rfl _ kZ.out rfl rfl (one4 zero4 none 0 0 none 0 0) ?_; rw [setRow_self _ _ _ _ _ kZ.out.at_])
      | fail)
    refine bodyPost_ret (results_ct Try.results21 rfl (run_load_4 kZ.out rfl)) rfl ?_
    exact GlueOut.bad hk.out (by decide) hb0.out
  have hn0 : ((n : Int) == 0) = false := by simp; omega
  have hn1 := Lib.hid (show 0 < n by omega)
  clear h0
  go_enter Try.func21, Try.ntmps21
  go_wp2_with fail
  go_loopw [4] (fun v wr => ∃ k : Nat, k ≤ n ∧ v = .int .i64 k ∧ firstBad (l.take k) = 0 ∧ Blk wr w.heap.size zero4c 24 ∧ Below w.heap.size w wr) (fun v _ => n - (intOf v).toNat)
  case atStart => exact ⟨0, Nat.zero_le _, rfl, rfl, kZ.out, hb0.out⟩
  case round =>
    obtain ⟨k, hk, rfl, hfb, kz, hbr⟩ := hrel
    by_cases hlt : k < n
    · obtain ⟨x, b, off, ao, no, co, a, m, d, hx, rfl, hbl, hr1, ho1, hd1⟩ := lr4_ex hL hq hlt
      obtain ⟨f1, f2⟩ := firstBad_take hx hfb
      obtain ⟨s1, s2⟩ := hsm x (List.mem_of_getElem? hx)
      rw [ho1.len] at s1
      rw [hd1.len] at s2
      have hck : chk4 x = checkV4 x no m := by unfold chk4; rw [ho1.len, hd1.len]
      rw [hck] at f1 f2
      have hK := fun W => RefCheck4_any x ao no co a m d W s1 s2
      have hM1 := Lib.hid (rangeAt_below hr1 hbr hbl)
      have hf1 := Lib.hid (show (Try.prog.info? 24).map (·.size) = some (cells4 x ao no co a m d).size from info_v4)
      have hnc := hL.nc
      have hlti : (k : Int) < (n : Int) := by omega
      have hge : decide ((n : Int) ≤ (k : Int)) = false := by simp; omega
      obtain ⟨ck, hcke⟩ : ∃ ck, checkV4 x no m = ck := ⟨_, rfl⟩
      rw [hcke] at f1 f2 hK
      have hbe := Lib.hid hbr
      skip
      have kz1 := Lib.hid kz
      replace hK := Lib.hid hK
      replace f1 := Lib.hid f1
      replace f2 := Lib.hid f2
      replace hbr := Lib.hid hbr
      replace kz := 0
      replace hr1 := 0
      replace ho1 := 0
      replace hd1 := 0
      clear hck hcke hx hfb s1 s2
      by_cases hc : ck = 0
      · subst hc
        go_wp2_with (first
          | (refine wpList_load_at rfl 24 (.tmp 21) rfl b (off + k * 11) rfl (cells4 x ao no co a m d) _ hM1.out Try.underlying24 rfl hf1.out ?_)
          | (refine wpList_store_4 rfl (.tmp 2) (.tmp 26) rfl w.heap.size zero4c rfl rfl _ kz4.out rfl rfl (one4 zero4 none 0 0 none 0 0) ?_; rw [setRow_self _ _ _ _ _ kz4.out.at_])
          | (go_at_call 56; refine (hK.out _).mono ?_; rintro e w4 ⟨rfl, hB4⟩; have kz4 := Lib.hid (kz1.out.to hB4); have hb4 := Lib.hid (hbe.out.trans (hB4.mono hbe.out.size)); replace hB4 := 0)
          | fail)
        go_roundw
        case rel => exact ⟨k + 1, by omega, by go_num, f1.out, kz4.out, hb4.out⟩
        case measure => simp [intOf]; omega
      · have hcn : (ck != 0) = true := by simpa using hc
        go_wp2_with (first
          | (refine wpList_load_at rfl 24 (.tmp 21) rfl b (off + k * 11) rfl (cells4 x ao no co a m d) _ hM1.out Try.underlying24 rfl hf1.out ?_)
          | (refine wpList_store_4 rfl (.tmp 2) (.tmp 26) rfl w.heap.size zero4c rfl rfl _ kz4.out rfl rfl (one4 zero4 none 0 0 none 0 0) ?_; rw [setRow_self _ _ _ _ _ kz4.out.at_])
          | (go_at_call 56; refine (hK.out _).mono ?_; rintro e w4 ⟨rfl, hB4⟩; have kz4 := Lib.hid (kz1.out.to hB4); have hb4 := Lib.hid (hbe.out.trans (hB4.mono hbe.out.size)); replace hB4 := 0)
          | fail)
        have hkk := Lib.hid (show glueK l = ck by
          have e1 := f2.out hc
          unfold glueK
          rw [if_neg (by rw [hln.out]; have := hn1.out; omega), if_pos (by rw [e1]; exact hc), e1])
        refine bodyPost_ret (results_ct Try.results21 rfl (run_load_4 kz4.out rfl)) rfl ?_
        exact GlueOut.bad hkk.out hc hb4.out
    · obtain rfl : n = k := by omega
      obtain ⟨wh, rfl⟩ : ∃ wh, wh = wr := ⟨_, rfl⟩
      rw [show l.take n = l by rw [List.take_of_length_le (by rw [hln.out]; exact Nat.le_refl _)]] at hfb
      have hall0 := Lib.hid (firstBad_all hfb)
      have hLr := hL.below hbr
      obtain ⟨p0, b, off, ao, no, co, a, m, d, hx0, rfl, hbl, hr0, ho0, hd0⟩ := lr4_ex hLr hq hn1.out
      obtain ⟨s1, s2⟩ := hsm p0 (List.mem_of_getElem? hx0)
      rw [ho0.len] at s1
      rw [hd0.len] at s2
      have hi0 : (0 : Int) < n := by have := hn1.out; omega
      have hf0 := Lib.hid (show (Try.prog.info? 24).map (·.size) = some (cells4 p0 ao no co a m d).size from info_v4)
      have hnc := hL.nc
      have hfb' := Lib.hid hfb
      replace hx0 := Lib.hid hx0
      replace hr0 := Lib.hid hr0
      clear hfb
      go_upto_region 10 with (first
        | (refine wpList_load_at rfl 24 (.tmp 29) rfl b off rfl (cells4 p0 ao no co a m d) _ (by have := hr0.out; rwa [Nat.zero_mul, Nat.add_zero] at this) Try.underlying24 rfl hf0.out ?_)
        | (refine wpList_store_4 rfl (.tmp 6) (.tmp 30) rfl wh.heap.size (cells4 p0 ao no co a m d) rfl rfl _ (Blk.new _ zero4c 24) rfl rfl (one4 _ _ _ _ _ _ _) ?_; rw [World.setRow_alloc_new])
        | fail)
      obtain ⟨w1, hw1⟩ : ∃ w1, wh.alloc (.cells (cells4 p0 ao no co a m d) 24) = w1 := ⟨_, rfl⟩
      rw [hw1]
      have kH : Blk w1 wh.heap.size (cells4 p0 ao no co a m d) 24 := by rw [← hw1]; exact Blk.new wh _ _
      have kz1 : Blk w1 w.heap.size zero4c 24 := by rw [← hw1]; exact kz.alloc _
      have hb1 : Below w.heap.size w w1 := by rw [← hw1]; exact hbr.alloc hbr.size _
      have ro1 : RB w1 ao no co p0.opts := by rw [← hw1]; exact ho0.alloc _
      have rd1 : RB w1 a m d p0.data := by rw [← hw1]; exact hd0.alloc _
      have hz1 := Lib.hid (show w.heap.size < wh.heap.size from kz.lt)
      have hcr := Lib.hid (fun X (hX : Below w1.heap.size w1 X) => ro1.below hX)
      have hcd := Lib.hid (fun X (hX : Below w1.heap.size w1 X) => rd1.below hX)
      have kd' := kH.drew
      have e9 := kd'.cell 9 (.slice ao no co) rfl
      have e10 := kd'.cell 10 (.slice a m d) rfl
      have ho9 := Lib.hid (Below.refl w1.heap.size w1).drew
      have kd := Lib.hid kd'
      have hz7 := Lib.hid (show wh.heap.size + 1 ≤ w1.heap.size from kH.lt)
      have hb1' := Lib.hid hb1
      have kz1' := Lib.hid kz1
      clear hw1 kH kz1 hb1 ro1 rd1 kd' hd0 ho0 hr0 kz hbr hLr
      try simp only [Act.put]
      go_cut [] (fun wx => ∃ A3 c3 A4 c4, Blk wx wh.heap.size (cells4 p0 A3 no c3 A4 m c4) 24 ∧ RB wx A3 no c3 p0.opts ∧ OB wx (wh.heap.size + 1) A4 m c4 p0.data ∧ (∀ k, ownBlk A3 = some k → ownBlk A4 ≠ some k ∧ k < wx.heap.size) ∧ Below wh.heap.size w1 wx)
      case first =>
        have hsO := Lib.hid (show 0 + no ≤ 140737488355328 by omega)
        have hsD := Lib.hid (show 0 + m ≤ 140737488355328 by omega)
        have hbd := Lib.hid (Below.refl w1.heap.size w1).drew
        have hNd := Lib.hid (show wh.heap.size + 1 ≤ w1.drew.heap.size from kd.out.lt)
        go_region_law (first
        | (refine step_append_bytes (A := none) (n := 0) (c := 0) (A' := ao) (m := no) (c' := co) (base := wDd.heap.size) (bs := []) (ys := p0.opts) rfl (.const (.slice none 0 0)) (.tmp 32) rfl (by simp [Act.eval]) (by simp [Act.eval]) (OB.nil _ _) (hcr.out _ hbD.out) hsO.out (Nat.le_refl _) ?_; intro A3 c3 wOD hoO hg hr; have hBx := (Below.refl _ _).grown hg (Nat.le_refl _) (fun k hk => by cases hk); have kO := kD.out.to hBx; have hbO := Lib.hid (hbD.out.trans (hBx.mono hbD.out.size)); have e9O := kO.cell 9 (.slice ao no co) rfl; have e10O := kO.cell 10 (.slice a m d) rfl; have hoD2 := Lib.hid (hoD.out.below hBx); replace hoO := Lib.hid hoO; have f9 := kO.frz 9; have c10 := (kO.set 9 (.slice A3 no c3)).cell 10 (.slice a m d) rfl; have f10 := (kO.set 9 (.slice A3 no c3)).frz 10; replace kO := Lib.hid kO; replace hBx := 0; clear hg hr)
        | (refine step_append_bytes (A := none) (n := 0) (c := 0) (A' := a) (m := m) (c' := d) (base := wOd.heap.size) (bs := []) (ys := p0.data) rfl (.const (.slice none 0 0)) (.tmp 35) rfl (by simp [Act.eval]) (by simp [Act.eval, Act.put]) (OB.nil _ _) (hcd.out _ hbO.out) hsD.out (Nat.le_refl _) ?_; intro A4 c4 wDO hoD hg hr; have hBx := (Below.refl _ _).grown hg (Nat.le_refl _) (fun k hk => by cases hk); have kD := kO.out.to hBx; have hbD := Lib.hid (hbO.out.trans (hBx.mono hbO.out.size)); have e9D := kD.cell 9 (.slice ao no co) rfl; have e10D := kD.cell 10 (.slice a m d) rfl; have hoO2 := Lib.hid (hoO.out.below hBx); replace hoD := Lib.hid hoD; have f9 := kD.frz 9; have c10 := (kD.set 9 (.slice A3 no c3)).cell 10 (.slice a m d) rfl; have f10 := (kD.set 9 (.slice A3 no c3)).frz 10; replace kD := Lib.hid kD; replace hBx := 0; clear hg hr)
        | (refine step_append_bytes (A := none) (n := 0) (c := 0) (A' := ao) (m := no) (c' := co) (base := w1.drew.heap.size) (bs := []) (ys := p0.opts) rfl (.const (.slice none 0 0)) (.tmp 32) rfl (by simp [Act.eval]) (by simp [Act.eval]) (OB.nil _ _) (hcr.out _ hbd.out) hsO.out (Nat.le_refl _) ?_; intro A3 c3 wOd hoO hg hr; have hBx := (Below.refl _ _).grown hg (Nat.le_refl _) (fun k hk => by cases hk); have kO := kd.out.to hBx; have hbO := Lib.hid (hbd.out.trans (hBx.mono hbd.out.size)); have e9O := kO.cell 9 (.slice ao no co) rfl; have e10O := kO.cell 10 (.slice a m d) rfl; replace hoO := Lib.hid hoO; replace kO := Lib.hid kO; replace hBx := 0; clear hg hr)
        | (refine step_append_bytes (A := none) (n := 0) (c := 0) (A' := a) (m := m) (c' := d) (base := w1.drew.heap.size) (bs := []) (ys := p0.data) rfl (.const (.slice none 0 0)) (.tmp 35) rfl (by simp [Act.eval]) (by simp [Act.eval, Act.put]) (OB.nil _ _) (hcd.out _ hbd.out) hsD.out (Nat.le_refl _) ?_; intro A4 c4 wDd hoD hg hr; have hBx := (Below.refl _ _).grown hg (Nat.le_refl _) (fun k hk => by cases hk); have kD := kd.out.to hBx; have hbD := Lib.hid (hbd.out.trans (hBx.mono hbd.out.size)); have e9D := kD.cell 9 (.slice ao no co) rfl; have e10D := kD.cell 10 (.slice a m d) rfl; replace hoD := Lib.hid hoD; replace kD := Lib.hid kD; replace hBx := 0; clear hg hr))
        all_goals
          go_wp2_with fail
          go_meet
          first
            | (exact glue4_fin kD.out (by have := hoO2.out; rwa [Nat.zero_add] at this) (by have := hoD.out; rwa [Nat.zero_add] at this) hNd.out (by have h8 := hbO.out.size; have h9 := hz7.out; omega) (hbD.out.mono (by have h9 := hz7.out; omega)) (fun k hk h4 => by have h5 := (hoO.out.blk hk).2; have h6 := (hoD.out.blk h4).1; omega))
            | (exact glue4_fin kO.out (by have := hoO.out; rwa [Nat.zero_add] at this) (by have := hoD2.out; rwa [Nat.zero_add] at this) (by have h8 := hbD.out.size; have h9 := hz7.out; omega) hNd.out (hbO.out.mono (by have h9 := hz7.out; omega)) (fun k hk h4 => by have h5 := (hoO.out.blk hk).1; have h6 := (hoD.out.blk h4).2; omega))
      case rest =>
      obtain ⟨A3, c3, A4, c4, k5, ro5, od5, hne5, hB5⟩ := hcut
      obtain ⟨w5, rfl⟩ : ∃ w5, w5 = wc := ⟨_, rfl⟩
      replace k5 := Lib.hid k5
      replace ro5 := Lib.hid ro5
      replace od5 := Lib.hid od5
      replace hne5 := Lib.hid hne5
      replace hB5 := Lib.hid hB5
      go_wp2_with fail
      go_loopw [7] (fun v wr => ∃ (k : Nat) (A5 : Option Addr) (m5 c5 : Nat), k + 1 ≤ n ∧ v = .int .i64 ((k + 1 : Nat) : Int) ∧ Blk wr wh.heap.size (cells4 { p0 with data := cat4 l (k + 1) } A3 no c3 A5 m5 c5) 24 ∧ RB wr A3 no c3 p0.opts ∧ OB wr (wh.heap.size + 1) A5 m5 c5 (cat4 l (k + 1)) ∧ (∀ j, ownBlk A3 = some j → ownBlk A5 ≠ some j ∧ j < wr.heap.size) ∧ (∀ j, j < k → folAt l j = true) ∧ Below wh.heap.size w1 wr) (fun v _ => n - (intOf v).toNat)
      case atStart =>
        have h1 : cat4 l (0 + 1) = p0.data := by rw [cat4_next hx0.out]; unfold cat4; simp
        refine ⟨0, A4, m, c4, by have := hn1.out; omega, rfl, ?_, ro5.out, ?_, hne5.out, fun j hj => absurd hj (by omega), hB5.out⟩
        · rw [h1]; exact k5.out
        · rw [h1]; exact od5.out
      case round =>
        obtain ⟨k, A5, m5, c5, hk, rfl, k6, ro6, od6, hne6, hfol, hB6⟩ := hrel
        have hb6 := hb1'.out.trans (hB6.mono (Nat.le_of_lt hz1.out))
        have kz6 := kz1'.out.below hB6 hz1.out
        by_cases hlt : k + 1 < n
        · obtain ⟨x, b', off', xo, xn, xc, xa, xm, xd, hx, e1, _, hrx, hox, hdx⟩ := lr4_ex (hL.below hb6) hq (show k < n by omega)
          cases e1
          obtain ⟨y, b', off', yo, yn, yc, ya, ym, yd, hy, e1, hby, hry, hoy, hdy⟩ := lr4_ex (hL.below hb6) hq hlt
          cases e1
          have hxk : chk4 x = 0 := hall0.out x (List.mem_of_getElem? hx)
          obtain ⟨_, t2, t3, t4⟩ := checkV4_ok (p := x) hxk
          have hfa := folAt_at hx hy
          have hcn := cat4_next hy
          have hcl := cat4_le l (k + 1 + 1)
          rw [hcn, List.length_append] at hcl
          have hm5 := od6.len
          have hym := hdy.len
          have hxm := hdx.len
          obtain ⟨q1, q2, q3, q4⟩ := keys_chain hx0.out k x hfol hx
          obtain ⟨z, b', off', zo, zn, zc, za, zm, zd, hz, e1, _, hrz, _, _⟩ := lr4_ex (hL.below hb6) hq hn1.out
          cases e1
          obtain rfl : p0 = z := Option.some.inj (hx0.out.symm.trans hz)
          have hFo := fun W => RefFits4_any p0 x y zo zn zc za zm zd xo xn xc xa xm xd yo yn yc ya ym yd W hxm t3 (by omega) (by omega) q1 q2 q3 q4
          clear q1 q2 q3 q4
          have hM1 := fun W (hW : Below wr.heap.size wr W) => rangeAt_below hrx hW hby
          have hM2 := fun W (hW : Below wr.heap.size wr W) => rangeAt_below hry hW hby
          have hM0 := fun W (hW : Below wr.heap.size wr W) => rangeAt_below hrz hW hby
          simp only [Nat.zero_mul, Nat.add_zero] at hM0
          have hV0 := Lib.hid (show (Try.prog.info? 24).map (·.size) = some (cells4 p0 zo zn zc za zm zd).size from info_v4)
          have hV1 := Lib.hid (show (Try.prog.info? 24).map (·.size) = some (cells4 x xo xn xc xa xm xd).size from info_v4)
          have hV2 := Lib.hid (show (Try.prog.info? 24).map (·.size) = some (cells4 y yo yn yc ya ym yd).size from info_v4)
          have hlti : (k : Int) < ((n - 1 : Nat) : Int) := by omega
          have hltn : (k : Int) < (n : Int) := by omega
          have hltm : k < n - 1 := by omega
          have hge : decide ((n : Int) ≤ (k : Int)) = false := by simp; omega
          have hge2 : decide (n ≤ k) = false := by simp; omega
          have hge3 : decide (n - 1 ≤ k) = false := by simp; omega
          have hcc : n - 1 ≤ c - 1 := by omega
          obtain ⟨fo, hfoe⟩ : ∃ fo, follows4 x y = fo := ⟨_, rfl⟩
          rw [hfoe] at hfa hFo
          have hK := Lib.hid (show ∀ W W', (fun W => Below wr.heap.size wr W) W → Below W.heap.size W W' → (fun W => Below wr.heap.size wr W) W' from fun W W' h1 h2 => h1.trans (h2.mono h1.size))
          have hC1 := Lib.hid (show ∀ W, (fun W => Below wr.heap.size wr W) W → True ∧ True ∧ True from fun _ _ => ⟨trivial, trivial, trivial⟩)
          replace hM0 := Lib.hid hM0
          replace hM1 := Lib.hid hM1
          replace hM2 := Lib.hid hM2
          replace hFo := Lib.hid hFo
          have hlt7 : ((k + 1 : Nat) : Int) < (n : Int) := by omega
          have hw1' : IntKind.i64.wrap (((k + 1 : Nat) : Int) - 1) = (k : Int) := by rw [IntKind.wrap_i64]; omega
          have hin0 : (0 : Int) < (n : Int) := by omega
          have hin1 : 0 < n := by omega
          have hp1 : (k : Int) + 1 < n := by omega
          have hp2 : (0 : Int) ≤ (k : Int) + 1 := by omega
          have hp3 : ((k : Int) + 1).toNat = k + 1 := by omega
          have hwk : IntKind.i64.wrap (k : Int) = (k : Int) := by rw [IntKind.wrap_i64]; omega
          have hk1n : k < n := by omega
          have hlt8 : k + 1 < n := by omega
          replace k6 := Lib.hid k6
          replace ro6 := Lib.hid ro6
          replace od6 := Lib.hid od6
          replace hne6 := Lib.hid hne6
          replace hfol := Lib.hid hfol
          replace hB6 := Lib.hid hB6
          replace hb6 := Lib.hid hb6
          replace kz6 := Lib.hid kz6
          replace hfa := Lib.hid hfa
          replace hcn := Lib.hid hcn
          replace hdy := Lib.hid hdy
          replace hx := Lib.hid hx
          replace hy := Lib.hid hy
          replace hrx := 0
          replace hrz := 0
          replace hry := 0
          replace hox := 0
          replace hdx := 0
          replace hoy := 0
          clear hfoe hxk hz
          go_upto_region 14 with fail
          try simp only [Act.put]
          refine wp_region_tame (fun W => Below wr.heap.size wr W) (by kernel_rfl) (by kernel_rfl) (Below.refl _ wr).drew ?_
          repeat (first
            | (refine tameL_skip rfl ?_; simp only [Act.put, List.setIfInBounds_toArray, List.set_cons_zero, List.set_cons_succ])
            | (refine tameL_at rfl 24 (.tmp 46) rfl b off rfl (cells4 p0 zo zn zc za zm zd) _ (fun W hS => hM0.out W hS) Try.underlying24 rfl hV0.out ?_; simp only [Act.put, List.setIfInBounds_toArray, List.set_cons_zero, List.set_cons_succ])
            | (refine tameL_at rfl 24 (.tmp 51) rfl b (off + k * 11) rfl (cells4 x xo xn xc xa xm xd) _ (fun W hS => hM1.out W hS) Try.underlying24 rfl hV1.out ?_; simp only [Act.put, List.setIfInBounds_toArray, List.set_cons_zero, List.set_cons_succ])
            | (refine tameL_at rfl 24 (.tmp 55) rfl b (off + (k + 1) * 11) rfl (cells4 y yo yn yc ya ym yd) _ (fun W hS => hM2.out W hS) Try.underlying24 rfl hV2.out ?_; simp only [Act.put, List.setIfInBounds_toArray, List.set_cons_zero, List.set_cons_succ])
            | (refine tameL_call3 (v := .bool fo) rfl 63 (.tmp 47) (.tmp 52) (.tmp 56) _ rfl en_Cut4RFits rfl rfl rfl ?_ ?_; exact fun W hS => (hFo.out W).mono fun e W' ⟨he, hb⟩ => ⟨he, hK.out W W' hS hb⟩; simp only [Act.put, List.setIfInBounds_toArray, List.set_cons_zero, List.set_cons_succ])
            | (refine tameL_val (v := ?_) rfl (fun W hS => ?_) ?_; rotate_left; (· (obtain ⟨g0, g1, g2⟩ := hC1.out W hS; clear hS; go_simp; try with_reducible rfl)); simp only [Act.put, List.setIfInBounds_toArray, List.set_cons_zero, List.set_cons_succ]))
          refine tameL_nil fun W hS => ?_
          have hBW := hS
          have kHW := k6.out.to hBW
          have cH := kHW.cell 10 (.slice A5 m5 c5) rfl
          have cY : W.cell? ⟨b, off + (k + 1) * 11 + 10, none⟩ = some (.slice ya ym yd) := hM2.out W hBW 10 _ rfl
          have kzW := Lib.hid (kz6.out.to hBW)
          have hbW := Lib.hid (hb6.out.trans (hBW.mono hb6.out.size))
          have odW := Lib.hid (od6.out.below hBW)
          have roW := Lib.hid (ro6.out.below hBW)
          have hdW := Lib.hid (hdy.out.below hBW)
          have hzW := Lib.hid (show wh.heap.size + 1 ≤ W.heap.size from kHW.lt)
          replace kHW := Lib.hid kHW
          replace hBW := Lib.hid hBW
          clear hS
          cases fo
          · have hkk := Lib.hid (show glueK l = 4 by
              unfold glueK
              rw [if_neg (by rw [hln.out]; have := hn1.out; omega), if_neg (by rw [hfb'.out]; decide), if_pos (chain4_false hx.out hy.out (by rw [← folAt_at hx.out hy.out]; exact hfa.out))])
            clear cH cY
            go_wp2_with (first
              | (refine wpList_store_4 rfl (.tmp 2) (.tmp 59) rfl w.heap.size zero4c rfl rfl _ kzW.out rfl rfl (one4 zero4 none 0 0 none 0 0) ?_; rw [setRow_self _ _ _ _ _ kzW.out.at_])
              | fail)
            refine bodyPost_ret (results_ct Try.results21 rfl (run_load_4 kzW.out rfl)) rfl ?_
            exact GlueOut.bad hkk.out (by decide) hbW.out
          · have hsz := Lib.hid (show m5 + ym ≤ 140737488355328 by omega)
            go_upto_region 16 with fail
            try simp only [Act.put]
            have hBd : Below W.heap.size W W.drew := (Below.refl _ W).drew
            have odd := Lib.hid (odW.out.below hBd)
            have hdd := Lib.hid (hdW.out.below hBd)
            have hzd := Lib.hid (Nat.le_trans hzW.out hBd.size)
            replace kHW := Lib.hid (kHW.out.to hBd)
            replace roW := Lib.hid (roW.out.below hBd)
            replace kzW := Lib.hid (kzW.out.to hBd)
            replace hbW := Lib.hid (hbW.out.trans (hBd.mono hbW.out.size))
            replace hBW := Lib.hid (hBW.out.trans (hBd.mono hBW.out.size))
            have cHd : W.drew.cell? ⟨wh.heap.size, 10, none⟩ = some (.slice A5 m5 c5) := cH
            have cYd : W.drew.cell? ⟨b, off + (k + 1) * 11 + 10, none⟩ = some (.slice ya ym yd) := cY
            clear cH cY
            replace hBd := 0
            go_region_law (refine step_append_bytes (A := A5) (n := m5) (c := c5) (A' := ya) (m := ym) (c' := yd) (base := wh.heap.size + 1) (bs := cat4 l (k + 1)) (ys := y.data) rfl (.tmp 61) (.tmp 66) rfl (by simp [Act.eval]) (by simp [Act.eval]) odd.out hdd.out hsz.out hzd.out ?_; intro A6 c6 w8 ho8 hg8 hr8; have hB8 := (Below.refl (wh.heap.size + 1) _).grown hg8 hzd.out (fun j hj => (odd.out.blk hj).1); have kH8 := kHW.out.below hB8 (Nat.lt_succ_self _); have cH8 := kH8.cell 10 (.slice A5 m5 c5) rfl; have fH8 := kH8.frz 10; replace kH8 := Lib.hid kH8; replace hB8 := Lib.hid hB8; replace ho8 := Lib.hid ho8; replace hg8 := Lib.hid hg8; replace hr8 := Lib.hid hr8; clear cHd cYd)
            all_goals
              go_wp2_with fail
              have nb8 := nbc4 kH8.out
              have hzz := hz1.out
              have hz8 := hB8.out.size
              have hzr := hBW.out.size
              have hle6 : wh.heap.size ≤ wr.heap.size := by have h1 := hB6.out.size; have h2 := hz7.out; omega
              go_roundw
              case rel =>
                refine ⟨k + 1, A6, m5 + ym, c6, by omega, by go_num, by rw [hcn.out]; simpa using kH8.out.set 10 (.slice A6 (m5 + ym) c6), (roW.out.grown (fun _ j hj => (hne6.out j hj).1) hg8.out).farN nb8 10 _, by rw [hcn.out]; exact ho8.out.set_low (Nat.lt_succ_self _) 10 _, fun j hj => ⟨fun h6 => ?_, ?_⟩, fun j hj => ?_, (hB6.out.trans ((hBW.out.mono hle6).trans (hB8.out.mono (Nat.le_succ _)))).setCell (p := ⟨wh.heap.size, 10, none⟩) (Nat.le_refl _) _⟩
                · rcases hr8.out with h | h
                  · exact (hne6.out j hj).1 (by rw [← h]; exact h6)
                  · rw [h] at h6; have := (hne6.out j hj).2; cases h6; omega
                · have := (hne6.out j hj).2; simp [World.setCell]; omega
                · by_cases hjk : j < k
                  · exact hfol.out j hjk
                  · obtain rfl : j = k := by omega
                    exact hfa.out
              case measure => simp [intOf]; omega
        · obtain rfl : n = k + 1 := by omega
          obtain ⟨x, b', off', xo, xn, xc, xa, xm, xd, hx, e1, hbx, hrx, hox, hdx⟩ := lr4_ex (hL.below hb6) hq (show k < k + 1 by omega)
          cases e1
          have cx : wr.cell? ⟨b, off + k * 11 + 8, none⟩ = some (.bool x.mf) := hrx 8 _ rfl
          have c8 := k6.cell 8 (.bool p0.mf) rfl
          have f8 := k6.frz 8
          replace k6 := Lib.hid k6
          replace ro6 := Lib.hid ro6
          replace od6 := Lib.hid od6
          replace hne6 := Lib.hid hne6
          replace hfol := Lib.hid hfol
          replace hB6 := Lib.hid hB6
          replace hb6 := Lib.hid hb6
          replace kz6 := Lib.hid kz6
          replace hx := Lib.hid hx
          replace hrx := 0
          replace hox := 0
          replace hdx := 0
          go_upto_region 18 with fail
          try simp only [Act.put]
          obtain ⟨w7, hw7⟩ : ∃ w7, wr.setCell ⟨wh.heap.size, 8, none⟩ (.bool x.mf) = w7 := ⟨_, rfl⟩
          have hwhole : whole4 l = { p0 with mf := x.mf, data := cat4 l (k + 1) } := by
            unfold whole4
            have h1 : l.head? = some p0 := by rw [← hx0.out, List.head?_eq_getElem?]
            rw [hln.out, Nat.add_sub_cancel, hx.out, h1, ← cat4_all, hln.out]; rfl
          have k7 : Blk w7 wh.heap.size (cells4 (whole4 l) A3 no c3 A5 m5 c5) 24 := by rw [← hw7, hwhole]; simpa using k6.out.set 8 (.bool x.mf)
          have nb6 := nbc4 k6.out
          have ro7 : RB w7 A3 no c3 (whole4 l).opts := by rw [← hw7, hwhole]; exact ro6.out.farN nb6 8 _
          have od7 : RB w7 A5 m5 c5 (whole4 l).data := by rw [← hw7, hwhole]; exact od6.out.rb.farN nb6 8 _
          have kz7 : Blk w7 w.heap.size zero4c 24 := by rw [← hw7]; exact kz6.out.far (Nat.ne_of_lt hz1.out) 8 _
          have hb7 : Below w.heap.size w w7 := by rw [← hw7]; exact hb6.out.setCell (p := ⟨wh.heap.size, 8, none⟩) (Nat.le_of_lt hz1.out) _
          rw [hw7]
          have hcl := cat4_le l (k + 1)
          have hm5 := od6.out.len
          have hck : chk4 (whole4 l) = checkV4 (whole4 l) no m5 := by unfold chk4; rw [ro7.len, od7.len]
          have hK := fun W => RefCheck4_any (whole4 l) A3 no c3 A5 m5 c5 W s1 (by omega)
          have hch : chain4 l = true := chain4_true fun j hj => hfol.out j (by rw [hln.out] at hj; omega)
          have hgk : glueK l = checkV4 (whole4 l) no m5 := by
            unfold glueK
            rw [if_neg (by rw [hln.out]; omega), if_neg (by rw [hfb'.out]; decide), if_neg (by rw [hch]; decide), hck]
          have hgd := fun (W : World) (h : glueK l = 0) => @GlueOut.good w W l
          obtain ⟨V, hVe⟩ : ∃ V, whole4 l = V := ⟨_, rfl⟩
          have hgood := Lib.hid (fun (W : World) (Ao : Option Addr) (no' co' : Nat) (A' : Option Addr) (n' c' : Nat) (hk : glueK l = 0) (ho : RB W Ao no' co' V.opts) (hd : RB W A' n' c' V.data) (hb : Below w.heap.size w W) => show GlueOut w l (.returned (.tuple #[.agg (cells4 V Ao no' co' A' n' c'), .int .i64 0])) W by
            rw [← hVe] at ho hd ⊢
            exact GlueOut.good hk ho hd hb)
          rw [hVe] at k7 ro7 od7 hK hgk
          obtain ⟨ck, hcke⟩ : ∃ ck, checkV4 V no m5 = ck := ⟨_, rfl⟩
          rw [hcke] at hK hgk
          replace hK := Lib.hid hK
          replace hgk := Lib.hid hgk
          replace k7 := Lib.hid k7
          replace ro7 := Lib.hid ro7
          replace od7 := Lib.hid od7
          replace kz7 := Lib.hid kz7
          replace hb7 := Lib.hid hb7
          clear hw7 hwhole cx c8 f8 nb6 hck hch hVe hcke hgd
          by_cases hc : ck = 0
          · subst hc
            go_wp2_with (first
              | (refine wpList_load_4 rfl (.tmp 6) rfl wh.heap.size rfl _ k8.out rfl ?_)
              | (refine wpList_load_4 rfl (.tmp 6) rfl wh.heap.size rfl _ k7.out rfl ?_)
              | (refine wpList_store_4 rfl (.tmp 2) (.tmp 83) rfl w.heap.size (cells4 V A3 no c3 A5 m5 c5) rfl rfl _ kz8.out rfl rfl (one4 _ _ _ _ _ _ _) ?_)
              | (go_at_call 56; refine (hK.out _).mono ?_; rintro e w8 ⟨rfl, hB8⟩; have k8 := Lib.hid (k7.out.to hB8); have kz8 := Lib.hid (kz7.out.to hB8); have ro8 := Lib.hid (ro7.out.below hB8); have od8 := Lib.hid (od7.out.below hB8); have hb8 := Lib.hid (hb7.out.trans (hB8.mono hb7.out.size)); replace hB8 := 0)
              | fail)
            refine bodyPost_ret (results_ct Try.results21 rfl (run_load_4 (Blk.mk (setRow_heap _ _ _ _ _ _ kz8.out.at_)) rfl)) rfl ?_
            have nbz := nbc4 (q := zero4) (x1 := none) (x2 := 0) (x3 := 0) (y1 := none) (y2 := 0) (y3 := 0) kz8.out
            exact hgood.out _ _ _ _ _ _ _ hgk.out (ro8.out.farRow nbz _) (od8.out.farRow nbz _) (below_row hb8.out (Nat.le_refl _) _)
          · have hcn : (ck != 0) = true := by simpa using hc
            go_wp2_with (first
              | (refine wpList_store_4 rfl (.tmp 2) (.tmp 81) rfl w.heap.size zero4c rfl rfl _ kz8.out rfl rfl (one4 zero4 none 0 0 none 0 0) ?_; rw [setRow_self _ _ _ _ _ kz8.out.at_])
              | (refine wpList_load_4 rfl (.tmp 6) rfl wh.heap.size rfl _ k7.out rfl ?_)
              | (go_at_call 56; refine (hK.out _).mono ?_; rintro e w8 ⟨rfl, hB8⟩; have kz8 := Lib.hid (kz7.out.to hB8); have hb8 := Lib.hid (hb7.out.trans (hB8.mono hb7.out.size)); replace hB8 := 0)
              | fail)
            refine bodyPost_ret (results_ct Try.results21 rfl (run_load_4 kz8.out rfl)) rfl ?_
            exact GlueOut.bad hgk.out hc hb8.out
end Go.Proofs.Ytipigcpenmcaoaa
