/- The law Cut4Back: its walk. -/
import Derived.Test.YtipigcpenmcaoaaCut4I
import Derived.Test.YtipigcpenmcaoaaCut4U
import Derived.Test.YtipigcpenmcaoaaV4M
import Derived.Test.YtipigcpenmcaoaaReadV4
set_option linter.unusedVariables false
namespace Go.Proofs.Ytipigcpenmcaoaa
open Go Go.RowKit
attribute [local go_sem] Oper.semAt_some

theorem cutR4_back {p : V4P} {mtu : Int} (h : cutK4 p mtu = 0) : (∀ x ∈ cutR4 p mtu, (20 + x.opts.length + x.data.length : Int) ≤ mtu ∧ chk4 x = 0) ∧ glueK (cutR4 p mtu) = 0 ∧ glueV (cutR4 p mtu) = p ∧ (cutR4 p mtu).flatMap (·.data) = p.data ∧ (cutR4 p mtu).length ≤ p.data.length + 1 := by
  have h0 := h
  unfold cutK4 at h
  split at h
  · omega
  split at h
  · exact absurd h (by assumption)
  rename_i hm hc
  have hc' : chk4 p = 0 := by unfold chk4; omega
  unfold cutR4
  rw [if_pos h0]
  split at h
  · rename_i hs
    rw [if_pos hs]
    obtain ⟨g1, g2⟩ := glue4_one hc'
    exact ⟨fun x hx => by rw [List.mem_singleton.1 hx]; exact ⟨hs, hc'⟩, g1, g2, by simp, by simp⟩
  · rename_i hs
    rw [if_neg hs]
    obtain ⟨i1, i2, i3, i4⟩ := frags4_back (p := p) (mtu := mtu) (by omega) (by omega) hc'
    have hb := (checkV4_iff p p.opts.length p.data.length).1 hc'
    have hk := ((okV4_iff _ _ _).1 hb.1).2.2.2
    refine ⟨i1, i2, i3, i4, ?_⟩
    have := fragsF_len mtu p.mf (copiedV p.opts) (by omega) (copied_len (by omega)) (p.data.length + 1) p p.data (by omega)
    unfold frags4; omega
set_option maxRecDepth 100000 in
set_option maxHeartbeats 4000000 in
theorem Cut4Back_walk (p : V4P) (ao : Option Addr) (no co : Nat) (a : Option Addr) (n c : Nat) (mtu : Int) (w : World) (hro : RB w ao no co p.opts) (hr : RB w a n c p.data) (hfit : p.Fit) (hm0 : -9223372036854775808 ≤ mtu) (hm1 : mtu ≤ 9223372036854775807) :
    Calls Try.prog 5 #[.agg (cells4 p ao no co a n c), .int .i64 mtu] w fun e w' => e = .returned (.bool true) ∧ Below w.heap.size w w' := by
  clear hm0 hm1 hfit
  have hb0 := Lib.hid ((Below.refl _ w).alloc (Nat.le_refl _) (.cells (cells4 p ao no co a n c) 24))
  have kP0 := Blk.new w (cells4 p ao no co a n c) 24
  have c9 := kP0.cell 9 (.slice ao no co) rfl
  have c10 := kP0.cell 10 (.slice a n c) rfl
  have kP := Lib.hid kP0
  clear kP0
  by_cases h1 : 3000 < n
  · have d1 : decide ((3000 : Int) < n) = true := decide_eq_true (by omega)
    clear hro hr
    go_enter Try.func5, Try.ntmps5
    go_wp2_with (first
      | (go_at_call 13; refine (awake13 _).mono ?_; rintro e w1 ⟨rfl, hB1⟩)
      | fail)
    go_ret
    exact ⟨by first | rfl | simp, hb0.out.trans (hB1.mono hb0.out.size)⟩
  have d1 : decide ((3000 : Int) < n) = false := decide_eq_false (by omega)
  by_cases h2 : 200 < no
  · have d2 : decide ((200 : Int) < no) = true := decide_eq_true (by omega)
    clear hro hr
    go_enter Try.func5, Try.ntmps5
    go_wp2_with (first
      | (go_at_call 13; refine (awake13 _).mono ?_; rintro e w1 ⟨rfl, hB1⟩)
      | fail)
    go_ret
    exact ⟨by first | rfl | simp, hb0.out.trans (hB1.mono hb0.out.size)⟩
  have d2 : decide ((200 : Int) < no) = false := decide_eq_false (by omega)
  have hlr := Lib.hid hr.len
  have hro' := Lib.hid hro
  have hr' := Lib.hid hr
  have hC := Lib.hid (fun W (hW : Below w.heap.size w W) => Cut4_any p ao no co a n c mtu W (hro.below hW) (hr.below hW) (by omega) (by omega))
  by_cases hkk : cutK4 p mtu = 0
  rotate_left
  · have hcr : cutR4 p mtu = [] := by unfold cutR4; rw [if_neg hkk]
    unfold Cut4Out at hC
    rw [hcr] at hC
    have hkn : (cutK4 p mtu != 0) = true := by simpa using hkk
    generalize cutK4 p mtu = kk at *
    clear hro hr hkk hcr
    go_enter Try.func5, Try.ntmps5
    go_wp2_with (first
      | (refine wpList_load_4 rfl (.tmp 2) rfl w.heap.size rfl _ kP.out rfl ?_)
      | (go_at_call 14; refine (hC.out _ hb0.out).mono ?_; rintro e w1 ⟨A1, n1, c1, qs1, rfl, hL1, hp1, hB1⟩; obtain rfl : 0 = n1 := lr4_len hL1 hp1; have hb1 := Lib.hid (hb0.out.trans (hB1.mono hb0.out.size)); clear hL1 hp1 hB1)
      | (go_at_call 13; refine (awake13 _).mono ?_; rintro e w7 ⟨rfl, hB7⟩)
      | fail)
    go_ret
    exact ⟨by first | rfl | simp, hb1.out.trans (hB7.mono hb1.out.size)⟩
  obtain ⟨l1, l2, l3, l4, l5⟩ := cutR4_back hkk
  unfold Cut4Out at hC
  rw [hkk] at hC
  obtain ⟨l, hl⟩ : ∃ l, cutR4 p mtu = l := ⟨_, rfl⟩
  rw [hl] at hC l1 l2 l3 l4 l5
  rw [hlr.out] at l5
  have hl1 := Lib.hid l1
  have hl2 := Lib.hid l2
  have hl3 := Lib.hid l3
  have hl4 := Lib.hid l4
  clear hro hr hkk hl l1 l2 l3 l4
  go_enter Try.func5, Try.ntmps5
  go_wp2_with (first
    | (refine wpList_load_4 rfl (.tmp 2) rfl w.heap.size rfl _ kP.out rfl ?_)
    | (go_at_call 14; refine (hC.out _ hb0.out).mono ?_; rintro e w1 ⟨A1, n1, c1, qs1, rfl, hL1, hp1, hB1⟩; have hb1 := Lib.hid (hb0.out.trans (hB1.mono hb0.out.size)); have kP1 := Lib.hid (kP.out.to hB1); have hln := Lib.hid (lr4_len hL1 hp1); replace hL1 := Lib.hid hL1; replace hp1 := Lib.hid hp1; replace hB1 := 0; clear c9 c10)
    | fail)
  have hn1 : n1 ≤ 3001 := by have := hln.out; omega
  go_loopw [38] (fun v wr => ∃ k : Nat, k ≤ n1 ∧ v = .int .i64 k ∧ Below w1.heap.size w1 wr) (fun v _ => n1 - (intOf v).toNat)
  case atStart => exact ⟨0, Nat.zero_le _, rfl, Below.refl _ _⟩
  case round =>
    obtain ⟨k, hk, rfl, hbr⟩ := hrel
    by_cases hlt : k < n1
    · obtain ⟨x, b, off, xo, xn, xc, xa, xm, xd, hx, rfl, hbl, hr1, ho1, hd1⟩ := lr4_ex hL1.out hp1.out hlt
      obtain ⟨s1, s2⟩ := hl1.out x (List.mem_of_getElem? hx)
      have hol := ho1.len
      have hdl := hd1.len
      rw [hol, hdl] at s1
      have s3 := (checkV4_ok (p := x) s2)
      rw [hol, hdl] at s3
      unfold chk4 at s2
      rw [hol, hdl] at s2
      have hS := Lib.hid (fun W => Size4_any x xo xn xc xa xm xd W (by omega) (by omega))
      have hK := fun W => Check4_any x xo xn xc xa xm xd W (by omega) (by omega)
      rw [s2] at hK
      replace hK := Lib.hid hK
      have hsz : decide (mtu < 20 + (xn : Int) + xm) = false := decide_eq_false (by omega)
      have hM1 := Lib.hid (rangeAt_below hr1 hbr hbl)
      have hf1 := Lib.hid (show (Try.prog.info? 24).map (·.size) = some (cells4 x xo xn xc xa xm xd).size from info_v4)
      have hnc := hL1.out.nc
      have hlti : (k : Int) < (n1 : Int) := by omega
      have hge : decide ((n1 : Int) ≤ (k : Int)) = false := by simp; omega
      have hbe := Lib.hid (hbr.alloc hbr.size (.cells (cells4 x xo xn xc xa xm xd) 24))
      have kX := Lib.hid (Blk.new wr (cells4 x xo xn xc xa xm xd) 24)
      replace hx := Lib.hid hx
      replace hbr := 0
      replace hr1 := 0
      replace ho1 := 0
      replace hd1 := 0
      clear hol hdl s1 s2 s3
      go_wp2_with (first
        | (refine wpList_load_at rfl 24 (.tmp 40) rfl b (off + k * 11) rfl (cells4 x xo xn xc xa xm xd) _ hM1.out Try.underlying24 rfl hf1.out ?_)
        | (refine wpList_store_4 rfl (.tmp 8) (.tmp 41) rfl wr.heap.size (cells4 x xo xn xc xa xm xd) rfl rfl _ (Blk.new _ zero4c 24) rfl rfl (one4 _ _ _ _ _ _ _) ?_; rw [World.setRow_alloc_new])
        | (refine wpList_load_4 (by rfl) (.tmp 8) rfl wr.heap.size rfl _ kX2.out rfl ?_)
        | (refine wpList_load_4 (by rfl) (.tmp 8) rfl wr.heap.size rfl _ kX.out rfl ?_)
        | (go_at_call 23; refine (hS.out _).mono ?_; rintro e w4 ⟨rfl, hB4⟩; have kX2 := Lib.hid (kX.out.to hB4); have hb4 := Lib.hid (hbe.out.trans (hB4.mono hbe.out.size)); replace hB4 := 0)
        | (go_at_call 24; refine (hK.out _).mono ?_; rintro e w5 ⟨rfl, hB5⟩; have hb5 := Lib.hid (hb4.out.trans (hB5.mono hb4.out.size)); replace hB5 := 0)
        | fail)
      go_roundw
      case rel => exact ⟨k + 1, by omega, by go_num, hb5.out⟩
      case measure => simp [intOf]; omega
    · obtain rfl : n1 = k := by omega
      have hsm := fun x (hx : x ∈ l) => checkV4_ok (p := x) (hl1.out x hx).2
      have hbw := hb1.out.trans (hbr.mono hb1.out.size)
      have kP2 := Lib.hid (kP1.out.to hbr)
      have hlen4 : (l.flatMap (·.data)).length = n := by rw [hl4.out]; exact hlr.out
      have hG := fun W (hW : Below w1.heap.size w1 W) => Glue4_any A1 n1 c1 qs1 l W (hL1.out.below hW) hp1.out (by omega) (fun x hx => ⟨by have := (hsm x hx).1; omega, by have := (hsm x hx).2.1; omega⟩) (by omega)
      unfold GlueOut at hG
      rw [hl2.out, hl3.out] at hG
      replace hG := Lib.hid hG
      replace hbr := Lib.hid hbr
      replace hbw := Lib.hid hbw
      clear hsm hlen4
      go_wp2_with (first
        | (refine wpList_store_4 rfl (.tmp 9) (.tmp 55) rfl w2.heap.size (cells4 p A3 no c3 A4 n c4) rfl rfl _ (Blk.new _ zero4c 24) rfl rfl (one4 _ _ _ _ _ _ _) ?_; rw [World.setRow_alloc_new])
        | (refine wpList_load_4 (by rfl) (.tmp 2) rfl w.heap.size rfl _ kP3.out rfl ?_)
        | (refine wpList_load_4 (by rfl) (.tmp 9) rfl w2.heap.size rfl _ k4.out rfl ?_)
        | (go_at_call 20; refine (hG.out _ hbr.out).mono ?_; rintro e w2 ⟨A3, n3, c3, A4, n4, c4, rfl, ho3, hd3, hB2⟩; obtain rfl : no = n3 := (hro'.out.len.symm.trans ho3.len); obtain rfl : n = n4 := (hr'.out.len.symm.trans hd3.len); have hb3 := hbw.out.trans (hB2.mono hbw.out.size); have k4 := Lib.hid (Blk.new w2 (cells4 p A3 no c3 A4 n c4) 24); have kP3 := Lib.hid ((kP2.out.to hB2).alloc (.cells (cells4 p A3 no c3 A4 n c4) 24)); have hb4 := Lib.hid (hb3.alloc hb3.size (.cells (cells4 p A3 no c3 A4 n c4) 24)); have ho4 := Lib.hid (ho3.alloc (.cells (cells4 p A3 no c3 A4 n c4) 24)); have hd4 := Lib.hid (hd3.alloc (.cells (cells4 p A3 no c3 A4 n c4) 24)); clear ho3 hd3 hB2 hb3)
        | (go_at_call 25; refine (Same4_same p ao no co a n c A3 c3 A4 c4 _ (hro'.out.below hb4.out) (hr'.out.below hb4.out) ho4.out hd4.out (by omega) (by omega)).mono ?_; rintro e w6 ⟨rfl, hB6⟩; have hb6 := Lib.hid (hb4.out.trans (hB6.mono hb4.out.size)); replace hB6 := 0)
        | (go_at_call 13; refine (awake13 _).mono ?_; rintro e w7 ⟨rfl, hB7⟩)
        | fail)
      go_ret
      exact ⟨by first | rfl | simp, hb6.out.trans (hB7.mono hb6.out.size)⟩
end Go.Proofs.Ytipigcpenmcaoaa
