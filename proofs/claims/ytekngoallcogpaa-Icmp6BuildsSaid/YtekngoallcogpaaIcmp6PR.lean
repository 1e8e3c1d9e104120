/- Messages of ICMP, of IPv6 (the reference): walk of Parse. -/
import Derived.Test.YtekngoallcogpaaIcmp6P
set_option linter.unusedVariables false
namespace Go.Proofs.Ytekngoallcogpaa
open Go.RowKit


set_option maxRecDepth 100000 in
set_option maxHeartbeats 2000000 in
theorem RefParse6_any (s d : List Int) (A : Option Addr) (n c : Nat) (bs : List Int) (w : World) (hs : Six s) (hd : Six d) (h : RB w A n c bs) :
    Calls Try.prog 50 #[.agg (cells6 s), .agg (cells6 d), .slice A n c] w (IcmpOut w (read6 s d bs) (code6 s d bs)) := by
  have hlen := h.len
  have hb0 := Lib.hid ((((Below.refl _ w).alloc (Nat.le_refl _) (.cells (cells6 s) 52)).alloc (by simp) (.cells (cells6 d) 52)).alloc (by simp; omega) (.cells #[.int .i64 0, .int .i64 0, .int .i64 0, .slice none 0 0] 24))
  have k1 := Lib.hid (((Blk.new w (cells6 s) 52).alloc (.cells (cells6 d) 52)).alloc (.cells #[.int .i64 0, .int .i64 0, .int .i64 0, .slice none 0 0] 24))
  have k2 := (Blk.new (w.alloc (.cells (cells6 s) 52)) (cells6 d) 52).alloc (.cells #[.int .i64 0, .int .i64 0, .int .i64 0, .slice none 0 0] 24)
  have k3 := Blk.new ((w.alloc (.cells (cells6 s) 52)).alloc (.cells (cells6 d) 52)) #[.int .i64 0, .int .i64 0, .int .i64 0, .slice none 0 0] 24
  rw [World.size_alloc] at k2
  rw [World.size_alloc, World.size_alloc] at k3
  replace k2 := Lib.hid k2
  replace k3 := Lib.hid k3
  have i1 := Lib.hid (info_six6 hs)
  have i2 := Lib.hid (info_six6 hd)
  by_cases h8 : n < 8
  · have hk := Lib.hid (show code6 s d bs = 3 by unfold code6; rw [hlen, if_pos h8])
    clear h hlen
    go_enter Try.func50, Try.ntmps50
    go_wp2
    exact bodyPost_ret (v := .tuple #[.agg #[.int .i64 0, .int .i64 0, .int .i64 0, .slice none 0 0], .int .i64 3]) (by simp [results, Try.results50, go_sem]) rfl (Icmp6Out.bad hk.out (by decide) hb0.out)
  · by_cases h9 : 65535 < n
    · have hk := Lib.hid (show code6 s d bs = 6 by unfold code6; rw [hlen, if_neg h8, if_pos h9])
      clear h hlen
      go_enter Try.func50, Try.ntmps50
      go_wp2
      exact bodyPost_ret (v := .tuple #[.agg #[.int .i64 0, .int .i64 0, .int .i64 0, .slice none 0 0], .int .i64 6]) (by simp [results, Try.results50, go_sem]) rfl (Icmp6Out.bad hk.out (by decide) hb0.out)
    · have hsmall := Lib.hid (small_two (pseudo6_byts hs hd 58 (n : Int)) (by rw [pseudo6_length hs hd]; omega) h.byt (by omega))
      have ho := show own6 s d bs = foldI (totalI [pseudo6 s d 58 (n : Int), bs]) by unfold own6; rw [hlen]
      have hP := Lib.hid (fun W => RefPseudo6_any s d 58 (n : Int) W hs hd)
      have hR := Lib.hid (fun A c W hr => by have := RefRight_any A 2 c [pseudo6 s d 58 (n : Int), bs] W hr hsmall.out; rw [← ho] at this; exact this)
      replace ho := 0
      cases hq : (own6 s d bs == 65535)
      · have hk := Lib.hid (show code6 s d bs = 5 by unfold code6; rw [hlen, if_neg h8, if_neg h9, hq]; rfl)
        rw [hq] at hR
        replace hq := 0
        replace h := Lib.hid h
        clear hlen
        go_enter Try.func50, Try.ntmps50
        go_wp2_with (first
          | (refine wpList_load_row rfl 52 (.tmp 3) rfl w.heap.size rfl _ (cells6 s) _ _ k1.out.at_ Try.underlying52 rfl i1.out ?_)
          | (refine wpList_load_row rfl 52 (.tmp 4) rfl (w.heap.size + 1) rfl _ (cells6 d) _ _ k2.out.at_ Try.underlying52 rfl i2.out ?_)
          | (go_at_call 46; refine (hP.out _).mono ?_; rintro e w1 ⟨A1, c1, rfl, ho1, hB1⟩; have hrr := Lib.hid (rbb_two ho1.rb ((h.out.below hb0.out).below hB1)); have hBt1 := Lib.hid (hb0.out.trans (hB1.mono hb0.out.size)); have v1 := Lib.hid (k3.out.to hB1); replace ho1 := 0; replace hB1 := 0)
          | (go_at_call 61; refine (hR.out _ _ _ hrr.out).mono ?_; rintro e w2 ⟨rfl, hB2⟩; have hv2 := (v1.out.alloc _).to hB2; have hlt2 := hv2.lt; obtain ⟨⟨z0, z1, z2, z3⟩, f0, f1, f2, f3⟩ := hv2.z4; have hBt := (hBt1.out.alloc hBt1.out.size _).trans (hB2.mono (by have := hBt1.out.size; simp; omega)); replace hB2 := 0; replace hv2 := 0)
          | fail)
        have hfold : ((((w2.setCell ⟨(w.heap.size + 1 + 1), 0, none⟩ (.int .i64 0)).setCell ⟨(w.heap.size + 1 + 1), 1, none⟩ (.int .i64 0)).setCell ⟨(w.heap.size + 1 + 1), 2, none⟩ (.int .i64 0)).setCell ⟨(w.heap.size + 1 + 1), 3, none⟩ (.slice none 0 0)) = set4 w2 (w.heap.size + 1 + 1) (.int .i64 0) (.int .i64 0) (.int .i64 0) (.slice none 0 0) := rfl
        rw [hfold]
        obtain ⟨r0, r1, r2, r3⟩ := set4_at w2 (w.heap.size + 1 + 1) (.int .i64 0) (.int .i64 0) (.int .i64 0) (.slice none 0 0) z0 z1 z2 z3
        have hbf := below_set4 (B := (w.heap.size + 1 + 1)) hBt (by omega) (.int .i64 0) (.int .i64 0) (.int .i64 0) (.slice none 0 0)
        clear hfold z0 z1 z2 z3 f0 f1 f2 f3 hBt
        generalize set4 w2 (w.heap.size + 1 + 1) (.int .i64 0) (.int .i64 0) (.int .i64 0) (.slice none 0 0) = Wf at *
        exact bodyPost_ret (v := .tuple #[.agg #[(.int .i64 0), (.int .i64 0), (.int .i64 0), (.slice none 0 0)], .int .i64 5]) (by simp [results, Try.results50, go_sem, r0, r1, r2, r3]) rfl (Icmp6Out.bad hk.out (by decide) hbf)
      · have hk := Lib.hid (show code6 s d bs = 0 by unfold code6; rw [hlen, if_neg h8, if_neg h9, hq]; rfl)
        rw [hq] at hR
        replace hq := 0
        have hRd := Lib.hid (fun W (hW : Below w.heap.size w W) => RefIcmpRead_any A n c bs W (h.below hW) (by omega) (by omega))
        obtain ⟨m, hm⟩ : ∃ m, parsedI bs = m := ⟨_, rfl⟩
        rw [hm] at hRd
        replace hm := Lib.hid hm
        replace h := Lib.hid h
        clear hlen
        go_enter Try.func50, Try.ntmps50
        go_wp2_with (first
          | (refine wpList_load_row rfl 52 (.tmp 3) rfl w.heap.size rfl _ (cells6 s) _ _ k1.out.at_ Try.underlying52 rfl i1.out ?_)
          | (refine wpList_load_row rfl 52 (.tmp 4) rfl (w.heap.size + 1) rfl _ (cells6 d) _ _ k2.out.at_ Try.underlying52 rfl i2.out ?_)
          | (go_at_call 46; refine (hP.out _).mono ?_; rintro e w1 ⟨A1, c1, rfl, ho1, hB1⟩; have hrr := Lib.hid (rbb_two ho1.rb ((h.out.below hb0.out).below hB1)); have hBt1 := Lib.hid (hb0.out.trans (hB1.mono hb0.out.size)); have v1 := Lib.hid (k3.out.to hB1); replace ho1 := 0; replace hB1 := 0)
          | (go_at_call 61; refine (hR.out _ _ _ hrr.out).mono ?_; rintro e w2 ⟨rfl, hB2⟩; have hv2 := Lib.hid ((v1.out.alloc _).to hB2); have hBt2 := Lib.hid ((hBt1.out.alloc hBt1.out.size _).trans (hB2.mono (by have := hBt1.out.size; simp; omega))); replace hB2 := 0)
          | (go_at_call 62; refine (hRd.out _ hBt2.out).mono ?_; rintro e w3 ⟨A3, n3, c3, rfl, hr3, hB3⟩; have hv3 := hv2.out.to hB3; obtain ⟨⟨z0, z1, z2, z3⟩, f0, f1, f2, f3⟩ := hv3.z4; have hBt := hBt2.out.trans (hB3.mono hBt2.out.size); have hlt3 := hv3.lt; have hlt2 := hv2.out.lt; replace hB3 := 0; replace hv3 := 0)
          | fail)
        have hob := Lib.hid (hr3.set4 (B := w.heap.size + 1 + 1) hv2.out.lt (.int .i64 m.t) (.int .i64 m.cd) (.int .i64 m.r) (.slice A3 n3 c3))
        have hfold : ((((w3.setCell ⟨(w.heap.size + 1 + 1), 0, none⟩ (.int .i64 m.t)).setCell ⟨(w.heap.size + 1 + 1), 1, none⟩ (.int .i64 m.cd)).setCell ⟨(w.heap.size + 1 + 1), 2, none⟩ (.int .i64 m.r)).setCell ⟨(w.heap.size + 1 + 1), 3, none⟩ (.slice A3 n3 c3)) = set4 w3 (w.heap.size + 1 + 1) (.int .i64 m.t) (.int .i64 m.cd) (.int .i64 m.r) (.slice A3 n3 c3) := rfl
        rw [hfold]
        obtain ⟨r0, r1, r2, r3⟩ := set4_at w3 (w.heap.size + 1 + 1) (.int .i64 m.t) (.int .i64 m.cd) (.int .i64 m.r) (.slice A3 n3 c3) z0 z1 z2 z3
        have hbf := below_set4 (B := (w.heap.size + 1 + 1)) hBt (by omega) (.int .i64 m.t) (.int .i64 m.cd) (.int .i64 m.r) (.slice A3 n3 c3)
        clear hfold z0 z1 z2 z3 f0 f1 f2 f3 hBt
        generalize set4 w3 (w.heap.size + 1 + 1) (.int .i64 m.t) (.int .i64 m.cd) (.int .i64 m.r) (.slice A3 n3 c3) = Wf at *
        exact bodyPost_ret (v := .tuple #[.agg #[(.int .i64 m.t), (.int .i64 m.cd), (.int .i64 m.r), (.slice A3 n3 c3)], .int .i64 0]) (by simp [results, Try.results50, go_sem, r0, r1, r2, r3]) rfl ((by unfold read6; rw [hk.out, if_pos rfl, hm.out]; exact ⟨A3, n3, c3, rfl, hob.out.mono (by omega), hbf⟩))
end Go.Proofs.Ytekngoallcogpaa
