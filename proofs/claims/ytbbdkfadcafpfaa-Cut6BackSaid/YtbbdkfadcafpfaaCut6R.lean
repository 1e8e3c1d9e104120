/- Fragments of IPv6 (the reference): walk of Cut. -/
import Derived.Test.YtbbdkfadcafpfaaCut6P
import Derived.Test.YtbbdkfadcafpfaaFragO
set_option linter.unusedVariables false
namespace Go.Proofs.Ytbbdkfadcafpfaa
open Go Go.RowKit
attribute [local go_sem] Oper.semAt_some

set_option maxRecDepth 100000 in
set_option maxHeartbeats 2000000 in
theorem RefCut6_bad (P : Array Value) (p : V6P) (A : Option Addr) (n c : Nat) (id mtu : Int) (w : World) (h : V6V P p A n c) (hr : RB w A n c p.data) (hbad : cutK p id mtu ≠ 0) :
    Calls Try.prog 34 #[.agg P, .int .i64 id, .int .i64 mtu] w (CutOut w p id mtu) := by
  have hb0 := Lib.hid ((Below.refl _ w).alloc (Nat.le_refl _) (.cells P 26))
  by_cases h1 : mtu < 1280
  · have e1 := Lib.hid (show cutK p id mtu = 1 by unfold cutK; rw [if_pos (.inl h1)])
    have d1 : decide (mtu < 1280) = true := decide_eq_true h1
    clear h hr hbad
    go_enter Try.func34, Try.ntmps34
    go_wp2
    go_ret2
    exact CutOut.bad e1.out (by decide) hb0.out
  have d1 : decide (mtu < 1280) = false := decide_eq_false h1
  by_cases h2 : 65535 < mtu
  · have e1 := Lib.hid (show cutK p id mtu = 1 by unfold cutK; rw [if_pos (.inr (.inl h2))])
    have d2 : decide (65535 < mtu) = true := decide_eq_true h2
    clear h hr hbad
    go_enter Try.func34, Try.ntmps34
    go_wp2
    go_ret2
    exact CutOut.bad e1.out (by decide) hb0.out
  have d2 : decide (65535 < mtu) = false := decide_eq_false h2
  have hF := fun W => RefFits_any id 4 W
  cases h3 : fitsB id 4
  · have e1 := Lib.hid (show cutK p id mtu = 1 by unfold cutK; rw [if_pos (.inr (.inr h3))])
    rw [h3] at hF
    replace hF := Lib.hid hF
    clear h hr hbad h3
    go_enter Try.func34, Try.ntmps34
    go_wp2_with (first
      | (go_at_call 53; refine (hF.out _).mono ?_; rintro e w' ⟨rfl, rfl⟩)
      | fail)
    go_ret2
    exact CutOut.bad e1.out (by decide) hb0.out
  rw [h3] at hF
  replace hF := Lib.hid hF
  have e1 : cutK p id mtu = checkV p n := by unfold cutK; rw [if_neg (by simp [h1, h2, h3]), hr.len]
  have hcd := Lib.hid (show checkV p n ≠ 0 from e1 ▸ hbad)
  replace e1 := Lib.hid e1
  have hK := fun W => RefV6Check_any P p A n c W h
  have hne : (checkV p n != 0) = true := by simpa using hcd.out
  have hV := Lib.hid (show (Try.prog.info? 26).map (·.size) = some P.size by rw [h.size]; exact info_v6)
  have kP := Lib.hid (Blk.new w P 26)
  generalize checkV p n = kk at *
  replace hK := Lib.hid hK
  clear h hr hbad h1 h2 h3
  go_enter Try.func34, Try.ntmps34
  go_wp2_with (first
    | (go_at_call 53; refine (hF.out _).mono ?_; rintro e w' ⟨rfl, rfl⟩)
    | (refine wpList_load_row rfl 26 (.tmp 3) rfl w.heap.size rfl _ P _ _ kP.out.at_ Try.underlying26 rfl hV.out ?_)
    | (go_at_call 20; refine (hK.out _).mono ?_; rintro e w1 ⟨rfl, hB1⟩; have hb1 := Lib.hid (hb0.out.trans (hB1.mono hb0.out.size)); replace hB1 := 0)
    | fail)
  go_ret2
  exact CutOut.bad e1.out hcd.out hb1.out

set_option maxRecDepth 100000 in
set_option maxHeartbeats 2000000 in
theorem RefCut6_short (P : Array Value) (p : V6P) (A : Option Addr) (n c : Nat) (id mtu : Int) (w : World) (h : V6V P p A n c) (hr : RB w A n c p.data) (h1 : ¬ mtu < 1280) (h2 : ¬ 65535 < mtu) (h3 : fitsB id 4 = true) (h4 : checkV p n = 0) (hn : n ≤ 60000) (h5 : (40 + n : Int) ≤ mtu) :
    Calls Try.prog 34 #[.agg P, .int .i64 id, .int .i64 mtu] w (CutOut w p id mtu) := by
  have hl := hr.len
  have hK := fun W => RefV6Check_any P p A n c W h
  rw [h4] at hK
  have hS := Lib.hid (fun W A3 c3 => RefV6Size_any (P.setIfInBounds 36 (.slice A3 n c3)) { p with data := p.data } A3 n c3 W (h.data A3 n c3 p.data) (by omega))
  have hF := Lib.hid (fun W => RefFits_any id 4 W)
  rw [h3] at hF
  have d1 : decide (mtu < 1280) = false := decide_eq_false h1
  have d2 : decide (65535 < mtu) = false := decide_eq_false h2
  have hV := Lib.hid (show (Try.prog.info? 26).map (·.size) = some P.size by rw [h.size]; exact info_v6)
  have hV2 := Lib.hid (fun v => show (Try.prog.info? 26).map (·.size) = some (P.setIfInBounds 36 v).size by rw [Array.size_setIfInBounds, h.size]; exact info_v6)
  have hs2 := Lib.hid (fun v => show (P.setIfInBounds 36 v).size = 37 by rw [Array.size_setIfInBounds, h.size])
  have hP36 := Lib.hid h.h36
  have hV6 := Lib.hid h
  have hb0 := Lib.hid ((Below.refl _ w).alloc (Nat.le_refl _) (.cells P 26))
  have kP := Lib.hid (Blk.new w P 26)
  replace hK := Lib.hid hK
  have e1 : cutK p id mtu = 0 := by unfold cutK; rw [if_neg (by simp [h1, h2, h3]), hl]; exact h4
  have e2 : cutR p id mtu = [p] := by unfold cutR; rw [if_pos e1, hl, if_pos h5]
  replace e1 := Lib.hid e1
  replace e2 := Lib.hid e2
  have d5 : decide ((40 + n : Int) ≤ mtu) = true := decide_eq_true h5
  have hrb := Lib.hid hr
  clear h hr h1 h2 h3 h4 h5 hl
  go_enter Try.func34, Try.ntmps34
  go_wp2_with (first
    | (go_at_call 18; refine (hS.out _ A3 c3).mono ?_; rintro e w4 ⟨rfl, hB4⟩; have kP4 := Lib.hid (kP3.out.to hB4); have ho5 := Lib.hid (ho4.out.below hB4); have hb4 := Lib.hid (hb3.out.trans (hB4.mono hb3.out.size)); replace hB4 := 0)
    | (refine wpList_build1 _ rfl 46 26 (.tmp 40) rfl (P.setIfInBounds 36 (.slice A3 n c3)) rfl 37 (hs2.out _) (by decide) (by decide) Try.underlying46 (.agg zeroVx) 88 info_v6r ?_)
    | (go_at_call 53; refine (hF.out _).mono ?_; rintro e w' ⟨rfl, rfl⟩)
    | (refine wpList_load_row rfl 26 (.tmp 3) rfl w.heap.size rfl _ (P.setIfInBounds 36 (.slice A3 n c3)) _ _ kP4.out.at_ Try.underlying26 rfl (hV2.out _) ?_)
    | (refine wpList_load_row rfl 26 (.tmp 3) rfl w.heap.size rfl _ (P.setIfInBounds 36 (.slice A3 n c3)) _ _ kP3.out.at_ Try.underlying26 rfl (hV2.out _) ?_)
    | (refine wpList_load_row rfl 26 (.tmp 3) rfl w.heap.size rfl _ P _ _ kP.out.at_ Try.underlying26 rfl hV.out ?_)
    | (go_at_call 20; refine (hK.out _).mono ?_; rintro e w1 ⟨rfl, hB1⟩; have hb1 := Lib.hid (hb0.out.trans (hB1.mono hb0.out.size)); have kP1 := Lib.hid (kP.out.to hB1); have c36 := kP1.out.cell 36 _ hP36.out; have hr1 := Lib.hid (hrb.out.below hb1.out); replace hB1 := 0)
    | (at_builtin; refine wpList_append_bytes _ rfl (.const (.slice none 0 0)) (.tmp 33) rfl rfl rfl (OB.nil _ w1.heap.size) hr1.out (by omega) (Nat.le_refl _) ?_; intro A3 c3 w2 ho3 hg3 hr3; simp only [Nat.zero_add, List.nil_append] at ho3; have hb2 := (Below.refl w1.heap.size w1).grown hg3 (Nat.le_refl _) (fun k hk => by simp [ownBlk] at hk); have kP2 := kP1.out.to hb2; clear c36; have c36 := kP2.cell 36 _ hP36.out; have f36 := kP2.frz 36; have kP3 := Lib.hid (kP2.set 36 (.slice A3 n c3)); have hbz := hb1.out.size; have hne3 : ownBlk A3 ≠ some w.heap.size := (fun e => by have := (ho3.blk e).1; have := kP1.out.lt; omega); have ho4 := Lib.hid (ho3.kept (Keep.set (B := w.heap.size) w2 36 (.slice A3 n c3)) (show w.heap.size < w1.heap.size from kP1.out.lt)); have hb3 := Lib.hid ((hb1.out.trans (hb2.mono hbz)).setCell (p := ⟨w.heap.size, 36, none⟩) (Nat.le_refl _) (.slice A3 n c3)); replace ho3 := 0; clear hg3 hr3 hb2 kP2 hbz)
    | fail)
  go_ret2
  have hk := Blk.new w4 (P.setIfInBounds 36 (.slice A3 n c3)) 26
  have hx : kV6.ok (p, P.setIfInBounds 36 (.slice A3 n c3), A3, n, c3) := hV6.out.data A3 n c3 p.data
  exact CutOut.one e1.out (LR.one (κ := kV6) hx hk (fun s hs => by rw [show s = (A3, n, c3, p.data) from List.mem_singleton.1 hs]; exact (ho5.out.alloc _).rb)) (by rw [e2.out]; rfl) (hb4.out.alloc hb4.out.size _)
end Go.Proofs.Ytbbdkfadcafpfaa
/- Fragments of IPv6 (the reference): walk of Cut, where the packet is too long. -/
set_option linter.unusedVariables false
namespace Go.Proofs.Ytbbdkfadcafpfaa
open Go Go.RowKit
attribute [local go_sem] Oper.semAt_some

set_option maxRecDepth 100000 in
set_option maxHeartbeats 4000000 in
theorem RefCut6_long (P : Array Value) (p : V6P) (A : Option Addr) (n c : Nat) (id mtu : Int) (w : World) (h : V6V P p A n c) (hr : RB w A n c p.data) (h1 : ¬ mtu < 1280) (h2 : ¬ 65535 < mtu) (h3 : fitsB id 4 = true) (h4 : checkV p n = 0) (hn : n ≤ 60000) (h5 : ¬ (40 + n : Int) ≤ mtu) :
    Calls Try.prog 34 #[.agg P, .int .i64 id, .int .i64 mtu] w (CutOut w p id mtu) := by
  have hl := hr.len
  have hK := fun W => RefV6Check_any P p A n c W h
  rw [h4] at hK
  have hS := Lib.hid (fun W A3 c3 => RefV6Size_any (P.setIfInBounds 36 (.slice A3 n c3)) { p with data := p.data } A3 n c3 W (h.data A3 n c3 p.data) (by omega))
  have hF := Lib.hid (fun W => RefFits_any id 4 W)
  rw [h3] at hF
  have d1 : decide (mtu < 1280) = false := decide_eq_false h1
  have d2 : decide (65535 < mtu) = false := decide_eq_false h2
  have hV := Lib.hid (show (Try.prog.info? 26).map (·.size) = some P.size by rw [h.size]; exact info_v6)
  have hV2 := Lib.hid (fun v => show (Try.prog.info? 26).map (·.size) = some (P.setIfInBounds 36 v).size by rw [Array.size_setIfInBounds, h.size]; exact info_v6)
  have hs2 := Lib.hid (fun v => show (P.setIfInBounds 36 v).size = 37 by rw [Array.size_setIfInBounds, h.size])
  have hP36 := Lib.hid h.h36
  have hV6 := Lib.hid h
  have hb0 := Lib.hid ((Below.refl _ w).alloc (Nat.le_refl _) (.cells P 26))
  have kP := Lib.hid (Blk.new w P 26)
  replace hK := Lib.hid hK
  obtain ⟨mo, hmo⟩ : ∃ mo, (mtu - 48).toNat = mo := ⟨_, rfl⟩
  have hmo2 : mtu - 48 = (mo : Int) := by omega
  have hm1 : 1232 ≤ mo := by omega
  have hm2 : mo ≤ 65487 := by omega
  have e1 : cutK p id mtu = 0 := by unfold cutK; rw [if_neg (by simp [h1, h2, h3]), hl]; exact h4
  have e2 : cutR p id mtu = (chunksC mo p.data).map (fragOf p id) := by unfold cutR; rw [if_pos e1, hl, if_neg h5, hmo]
  obtain ⟨⟨ht0, ht1⟩, ⟨hn0, hn1⟩, ⟨hp0, hp1⟩, ⟨hf0, hf1⟩, hn9⟩ := checkV_ok h4
  have hid := Lib.hid (show fitsP id 4 from of_decide_eq_true h3)
  have hnx := Lib.hid (show fitsP p.nx 1 from ⟨by omega, hn0, by simpa using hn1⟩)
  obtain ⟨q, hq⟩ : ∃ q, mo / 8 = q := ⟨_, rfl⟩
  have hq1 : q * 8 ≤ mo := by omega
  have hq2 : mo < q * 8 + 8 := by omega
  have htd : Int.tdiv (mo : Int) 8 = (q : Int) := by rw [Int.tdiv_eq_ediv_of_nonneg (by omega)]; omega
  have hch := Lib.hid (show chunksC mo p.data = [] ++ chunksF mo (q * 8) p.data (n + 1) 0 by unfold chunksC; rw [hq, hl]; rfl)
  replace e1 := Lib.hid e1
  replace e2 := Lib.hid e2
  have d5 : decide ((40 + n : Int) ≤ mtu) = false := decide_eq_false h5
  have hrb := Lib.hid hr
  have hpl := Lib.hid hl
  have hn00 : 0 < n := by omega
  have m1 : 1280 ≤ mtu := by omega
  have m2 : mtu ≤ 65535 := by omega
  clear h hr h1 h2 h3 h4 h5 hl hmo hq ht0 ht1 hn0 hn1 hp0 hp1 hf0 hf1
  go_enter Try.func34, Try.ntmps34
  go_wp2_with (first
    | (go_at_call 18; refine (hS.out _ A3 c3).mono ?_; rintro e w4 ⟨rfl, hB4⟩; have kP4 := Lib.hid (kP3.out.to hB4); have ho5 := Lib.hid (ho4.out.below hB4); have hb4 := Lib.hid (hb3.out.trans (hB4.mono hb3.out.size)); replace hB4 := 0)
    | (go_at_call 53; refine (hF.out _).mono ?_; rintro e w' ⟨rfl, rfl⟩)
    | (refine wpList_load_row rfl 26 (.tmp 3) rfl w.heap.size rfl _ (P.setIfInBounds 36 (.slice A3 n c3)) _ _ kP4.out.at_ Try.underlying26 rfl (hV2.out _) ?_)
    | (refine wpList_load_row rfl 26 (.tmp 3) rfl w.heap.size rfl _ (P.setIfInBounds 36 (.slice A3 n c3)) _ _ kP3.out.at_ Try.underlying26 rfl (hV2.out _) ?_)
    | (refine wpList_load_row rfl 26 (.tmp 3) rfl w.heap.size rfl _ P _ _ kP.out.at_ Try.underlying26 rfl hV.out ?_)
    | (go_at_call 20; refine (hK.out _).mono ?_; rintro e w1 ⟨rfl, hB1⟩; have hb1 := Lib.hid (hb0.out.trans (hB1.mono hb0.out.size)); have kP1 := Lib.hid (kP.out.to hB1); have c36 := kP1.out.cell 36 _ hP36.out; have hr1 := Lib.hid (hrb.out.below hb1.out); replace hB1 := 0)
    | (at_builtin; refine wpList_append_bytes _ rfl (.const (.slice none 0 0)) (.tmp 33) rfl rfl rfl (OB.nil _ w1.heap.size) hr1.out (by omega) (Nat.le_refl _) ?_; intro A3 c3 w2 ho3 hg3 hr3; simp only [Nat.zero_add, List.nil_append] at ho3; have hb2 := (Below.refl w1.heap.size w1).grown hg3 (Nat.le_refl _) (fun k hk => by simp [ownBlk] at hk); have kP2 := kP1.out.to hb2; clear c36; have c36 := kP2.cell 36 _ hP36.out; have f36 := kP2.frz 36; have kP3 := Lib.hid (kP2.set 36 (.slice A3 n c3)); have hbz := hb1.out.size; have hne3 : ownBlk A3 ≠ some w.heap.size := (fun e => by have := (ho3.blk e).1; have := kP1.out.lt; omega); have ho4 := Lib.hid (ho3.kept (Keep.set (B := w.heap.size) w2 36 (.slice A3 n c3)) (show w.heap.size < w1.heap.size from kP1.out.lt)); have hb3 := Lib.hid ((hb1.out.trans (hb2.mono hbz)).setCell (p := ⟨w.heap.size, 36, none⟩) (Nat.le_refl _) (.slice A3 n c3)); replace ho3 := 0; clear hg3 hr3 hb2 kP2 hbz)
    | fail)
  obtain ⟨b3, off3, rfl, hbl3, _⟩ := ho5.out.rb.mem (by omega)
  obtain ⟨Q, hQ⟩ : ∃ Q, P.setIfInBounds 36 (.slice (some ⟨b3, off3, none⟩) n c3) = Q := ⟨_, rfl⟩
  have hVQ : V6V Q p (some ⟨b3, off3, none⟩) n c3 := by rw [← hQ]; exact hV6.out.data _ _ _ _
  rw [hQ] at kP4
  have hQi := Lib.hid (show (Try.prog.info? 26).map (·.size) = some Q.size by rw [hVQ.size]; exact info_v6)
  have hQz := Lib.hid (show zeroVx.size = Q.size by rw [hVQ.size]; rfl)
  have hQone := Lib.hid hVQ.one
  have hQ36 := Lib.hid hVQ.h36
  have hQ2 := Lib.hid hVQ.h2
  replace hVQ := Lib.hid hVQ
  have hc3 := ho5.out.rb.nc
  have hc4 := ho5.out.rb.cm
  have hB0 := Lib.hid (show w.heap.size < w4.heap.size from kP4.out.lt)
  unfold maxLen at hc4
  replace hQ := Lib.hid hQ
  replace c36 := 0
  replace f36 := 0
  replace hne3 := 0
  replace kP := 0
  replace kP1 := 0
  replace kP3 := 0
  replace ho4 := 0
  replace hb3 := 0
  replace hb1 := 0
  replace hb0 := 0
  replace hr1 := 0
  replace hK := 0
  replace hS := 0
  replace hF := 0
  replace hV := 0
  replace hV2 := 0
  replace hs2 := 0
  replace hV6 := 0
  replace hP36 := 0
  replace hrb := 0
  replace d1 := 0
  replace d2 := 0
  replace d5 := 0
  go_loopw [9, 10] (fun vo va wr => ∃ (a f : Nat) (pre : List (Nat × Bool × List Int)) (A5 : Option Addr) (c5 : Nat) (ps : List kV6.β), va = .int .i64 (a : Int) ∧ a ≤ n ∧ (a < n → a % 8 = 0) ∧ vo = .slice A5 pre.length c5 ∧ LS kV6 wr w4.heap.size 26 A5 pre.length c5 ps ∧ ps.map (·.1) = pre.map (fragOf p id) ∧ chunksC mo p.data = pre ++ (if a < n then chunksF mo (q * 8) p.data f a else []) ∧ n < f + a ∧ pre.length ≤ a ∧ Below w4.heap.size w4 wr) (fun _ va _ => n - (intOf va).toNat)
  case atStart => exact ⟨0, n + 1, [], none, 0, [], rfl, by omega, fun _ => rfl, rfl, LS.nil _ _ _ _, rfl, by rw [if_pos (by omega)]; exact hch.out, by omega, by simp, Below.refl _ _⟩
  case round =>
    obtain ⟨a, f, pre, A5, c5, ps, rfl, han, ha8, rfl, hlo, hps, hou, hf, hpa, hB⟩ := hrel
    have kQr := kP4.out.to hB
    have c36 := kQr.cell 36 _ hQ36.out
    by_cases hlt : a < n
    · obtain ⟨f, rfl⟩ : ∃ g, f = g + 1 := ⟨f - 1, by omega⟩
      rw [if_pos hlt, chunksF_step, hpl.out] at hou
      have c2 := kQr.cell 2 _ hQ2.out
      have hrr := (ho5.out.below hB).rb
      have hdr := hrr.drop a (by omega)
      have hlti : (a : Int) < n := by omega
      have hne : ¬ c3 = a := by omega
      have a8 := ha8 hlt
      have hBF := Lib.hid (fun m W => RefBuildFragO_any p.nx (a : Int) id m W ⟨hnx.out, hid.out, by omega, by omega, by omega⟩)
      unfold FragOwn at hBF
      have hbz := hB.size
      have hne1 : wr.heap.size ≠ w.heap.size := by have := hB0.out; omega
      replace kQr := Lib.hid kQr
      replace hB := Lib.hid hB
      replace hlo := Lib.hid hlo
      replace hps := Lib.hid hps
      replace ha8 := 0
      have hbo := Lib.hid (fun k' (hk' : ownBlk A5 = some k') => hlo.out.blk hk')
      by_cases hmo : mo < n - a
      · rw [if_pos hmo] at hou
        have hrd := hdr.first_ (k := q * 8) (by omega)
        have hkl := hrd.len
        have hmi : decide ((mo : Int) < (n : Int) - (a : Int)) = true := by simp; omega
        generalize hd : (p.data.drop a).take (q * 8) = d at *
        replace hrd := Lib.hid hrd
        replace hou := Lib.hid hou
        replace hdr := 0
        replace hrr := 0
        replace hch := 0
        have i1 : ((a : Int) + ((q * 8) : Nat)) ≤ n := by omega
        have i2 : ((a : Int) + ((q * 8) : Nat)) ≤ c3 := by omega
        have hi3 := Lib.hid (show ((q * 8)) = a + ((q * 8)) - a by omega)
        go_wp2_with (first
          | (at_builtin; refine wpList_append_ls _ rfl 46 26 (.tmp 83) (.tmp 85) rfl (.agg zeroVx) 88 Try.underlying46 info_v6r rfl (by decide) rfl (g := w9.heap.size) rfl hlo9.out (q := (fragOf p id (a, true, d), QX, A8, 8 + ((q * 8)), c8)) hq9.out (Blk.new w9 _ _) hs9.out (by omega) hb9.out.size ?_; intro A12 c12 w12 hlo12 hg12 hr12; have hb12 := hb9.out.grown hg12 hb9.out.size (fun k hk => (hbo.out k hk).1))
          | (refine wpList_build1 _ rfl 46 26 (.tmp 84) rfl QX rfl 37 hsz9.out (by decide) (by decide) Try.underlying46 (.agg zeroVx) 88 info_v6r ?_)
          | (refine wpList_load_row rfl 26 (.tmp 13) rfl wr.heap.size rfl _ QX _ _ kX9.out.at_ Try.underlying26 rfl hV9.out ?_)
          | (at_builtin; refine wpList_append_bytes _ rfl (.tmp 73) (.tmp 80) rfl rfl rfl ho7.out (hi3.out ▸ hrd7.out) (by omega) kX7.out.lt ?_; intro A8 c8 w8 ho8 hg8 hr8; simp only [hi3.out.symm] at ho8 ⊢; have hne7 : ownBlk A7 ≠ some wr.heap.size := fun e => (by have := (ho7.out.blk e).1; omega); have hne8 : ownBlk A8 ≠ some wr.heap.size := fun e => (by have := (ho8.blk e).1; omega); have hx8 := hx7.out.grown hg8 hx7.out.size (fun k hk => by have := (ho7.out.blk hk).1; omega); have kX8 : Blk w8 wr.heap.size (Q.setIfInBounds 2 (.int .i64 44)) 26 := ⟨(hg8.block _ kX7.out.lt (fun e => hne7 e.symm)).trans kX7.out.at_⟩; have g36 := kX8.frz 36; have d36 := kX8.cell 36 (.slice (some ⟨b3, off3, none⟩) n c3) (by rw [Array.getElem?_setIfInBounds_ne (by decide)]; exact hQ36.out); have kX9 := kX8.set 36 (.slice A8 (8 + ((q * 8))) c8); have hx9 := hx8.setCell (p := ⟨wr.heap.size, 36, none⟩) (Nat.le_refl _) (.slice A8 (8 + ((q * 8))) c8); have hr9 := (ho8.rb.farB hne8 36 (.slice A8 (8 + ((q * 8))) c8)); generalize hw9 : w8.setCell ⟨wr.heap.size, 36, none⟩ (.slice A8 (8 + ((q * 8))) c8) = w9 at kX9 hx9 hr9; obtain ⟨QX, hQX⟩ : ∃ QX, (Q.setIfInBounds 2 (.int .i64 44)).setIfInBounds 36 (.slice A8 (8 + ((q * 8))) c8) = QX := ⟨_, rfl⟩; have hq9 : V6V QX (fragOf p id (a, true, d)) A8 (8 + ((q * 8))) c8 := (by rw [← hQX]; exact (hVQ.out.next 44).data A8 (8 + ((q * 8))) c8 _); rw [hQX] at kX9; have hlo9 := Lib.hid ((hlo.out.below hx9).alloc (.cells QX 26)); have hsz9 := Lib.hid hq9.size; have hV9 := Lib.hid (show (Try.prog.info? 26).map (·.size) = some QX.size by rw [hq9.size]; exact info_v6); have hs9 := Lib.hid (show ∀ s ∈ kV6.sl (fragOf p id (a, true, d), QX, A8, 8 + ((q * 8)), c8), RB (w9.alloc (.cells QX 26)) s.1 s.2.1 s.2.2.1 s.2.2.2 ∧ (0 < s.2.1 → ∀ k, ownBlk s.1 = some k → ownBlk A5 ≠ some k) from fun s hs => (by rw [show s = (A8, 8 + ((q * 8)), c8, bytesF p.nx a id true ++ d) from List.mem_singleton.1 hs]; exact ⟨hr9.alloc _, fun _ k hk e => (by have h1 := (ho8.blk hk).1; have h2 := (hbo.out k e).2; omega)⟩)); have hq9 := Lib.hid (show kV6.ok (fragOf p id (a, true, d), QX, A8, 8 + ((q * 8)), c8) from hq9); have hb9 := Lib.hid ((hB.out.trans (hx9.mono hbz)).alloc (Nat.le_trans hbz hx9.size) (.cells QX 26)); replace kX9 := Lib.hid kX9; replace hQX := Lib.hid hQX; clear hr9 hx9 kX8 hx8 hg8 hr8)
          | (refine wpList_store_row rfl 26 (.tmp 13) (.tmp 61) rfl wr.heap.size Q rfl rfl _ zeroVx (Blk.new wr zeroVx 26).at_ hQi.out hQz.out hQone.out ?_; have hbe : Below wr.heap.size wr ((wr.alloc (.cells zeroVx 26)).setRow wr.heap.size Q) := below_row ((Below.refl _ wr).alloc (Nat.le_refl _) _) (Nat.le_refl _) _; have kX5 : Blk ((wr.alloc (.cells zeroVx 26)).setRow wr.heap.size Q) wr.heap.size Q 26 := ⟨setRow_heap _ _ _ _ _ _ (Blk.new wr zeroVx 26).at_⟩; generalize (wr.alloc (.cells zeroVx 26)).setRow wr.heap.size Q = w5 at *; have d2 := kX5.cell 2 _ hQ2.out; have g2 := kX5.frz 2; have y2 := (kQr.out.to hbe).cell 2 _ hQ2.out; have kX6 := Lib.hid (kX5.set 2 (.int .i64 44)); replace kX5 := 0; replace hbe := Lib.hid hbe)
          | (refine wpList_load_row rfl 26 (.tmp 3) rfl w.heap.size rfl _ Q _ _ kQr.out.at_ Try.underlying26 rfl hQi.out ?_)
          | (go_at_call 24; refine (hBF.out true _).mono ?_; rintro e w7 ⟨A7, c7, rfl, ho7, hB7⟩; have hx6 := hbe.out.setCell (p := ⟨wr.heap.size, 2, none⟩) (Nat.le_refl _) (.int .i64 44); have hx7 := hx6.trans (hB7.mono hx6.size); have hrd7 := Lib.hid (hrd.out.below hx7); have kX7 := Lib.hid (kX6.out.to hB7); have kQ7 := kQr.out.to hx7; clear c36; have c36 := kQ7.cell 36 _ hQ36.out; replace ho7 := Lib.hid (ho7.mono (show wr.heap.size + 1 ≤ _ from kX6.out.lt)); replace hx7 := Lib.hid hx7; clear hx6 kQ7 hB7)
          | fail)
        go_roundw
        case rel => exact ⟨a + q * 8, f, pre ++ [(a, true, d)], A12, c12, _, rfl, by omega, fun _ => by omega, by simp, by simpa using hlo12, by rw [List.map_append, List.map_append, hps.out]; rfl, by rw [if_pos (by omega), hou]; simp, by omega, by simp; omega, hb12⟩
        case measure => simp [intOf]; omega
      · rw [if_neg hmo] at hou
        have hrd := hdr
        have hkl := hrd.len
        have hmi : decide ((mo : Int) < (n : Int) - (a : Int)) = false := by simp; omega
        generalize hd : p.data.drop a = d at *
        replace hrd := Lib.hid hrd
        replace hou := Lib.hid hou
        replace hdr := 0
        replace hrr := 0
        replace hch := 0
        have i1 : ((a : Int) + ((n - a) : Nat)) ≤ n := by omega
        have i2 : ((a : Int) + ((n - a) : Nat)) ≤ c3 := by omega
        have hi3 := Lib.hid (show ((n - a)) = a + ((n - a)) - a by omega)
        go_wp2_with (first
          | (at_builtin; refine wpList_append_ls _ rfl 46 26 (.tmp 83) (.tmp 85) rfl (.agg zeroVx) 88 Try.underlying46 info_v6r rfl (by decide) rfl (g := w9.heap.size) rfl hlo9.out (q := (fragOf p id (a, false, d), QX, A8, 8 + ((n - a)), c8)) hq9.out (Blk.new w9 _ _) hs9.out (by omega) hb9.out.size ?_; intro A12 c12 w12 hlo12 hg12 hr12; have hb12 := hb9.out.grown hg12 hb9.out.size (fun k hk => (hbo.out k hk).1))
          | (refine wpList_build1 _ rfl 46 26 (.tmp 84) rfl QX rfl 37 hsz9.out (by decide) (by decide) Try.underlying46 (.agg zeroVx) 88 info_v6r ?_)
          | (refine wpList_load_row rfl 26 (.tmp 13) rfl wr.heap.size rfl _ QX _ _ kX9.out.at_ Try.underlying26 rfl hV9.out ?_)
          | (at_builtin; refine wpList_append_bytes _ rfl (.tmp 73) (.tmp 80) rfl rfl rfl ho7.out (hi3.out ▸ hrd7.out) (by omega) kX7.out.lt ?_; intro A8 c8 w8 ho8 hg8 hr8; simp only [hi3.out.symm] at ho8 ⊢; have hne7 : ownBlk A7 ≠ some wr.heap.size := fun e => (by have := (ho7.out.blk e).1; omega); have hne8 : ownBlk A8 ≠ some wr.heap.size := fun e => (by have := (ho8.blk e).1; omega); have hx8 := hx7.out.grown hg8 hx7.out.size (fun k hk => by have := (ho7.out.blk hk).1; omega); have kX8 : Blk w8 wr.heap.size (Q.setIfInBounds 2 (.int .i64 44)) 26 := ⟨(hg8.block _ kX7.out.lt (fun e => hne7 e.symm)).trans kX7.out.at_⟩; have g36 := kX8.frz 36; have d36 := kX8.cell 36 (.slice (some ⟨b3, off3, none⟩) n c3) (by rw [Array.getElem?_setIfInBounds_ne (by decide)]; exact hQ36.out); have kX9 := kX8.set 36 (.slice A8 (8 + ((n - a))) c8); have hx9 := hx8.setCell (p := ⟨wr.heap.size, 36, none⟩) (Nat.le_refl _) (.slice A8 (8 + ((n - a))) c8); have hr9 := (ho8.rb.farB hne8 36 (.slice A8 (8 + ((n - a))) c8)); generalize hw9 : w8.setCell ⟨wr.heap.size, 36, none⟩ (.slice A8 (8 + ((n - a))) c8) = w9 at kX9 hx9 hr9; obtain ⟨QX, hQX⟩ : ∃ QX, (Q.setIfInBounds 2 (.int .i64 44)).setIfInBounds 36 (.slice A8 (8 + ((n - a))) c8) = QX := ⟨_, rfl⟩; have hq9 : V6V QX (fragOf p id (a, false, d)) A8 (8 + ((n - a))) c8 := (by rw [← hQX]; exact (hVQ.out.next 44).data A8 (8 + ((n - a))) c8 _); rw [hQX] at kX9; have hlo9 := Lib.hid ((hlo.out.below hx9).alloc (.cells QX 26)); have hsz9 := Lib.hid hq9.size; have hV9 := Lib.hid (show (Try.prog.info? 26).map (·.size) = some QX.size by rw [hq9.size]; exact info_v6); have hs9 := Lib.hid (show ∀ s ∈ kV6.sl (fragOf p id (a, false, d), QX, A8, 8 + ((n - a)), c8), RB (w9.alloc (.cells QX 26)) s.1 s.2.1 s.2.2.1 s.2.2.2 ∧ (0 < s.2.1 → ∀ k, ownBlk s.1 = some k → ownBlk A5 ≠ some k) from fun s hs => (by rw [show s = (A8, 8 + ((n - a)), c8, bytesF p.nx a id false ++ d) from List.mem_singleton.1 hs]; exact ⟨hr9.alloc _, fun _ k hk e => (by have h1 := (ho8.blk hk).1; have h2 := (hbo.out k e).2; omega)⟩)); have hq9 := Lib.hid (show kV6.ok (fragOf p id (a, false, d), QX, A8, 8 + ((n - a)), c8) from hq9); have hb9 := Lib.hid ((hB.out.trans (hx9.mono hbz)).alloc (Nat.le_trans hbz hx9.size) (.cells QX 26)); replace kX9 := Lib.hid kX9; replace hQX := Lib.hid hQX; clear hr9 hx9 kX8 hx8 hg8 hr8)
          | (refine wpList_store_row rfl 26 (.tmp 13) (.tmp 61) rfl wr.heap.size Q rfl rfl _ zeroVx (Blk.new wr zeroVx 26).at_ hQi.out hQz.out hQone.out ?_; have hbe : Below wr.heap.size wr ((wr.alloc (.cells zeroVx 26)).setRow wr.heap.size Q) := below_row ((Below.refl _ wr).alloc (Nat.le_refl _) _) (Nat.le_refl _) _; have kX5 : Blk ((wr.alloc (.cells zeroVx 26)).setRow wr.heap.size Q) wr.heap.size Q 26 := ⟨setRow_heap _ _ _ _ _ _ (Blk.new wr zeroVx 26).at_⟩; generalize (wr.alloc (.cells zeroVx 26)).setRow wr.heap.size Q = w5 at *; have d2 := kX5.cell 2 _ hQ2.out; have g2 := kX5.frz 2; have y2 := (kQr.out.to hbe).cell 2 _ hQ2.out; have kX6 := Lib.hid (kX5.set 2 (.int .i64 44)); replace kX5 := 0; replace hbe := Lib.hid hbe)
          | (refine wpList_load_row rfl 26 (.tmp 3) rfl w.heap.size rfl _ Q _ _ kQr.out.at_ Try.underlying26 rfl hQi.out ?_)
          | (go_at_call 24; refine (hBF.out false _).mono ?_; rintro e w7 ⟨A7, c7, rfl, ho7, hB7⟩; have hx6 := hbe.out.setCell (p := ⟨wr.heap.size, 2, none⟩) (Nat.le_refl _) (.int .i64 44); have hx7 := hx6.trans (hB7.mono hx6.size); have hrd7 := Lib.hid (hrd.out.below hx7); have kX7 := Lib.hid (kX6.out.to hB7); have kQ7 := kQr.out.to hx7; clear c36; have c36 := kQ7.cell 36 _ hQ36.out; replace ho7 := Lib.hid (ho7.mono (show wr.heap.size + 1 ≤ _ from kX6.out.lt)); replace hx7 := Lib.hid hx7; clear hx6 kQ7 hB7)
          | fail)
        go_roundw
        case rel => exact ⟨n, f, pre ++ [(a, false, d)], A12, c12, _, by go_num, by omega, fun h => absurd h (by omega), by simp, by simpa using hlo12, by rw [List.map_append, List.map_append, hps.out]; rfl, by rw [if_neg (by omega), hou]; simp, by omega, by simp; omega, hb12⟩
        case measure => simp [intOf]; omega
    · obtain rfl : a = n := by omega
      rw [if_neg (by omega), List.append_nil] at hou
      have hba := Lib.hid (hb4.out.trans (hB.mono hb4.out.size))
      replace kQr := 0
      replace hB := 0
      replace hlo := Lib.hid hlo
      replace hou := Lib.hid hou
      replace hps := Lib.hid hps
      replace hch := 0
      go_wp2
      go_ret2
      exact CutOut.one e1.out hlo.out.lr (by rw [hps.out, e2.out, hou.out]) hba.out
end Go.Proofs.Ytbbdkfadcafpfaa
