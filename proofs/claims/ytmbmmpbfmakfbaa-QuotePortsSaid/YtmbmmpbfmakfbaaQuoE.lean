/- What is quoted (quote): walk of ends. -/
import Derived.Test.YtmbmmpbfmakfbaaQuoP
import Derived.Test.YtmbmmpbfmakfbaaPortsT
set_option linter.unusedVariables false
namespace Go.Proofs.Ytmbmmpbfmakfbaa
open Go Go.RowKit
attribute [local go_sem] Oper.semAt_some

theorem info_chz : (Try.prog.info? 81).map (fun i => (i.zero, i.size, i.bytes)) = some (some (.agg (cellsCh 0 none 0 0 none 0 0)), 3, 56) := by kernel_rfl
theorem Blk.new2 (W : World) (X : Obj) (C : Array Value) (T : TypeId) : Blk ((W.alloc X).alloc (.cells C T)) (W.heap.size + 1) C T := by
  have h := Blk.new (W.alloc X) C T
  rwa [show (W.alloc X).heap.size = W.heap.size + 1 from by simp] at h
set_option maxRecDepth 100000 in
set_option maxHeartbeats 2000000 in
theorem QEnds_icmp (b off n c : Nat) (bs : List Int) (Ao : Option Addr) (no co : Nat) (A1 : Option Addr) (n1 c1 : Nat) (wh pt : Nat) (a x : Int) (w : World) (h : RB w (some ⟨b, off, none⟩) n c bs) (hn : n ≤ 3000) (hk : codeQ bs = 0) (hd : RB w A1 n1 c1 (readV4 true bs).data) (hwh : 12 ≤ wh ∧ wh + 4 ≤ 20) (ha : 0 ≤ a ∧ a < 4294967296) (hx : 0 ≤ x ∧ x < 65536) (h1 : (readV4 true bs).pr = 1) :
    Calls Try.prog 26 #[.agg (cellsQd (some ⟨b, off, none⟩) n c (readV4 true bs) Ao no co A1 n1 c1 (hdQ bs : Int)), .int .i64 (wh : Int), .int .i64 (pt : Int), .int .i64 a, .int .i64 x] w (PutOut w (chgQ bs wh (ptQ (readV4 true bs) pt) a x)) := by
  have q1 : ((readV4 true bs).pr == 1) = true := by simpa using h1
  have pq : ptQ (readV4 true bs) pt = 4 := by unfold ptQ; rw [if_pos h1]
  rw [pq]
  replace h1 := Lib.hid h1
  clear pq
  generalize hout : chgQ bs wh 4 a x = out
  replace hout := Lib.hid hout
  have hN : noSum (readV4 true bs) = false := noSum_1 h1.out (quo_ok h.byt hk).2.2.2.1
  have hsv : sumAtI (readV4 true bs) = ((2 : Nat) : Int) := by unfold sumAtI atQ; rw [hN, if_neg (by simp), if_neg (by rw [h1.out]; decide), if_pos h1.out]
  have ha2 : atQ (readV4 true bs) = 2 := by unfold atQ; rw [if_neg (by rw [h1.out]; decide), if_pos h1.out]
  have hfin : setN (setN (out1Q bs wh a) (hdQ bs + 4) (digL x 2) 2) (hdQ bs + 2) (digL (changeI (getV (out1Q bs wh a) ((hdQ bs + 2 : Nat) : Int) 2).1 (cutI bs (hdQ bs + 4) 2) (digL x 2)) 2) 2 = chgQ bs wh 4 a x := by
    have e := ends_sum h.byt hk hN (wh := wh) a (by omega)
    rw [ha2] at e
    unfold chgQ
    rw [hN, if_neg (by simp), e]
    unfold out2Q sm3Q
    rw [if_neg (by rintro ⟨_, g⟩; rw [h1.out] at g; exact absurd g (by decide))]
    unfold sm2Q oldQ nowQ
    rw [if_pos h1.out, if_pos h1.out, ha2]
  have nm : (((2 : Nat) : Int) == -1) = false := by decide
  obtain ⟨k3, hk3⟩ : ∃ k, hdQ bs + 2 = k := ⟨_, rfl⟩
  rw [hk3, hout.out] at hfin
  have g1 := (quo_ok h.byt hk).2.2.2.1
  have g2 := (quo_ok h.byt hk).2.2.2.2.1
  have g3 := (quo_ok h.byt hk).2.2.2.2.2.2.1
  have hlen0 := h.len
  have wk3 : IntKind.i64.wrap ((2 : Int) + (hdQ bs : Int)) = (k3 : Int) := by rw [IntKind.wrap_i64]; omega
  have hW2 := Lib.hid (fun W A6 c6 L A4 c4 A5 c5 (kL : Blk W L (cellsCh ((hdQ bs + 4 : Nat) : Int) A4 2 c4 A5 2 c5) 81) (r4 : RB W A4 2 c4 (cutI bs (hdQ bs + 4) 2)) (r5 : RB W A5 2 c5 (digL x 2)) (r : RB W A6 n c6 (out1Q bs wh a)) =>
    show Calls Try.prog 47 #[.slice A6 n c6, .int .i64 (k3 : Int), .slice (some ⟨L, 0, none⟩) 1 1] W (Fresh W n out) from hfin ▸ QWith_1 A6 n c6 (out1Q bs wh a) k3 (hdQ bs + 4) A4 2 c4 A5 c5 (cutI bs (hdQ bs + 4) 2) (digL x 2) L W r (by omega) r4 r5 (by omega) (by omega) (by omega) kL)
  unfold Fresh at hW2
  clear g1 g2 g3
  replace hk3 := Lib.hid hk3
  replace hfin := 0
  replace hlen0 := 0
  replace hN := 0
  replace hsv := Lib.hid hsv
  replace ha2 := 0
  have hlen := h.len
  have hby := h.byt
  obtain ⟨hv, hpk, hoff, h8, hhd, hhe, hh60, h9, hbd, hdat, hpr⟩ := quo_ok hby hk
  have hdl := hd.len
  have hh20 : 20 ≤ hdQ bs := by unfold hdQ; omega
  have hat := atQ_in (readV4 true bs)
  have hes := Lib.hid (fun hN => ends_sum hby hk hN (wh := wh) a (by omega))
  have hag := Lib.hid (ends_again bs (wh := wh) a hwh.1)
  have hso := QSumOf_any (some ⟨b, off, none⟩) n c (readV4 true bs) Ao no co A1 n1 c1 (hdQ bs : Int)
  obtain ⟨w0, hw0⟩ : ∃ w0, w.alloc (.cells (cellsQd (some ⟨b, off, none⟩) n c (readV4 true bs) Ao no co A1 n1 c1 (hdQ bs : Int)) 57) = w0 := ⟨_, rfl⟩
  have hb := Lib.hid (show Below w.heap.size w w0 by rw [← hw0]; exact (Below.refl _ w).alloc (Nat.le_refl _) _)
  have kB := Lib.hid (show Blk w0 w.heap.size (cellsQd (some ⟨b, off, none⟩) n c (readV4 true bs) Ao no co A1 n1 c1 (hdQ bs : Int)) 57 by rw [← hw0]; exact blk_at rfl)
  have hR := Lib.hid (fun W (hW : Below w.heap.size w W) => h.below hW)
  have hS := Lib.hid (fun W (hW : Below w.heap.size w W) => show Calls Try.prog 48 #[.agg (cellsQd (some ⟨b, off, none⟩) n c (readV4 true bs) Ao no co A1 n1 c1 (hdQ bs : Int))] W fun e w' => e = .returned (.int .i64 (((2 : Nat) : Int))) ∧ Below W.heap.size W w' from hsv.out ▸ hso W (hd.below hW) (by omega) (by omega) (by rcases hpr with g | g | ⟨g, _⟩ <;> omega))
  have hW1 := Lib.hid (fun W (hW : Below w.heap.size w W) L A4 c4 A5 c5 (kL : Blk W L (cellsCh (wh : Int) A4 4 c4 A5 4 c5) 81) (r4 : RB W A4 4 c4 (cutI bs wh 4)) (r5 : RB W A5 4 c5 (digL a 4)) =>
    show Calls Try.prog 47 #[.slice (some ⟨b, off, none⟩) n c, .int .i64 10, .slice (some ⟨L, 0, none⟩) 1 1] W (Fresh W n (out1Q bs wh a)) from QWith_1 (some ⟨b, off, none⟩) n c bs 10 wh A4 4 c4 A5 c5 (cutI bs wh 4) (digL a 4) L W (h.below hW) (by omega) r4 r5 (by omega) (by omega) (by omega) kL)
  have e5 := kB.out.cell 5 (.int .i64 (readV4 true bs).pr) rfl
  have f0 := kB.out.cell 0 (.slice (some ⟨b, off, none⟩) n c) rfl
  replace hw0 := Lib.hid hw0
  obtain ⟨kk, hkk⟩ : ∃ kk, hdQ bs + 4 = kk := ⟨_, rfl⟩
  have wkk : IntKind.i64.wrap ((hdQ bs : Int) + 4) = (kk : Int) := by rw [IntKind.wrap_i64]; omega
  have hc1 := Lib.hid (fun W (hW : Below w.heap.size w W) => show Calls Try.prog 46 #[.slice (some ⟨b, off, none⟩) n c, .int .i64 (wh : Int), .int .i64 a, .int .i64 4] W (ChOut W wh 4 (cutI bs wh 4) (digL a 4)) from QChanged_4 b off n c bs wh a W (hR.out W hW) (by omega) (by omega) (fits4n ha.1 ha.2))
  have hc2 := Lib.hid (fun W (hW : Below w.heap.size w W) => show Calls Try.prog 46 #[.slice (some ⟨b, off, none⟩) n c, .int .i64 (kk : Int), .int .i64 x, .int .i64 2] W (ChOut W kk 2 (cutI bs kk 2) (digL x 2)) from QChanged_2 b off n c bs kk x W (hR.out W hW) (by omega) (by omega) (fit2 hx.1 hx.2))
  unfold ChOut at hc1 hc2
  try rw [hkk] at hW2
  unfold Fresh at hW1
  clear hpk hhe hv hoff h9 hbd hdat hby hso hlen hdl hpr
  replace hh60 := Lib.hid hh60
  replace hh20 := Lib.hid hh20
  replace hhd := Lib.hid hhd
  replace h8 := Lib.hid h8
  replace hat := Lib.hid hat
  replace hkk := Lib.hid hkk
  replace hk := Lib.hid hk
  replace hd := Lib.hid hd
  replace hn := Lib.hid hn
  replace hwh := Lib.hid hwh
  replace ha := Lib.hid ha
  replace hx := Lib.hid hx
  replace h := Lib.hid h
  generalize readV4 true bs = p at *
  generalize hdQ bs = hh at *
  go_enter Try.func26, Try.ntmps26
  go_upto_region 1 with fail
  rw [hw0.out]
  go_wp2_with (first
    | (go_at_call_of 46 (Value.int IntKind.i64 a); refine (hc1.out _ hb.out).mono ?_; rintro e w1 ⟨A2, c2, A3, c3, rfl, ho2, ho3, hB1⟩; have hy := hB1.alloc hB1.size (.cells (cellsCh (wh : Int) A2 4 c2 A3 4 c3) 81); have hb1 := Lib.hid (hb.out.trans (hy.mono hb.out.size)); have kB1 := Lib.hid (kB.out.to hy); have kC1 := Lib.hid (Blk.new w1 (cellsCh (wh : Int) A2 4 c2 A3 4 c3) 81); have ro2 := Lib.hid (ho2.rb.alloc (.cells (cellsCh (wh : Int) A2 4 c2 A3 4 c3) 81)); have ro3 := Lib.hid (ho3.rb.alloc (.cells (cellsCh (wh : Int) A2 4 c2 A3 4 c3) 81)); clear e5 f0; have f0 := kB1.out.cell 0 (.slice (some ⟨b, off, none⟩) n c) rfl; have f12 := kB1.out.cell 12 (.int .i64 (hh : Int)) rfl; clear hy ho2 ho3; replace hB1 := 0)
    | (refine wpList_store_CH rfl (.tmp 11) (.tmp 25) rfl w1.heap.size (cellsCh (wh : Int) A2 4 c2 A3 4 c3) rfl rfl _ (Blk.new w1 (cellsCh 0 none 0 0 none 0 0) 81) rfl rfl (one_ch _ _ _ _ _ _ _) ?_; rw [World.setRow_alloc_new])
    | (go_at_call_of 46 (Value.int IntKind.i64 x); refine (hc2.out _ hb1.out).mono ?_; rintro e w2 ⟨A4, c4, A5, c5, rfl, ho4, ho5, hB2⟩; have hy := hB2.alloc hB2.size (.cells (cellsCh (kk : Int) A4 2 c4 A5 2 c5) 81); have hb2 := Lib.hid (hb1.out.trans (hy.mono hb1.out.size)); have kB2 := Lib.hid (kB1.out.to hy); have kC2 := Lib.hid (kC1.out.to hy); have kD2 := Lib.hid (Blk.new w2 (cellsCh (kk : Int) A4 2 c4 A5 2 c5) 81); have rp2 := Lib.hid (ro2.out.below hy); have rp3 := Lib.hid (ro3.out.below hy); have rp4 := Lib.hid (ho4.rb.alloc (.cells (cellsCh (kk : Int) A4 2 c4 A5 2 c5) 81)); have rp5 := Lib.hid (ho5.rb.alloc (.cells (cellsCh (kk : Int) A4 2 c4 A5 2 c5) 81)); clear f0 f12; have f0 := kB2.out.cell 0 (.slice (some ⟨b, off, none⟩) n c) rfl; have hbx := Lib.hid (hb2.out.alloc hb2.out.size (.cells (cellsCh (wh : Int) A2 4 c2 A3 4 c3) 81)); clear hy ho4 ho5; replace hB2 := 0)
    | (refine wpList_store_CH rfl (.tmp 12) (.tmp 33) rfl w2.heap.size (cellsCh (kk : Int) A4 2 c4 A5 2 c5) rfl rfl _ (Blk.new w2 (cellsCh 0 none 0 0 none 0 0) 81) rfl rfl (one_ch _ _ _ _ _ _ _) ?_; rw [World.setRow_alloc_new])
    | (refine wpList_load_CH rfl (.tmp 11) rfl w1.heap.size rfl _ kC2.out rfl ?_)
    | (refine wpList_build1 _ rfl 91 81 (.tmp 36) rfl (cellsCh (wh : Int) A2 4 c2 A3 4 c3) rfl 3 rfl (by decide) (by decide) Try.underlying91 (.agg (cellsCh 0 none 0 0 none 0 0)) 56 info_chz ?_)
    | (go_at_call_of 47 (Value.int IntKind.i64 10); refine (hW1.out _ hbx.out _ _ _ _ _ (Blk.new2 _ _ _ _) (rp2.out.alloc _) (rp3.out.alloc _)).mono ?_; rintro e w3 ⟨A6, c6, rfl, ho6, hB3⟩; have hb3 := Lib.hid (hbx.out.trans (hB3.mono hbx.out.size)); have kB3 := Lib.hid ((kB2.out.alloc _).to hB3); have kC3 := Lib.hid ((kC2.out.alloc _).to hB3); have kD3 := Lib.hid ((kD2.out.alloc _).to hB3); have rq2 := Lib.hid ((rp2.out.alloc _).below hB3); have rq3 := Lib.hid ((rp3.out.alloc _).below hB3); have rq4 := Lib.hid ((rp4.out.alloc _).below hB3); have rq5 := Lib.hid ((rp5.out.alloc _).below hB3); have ho6a := Lib.hid (ho6.mono hbx.out.size); have hgx := Lib.hid (fun j (hj : ownBlk A6 = some j) => (ho6.blk hj).1); clear f0 ho6; have e5 := kB3.out.cell 5 (.int .i64 p.pr) rfl; replace hB3 := 0)
    | (refine wpList_load_QD rfl (.tmp 5) rfl w.heap.size rfl _ kB3.out rfl ?_)
    | (go_at_call 48; refine (hS.out _ hb3.out).mono ?_; rintro e w4 ⟨rfl, hB4⟩; have hb4 := Lib.hid (hb3.out.trans (hB4.mono hb3.out.size)); have kB4 := Lib.hid (kB3.out.to hB4); have kC4 := Lib.hid (kC3.out.to hB4); have kD4 := Lib.hid (kD3.out.to hB4); have rr2 := Lib.hid (rq2.out.below hB4); have rr3 := Lib.hid (rq3.out.below hB4); have rr4 := Lib.hid (rq4.out.below hB4); have rr5 := Lib.hid (rq5.out.below hB4); have ho6b := Lib.hid (ho6a.out.below hB4); clear e5; have e5 := kB4.out.cell 5 (.int .i64 p.pr) rfl; have f12 := kB4.out.cell 12 (.int .i64 (hh : Int)) rfl; replace hB4 := 0)
    | (refine wpList_load_CH rfl (.tmp 12) rfl w2.heap.size rfl _ kD4.out rfl ?_)
    | (refine wpList_build1 _ rfl 91 81 (.tmp 61) rfl (cellsCh (kk : Int) A4 2 c4 A5 2 c5) rfl 3 rfl (by decide) (by decide) Try.underlying91 (.agg (cellsCh 0 none 0 0 none 0 0)) 56 info_chz ?_)
    | (go_at_call_of 47 (Value.int IntKind.i64 (k3 : Int)); refine (hW2.out _ _ _ _ _ _ _ _ (Blk.new w4 _ _) (rr4.out.alloc _) (rr5.out.alloc _) (ho6b.out.rb.alloc _)).mono ?_; rintro e w5 ⟨A7, c7, rfl, ho7, hB5⟩; have hz := hb4.out.alloc hb4.out.size (.cells (cellsCh (kk : Int) A4 2 c4 A5 2 c5) 81); have hb5 := Lib.hid (hz.trans (hB5.mono hz.size)); clear hz; have ho7' := Lib.hid ho7; clear ho7; replace hB5 := 0)
    | fail)
  trace_state
  go_ret
  exact ⟨A7, n, c7, rfl, ho7'.out.rb, hb5.out⟩
end Go.Proofs.Ytmbmmpbfmakfbaa
/- What is quoted (quote): walk of ends where what is within has a port and its sum is kept. -/
set_option linter.unusedVariables false
namespace Go.Proofs.Ytmbmmpbfmakfbaa
open Go Go.RowKit
attribute [local go_sem] Oper.semAt_some

set_option maxRecDepth 100000 in
set_option maxHeartbeats 2000000 in
theorem QEnds_no (b off n c : Nat) (bs : List Int) (Ao : Option Addr) (no co : Nat) (A1 : Option Addr) (n1 c1 : Nat) (wh pt : Nat) (a x : Int) (w : World) (h : RB w (some ⟨b, off, none⟩) n c bs) (hn : n ≤ 3000) (hk : codeQ bs = 0) (hd : RB w A1 n1 c1 (readV4 true bs).data) (hwh : 12 ≤ wh ∧ wh + 4 ≤ 20) (ha : 0 ≤ a ∧ a < 4294967296) (hx : 0 ≤ x ∧ x < 65536) (h1 : ¬ (readV4 true bs).pr = 1) (hpt : pt ≤ 4) (hN : noSum (readV4 true bs) = true) :
    Calls Try.prog 26 #[.agg (cellsQd (some ⟨b, off, none⟩) n c (readV4 true bs) Ao no co A1 n1 c1 (hdQ bs : Int)), .int .i64 (wh : Int), .int .i64 (pt : Int), .int .i64 a, .int .i64 x] w (PutOut w (chgQ bs wh (ptQ (readV4 true bs) pt) a x)) := by
  have q1 : ((readV4 true bs).pr == 1) = false := by simpa using h1
  have pq : ptQ (readV4 true bs) pt = pt := by unfold ptQ; rw [if_neg h1]
  rw [pq]
  clear pq
  have hsv := Lib.hid (show sumAtI (readV4 true bs) = -1 by unfold sumAtI; rw [hN, if_pos rfl])
  have hfin : setN (out1Q bs wh a) (hdQ bs + pt) (digL x 2) 2 = chgQ bs wh pt a x := by
    unfold chgQ out2Q
    rw [if_pos hN]
  generalize hout : chgQ bs wh pt a x = out at *
  replace hout := Lib.hid hout
  have g1 := (quo_ok h.byt hk).2.2.2.1
  have g2 := (quo_ok h.byt hk).2.2.2.2.1
  have g3 := (quo_ok h.byt hk).2.2.2.2.2.2.1
  have hlen0 := h.len
  have hks := Lib.hid (show hdQ bs + pt + 2 ≤ n by omega)
  have hn0 : 0 < n := by omega
  replace hN := 0
  replace h1 := 0
  replace hpt := Lib.hid hpt
  have hpt' := hpt.out
  replace hlen0 := 0
  have hlen := h.len
  have hby := h.byt
  obtain ⟨hv, hpk, hoff, h8, hhd, hhe, hh60, h9, hbd, hdat, hpr⟩ := quo_ok hby hk
  have hdl := hd.len
  have hh20 : 20 ≤ hdQ bs := by unfold hdQ; omega
  have hat := atQ_in (readV4 true bs)
  have hes := Lib.hid (fun hN => ends_sum hby hk hN (wh := wh) a (by omega))
  have hag := Lib.hid (ends_again bs (wh := wh) a hwh.1)
  have hso := QSumOf_any (some ⟨b, off, none⟩) n c (readV4 true bs) Ao no co A1 n1 c1 (hdQ bs : Int)
  obtain ⟨w0, hw0⟩ : ∃ w0, w.alloc (.cells (cellsQd (some ⟨b, off, none⟩) n c (readV4 true bs) Ao no co A1 n1 c1 (hdQ bs : Int)) 57) = w0 := ⟨_, rfl⟩
  have hb := Lib.hid (show Below w.heap.size w w0 by rw [← hw0]; exact (Below.refl _ w).alloc (Nat.le_refl _) _)
  have kB := Lib.hid (show Blk w0 w.heap.size (cellsQd (some ⟨b, off, none⟩) n c (readV4 true bs) Ao no co A1 n1 c1 (hdQ bs : Int)) 57 by rw [← hw0]; exact blk_at rfl)
  have hR := Lib.hid (fun W (hW : Below w.heap.size w W) => h.below hW)
  have hS := Lib.hid (fun W (hW : Below w.heap.size w W) => show Calls Try.prog 48 #[.agg (cellsQd (some ⟨b, off, none⟩) n c (readV4 true bs) Ao no co A1 n1 c1 (hdQ bs : Int))] W fun e w' => e = .returned (.int .i64 (-1)) ∧ Below W.heap.size W w' from hsv.out ▸ hso W (hd.below hW) (by omega) (by omega) (by rcases hpr with g | g | ⟨g, _⟩ <;> omega))
  have hW1 := Lib.hid (fun W (hW : Below w.heap.size w W) L A4 c4 A5 c5 (kL : Blk W L (cellsCh (wh : Int) A4 4 c4 A5 4 c5) 81) (r4 : RB W A4 4 c4 (cutI bs wh 4)) (r5 : RB W A5 4 c5 (digL a 4)) =>
    show Calls Try.prog 47 #[.slice (some ⟨b, off, none⟩) n c, .int .i64 10, .slice (some ⟨L, 0, none⟩) 1 1] W (Fresh W n (out1Q bs wh a)) from QWith_1 (some ⟨b, off, none⟩) n c bs 10 wh A4 4 c4 A5 c5 (cutI bs wh 4) (digL a 4) L W (h.below hW) (by omega) r4 r5 (by omega) (by omega) (by omega) kL)
  have e5 := kB.out.cell 5 (.int .i64 (readV4 true bs).pr) rfl
  have f0 := kB.out.cell 0 (.slice (some ⟨b, off, none⟩) n c) rfl
  replace hw0 := Lib.hid hw0
  obtain ⟨kk, hkk⟩ : ∃ kk, hdQ bs + pt = kk := ⟨_, rfl⟩
  have wkk : IntKind.i64.wrap ((hdQ bs : Int) + pt) = (kk : Int) := by rw [IntKind.wrap_i64]; omega
  have hc1 := Lib.hid (fun W (hW : Below w.heap.size w W) => show Calls Try.prog 46 #[.slice (some ⟨b, off, none⟩) n c, .int .i64 (wh : Int), .int .i64 a, .int .i64 4] W (ChOut W wh 4 (cutI bs wh 4) (digL a 4)) from QChanged_4 b off n c bs wh a W (hR.out W hW) (by omega) (by omega) (fits4n ha.1 ha.2))
  have hc2 := Lib.hid (fun W (hW : Below w.heap.size w W) => show Calls Try.prog 46 #[.slice (some ⟨b, off, none⟩) n c, .int .i64 (kk : Int), .int .i64 x, .int .i64 2] W (ChOut W kk 2 (cutI bs kk 2) (digL x 2)) from QChanged_2 b off n c bs kk x W (hR.out W hW) (by omega) (by omega) (fit2 hx.1 hx.2))
  unfold ChOut at hc1 hc2
  try rw [hkk] at hW2
  unfold Fresh at hW1
  clear hpk hhe hv hoff h9 hbd hdat hby hso hlen hdl hpr
  replace hh60 := Lib.hid hh60
  replace hh20 := Lib.hid hh20
  replace hhd := Lib.hid hhd
  replace h8 := Lib.hid h8
  replace hat := Lib.hid hat
  replace hkk := Lib.hid hkk
  replace hk := Lib.hid hk
  replace hd := Lib.hid hd
  replace hn := Lib.hid hn
  replace hwh := Lib.hid hwh
  replace ha := Lib.hid ha
  replace hx := Lib.hid hx
  replace h := Lib.hid h
  generalize readV4 true bs = p at *
  generalize hdQ bs = hh at *
  rw [hkk.out] at hks hfin
  replace hfin := Lib.hid hfin
  clear g1 g2 g3
  go_enter Try.func26, Try.ntmps26
  go_upto_region 1 with fail
  rw [hw0.out]
  go_upto_region 8 with (first
    | (go_at_call_of 46 (Value.int IntKind.i64 a); refine (hc1.out _ hb.out).mono ?_; rintro e w1 ⟨A2, c2, A3, c3, rfl, ho2, ho3, hB1⟩; have hy := hB1.alloc hB1.size (.cells (cellsCh (wh : Int) A2 4 c2 A3 4 c3) 81); have hb1 := Lib.hid (hb.out.trans (hy.mono hb.out.size)); have kB1 := Lib.hid (kB.out.to hy); have kC1 := Lib.hid (Blk.new w1 (cellsCh (wh : Int) A2 4 c2 A3 4 c3) 81); have ro2 := Lib.hid (ho2.rb.alloc (.cells (cellsCh (wh : Int) A2 4 c2 A3 4 c3) 81)); have ro3 := Lib.hid (ho3.rb.alloc (.cells (cellsCh (wh : Int) A2 4 c2 A3 4 c3) 81)); clear e5 f0; have f0 := kB1.out.cell 0 (.slice (some ⟨b, off, none⟩) n c) rfl; have f12 := kB1.out.cell 12 (.int .i64 (hh : Int)) rfl; clear hy ho2 ho3; replace hB1 := 0)
    | (refine wpList_store_CH rfl (.tmp 11) (.tmp 25) rfl w1.heap.size (cellsCh (wh : Int) A2 4 c2 A3 4 c3) rfl rfl _ (Blk.new w1 (cellsCh 0 none 0 0 none 0 0) 81) rfl rfl (one_ch _ _ _ _ _ _ _) ?_; rw [World.setRow_alloc_new])
    | (go_at_call_of 46 (Value.int IntKind.i64 x); refine (hc2.out _ hb1.out).mono ?_; rintro e w2 ⟨A4, c4, A5, c5, rfl, ho4, ho5, hB2⟩; have hy := hB2.alloc hB2.size (.cells (cellsCh (kk : Int) A4 2 c4 A5 2 c5) 81); have hb2 := Lib.hid (hb1.out.trans (hy.mono hb1.out.size)); have kB2 := Lib.hid (kB1.out.to hy); have kC2 := Lib.hid (kC1.out.to hy); have kD2 := Lib.hid (Blk.new w2 (cellsCh (kk : Int) A4 2 c4 A5 2 c5) 81); have rp2 := Lib.hid (ro2.out.below hy); have rp3 := Lib.hid (ro3.out.below hy); have rp4 := Lib.hid (ho4.rb.alloc (.cells (cellsCh (kk : Int) A4 2 c4 A5 2 c5) 81)); have rp5 := Lib.hid (ho5.rb.alloc (.cells (cellsCh (kk : Int) A4 2 c4 A5 2 c5) 81)); clear f0 f12; have f0 := kB2.out.cell 0 (.slice (some ⟨b, off, none⟩) n c) rfl; have hbx := Lib.hid (hb2.out.alloc hb2.out.size (.cells (cellsCh (wh : Int) A2 4 c2 A3 4 c3) 81)); clear hy ho4 ho5; replace hB2 := 0)
    | (refine wpList_store_CH rfl (.tmp 12) (.tmp 33) rfl w2.heap.size (cellsCh (kk : Int) A4 2 c4 A5 2 c5) rfl rfl _ (Blk.new w2 (cellsCh 0 none 0 0 none 0 0) 81) rfl rfl (one_ch _ _ _ _ _ _ _) ?_; rw [World.setRow_alloc_new])
    | (refine wpList_load_CH rfl (.tmp 11) rfl w1.heap.size rfl _ kC2.out rfl ?_)
    | (refine wpList_build1 _ rfl 91 81 (.tmp 36) rfl (cellsCh (wh : Int) A2 4 c2 A3 4 c3) rfl 3 rfl (by decide) (by decide) Try.underlying91 (.agg (cellsCh 0 none 0 0 none 0 0)) 56 info_chz ?_)
    | (go_at_call_of 47 (Value.int IntKind.i64 10); refine (hW1.out _ hbx.out _ _ _ _ _ (Blk.new2 _ _ _ _) (rp2.out.alloc _) (rp3.out.alloc _)).mono ?_; rintro e w3 ⟨A6, c6, rfl, ho6, hB3⟩; have hb3 := Lib.hid (hbx.out.trans (hB3.mono hbx.out.size)); have kB3 := Lib.hid ((kB2.out.alloc _).to hB3); have kC3 := Lib.hid ((kC2.out.alloc _).to hB3); have kD3 := Lib.hid ((kD2.out.alloc _).to hB3); have rq2 := Lib.hid ((rp2.out.alloc _).below hB3); have rq3 := Lib.hid ((rp3.out.alloc _).below hB3); have rq4 := Lib.hid ((rp4.out.alloc _).below hB3); have rq5 := Lib.hid ((rp5.out.alloc _).below hB3); have ho6a := Lib.hid (ho6.mono hbx.out.size); have hgx := Lib.hid (fun j (hj : ownBlk A6 = some j) => (ho6.blk hj).1); clear f0 ho6; have e5 := kB3.out.cell 5 (.int .i64 p.pr) rfl; replace hB3 := 0)
    | (refine wpList_load_QD rfl (.tmp 5) rfl w.heap.size rfl _ kB3.out rfl ?_)
    | (go_at_call 48; refine (hS.out _ hb3.out).mono ?_; rintro e w4 ⟨rfl, hB4⟩; have hb4 := Lib.hid (hb3.out.trans (hB4.mono hb3.out.size)); have kB4 := Lib.hid (kB3.out.to hB4); have kC4 := Lib.hid (kC3.out.to hB4); have kD4 := Lib.hid (kD3.out.to hB4); have rr2 := Lib.hid (rq2.out.below hB4); have rr3 := Lib.hid (rq3.out.below hB4); have rr4 := Lib.hid (rq4.out.below hB4); have rr5 := Lib.hid (rq5.out.below hB4); have ho6b := Lib.hid (ho6a.out.below hB4); clear e5; have e5 := kB4.out.cell 5 (.int .i64 p.pr) rfl; have f12 := kB4.out.cell 12 (.int .i64 (hh : Int)) rfl; replace hB4 := 0)
    | fail)
  obtain ⟨g, rfl, hgw, _, _⟩ := ho6b.out.form hn0
  have ho1 := Lib.hid ho6b.out
  have hgq := Lib.hid (hgx.out g rfl)
  have nc3 := ho1.out.rb.nc
  have hk3 := hks.out
  have n3k : ¬ c6 = kk := by omega
  have l3 : (kk : Int) ≤ (c6 : Int) := by omega
  have l3n : (n : Int) ≤ (c6 : Int) := by omega
  have lkn : (kk : Int) ≤ (n : Int) := by omega
  have lkn' : kk ≤ n := by omega
  clear e5 f12 hk3
  have hSf := Lib.hid (fun W (hq : Blk W w2.heap.size (cellsCh (kk : Int) A4 2 c4 A5 2 c5) 81) => show W.cell? ⟨w2.heap.size, 0, none⟩ = some (.int .i64 (kk : Int)) ∧ W.cell? ⟨w2.heap.size, 1, none⟩ = some (.slice A4 2 c4) ∧ W.cell? ⟨w2.heap.size, 2, none⟩ = some (.slice A5 2 c5) from ⟨hq.cell 0 _ rfl, hq.cell 1 _ rfl, hq.cell 2 _ rfl⟩)
  obtain ⟨v, hv⟩ : ∃ v, w4.drew = v := ⟨_, rfl⟩
  have kDv := Lib.hid (show Blk v w2.heap.size (cellsCh (kk : Int) A4 2 c4 A5 2 c5) 81 by rw [← hv]; exact kD4.out.drew)
  have ho1v := Lib.hid (show OB v w.heap.size (some ⟨g, 0, none⟩) n c6 (out1Q bs wh a) by rw [← hv]; exact ho1.out.below (Below.refl _ w4).drew)
  have hbv := Lib.hid (show Below w.heap.size w v by rw [← hv]; exact hb4.out.drew)
  have rr5v := Lib.hid (show RB v A5 2 c5 (digL x 2) by rw [← hv]; exact rr5.out.drew)
  have hS1 := hSf.out _ kDv.out
  try simp only [Act.put]
  refine wp_region_held_drew (S := fun W => W.cell? ⟨w2.heap.size, 0, none⟩ = some (.int .i64 (kk : Int)) ∧ W.cell? ⟨w2.heap.size, 1, none⟩ = some (.slice A4 2 c4) ∧ W.cell? ⟨w2.heap.size, 2, none⟩ = some (.slice A5 2 c5)) (by kernel_rfl) (by rw [hv]; exact hS1) (fun hHeld => ?_)
  rw [hv] at hHeld ⊢
  replace hv := Lib.hid hv
  refine take_h (i := 0) (v := ?_) rfl rfl (by kernel_rfl) (by kernel_rfl) (by kernel_rfl) (fun _ _ _ h => h) (Or.inl ⟨by rfl, fun W hSw => ?_⟩) (by assumption) ?_
  rotate_left
  · (clear hSw; go_simp; try with_reducible rfl)
  simp only [Act.put, List.setIfInBounds_toArray, List.set_cons_zero, List.set_cons_succ]
  refine take_h (i := 1) (v := ?_) rfl rfl (by kernel_rfl) (by kernel_rfl) (by kernel_rfl) (fun _ _ _ h => h) (Or.inl ⟨by rfl, fun W hSw => ?_⟩) (by assumption) ?_
  rotate_left
  · (clear hSw; go_simp; try with_reducible rfl)
  simp only [Act.put, List.setIfInBounds_toArray, List.set_cons_zero, List.set_cons_succ]
  refine take_h (i := 2) (v := ?_) rfl rfl (by kernel_rfl) (by kernel_rfl) (by kernel_rfl) (fun _ _ _ h => h) (Or.inl ⟨by rfl, fun W hSw => ?_⟩) (by assumption) ?_
  rotate_left
  · (obtain ⟨hs0, hs1, hs2⟩ := hSw; go_simp; try with_reducible rfl)
  simp only [Act.put, List.setIfInBounds_toArray, List.set_cons_zero, List.set_cons_succ]
  refine take_h (i := 3) (v := ?_) rfl rfl (by kernel_rfl) (by kernel_rfl) (by kernel_rfl) (fun _ _ _ h => h) (Or.inl ⟨by rfl, fun W hSw => ?_⟩) (by assumption) ?_
  rotate_left
  · (clear hSw; go_simp; try with_reducible rfl)
  simp only [Act.put, List.setIfInBounds_toArray, List.set_cons_zero, List.set_cons_succ]
  refine take_h (i := 4) (v := ?_) rfl rfl (by kernel_rfl) (by kernel_rfl) (by kernel_rfl) (fun _ _ _ h => h) (Or.inl ⟨by rfl, fun W hSw => ?_⟩) (by assumption) ?_
  rotate_left
  · (clear hSw; go_simp; try with_reducible rfl)
  simp only [Act.put, List.setIfInBounds_toArray, List.set_cons_zero, List.set_cons_succ]
  refine take_h (i := 5) (v := ?_) rfl rfl (by kernel_rfl) (by kernel_rfl) (by kernel_rfl) (fun _ _ _ h => h) (Or.inl ⟨by rfl, fun W hSw => ?_⟩) (by assumption) ?_
  rotate_left
  · (obtain ⟨hs0, hs1, hs2⟩ := hSw; go_simp; try with_reducible rfl)
  simp only [Act.put, List.setIfInBounds_toArray, List.set_cons_zero, List.set_cons_succ]
  refine step_h (i := 6) rfl rfl (by kernel_rfl) (fun K hK => ?_)
  refine step_copy_bytes rfl (.tmp 46) (.tmp 48) rfl ho1v.out rfl rfl rr5v.out hks.out (by decide) ?_
  intro u hou gu
  have hoB := Lib.hid hou
  have kCB := Lib.hid (kDv.out.grown gu (by have := hgq.out; rw [ne_eq, Option.some.injEq]; simp at this; omega))
  have hbB := Lib.hid (hbv.out.grown gu hbv.out.size (fun j hj => by cases hj; exact (ho1v.out.blk rfl).1))
  have hS2 := hSf.out _ kCB.out
  clear hHeld hou
  refine hK.out _ _ hS2 (fun hHeld => ?_)
  clear hK K
  try simp only [Act.put, List.setIfInBounds_toArray, List.set_cons_zero, List.set_cons_succ]
  refine wpAnyH_done (by kernel_rfl) ?_ _
  clear hHeld hS1 hS2
  try simp only [Act.put]
  go_wp2_with fail
  trace_state
  go_ret
  exact ⟨some ⟨g, 0, none⟩, n, c6, rfl, hfin.out ▸ hoB.out.rb, hbB.out⟩
end Go.Proofs.Ytmbmmpbfmakfbaa
/- A slice literal of two structs. -/
set_option linter.unusedVariables false
namespace Go.Proofs.Ytmbmmpbfmakfbaa
open Go Go.RowKit

theorem wp_build2 {o : Oper} {a : Act} {Q : Exit → Act → World → Prop} {K : Act → World → Prop} (w : World) (t T : TypeId) (x y : Operand) (hop : o.op = .buildSlice t 2 #[(0, x), (1, y)]) (C D : Array Value) (hx : a.eval x = .agg C) (hy : a.eval y = .agg D) (k : Nat) (hk : C.size = k) (hk2 : D.size = k) (h0 : 0 < k) (h1 : k ≤ 1000)
    (ht : Try.prog.underlying t = some (.slice T)) (z : Value) (bytes : Nat) (hi : (Try.prog.info? T).map (fun i => (i.zero, i.size, i.bytes)) = some (some z, k, bytes)) (E : Array Value) (hE : C ++ D = E)
    (h : K (a.put o.dst (.slice (some ⟨w.heap.size, 0, none⟩) 2 2)) (w.alloc (.cells E T))) : o.wp Try.prog a w K Q := by
  subst hE
  obtain ⟨i0, hi, hz0, hz1, hz2⟩ := info_parts hi
  refine wp_buildSlice t T 2 #[(0, x), (1, y)] hop (C ++ D) i0 z ht hi hz0 (by rw [hz1]; omega) (by rw [hz1]; omega) ?_ h
  have := Great.fill_whole h0 [Value.agg C, Value.agg D] ((Array.range (2 * i0.size)).map (z.cells[· % z.cells.size]!)) (by intro v hv; rw [List.mem_cons, List.mem_singleton] at hv; rcases hv with hv | hv <;> subst hv; exact hk; exact hk2) (by simp [hz1])
  rw [hz1]
  simp only [List.zipIdx_cons, List.zipIdx_nil, List.map_cons, List.map_nil] at this
  simp only [List.map_toArray, List.map_cons, List.map_nil, hx, hy]
  rw [hz1] at this
  rw [this]
  simp [Value.cells]
theorem wpList_build2 {ops : Array Oper} {rest : List Oper} {o : Oper} {a : Act} {Q : Exit → Act → World → Prop} (w : World) (hgd : o.guard = none) (t T : TypeId) (x y : Operand) (hop : o.op = .buildSlice t 2 #[(0, x), (1, y)]) (C D : Array Value) (hx : a.eval x = .agg C) (hy : a.eval y = .agg D) (k : Nat) (hk : C.size = k) (hk2 : D.size = k) (h0 : 0 < k) (h1 : k ≤ 1000)
    (ht : Try.prog.underlying t = some (.slice T)) (z : Value) (bytes : Nat) (hi : (Try.prog.info? T).map (fun i => (i.zero, i.size, i.bytes)) = some (some z, k, bytes)) (E : Array Value) (hE : C ++ D = E)
    (h : wpList Try.prog ops Q rest (a.put o.dst (.slice (some ⟨w.heap.size, 0, none⟩) 2 2)) (w.alloc (.cells E T))) : wpList Try.prog ops Q (o :: rest) a w :=
  wpList_plain hgd fun K hK => wp_build2 w t T x y hop C D hx hy k hk hk2 h0 h1 ht z bytes hi E hE (hK _ _ h)
abbrev cells2Ch (k : Int) (A : Option Addr) (n c : Nat) (A' : Option Addr) (n' c' : Nat) (kp : Int) (B : Option Addr) (m d : Nat) (B' : Option Addr) (m' d' : Nat) : Array Value := #[.int .i64 k, .slice A n c, .slice A' n' c', .int .i64 kp, .slice B m d, .slice B' m' d']
theorem cells2_eq (k : Int) (A : Option Addr) (n c : Nat) (A' : Option Addr) (n' c' : Nat) (kp : Int) (B : Option Addr) (m d : Nat) (B' : Option Addr) (m' d' : Nat) : cellsCh k A n c A' n' c' ++ cellsCh kp B m d B' m' d' = cells2Ch k A n c A' n' c' kp B m d B' m' d' := by simp [cellsCh, cells2Ch]
end Go.Proofs.Ytmbmmpbfmakfbaa
/- What is quoted (quote): walk of ends where what is within has a port and a sum. -/
set_option linter.unusedVariables false
namespace Go.Proofs.Ytmbmmpbfmakfbaa
open Go Go.RowKit
attribute [local go_sem] Oper.semAt_some

set_option maxRecDepth 100000 in
set_option maxHeartbeats 2000000 in
theorem QEnds_keep (b off n c : Nat) (bs : List Int) (Ao : Option Addr) (no co : Nat) (A1 : Option Addr) (n1 c1 : Nat) (wh pt : Nat) (a x : Int) (w : World) (h : RB w (some ⟨b, off, none⟩) n c bs) (hn : n ≤ 3000) (hk : codeQ bs = 0) (hd : RB w A1 n1 c1 (readV4 true bs).data) (hwh : 12 ≤ wh ∧ wh + 4 ≤ 20) (ha : 0 ≤ a ∧ a < 4294967296) (hx : 0 ≤ x ∧ x < 65536) (h1 : ¬ (readV4 true bs).pr = 1) (hpt : pt ≤ 4) (hN : noSum (readV4 true bs) = false) (hz : sm2Q bs wh pt a x ≠ 0) :
    Calls Try.prog 26 #[.agg (cellsQd (some ⟨b, off, none⟩) n c (readV4 true bs) Ao no co A1 n1 c1 (hdQ bs : Int)), .int .i64 (wh : Int), .int .i64 (pt : Int), .int .i64 a, .int .i64 x] w (PutOut w (chgQ bs wh (ptQ (readV4 true bs) pt) a x)) := by
  have q1 : ((readV4 true bs).pr == 1) = false := by simpa using h1
  have hz' := Lib.hid hz
  have pq : ptQ (readV4 true bs) pt = pt := by unfold ptQ; rw [if_neg h1]
  rw [pq]
  clear pq
  have g1 := (quo_ok h.byt hk).2.2.2.1
  have g2 := (quo_ok h.byt hk).2.2.2.2.1
  have g3 := (quo_ok h.byt hk).2.2.2.2.2.2.1
  have g4 := noSum_no hN
  have g6 : 20 ≤ hdQ bs := by unfold hdQ; omega
  have g5 := atQ_in (readV4 true bs)
  have hlen0 := h.len
  obtain ⟨m, hm⟩ : ∃ m, atQ (readV4 true bs) = m := ⟨_, rfl⟩
  obtain ⟨s2, hs2⟩ : ∃ s, sm2Q bs wh pt a x = s := ⟨_, rfl⟩
  have hs2i : 0 ≤ s2 ∧ s2 < 65536 := by rw [← hs2]; exact change_in _ _ _
  have hsv := Lib.hid (show sumAtI (readV4 true bs) = (m : Int) by unfold sumAtI; rw [hN, if_neg (by simp), hm])
  have nm : ((m : Int) == -1) = false := by rw [beq_eq_false_iff_ne]; omega
  obtain ⟨k3, hk3⟩ : ∃ k, hdQ bs + m = k := ⟨_, rfl⟩
  have hfin : setN (out2Q bs wh pt a x) k3 (digL (s2) 2) 2 = chgQ bs wh pt a x := by
    unfold chgQ
    rw [hN, if_neg (by simp), hm, hk3]
    unfold sm3Q
    rw [hs2]
    rw [if_neg (fun g => hz (hs2.trans g.1))]
  have hmid : setN (setN (setN (out1Q bs wh a) wh (digL a 4) 4) (hdQ bs + pt) (digL x 2) 2) k3 (digL (changeI (getV (out1Q bs wh a) (k3 : Int) 2).1 (cutI bs wh 4 ++ cutI bs (hdQ bs + pt) 2) (digL a 4 ++ digL x 2)) 2) 2 = setN (out2Q bs wh pt a x) k3 (digL s2 2) 2 := by
    have e := ends_sum h.byt hk hN (wh := wh) a (by omega)
    rw [hm, hk3] at e
    rw [ends_again bs a hwh.1, e, ← hs2]
    unfold out2Q sm2Q oldQ nowQ
    rw [if_neg h1, if_neg h1, hm]
  have hlo : (out2Q bs wh pt a x).length = bs.length := out2_length _ _ _ _ _
  have hgv : (getV (setN (out2Q bs wh pt a x) k3 (digL s2 2) 2) (k3 : Int) 2).1 = s2 := getV_at (by omega) hs2i.1 hs2i.2
  generalize hout : chgQ bs wh pt a x = out at *
  replace hout := Lib.hid hout
  have wk3 : IntKind.i64.wrap ((m : Int) + (hdQ bs : Int)) = (k3 : Int) := by rw [IntKind.wrap_i64]; omega
  have hov : setN (setN (out2Q bs wh pt a x) k3 (digL s2 2) 2) k3 (digL 65535 2) 2 = setN (out2Q bs wh pt a x) k3 (digL 65535 2) 2 := setN_over _ _ _ _ _
  generalize out2Q bs wh pt a x = o2 at *
  generalize hgz : (getV (setN o2 k3 (digL s2 2) 2) (k3 : Int) 2).2 = zz at *
  have hW2 := Lib.hid (fun W A6 c6 L A2 c2 A3 c3 A4 c4 A5 c5 (kL : Blk W L (cells2Ch (wh : Int) A2 4 c2 A3 4 c3 ((hdQ bs + pt : Nat) : Int) A4 2 c4 A5 2 c5) 81) (r2 : RB W A2 4 c2 (cutI bs wh 4)) (r3 : RB W A3 4 c3 (digL a 4)) (r4 : RB W A4 2 c4 (cutI bs (hdQ bs + pt) 2)) (r5 : RB W A5 2 c5 (digL x 2)) (r : RB W A6 n c6 (out1Q bs wh a)) =>
    show Calls Try.prog 47 #[.slice A6 n c6, .int .i64 (k3 : Int), .slice (some ⟨L, 0, none⟩) 2 2] W (Fresh W n (setN o2 k3 (digL s2 2) 2)) from hmid ▸ QWith_2 A6 n c6 (out1Q bs wh a) k3 wh A2 4 c2 A3 c3 (cutI bs wh 4) (digL a 4) (hdQ bs + pt) A4 2 c4 A5 c5 (cutI bs (hdQ bs + pt) 2) (digL x 2) L W r (by omega) r2 r3 (by omega) (by omega) r4 r5 (by omega) (by omega) (by omega) (by omega) kL)
  have hG := Lib.hid (fun W A7 c7 (r : RB W A7 n c7 (setN o2 k3 (digL s2 2) 2)) => show Calls Try.prog 49 #[.slice A7 n c7, .int .i64 (k3 : Int), .int .i64 2] W fun e w' => e = .returned (.tuple #[.int .i64 s2, .int .i64 zz]) ∧ W = w' from hgv ▸ hgz ▸ Get_any A7 n c7 _ (k3 : Int) 2 W r (by omega))
  have hT := Lib.hid (fun W A7 c7 (r : RB W A7 n c7 (setN o2 k3 (digL s2 2) 2)) => show Calls Try.prog 50 #[.slice A7 n c7, .int .i64 (k3 : Int), .int .i64 65535, .int .i64 2] W fun e w' => ∃ A2 c2, e = .returned (.tuple #[.slice A2 n c2, .int .i64 0]) ∧ OB w' W.heap.size A2 n c2 (setN o2 k3 (digL 65535 2) 2) ∧ Below W.heap.size W w' from hov ▸ Set_ok A7 n c7 _ k3 65535 2 W r (by omega) (fit2 (by omega) (by omega)) (by omega))
  unfold Fresh at hW2
  replace hfin := Lib.hid hfin
  replace hk3 := Lib.hid hk3
  clear hmid hlo hgv hov g1 g2 g3 g4 g5 g6
  replace hgz := Lib.hid hgz
  replace hm := Lib.hid hm
  replace hs2 := Lib.hid hs2
  replace hs2i := Lib.hid hs2i
  replace hlen0 := 0
  replace hN := 0
  replace h1 := 0
  have qz : (s2 == 0) = false := by (have := hs2.out; have := hz'.out; simp_all)
  have g3 := (quo_ok h.byt hk).2.2.2.2.2.2.1
  have hpt' := hpt
  replace hpt := Lib.hid hpt
  have hlen := h.len
  have hby := h.byt
  obtain ⟨hv, hpk, hoff, h8, hhd, hhe, hh60, h9, hbd, hdat, hpr⟩ := quo_ok hby hk
  have hdl := hd.len
  have hh20 : 20 ≤ hdQ bs := by unfold hdQ; omega
  have hat := atQ_in (readV4 true bs)
  have hes := Lib.hid (fun hN => ends_sum hby hk hN (wh := wh) a (by omega))
  have hag := Lib.hid (ends_again bs (wh := wh) a hwh.1)
  have hso := QSumOf_any (some ⟨b, off, none⟩) n c (readV4 true bs) Ao no co A1 n1 c1 (hdQ bs : Int)
  obtain ⟨w0, hw0⟩ : ∃ w0, w.alloc (.cells (cellsQd (some ⟨b, off, none⟩) n c (readV4 true bs) Ao no co A1 n1 c1 (hdQ bs : Int)) 57) = w0 := ⟨_, rfl⟩
  have hb := Lib.hid (show Below w.heap.size w w0 by rw [← hw0]; exact (Below.refl _ w).alloc (Nat.le_refl _) _)
  have kB := Lib.hid (show Blk w0 w.heap.size (cellsQd (some ⟨b, off, none⟩) n c (readV4 true bs) Ao no co A1 n1 c1 (hdQ bs : Int)) 57 by rw [← hw0]; exact blk_at rfl)
  have hR := Lib.hid (fun W (hW : Below w.heap.size w W) => h.below hW)
  have hS := Lib.hid (fun W (hW : Below w.heap.size w W) => show Calls Try.prog 48 #[.agg (cellsQd (some ⟨b, off, none⟩) n c (readV4 true bs) Ao no co A1 n1 c1 (hdQ bs : Int))] W fun e w' => e = .returned (.int .i64 ((m : Int))) ∧ Below W.heap.size W w' from hsv.out ▸ hso W (hd.below hW) (by omega) (by omega) (by rcases hpr with g | g | ⟨g, _⟩ <;> omega))
  have hW1 := Lib.hid (fun W (hW : Below w.heap.size w W) L A4 c4 A5 c5 (kL : Blk W L (cellsCh (wh : Int) A4 4 c4 A5 4 c5) 81) (r4 : RB W A4 4 c4 (cutI bs wh 4)) (r5 : RB W A5 4 c5 (digL a 4)) =>
    show Calls Try.prog 47 #[.slice (some ⟨b, off, none⟩) n c, .int .i64 10, .slice (some ⟨L, 0, none⟩) 1 1] W (Fresh W n (out1Q bs wh a)) from QWith_1 (some ⟨b, off, none⟩) n c bs 10 wh A4 4 c4 A5 c5 (cutI bs wh 4) (digL a 4) L W (h.below hW) (by omega) r4 r5 (by omega) (by omega) (by omega) kL)
  have e5 := kB.out.cell 5 (.int .i64 (readV4 true bs).pr) rfl
  have f0 := kB.out.cell 0 (.slice (some ⟨b, off, none⟩) n c) rfl
  replace hw0 := Lib.hid hw0
  obtain ⟨kk, hkk⟩ : ∃ kk, hdQ bs + pt = kk := ⟨_, rfl⟩
  have wkk : IntKind.i64.wrap ((hdQ bs : Int) + pt) = (kk : Int) := by rw [IntKind.wrap_i64]; omega
  have hc1 := Lib.hid (fun W (hW : Below w.heap.size w W) => show Calls Try.prog 46 #[.slice (some ⟨b, off, none⟩) n c, .int .i64 (wh : Int), .int .i64 a, .int .i64 4] W (ChOut W wh 4 (cutI bs wh 4) (digL a 4)) from QChanged_4 b off n c bs wh a W (hR.out W hW) (by omega) (by omega) (fits4n ha.1 ha.2))
  have hc2 := Lib.hid (fun W (hW : Below w.heap.size w W) => show Calls Try.prog 46 #[.slice (some ⟨b, off, none⟩) n c, .int .i64 (kk : Int), .int .i64 x, .int .i64 2] W (ChOut W kk 2 (cutI bs kk 2) (digL x 2)) from QChanged_2 b off n c bs kk x W (hR.out W hW) (by omega) (by omega) (fit2 hx.1 hx.2))
  unfold ChOut at hc1 hc2
  try rw [hkk] at hW2
  unfold Fresh at hW1
  clear hpk hhe hv hoff h9 hbd hdat hby hso hlen hdl hpr
  replace hh60 := Lib.hid hh60
  replace hh20 := Lib.hid hh20
  replace hhd := Lib.hid hhd
  replace h8 := Lib.hid h8
  replace hat := Lib.hid hat
  replace hkk := Lib.hid hkk
  replace hk := Lib.hid hk
  replace hd := Lib.hid hd
  replace hn := Lib.hid hn
  replace hwh := Lib.hid hwh
  replace ha := Lib.hid ha
  replace hx := Lib.hid hx
  replace h := Lib.hid h
  generalize readV4 true bs = p at *
  generalize hdQ bs = hh at *
  clear g3
  go_enter Try.func26, Try.ntmps26
  go_upto_region 1 with fail
  rw [hw0.out]
  go_wp2_with (first
    | (go_at_call_of 46 (Value.int IntKind.i64 a); refine (hc1.out _ hb.out).mono ?_; rintro e w1 ⟨A2, c2, A3, c3, rfl, ho2, ho3, hB1⟩; have hy := hB1.alloc hB1.size (.cells (cellsCh (wh : Int) A2 4 c2 A3 4 c3) 81); have hb1 := Lib.hid (hb.out.trans (hy.mono hb.out.size)); have kB1 := Lib.hid (kB.out.to hy); have kC1 := Lib.hid (Blk.new w1 (cellsCh (wh : Int) A2 4 c2 A3 4 c3) 81); have ro2 := Lib.hid (ho2.rb.alloc (.cells (cellsCh (wh : Int) A2 4 c2 A3 4 c3) 81)); have ro3 := Lib.hid (ho3.rb.alloc (.cells (cellsCh (wh : Int) A2 4 c2 A3 4 c3) 81)); clear e5 f0; have f0 := kB1.out.cell 0 (.slice (some ⟨b, off, none⟩) n c) rfl; have f12 := kB1.out.cell 12 (.int .i64 (hh : Int)) rfl; clear hy ho2 ho3; replace hB1 := 0)
    | (refine wpList_store_CH rfl (.tmp 11) (.tmp 25) rfl w1.heap.size (cellsCh (wh : Int) A2 4 c2 A3 4 c3) rfl rfl _ (Blk.new w1 (cellsCh 0 none 0 0 none 0 0) 81) rfl rfl (one_ch _ _ _ _ _ _ _) ?_; rw [World.setRow_alloc_new])
    | (go_at_call_of 46 (Value.int IntKind.i64 x); refine (hc2.out _ hb1.out).mono ?_; rintro e w2 ⟨A4, c4, A5, c5, rfl, ho4, ho5, hB2⟩; have hy := hB2.alloc hB2.size (.cells (cellsCh (kk : Int) A4 2 c4 A5 2 c5) 81); have hb2 := Lib.hid (hb1.out.trans (hy.mono hb1.out.size)); have kB2 := Lib.hid (kB1.out.to hy); have kC2 := Lib.hid (kC1.out.to hy); have kD2 := Lib.hid (Blk.new w2 (cellsCh (kk : Int) A4 2 c4 A5 2 c5) 81); have rp2 := Lib.hid (ro2.out.below hy); have rp3 := Lib.hid (ro3.out.below hy); have rp4 := Lib.hid (ho4.rb.alloc (.cells (cellsCh (kk : Int) A4 2 c4 A5 2 c5) 81)); have rp5 := Lib.hid (ho5.rb.alloc (.cells (cellsCh (kk : Int) A4 2 c4 A5 2 c5) 81)); clear f0 f12; have f0 := kB2.out.cell 0 (.slice (some ⟨b, off, none⟩) n c) rfl; have hbx := Lib.hid (hb2.out.alloc hb2.out.size (.cells (cellsCh (wh : Int) A2 4 c2 A3 4 c3) 81)); clear hy ho4 ho5; replace hB2 := 0)
    | (refine wpList_store_CH rfl (.tmp 12) (.tmp 33) rfl w2.heap.size (cellsCh (kk : Int) A4 2 c4 A5 2 c5) rfl rfl _ (Blk.new w2 (cellsCh 0 none 0 0 none 0 0) 81) rfl rfl (one_ch _ _ _ _ _ _ _) ?_; rw [World.setRow_alloc_new])
    | (refine wpList_load_CH rfl (.tmp 11) rfl w1.heap.size rfl _ kC2.out rfl ?_)
    | (refine wpList_build1 _ rfl 91 81 (.tmp 36) rfl (cellsCh (wh : Int) A2 4 c2 A3 4 c3) rfl 3 rfl (by decide) (by decide) Try.underlying91 (.agg (cellsCh 0 none 0 0 none 0 0)) 56 info_chz ?_)
    | (go_at_call_of 47 (Value.int IntKind.i64 10); refine (hW1.out _ hbx.out _ _ _ _ _ (Blk.new2 _ _ _ _) (rp2.out.alloc _) (rp3.out.alloc _)).mono ?_; rintro e w3 ⟨A6, c6, rfl, ho6, hB3⟩; have hb3 := Lib.hid (hbx.out.trans (hB3.mono hbx.out.size)); have kB3 := Lib.hid ((kB2.out.alloc _).to hB3); have kC3 := Lib.hid ((kC2.out.alloc _).to hB3); have kD3 := Lib.hid ((kD2.out.alloc _).to hB3); have rq2 := Lib.hid ((rp2.out.alloc _).below hB3); have rq3 := Lib.hid ((rp3.out.alloc _).below hB3); have rq4 := Lib.hid ((rp4.out.alloc _).below hB3); have rq5 := Lib.hid ((rp5.out.alloc _).below hB3); have ho6a := Lib.hid (ho6.mono hbx.out.size); have hgx := Lib.hid (fun j (hj : ownBlk A6 = some j) => (ho6.blk hj).1); clear f0 ho6; have e5 := kB3.out.cell 5 (.int .i64 p.pr) rfl; replace hB3 := 0)
    | (refine wpList_load_QD rfl (.tmp 5) rfl w.heap.size rfl _ kB3.out rfl ?_)
    | (go_at_call 48; refine (hS.out _ hb3.out).mono ?_; rintro e w4 ⟨rfl, hB4⟩; have hb4 := Lib.hid (hb3.out.trans (hB4.mono hb3.out.size)); have kB4 := Lib.hid (kB3.out.to hB4); have kC4 := Lib.hid (kC3.out.to hB4); have kD4 := Lib.hid (kD3.out.to hB4); have rr2 := Lib.hid (rq2.out.below hB4); have rr3 := Lib.hid (rq3.out.below hB4); have rr4 := Lib.hid (rq4.out.below hB4); have rr5 := Lib.hid (rq5.out.below hB4); have ho6b := Lib.hid (ho6a.out.below hB4); clear e5; have e5 := kB4.out.cell 5 (.int .i64 p.pr) rfl; have f12 := kB4.out.cell 12 (.int .i64 (hh : Int)) rfl; replace hB4 := 0)
    | (refine wpList_load_CH rfl (.tmp 11) rfl w1.heap.size rfl _ kC4.out rfl ?_)
    | (refine wpList_load_CH rfl (.tmp 12) rfl w2.heap.size rfl _ kD4.out rfl ?_)
    | (refine wpList_build2 _ rfl 91 81 (.tmp 66) (.tmp 67) rfl (cellsCh (wh : Int) A2 4 c2 A3 4 c3) (cellsCh (kk : Int) A4 2 c4 A5 2 c5) rfl rfl 3 rfl rfl (by decide) (by decide) Try.underlying91 (.agg (cellsCh 0 none 0 0 none 0 0)) 56 info_chz (cells2Ch (wh : Int) A2 4 c2 A3 4 c3 (kk : Int) A4 2 c4 A5 2 c5) (cells2_eq _ _ _ _ _ _ _ _ _ _ _ _ _ _) ?_)
    | (go_at_call_of 47 (Value.int IntKind.i64 (k3 : Int)); refine (hW2.out _ _ _ _ _ _ _ _ _ _ _ _ (Blk.new w4 _ _) (rr2.out.alloc _) (rr3.out.alloc _) (rr4.out.alloc _) (rr5.out.alloc _) (ho6b.out.rb.alloc _)).mono ?_; rintro e w5 ⟨A7, c7, rfl, ho7, hB5⟩; have hz := hb4.out.alloc hb4.out.size (.cells (cells2Ch (wh : Int) A2 4 c2 A3 4 c3 (kk : Int) A4 2 c4 A5 2 c5) 81); have hb5 := Lib.hid (hz.trans (hB5.mono hz.size)); have kB5 := Lib.hid ((kB4.out.alloc _).to hB5); have ho7' := Lib.hid ho7; clear hz ho7 e5; have e5 := kB5.out.cell 5 (.int .i64 p.pr) rfl; replace hB5 := 0)
    | (go_at_call 49; refine (hG.out _ _ _ ho7'.out.rb).mono ?_; rintro e w' ⟨rfl, rfl⟩)
    | (go_at_call 50; refine (hT.out _ _ _ ho7'.out.rb).mono ?_; rintro e w8 ⟨A8, c8, rfl, ho8, hB8⟩; have hb8 := Lib.hid (hb5.out.trans (hB8.mono hb5.out.size)); have ho8' := Lib.hid ho8; clear ho8 e5; replace hB8 := 0)
    | fail)
  go_ret
  exact ⟨A7, n, c7, rfl, hfin.out ▸ ho7'.out.rb, hb5.out⟩
set_option maxRecDepth 100000 in
set_option maxHeartbeats 2000000 in
theorem QEnds_tcp (b off n c : Nat) (bs : List Int) (Ao : Option Addr) (no co : Nat) (A1 : Option Addr) (n1 c1 : Nat) (wh pt : Nat) (a x : Int) (w : World) (h : RB w (some ⟨b, off, none⟩) n c bs) (hn : n ≤ 3000) (hk : codeQ bs = 0) (hd : RB w A1 n1 c1 (readV4 true bs).data) (hwh : 12 ≤ wh ∧ wh + 4 ≤ 20) (ha : 0 ≤ a ∧ a < 4294967296) (hx : 0 ≤ x ∧ x < 65536) (h1 : ¬ (readV4 true bs).pr = 1) (hpt : pt ≤ 4) (hN : noSum (readV4 true bs) = false) (hz : sm2Q bs wh pt a x = 0) (hz2 : ¬ (readV4 true bs).pr = 17) :
    Calls Try.prog 26 #[.agg (cellsQd (some ⟨b, off, none⟩) n c (readV4 true bs) Ao no co A1 n1 c1 (hdQ bs : Int)), .int .i64 (wh : Int), .int .i64 (pt : Int), .int .i64 a, .int .i64 x] w (PutOut w (chgQ bs wh (ptQ (readV4 true bs) pt) a x)) := by
  have q1 : ((readV4 true bs).pr == 1) = false := by simpa using h1
  have q17 : ((readV4 true bs).pr == 17) = false := by simpa using hz2
  have pq : ptQ (readV4 true bs) pt = pt := by unfold ptQ; rw [if_neg h1]
  rw [pq]
  clear pq
  have g1 := (quo_ok h.byt hk).2.2.2.1
  have g2 := (quo_ok h.byt hk).2.2.2.2.1
  have g3 := (quo_ok h.byt hk).2.2.2.2.2.2.1
  have g4 := noSum_no hN
  have g6 : 20 ≤ hdQ bs := by unfold hdQ; omega
  have g5 := atQ_in (readV4 true bs)
  have hlen0 := h.len
  obtain ⟨m, hm⟩ : ∃ m, atQ (readV4 true bs) = m := ⟨_, rfl⟩
  obtain ⟨s2, hs2⟩ : ∃ s, sm2Q bs wh pt a x = s := ⟨_, rfl⟩
  have hs2i : 0 ≤ s2 ∧ s2 < 65536 := by rw [← hs2]; exact change_in _ _ _
  have hsv := Lib.hid (show sumAtI (readV4 true bs) = (m : Int) by unfold sumAtI; rw [hN, if_neg (by simp), hm])
  have nm : ((m : Int) == -1) = false := by rw [beq_eq_false_iff_ne]; omega
  obtain ⟨k3, hk3⟩ : ∃ k, hdQ bs + m = k := ⟨_, rfl⟩
  have hfin : setN (out2Q bs wh pt a x) k3 (digL (s2) 2) 2 = chgQ bs wh pt a x := by
    unfold chgQ
    rw [hN, if_neg (by simp), hm, hk3]
    unfold sm3Q
    rw [hs2]
    rw [if_neg (fun g => hz2 g.2)]
  have hmid : setN (setN (setN (out1Q bs wh a) wh (digL a 4) 4) (hdQ bs + pt) (digL x 2) 2) k3 (digL (changeI (getV (out1Q bs wh a) (k3 : Int) 2).1 (cutI bs wh 4 ++ cutI bs (hdQ bs + pt) 2) (digL a 4 ++ digL x 2)) 2) 2 = setN (out2Q bs wh pt a x) k3 (digL s2 2) 2 := by
    have e := ends_sum h.byt hk hN (wh := wh) a (by omega)
    rw [hm, hk3] at e
    rw [ends_again bs a hwh.1, e, ← hs2]
    unfold out2Q sm2Q oldQ nowQ
    rw [if_neg h1, if_neg h1, hm]
  have hlo : (out2Q bs wh pt a x).length = bs.length := out2_length _ _ _ _ _
  have hgv : (getV (setN (out2Q bs wh pt a x) k3 (digL s2 2) 2) (k3 : Int) 2).1 = s2 := getV_at (by omega) hs2i.1 hs2i.2
  generalize hout : chgQ bs wh pt a x = out at *
  replace hout := Lib.hid hout
  have wk3 : IntKind.i64.wrap ((m : Int) + (hdQ bs : Int)) = (k3 : Int) := by rw [IntKind.wrap_i64]; omega
  have hov : setN (setN (out2Q bs wh pt a x) k3 (digL s2 2) 2) k3 (digL 65535 2) 2 = setN (out2Q bs wh pt a x) k3 (digL 65535 2) 2 := setN_over _ _ _ _ _
  generalize out2Q bs wh pt a x = o2 at *
  generalize hgz : (getV (setN o2 k3 (digL s2 2) 2) (k3 : Int) 2).2 = zz at *
  have hW2 := Lib.hid (fun W A6 c6 L A2 c2 A3 c3 A4 c4 A5 c5 (kL : Blk W L (cells2Ch (wh : Int) A2 4 c2 A3 4 c3 ((hdQ bs + pt : Nat) : Int) A4 2 c4 A5 2 c5) 81) (r2 : RB W A2 4 c2 (cutI bs wh 4)) (r3 : RB W A3 4 c3 (digL a 4)) (r4 : RB W A4 2 c4 (cutI bs (hdQ bs + pt) 2)) (r5 : RB W A5 2 c5 (digL x 2)) (r : RB W A6 n c6 (out1Q bs wh a)) =>
    show Calls Try.prog 47 #[.slice A6 n c6, .int .i64 (k3 : Int), .slice (some ⟨L, 0, none⟩) 2 2] W (Fresh W n (setN o2 k3 (digL s2 2) 2)) from hmid ▸ QWith_2 A6 n c6 (out1Q bs wh a) k3 wh A2 4 c2 A3 c3 (cutI bs wh 4) (digL a 4) (hdQ bs + pt) A4 2 c4 A5 c5 (cutI bs (hdQ bs + pt) 2) (digL x 2) L W r (by omega) r2 r3 (by omega) (by omega) r4 r5 (by omega) (by omega) (by omega) (by omega) kL)
  have hG := Lib.hid (fun W A7 c7 (r : RB W A7 n c7 (setN o2 k3 (digL s2 2) 2)) => show Calls Try.prog 49 #[.slice A7 n c7, .int .i64 (k3 : Int), .int .i64 2] W fun e w' => e = .returned (.tuple #[.int .i64 s2, .int .i64 zz]) ∧ W = w' from hgv ▸ hgz ▸ Get_any A7 n c7 _ (k3 : Int) 2 W r (by omega))
  have hT := Lib.hid (fun W A7 c7 (r : RB W A7 n c7 (setN o2 k3 (digL s2 2) 2)) => show Calls Try.prog 50 #[.slice A7 n c7, .int .i64 (k3 : Int), .int .i64 65535, .int .i64 2] W fun e w' => ∃ A2 c2, e = .returned (.tuple #[.slice A2 n c2, .int .i64 0]) ∧ OB w' W.heap.size A2 n c2 (setN o2 k3 (digL 65535 2) 2) ∧ Below W.heap.size W w' from hov ▸ Set_ok A7 n c7 _ k3 65535 2 W r (by omega) (fit2 (by omega) (by omega)) (by omega))
  unfold Fresh at hW2
  replace hfin := Lib.hid hfin
  replace hk3 := Lib.hid hk3
  clear hmid hlo hgv hov g1 g2 g3 g4 g5 g6
  replace hgz := Lib.hid hgz
  replace hm := Lib.hid hm
  replace hs2 := Lib.hid hs2
  replace hs2i := Lib.hid hs2i
  replace hlen0 := 0
  replace hN := 0
  replace h1 := 0
  have qz : (s2 == 0) = true := by (have := hs2.out; simp_all)
  have g3 := (quo_ok h.byt hk).2.2.2.2.2.2.1
  have hpt' := hpt
  replace hpt := Lib.hid hpt
  have hlen := h.len
  have hby := h.byt
  obtain ⟨hv, hpk, hoff, h8, hhd, hhe, hh60, h9, hbd, hdat, hpr⟩ := quo_ok hby hk
  have hdl := hd.len
  have hh20 : 20 ≤ hdQ bs := by unfold hdQ; omega
  have hat := atQ_in (readV4 true bs)
  have hes := Lib.hid (fun hN => ends_sum hby hk hN (wh := wh) a (by omega))
  have hag := Lib.hid (ends_again bs (wh := wh) a hwh.1)
  have hso := QSumOf_any (some ⟨b, off, none⟩) n c (readV4 true bs) Ao no co A1 n1 c1 (hdQ bs : Int)
  obtain ⟨w0, hw0⟩ : ∃ w0, w.alloc (.cells (cellsQd (some ⟨b, off, none⟩) n c (readV4 true bs) Ao no co A1 n1 c1 (hdQ bs : Int)) 57) = w0 := ⟨_, rfl⟩
  have hb := Lib.hid (show Below w.heap.size w w0 by rw [← hw0]; exact (Below.refl _ w).alloc (Nat.le_refl _) _)
  have kB := Lib.hid (show Blk w0 w.heap.size (cellsQd (some ⟨b, off, none⟩) n c (readV4 true bs) Ao no co A1 n1 c1 (hdQ bs : Int)) 57 by rw [← hw0]; exact blk_at rfl)
  have hR := Lib.hid (fun W (hW : Below w.heap.size w W) => h.below hW)
  have hS := Lib.hid (fun W (hW : Below w.heap.size w W) => show Calls Try.prog 48 #[.agg (cellsQd (some ⟨b, off, none⟩) n c (readV4 true bs) Ao no co A1 n1 c1 (hdQ bs : Int))] W fun e w' => e = .returned (.int .i64 ((m : Int))) ∧ Below W.heap.size W w' from hsv.out ▸ hso W (hd.below hW) (by omega) (by omega) (by rcases hpr with g | g | ⟨g, _⟩ <;> omega))
  have hW1 := Lib.hid (fun W (hW : Below w.heap.size w W) L A4 c4 A5 c5 (kL : Blk W L (cellsCh (wh : Int) A4 4 c4 A5 4 c5) 81) (r4 : RB W A4 4 c4 (cutI bs wh 4)) (r5 : RB W A5 4 c5 (digL a 4)) =>
    show Calls Try.prog 47 #[.slice (some ⟨b, off, none⟩) n c, .int .i64 10, .slice (some ⟨L, 0, none⟩) 1 1] W (Fresh W n (out1Q bs wh a)) from QWith_1 (some ⟨b, off, none⟩) n c bs 10 wh A4 4 c4 A5 c5 (cutI bs wh 4) (digL a 4) L W (h.below hW) (by omega) r4 r5 (by omega) (by omega) (by omega) kL)
  have e5 := kB.out.cell 5 (.int .i64 (readV4 true bs).pr) rfl
  have f0 := kB.out.cell 0 (.slice (some ⟨b, off, none⟩) n c) rfl
  replace hw0 := Lib.hid hw0
  obtain ⟨kk, hkk⟩ : ∃ kk, hdQ bs + pt = kk := ⟨_, rfl⟩
  have wkk : IntKind.i64.wrap ((hdQ bs : Int) + pt) = (kk : Int) := by rw [IntKind.wrap_i64]; omega
  have hc1 := Lib.hid (fun W (hW : Below w.heap.size w W) => show Calls Try.prog 46 #[.slice (some ⟨b, off, none⟩) n c, .int .i64 (wh : Int), .int .i64 a, .int .i64 4] W (ChOut W wh 4 (cutI bs wh 4) (digL a 4)) from QChanged_4 b off n c bs wh a W (hR.out W hW) (by omega) (by omega) (fits4n ha.1 ha.2))
  have hc2 := Lib.hid (fun W (hW : Below w.heap.size w W) => show Calls Try.prog 46 #[.slice (some ⟨b, off, none⟩) n c, .int .i64 (kk : Int), .int .i64 x, .int .i64 2] W (ChOut W kk 2 (cutI bs kk 2) (digL x 2)) from QChanged_2 b off n c bs kk x W (hR.out W hW) (by omega) (by omega) (fit2 hx.1 hx.2))
  unfold ChOut at hc1 hc2
  try rw [hkk] at hW2
  unfold Fresh at hW1
  clear hpk hhe hv hoff h9 hbd hdat hby hso hlen hdl hpr
  replace hh60 := Lib.hid hh60
  replace hh20 := Lib.hid hh20
  replace hhd := Lib.hid hhd
  replace h8 := Lib.hid h8
  replace hat := Lib.hid hat
  replace hkk := Lib.hid hkk
  replace hk := Lib.hid hk
  replace hd := Lib.hid hd
  replace hn := Lib.hid hn
  replace hwh := Lib.hid hwh
  replace ha := Lib.hid ha
  replace hx := Lib.hid hx
  replace h := Lib.hid h
  generalize readV4 true bs = p at *
  generalize hdQ bs = hh at *
  clear g3
  go_enter Try.func26, Try.ntmps26
  go_upto_region 1 with fail
  rw [hw0.out]
  go_wp2_with (first
    | (go_at_call_of 46 (Value.int IntKind.i64 a); refine (hc1.out _ hb.out).mono ?_; rintro e w1 ⟨A2, c2, A3, c3, rfl, ho2, ho3, hB1⟩; have hy := hB1.alloc hB1.size (.cells (cellsCh (wh : Int) A2 4 c2 A3 4 c3) 81); have hb1 := Lib.hid (hb.out.trans (hy.mono hb.out.size)); have kB1 := Lib.hid (kB.out.to hy); have kC1 := Lib.hid (Blk.new w1 (cellsCh (wh : Int) A2 4 c2 A3 4 c3) 81); have ro2 := Lib.hid (ho2.rb.alloc (.cells (cellsCh (wh : Int) A2 4 c2 A3 4 c3) 81)); have ro3 := Lib.hid (ho3.rb.alloc (.cells (cellsCh (wh : Int) A2 4 c2 A3 4 c3) 81)); clear e5 f0; have f0 := kB1.out.cell 0 (.slice (some ⟨b, off, none⟩) n c) rfl; have f12 := kB1.out.cell 12 (.int .i64 (hh : Int)) rfl; clear hy ho2 ho3; replace hB1 := 0)
    | (refine wpList_store_CH rfl (.tmp 11) (.tmp 25) rfl w1.heap.size (cellsCh (wh : Int) A2 4 c2 A3 4 c3) rfl rfl _ (Blk.new w1 (cellsCh 0 none 0 0 none 0 0) 81) rfl rfl (one_ch _ _ _ _ _ _ _) ?_; rw [World.setRow_alloc_new])
    | (go_at_call_of 46 (Value.int IntKind.i64 x); refine (hc2.out _ hb1.out).mono ?_; rintro e w2 ⟨A4, c4, A5, c5, rfl, ho4, ho5, hB2⟩; have hy := hB2.alloc hB2.size (.cells (cellsCh (kk : Int) A4 2 c4 A5 2 c5) 81); have hb2 := Lib.hid (hb1.out.trans (hy.mono hb1.out.size)); have kB2 := Lib.hid (kB1.out.to hy); have kC2 := Lib.hid (kC1.out.to hy); have kD2 := Lib.hid (Blk.new w2 (cellsCh (kk : Int) A4 2 c4 A5 2 c5) 81); have rp2 := Lib.hid (ro2.out.below hy); have rp3 := Lib.hid (ro3.out.below hy); have rp4 := Lib.hid (ho4.rb.alloc (.cells (cellsCh (kk : Int) A4 2 c4 A5 2 c5) 81)); have rp5 := Lib.hid (ho5.rb.alloc (.cells (cellsCh (kk : Int) A4 2 c4 A5 2 c5) 81)); clear f0 f12; have f0 := kB2.out.cell 0 (.slice (some ⟨b, off, none⟩) n c) rfl; have hbx := Lib.hid (hb2.out.alloc hb2.out.size (.cells (cellsCh (wh : Int) A2 4 c2 A3 4 c3) 81)); clear hy ho4 ho5; replace hB2 := 0)
    | (refine wpList_store_CH rfl (.tmp 12) (.tmp 33) rfl w2.heap.size (cellsCh (kk : Int) A4 2 c4 A5 2 c5) rfl rfl _ (Blk.new w2 (cellsCh 0 none 0 0 none 0 0) 81) rfl rfl (one_ch _ _ _ _ _ _ _) ?_; rw [World.setRow_alloc_new])
    | (refine wpList_load_CH rfl (.tmp 11) rfl w1.heap.size rfl _ kC2.out rfl ?_)
    | (refine wpList_build1 _ rfl 91 81 (.tmp 36) rfl (cellsCh (wh : Int) A2 4 c2 A3 4 c3) rfl 3 rfl (by decide) (by decide) Try.underlying91 (.agg (cellsCh 0 none 0 0 none 0 0)) 56 info_chz ?_)
    | (go_at_call_of 47 (Value.int IntKind.i64 10); refine (hW1.out _ hbx.out _ _ _ _ _ (Blk.new2 _ _ _ _) (rp2.out.alloc _) (rp3.out.alloc _)).mono ?_; rintro e w3 ⟨A6, c6, rfl, ho6, hB3⟩; have hb3 := Lib.hid (hbx.out.trans (hB3.mono hbx.out.size)); have kB3 := Lib.hid ((kB2.out.alloc _).to hB3); have kC3 := Lib.hid ((kC2.out.alloc _).to hB3); have kD3 := Lib.hid ((kD2.out.alloc _).to hB3); have rq2 := Lib.hid ((rp2.out.alloc _).below hB3); have rq3 := Lib.hid ((rp3.out.alloc _).below hB3); have rq4 := Lib.hid ((rp4.out.alloc _).below hB3); have rq5 := Lib.hid ((rp5.out.alloc _).below hB3); have ho6a := Lib.hid (ho6.mono hbx.out.size); have hgx := Lib.hid (fun j (hj : ownBlk A6 = some j) => (ho6.blk hj).1); clear f0 ho6; have e5 := kB3.out.cell 5 (.int .i64 p.pr) rfl; replace hB3 := 0)
    | (refine wpList_load_QD rfl (.tmp 5) rfl w.heap.size rfl _ kB3.out rfl ?_)
    | (go_at_call 48; refine (hS.out _ hb3.out).mono ?_; rintro e w4 ⟨rfl, hB4⟩; have hb4 := Lib.hid (hb3.out.trans (hB4.mono hb3.out.size)); have kB4 := Lib.hid (kB3.out.to hB4); have kC4 := Lib.hid (kC3.out.to hB4); have kD4 := Lib.hid (kD3.out.to hB4); have rr2 := Lib.hid (rq2.out.below hB4); have rr3 := Lib.hid (rq3.out.below hB4); have rr4 := Lib.hid (rq4.out.below hB4); have rr5 := Lib.hid (rq5.out.below hB4); have ho6b := Lib.hid (ho6a.out.below hB4); clear e5; have e5 := kB4.out.cell 5 (.int .i64 p.pr) rfl; have f12 := kB4.out.cell 12 (.int .i64 (hh : Int)) rfl; replace hB4 := 0)
    | (refine wpList_load_CH rfl (.tmp 11) rfl w1.heap.size rfl _ kC4.out rfl ?_)
    | (refine wpList_load_CH rfl (.tmp 12) rfl w2.heap.size rfl _ kD4.out rfl ?_)
    | (refine wpList_build2 _ rfl 91 81 (.tmp 66) (.tmp 67) rfl (cellsCh (wh : Int) A2 4 c2 A3 4 c3) (cellsCh (kk : Int) A4 2 c4 A5 2 c5) rfl rfl 3 rfl rfl (by decide) (by decide) Try.underlying91 (.agg (cellsCh 0 none 0 0 none 0 0)) 56 info_chz (cells2Ch (wh : Int) A2 4 c2 A3 4 c3 (kk : Int) A4 2 c4 A5 2 c5) (cells2_eq _ _ _ _ _ _ _ _ _ _ _ _ _ _) ?_)
    | (go_at_call_of 47 (Value.int IntKind.i64 (k3 : Int)); refine (hW2.out _ _ _ _ _ _ _ _ _ _ _ _ (Blk.new w4 _ _) (rr2.out.alloc _) (rr3.out.alloc _) (rr4.out.alloc _) (rr5.out.alloc _) (ho6b.out.rb.alloc _)).mono ?_; rintro e w5 ⟨A7, c7, rfl, ho7, hB5⟩; have hz := hb4.out.alloc hb4.out.size (.cells (cells2Ch (wh : Int) A2 4 c2 A3 4 c3 (kk : Int) A4 2 c4 A5 2 c5) 81); have hb5 := Lib.hid (hz.trans (hB5.mono hz.size)); have kB5 := Lib.hid ((kB4.out.alloc _).to hB5); have ho7' := Lib.hid ho7; clear hz ho7 e5; have e5 := kB5.out.cell 5 (.int .i64 p.pr) rfl; replace hB5 := 0)
    | (go_at_call 49; refine (hG.out _ _ _ ho7'.out.rb).mono ?_; rintro e w' ⟨rfl, rfl⟩)
    | (go_at_call 50; refine (hT.out _ _ _ ho7'.out.rb).mono ?_; rintro e w8 ⟨A8, c8, rfl, ho8, hB8⟩; have hb8 := Lib.hid (hb5.out.trans (hB8.mono hb5.out.size)); have ho8' := Lib.hid ho8; clear ho8 e5; replace hB8 := 0)
    | fail)
  go_ret
  exact ⟨A7, n, c7, rfl, hfin.out ▸ ho7'.out.rb, hb5.out⟩
set_option maxRecDepth 100000 in
set_option maxHeartbeats 2000000 in
theorem QEnds_udp (b off n c : Nat) (bs : List Int) (Ao : Option Addr) (no co : Nat) (A1 : Option Addr) (n1 c1 : Nat) (wh pt : Nat) (a x : Int) (w : World) (h : RB w (some ⟨b, off, none⟩) n c bs) (hn : n ≤ 3000) (hk : codeQ bs = 0) (hd : RB w A1 n1 c1 (readV4 true bs).data) (hwh : 12 ≤ wh ∧ wh + 4 ≤ 20) (ha : 0 ≤ a ∧ a < 4294967296) (hx : 0 ≤ x ∧ x < 65536) (h1 : ¬ (readV4 true bs).pr = 1) (hpt : pt ≤ 4) (hN : noSum (readV4 true bs) = false) (hz : sm2Q bs wh pt a x = 0) (hz2 : (readV4 true bs).pr = 17) :
    Calls Try.prog 26 #[.agg (cellsQd (some ⟨b, off, none⟩) n c (readV4 true bs) Ao no co A1 n1 c1 (hdQ bs : Int)), .int .i64 (wh : Int), .int .i64 (pt : Int), .int .i64 a, .int .i64 x] w (PutOut w (chgQ bs wh (ptQ (readV4 true bs) pt) a x)) := by
  have q1 : ((readV4 true bs).pr == 1) = false := by simpa using h1
  have q17 : ((readV4 true bs).pr == 17) = true := by simpa using hz2
  have pq : ptQ (readV4 true bs) pt = pt := by unfold ptQ; rw [if_neg h1]
  rw [pq]
  clear pq
  have g1 := (quo_ok h.byt hk).2.2.2.1
  have g2 := (quo_ok h.byt hk).2.2.2.2.1
  have g3 := (quo_ok h.byt hk).2.2.2.2.2.2.1
  have g4 := noSum_no hN
  have g6 : 20 ≤ hdQ bs := by unfold hdQ; omega
  have g5 := atQ_in (readV4 true bs)
  have hlen0 := h.len
  obtain ⟨m, hm⟩ : ∃ m, atQ (readV4 true bs) = m := ⟨_, rfl⟩
  obtain ⟨s2, hs2⟩ : ∃ s, sm2Q bs wh pt a x = s := ⟨_, rfl⟩
  have hs2i : 0 ≤ s2 ∧ s2 < 65536 := by rw [← hs2]; exact change_in _ _ _
  have hsv := Lib.hid (show sumAtI (readV4 true bs) = (m : Int) by unfold sumAtI; rw [hN, if_neg (by simp), hm])
  have nm : ((m : Int) == -1) = false := by rw [beq_eq_false_iff_ne]; omega
  obtain ⟨k3, hk3⟩ : ∃ k, hdQ bs + m = k := ⟨_, rfl⟩
  have hfin : setN (out2Q bs wh pt a x) k3 (digL (65535) 2) 2 = chgQ bs wh pt a x := by
    unfold chgQ
    rw [hN, if_neg (by simp), hm, hk3]
    unfold sm3Q
    rw [hs2]
    rw [if_pos ⟨hs2.symm.trans hz, hz2⟩]
  have hmid : setN (setN (setN (out1Q bs wh a) wh (digL a 4) 4) (hdQ bs + pt) (digL x 2) 2) k3 (digL (changeI (getV (out1Q bs wh a) (k3 : Int) 2).1 (cutI bs wh 4 ++ cutI bs (hdQ bs + pt) 2) (digL a 4 ++ digL x 2)) 2) 2 = setN (out2Q bs wh pt a x) k3 (digL s2 2) 2 := by
    have e := ends_sum h.byt hk hN (wh := wh) a (by omega)
    rw [hm, hk3] at e
    rw [ends_again bs a hwh.1, e, ← hs2]
    unfold out2Q sm2Q oldQ nowQ
    rw [if_neg h1, if_neg h1, hm]
  have hlo : (out2Q bs wh pt a x).length = bs.length := out2_length _ _ _ _ _
  have hgv : (getV (setN (out2Q bs wh pt a x) k3 (digL s2 2) 2) (k3 : Int) 2).1 = s2 := getV_at (by omega) hs2i.1 hs2i.2
  generalize hout : chgQ bs wh pt a x = out at *
  replace hout := Lib.hid hout
  have wk3 : IntKind.i64.wrap ((m : Int) + (hdQ bs : Int)) = (k3 : Int) := by rw [IntKind.wrap_i64]; omega
  have hov : setN (setN (out2Q bs wh pt a x) k3 (digL s2 2) 2) k3 (digL 65535 2) 2 = setN (out2Q bs wh pt a x) k3 (digL 65535 2) 2 := setN_over _ _ _ _ _
  generalize out2Q bs wh pt a x = o2 at *
  generalize hgz : (getV (setN o2 k3 (digL s2 2) 2) (k3 : Int) 2).2 = zz at *
  have hW2 := Lib.hid (fun W A6 c6 L A2 c2 A3 c3 A4 c4 A5 c5 (kL : Blk W L (cells2Ch (wh : Int) A2 4 c2 A3 4 c3 ((hdQ bs + pt : Nat) : Int) A4 2 c4 A5 2 c5) 81) (r2 : RB W A2 4 c2 (cutI bs wh 4)) (r3 : RB W A3 4 c3 (digL a 4)) (r4 : RB W A4 2 c4 (cutI bs (hdQ bs + pt) 2)) (r5 : RB W A5 2 c5 (digL x 2)) (r : RB W A6 n c6 (out1Q bs wh a)) =>
    show Calls Try.prog 47 #[.slice A6 n c6, .int .i64 (k3 : Int), .slice (some ⟨L, 0, none⟩) 2 2] W (Fresh W n (setN o2 k3 (digL s2 2) 2)) from hmid ▸ QWith_2 A6 n c6 (out1Q bs wh a) k3 wh A2 4 c2 A3 c3 (cutI bs wh 4) (digL a 4) (hdQ bs + pt) A4 2 c4 A5 c5 (cutI bs (hdQ bs + pt) 2) (digL x 2) L W r (by omega) r2 r3 (by omega) (by omega) r4 r5 (by omega) (by omega) (by omega) (by omega) kL)
  have hG := Lib.hid (fun W A7 c7 (r : RB W A7 n c7 (setN o2 k3 (digL s2 2) 2)) => show Calls Try.prog 49 #[.slice A7 n c7, .int .i64 (k3 : Int), .int .i64 2] W fun e w' => e = .returned (.tuple #[.int .i64 s2, .int .i64 zz]) ∧ W = w' from hgv ▸ hgz ▸ Get_any A7 n c7 _ (k3 : Int) 2 W r (by omega))
  have hT := Lib.hid (fun W A7 c7 (r : RB W A7 n c7 (setN o2 k3 (digL s2 2) 2)) => show Calls Try.prog 50 #[.slice A7 n c7, .int .i64 (k3 : Int), .int .i64 65535, .int .i64 2] W fun e w' => ∃ A2 c2, e = .returned (.tuple #[.slice A2 n c2, .int .i64 0]) ∧ OB w' W.heap.size A2 n c2 (setN o2 k3 (digL 65535 2) 2) ∧ Below W.heap.size W w' from hov ▸ Set_ok A7 n c7 _ k3 65535 2 W r (by omega) (fit2 (by omega) (by omega)) (by omega))
  unfold Fresh at hW2
  replace hfin := Lib.hid hfin
  replace hk3 := Lib.hid hk3
  clear hmid hlo hgv hov g1 g2 g3 g4 g5 g6
  replace hgz := Lib.hid hgz
  replace hm := Lib.hid hm
  replace hs2 := Lib.hid hs2
  replace hs2i := Lib.hid hs2i
  replace hlen0 := 0
  replace hN := 0
  replace h1 := 0
  have qz : (s2 == 0) = true := by (have := hs2.out; simp_all)
  have g3 := (quo_ok h.byt hk).2.2.2.2.2.2.1
  have hpt' := hpt
  replace hpt := Lib.hid hpt
  have hlen := h.len
  have hby := h.byt
  obtain ⟨hv, hpk, hoff, h8, hhd, hhe, hh60, h9, hbd, hdat, hpr⟩ := quo_ok hby hk
  have hdl := hd.len
  have hh20 : 20 ≤ hdQ bs := by unfold hdQ; omega
  have hat := atQ_in (readV4 true bs)
  have hes := Lib.hid (fun hN => ends_sum hby hk hN (wh := wh) a (by omega))
  have hag := Lib.hid (ends_again bs (wh := wh) a hwh.1)
  have hso := QSumOf_any (some ⟨b, off, none⟩) n c (readV4 true bs) Ao no co A1 n1 c1 (hdQ bs : Int)
  obtain ⟨w0, hw0⟩ : ∃ w0, w.alloc (.cells (cellsQd (some ⟨b, off, none⟩) n c (readV4 true bs) Ao no co A1 n1 c1 (hdQ bs : Int)) 57) = w0 := ⟨_, rfl⟩
  have hb := Lib.hid (show Below w.heap.size w w0 by rw [← hw0]; exact (Below.refl _ w).alloc (Nat.le_refl _) _)
  have kB := Lib.hid (show Blk w0 w.heap.size (cellsQd (some ⟨b, off, none⟩) n c (readV4 true bs) Ao no co A1 n1 c1 (hdQ bs : Int)) 57 by rw [← hw0]; exact blk_at rfl)
  have hR := Lib.hid (fun W (hW : Below w.heap.size w W) => h.below hW)
  have hS := Lib.hid (fun W (hW : Below w.heap.size w W) => show Calls Try.prog 48 #[.agg (cellsQd (some ⟨b, off, none⟩) n c (readV4 true bs) Ao no co A1 n1 c1 (hdQ bs : Int))] W fun e w' => e = .returned (.int .i64 ((m : Int))) ∧ Below W.heap.size W w' from hsv.out ▸ hso W (hd.below hW) (by omega) (by omega) (by rcases hpr with g | g | ⟨g, _⟩ <;> omega))
  have hW1 := Lib.hid (fun W (hW : Below w.heap.size w W) L A4 c4 A5 c5 (kL : Blk W L (cellsCh (wh : Int) A4 4 c4 A5 4 c5) 81) (r4 : RB W A4 4 c4 (cutI bs wh 4)) (r5 : RB W A5 4 c5 (digL a 4)) =>
    show Calls Try.prog 47 #[.slice (some ⟨b, off, none⟩) n c, .int .i64 10, .slice (some ⟨L, 0, none⟩) 1 1] W (Fresh W n (out1Q bs wh a)) from QWith_1 (some ⟨b, off, none⟩) n c bs 10 wh A4 4 c4 A5 c5 (cutI bs wh 4) (digL a 4) L W (h.below hW) (by omega) r4 r5 (by omega) (by omega) (by omega) kL)
  have e5 := kB.out.cell 5 (.int .i64 (readV4 true bs).pr) rfl
  have f0 := kB.out.cell 0 (.slice (some ⟨b, off, none⟩) n c) rfl
  replace hw0 := Lib.hid hw0
  obtain ⟨kk, hkk⟩ : ∃ kk, hdQ bs + pt = kk := ⟨_, rfl⟩
  have wkk : IntKind.i64.wrap ((hdQ bs : Int) + pt) = (kk : Int) := by rw [IntKind.wrap_i64]; omega
  have hc1 := Lib.hid (fun W (hW : Below w.heap.size w W) => show Calls Try.prog 46 #[.slice (some ⟨b, off, none⟩) n c, .int .i64 (wh : Int), .int .i64 a, .int .i64 4] W (ChOut W wh 4 (cutI bs wh 4) (digL a 4)) from QChanged_4 b off n c bs wh a W (hR.out W hW) (by omega) (by omega) (fits4n ha.1 ha.2))
  have hc2 := Lib.hid (fun W (hW : Below w.heap.size w W) => show Calls Try.prog 46 #[.slice (some ⟨b, off, none⟩) n c, .int .i64 (kk : Int), .int .i64 x, .int .i64 2] W (ChOut W kk 2 (cutI bs kk 2) (digL x 2)) from QChanged_2 b off n c bs kk x W (hR.out W hW) (by omega) (by omega) (fit2 hx.1 hx.2))
  unfold ChOut at hc1 hc2
  try rw [hkk] at hW2
  unfold Fresh at hW1
  clear hpk hhe hv hoff h9 hbd hdat hby hso hlen hdl hpr
  replace hh60 := Lib.hid hh60
  replace hh20 := Lib.hid hh20
  replace hhd := Lib.hid hhd
  replace h8 := Lib.hid h8
  replace hat := Lib.hid hat
  replace hkk := Lib.hid hkk
  replace hk := Lib.hid hk
  replace hd := Lib.hid hd
  replace hn := Lib.hid hn
  replace hwh := Lib.hid hwh
  replace ha := Lib.hid ha
  replace hx := Lib.hid hx
  replace h := Lib.hid h
  generalize readV4 true bs = p at *
  generalize hdQ bs = hh at *
  clear g3
  go_enter Try.func26, Try.ntmps26
  go_upto_region 1 with fail
  rw [hw0.out]
  go_wp2_with (first
    | (go_at_call_of 46 (Value.int IntKind.i64 a); refine (hc1.out _ hb.out).mono ?_; rintro e w1 ⟨A2, c2, A3, c3, rfl, ho2, ho3, hB1⟩; have hy := hB1.alloc hB1.size (.cells (cellsCh (wh : Int) A2 4 c2 A3 4 c3) 81); have hb1 := Lib.hid (hb.out.trans (hy.mono hb.out.size)); have kB1 := Lib.hid (kB.out.to hy); have kC1 := Lib.hid (Blk.new w1 (cellsCh (wh : Int) A2 4 c2 A3 4 c3) 81); have ro2 := Lib.hid (ho2.rb.alloc (.cells (cellsCh (wh : Int) A2 4 c2 A3 4 c3) 81)); have ro3 := Lib.hid (ho3.rb.alloc (.cells (cellsCh (wh : Int) A2 4 c2 A3 4 c3) 81)); clear e5 f0; have f0 := kB1.out.cell 0 (.slice (some ⟨b, off, none⟩) n c) rfl; have f12 := kB1.out.cell 12 (.int .i64 (hh : Int)) rfl; clear hy ho2 ho3; replace hB1 := 0)
    | (refine wpList_store_CH rfl (.tmp 11) (.tmp 25) rfl w1.heap.size (cellsCh (wh : Int) A2 4 c2 A3 4 c3) rfl rfl _ (Blk.new w1 (cellsCh 0 none 0 0 none 0 0) 81) rfl rfl (one_ch _ _ _ _ _ _ _) ?_; rw [World.setRow_alloc_new])
    | (go_at_call_of 46 (Value.int IntKind.i64 x); refine (hc2.out _ hb1.out).mono ?_; rintro e w2 ⟨A4, c4, A5, c5, rfl, ho4, ho5, hB2⟩; have hy := hB2.alloc hB2.size (.cells (cellsCh (kk : Int) A4 2 c4 A5 2 c5) 81); have hb2 := Lib.hid (hb1.out.trans (hy.mono hb1.out.size)); have kB2 := Lib.hid (kB1.out.to hy); have kC2 := Lib.hid (kC1.out.to hy); have kD2 := Lib.hid (Blk.new w2 (cellsCh (kk : Int) A4 2 c4 A5 2 c5) 81); have rp2 := Lib.hid (ro2.out.below hy); have rp3 := Lib.hid (ro3.out.below hy); have rp4 := Lib.hid (ho4.rb.alloc (.cells (cellsCh (kk : Int) A4 2 c4 A5 2 c5) 81)); have rp5 := Lib.hid (ho5.rb.alloc (.cells (cellsCh (kk : Int) A4 2 c4 A5 2 c5) 81)); clear f0 f12; have f0 := kB2.out.cell 0 (.slice (some ⟨b, off, none⟩) n c) rfl; have hbx := Lib.hid (hb2.out.alloc hb2.out.size (.cells (cellsCh (wh : Int) A2 4 c2 A3 4 c3) 81)); clear hy ho4 ho5; replace hB2 := 0)
    | (refine wpList_store_CH rfl (.tmp 12) (.tmp 33) rfl w2.heap.size (cellsCh (kk : Int) A4 2 c4 A5 2 c5) rfl rfl _ (Blk.new w2 (cellsCh 0 none 0 0 none 0 0) 81) rfl rfl (one_ch _ _ _ _ _ _ _) ?_; rw [World.setRow_alloc_new])
    | (refine wpList_load_CH rfl (.tmp 11) rfl w1.heap.size rfl _ kC2.out rfl ?_)
    | (refine wpList_build1 _ rfl 91 81 (.tmp 36) rfl (cellsCh (wh : Int) A2 4 c2 A3 4 c3) rfl 3 rfl (by decide) (by decide) Try.underlying91 (.agg (cellsCh 0 none 0 0 none 0 0)) 56 info_chz ?_)
    | (go_at_call_of 47 (Value.int IntKind.i64 10); refine (hW1.out _ hbx.out _ _ _ _ _ (Blk.new2 _ _ _ _) (rp2.out.alloc _) (rp3.out.alloc _)).mono ?_; rintro e w3 ⟨A6, c6, rfl, ho6, hB3⟩; have hb3 := Lib.hid (hbx.out.trans (hB3.mono hbx.out.size)); have kB3 := Lib.hid ((kB2.out.alloc _).to hB3); have kC3 := Lib.hid ((kC2.out.alloc _).to hB3); have kD3 := Lib.hid ((kD2.out.alloc _).to hB3); have rq2 := Lib.hid ((rp2.out.alloc _).below hB3); have rq3 := Lib.hid ((rp3.out.alloc _).below hB3); have rq4 := Lib.hid ((rp4.out.alloc _).below hB3); have rq5 := Lib.hid ((rp5.out.alloc _).below hB3); have ho6a := Lib.hid (ho6.mono hbx.out.size); have hgx := Lib.hid (fun j (hj : ownBlk A6 = some j) => (ho6.blk hj).1); clear f0 ho6; have e5 := kB3.out.cell 5 (.int .i64 p.pr) rfl; replace hB3 := 0)
    | (refine wpList_load_QD rfl (.tmp 5) rfl w.heap.size rfl _ kB3.out rfl ?_)
    | (go_at_call 48; refine (hS.out _ hb3.out).mono ?_; rintro e w4 ⟨rfl, hB4⟩; have hb4 := Lib.hid (hb3.out.trans (hB4.mono hb3.out.size)); have kB4 := Lib.hid (kB3.out.to hB4); have kC4 := Lib.hid (kC3.out.to hB4); have kD4 := Lib.hid (kD3.out.to hB4); have rr2 := Lib.hid (rq2.out.below hB4); have rr3 := Lib.hid (rq3.out.below hB4); have rr4 := Lib.hid (rq4.out.below hB4); have rr5 := Lib.hid (rq5.out.below hB4); have ho6b := Lib.hid (ho6a.out.below hB4); clear e5; have e5 := kB4.out.cell 5 (.int .i64 p.pr) rfl; have f12 := kB4.out.cell 12 (.int .i64 (hh : Int)) rfl; replace hB4 := 0)
    | (refine wpList_load_CH rfl (.tmp 11) rfl w1.heap.size rfl _ kC4.out rfl ?_)
    | (refine wpList_load_CH rfl (.tmp 12) rfl w2.heap.size rfl _ kD4.out rfl ?_)
    | (refine wpList_build2 _ rfl 91 81 (.tmp 66) (.tmp 67) rfl (cellsCh (wh : Int) A2 4 c2 A3 4 c3) (cellsCh (kk : Int) A4 2 c4 A5 2 c5) rfl rfl 3 rfl rfl (by decide) (by decide) Try.underlying91 (.agg (cellsCh 0 none 0 0 none 0 0)) 56 info_chz (cells2Ch (wh : Int) A2 4 c2 A3 4 c3 (kk : Int) A4 2 c4 A5 2 c5) (cells2_eq _ _ _ _ _ _ _ _ _ _ _ _ _ _) ?_)
    | (go_at_call_of 47 (Value.int IntKind.i64 (k3 : Int)); refine (hW2.out _ _ _ _ _ _ _ _ _ _ _ _ (Blk.new w4 _ _) (rr2.out.alloc _) (rr3.out.alloc _) (rr4.out.alloc _) (rr5.out.alloc _) (ho6b.out.rb.alloc _)).mono ?_; rintro e w5 ⟨A7, c7, rfl, ho7, hB5⟩; have hz := hb4.out.alloc hb4.out.size (.cells (cells2Ch (wh : Int) A2 4 c2 A3 4 c3 (kk : Int) A4 2 c4 A5 2 c5) 81); have hb5 := Lib.hid (hz.trans (hB5.mono hz.size)); have kB5 := Lib.hid ((kB4.out.alloc _).to hB5); have ho7' := Lib.hid ho7; clear hz ho7 e5; have e5 := kB5.out.cell 5 (.int .i64 p.pr) rfl; replace hB5 := 0)
    | (go_at_call 49; refine (hG.out _ _ _ ho7'.out.rb).mono ?_; rintro e w' ⟨rfl, rfl⟩)
    | (go_at_call 50; refine (hT.out _ _ _ ho7'.out.rb).mono ?_; rintro e w8 ⟨A8, c8, rfl, ho8, hB8⟩; have hb8 := Lib.hid (hb5.out.trans (hB8.mono hb5.out.size)); have ho8' := Lib.hid ho8; clear ho8 e5; replace hB8 := 0)
    | fail)
  go_ret
  exact ⟨A8, n, c8, rfl, hfin.out ▸ ho8'.out.rb, hb8.out⟩
end Go.Proofs.Ytmbmmpbfmakfbaa
/- What is quoted (quote): walk of may. -/
set_option linter.unusedVariables false
namespace Go.Proofs.Ytmbmmpbfmakfbaa
open Go Go.RowKit
attribute [local go_sem] Oper.semAt_some

set_option maxRecDepth 100000 in
set_option maxHeartbeats 2000000 in
theorem QMay_bad (a x : Int) (A : Option Addr) (n c : Nat) (bs : List Int) (w : World) (h : RB w A n c bs) (hn : n ≤ 3000) (hm : mayQ bs a x ≠ 0) :
    Calls Try.prog 25 #[.slice A n c, .int .i64 a, .int .i64 x] w fun e w' => e = .returned (.tuple #[.agg zeroQd, .int .i64 (mayQ bs a x)]) ∧ Below w.heap.size w w' := by
  obtain ⟨w0, hw0⟩ : ∃ w0, w.alloc (.cells zeroQd 57) = w0 := ⟨_, rfl⟩
  have hb := Lib.hid (show Below w.heap.size w w0 by rw [← hw0]; exact (Below.refl _ w).alloc (Nat.le_refl _) _)
  have kZ := Lib.hid (show Blk w0 w.heap.size zeroQd 57 by rw [← hw0]; exact blk_at rfl)
  have hO := fun W (hW : Below w.heap.size w W) => QuotePorts_any A n c bs W (h.below hW) hn
  unfold QpOut at hO
  replace hw0 := Lib.hid hw0
  obtain ⟨k, hk⟩ : ∃ k, codeQ bs = k := ⟨_, rfl⟩
  have hM : mayQ bs a x = if k ≠ 0 then k else if rightB a = true ∧ fitsB x 2 = true then 0 else 1 := by unfold mayQ; rw [hk]
  rw [hk] at hO
  generalize packQ bs = p at *
  generalize portQ bs = xx at *
  replace hO := Lib.hid hO
  clear hk h
  by_cases h0 : k = 0
  · subst h0
    rw [if_neg (by decide)] at hM
    have hg : ¬ (rightB a = true ∧ fitsB x 2 = true) := fun g => hm (by rw [hM, if_pos g])
    rw [if_neg hg] at hM
    clear hm
    cases ha : rightB a
    · have hR' := fun (W : World) => Right4_any a (w := W)
      rw [ha] at hR'
      replace hR' := Lib.hid hR'
      replace hM := Lib.hid hM
      have hF' := Lib.hid (fun W => Fits_any x 2 W)
      clear ha hg
      go_enter Try.func25, Try.ntmps25
      go_upto_region 1 with fail
      rw [hw0.out]
      go_wp2_with (first
        | (go_at_call 13; refine (hO.out _ hb.out).mono ?_; rintro e w1 ⟨Ao, no, co, A1, n1, c1, rfl, ho1, hd1, hB1⟩; have hbB := hb.out.trans (hB1.mono hb.out.size); have hz := (hbB.alloc hbB.size (.cells zero4c 32)).alloc (hbB.alloc hbB.size (.cells zero4c 32)).size (.cells (cellsPo (0, 0, 0)) 41); have kz := Lib.hid ((Blk.new w1 zero4c 32).alloc (.cells (cellsPo (0, 0, 0)) 41)); have kx := Lib.hid ((blk_at (show (w1.alloc (.cells zero4c 32)).heap.size = w1.heap.size + 1 by simp) : Blk _ _ (cellsPo (0, 0, 0)) 41).farRow (show w1.heap.size + 1 ≠ w1.heap.size by omega) (cells4 p Ao no co A1 n1 c1)); have kQ := kZ.out.to hB1; have kQl := kQ.lt; have kQ5 := Lib.hid ((((kQ.alloc (.cells zero4c 32)).alloc (.cells (cellsPo (0, 0, 0)) 41)).farRow (Nat.ne_of_lt kQl) (cells4 p Ao no co A1 n1 c1)).farRow (Nat.ne_of_lt (Nat.lt_succ_of_lt kQl)) (cellsPo xx)); have hb2 := Lib.hid (below_row (below_row hz hbB.size (cells4 p Ao no co A1 n1 c1)) (Nat.le_succ_of_le hbB.size) (cellsPo xx)); replace hB1 := 0; clear ho1 hd1 hz kQ kQl hbB)
        | (refine wpList_store_4 rfl (.tmp 8) (.tmp 14) rfl w1.heap.size (cells4 p Ao no co A1 n1 c1) rfl rfl _ kz.out rfl rfl (one4 _ _ _ _ _ _ _) ?_)
        | (refine wpList_store_PO rfl (.tmp 9) (.tmp 15) rfl (w1.heap.size + 1) (cellsPo xx) rfl rfl _ kx.out rfl rfl (one_po _) ?_)
        | (refine wpList_store_QD rfl (.tmp 6) (.tmp 19) rfl w.heap.size zeroQd rfl rfl _ kQ5.out rfl rfl (one_qd none 0 0 zero4 none 0 0 none 0 0 0) ?_; rw [setRow_self _ _ _ _ _ kQ5.out.at_])
        | (refine wpList_store_QD rfl (.tmp 6) (.tmp 29) rfl w.heap.size zeroQd rfl rfl _ kQ5.out rfl rfl (one_qd none 0 0 zero4 none 0 0 none 0 0 0) ?_; rw [setRow_self _ _ _ _ _ kQ5.out.at_])
        | (go_at_call 44; refine (hR'.out _).mono ?_; rintro e w' ⟨rfl, rfl⟩)
        | (go_at_call 45; refine (hF'.out _).mono ?_; rintro e w' ⟨rfl, rfl⟩)
        | fail)
      refine bodyPost_ret (results_ct Try.results25 rfl (run_load_QD kQ5.out rfl)) rfl ?_
      exact ⟨by rw [hM.out]; rfl, hb2.out⟩
    · cases hf : fitsB x 2
      rotate_left
      · exact absurd ⟨ha, hf⟩ hg
      have hR' := fun (W : World) => Right4_any a (w := W)
      rw [ha] at hR'
      have hF' := fun W => Fits_any x 2 W
      rw [hf] at hF'
      replace hR' := Lib.hid hR'
      replace hF' := Lib.hid hF'
      replace hM := Lib.hid hM
      clear ha hf hg
      go_enter Try.func25, Try.ntmps25
      go_upto_region 1 with fail
      rw [hw0.out]
      go_wp2_with (first
        | (go_at_call 13; refine (hO.out _ hb.out).mono ?_; rintro e w1 ⟨Ao, no, co, A1, n1, c1, rfl, ho1, hd1, hB1⟩; have hbB := hb.out.trans (hB1.mono hb.out.size); have hz := (hbB.alloc hbB.size (.cells zero4c 32)).alloc (hbB.alloc hbB.size (.cells zero4c 32)).size (.cells (cellsPo (0, 0, 0)) 41); have kz := Lib.hid ((Blk.new w1 zero4c 32).alloc (.cells (cellsPo (0, 0, 0)) 41)); have kx := Lib.hid ((blk_at (show (w1.alloc (.cells zero4c 32)).heap.size = w1.heap.size + 1 by simp) : Blk _ _ (cellsPo (0, 0, 0)) 41).farRow (show w1.heap.size + 1 ≠ w1.heap.size by omega) (cells4 p Ao no co A1 n1 c1)); have kQ := kZ.out.to hB1; have kQl := kQ.lt; have kQ5 := Lib.hid ((((kQ.alloc (.cells zero4c 32)).alloc (.cells (cellsPo (0, 0, 0)) 41)).farRow (Nat.ne_of_lt kQl) (cells4 p Ao no co A1 n1 c1)).farRow (Nat.ne_of_lt (Nat.lt_succ_of_lt kQl)) (cellsPo xx)); have hb2 := Lib.hid (below_row (below_row hz hbB.size (cells4 p Ao no co A1 n1 c1)) (Nat.le_succ_of_le hbB.size) (cellsPo xx)); replace hB1 := 0; clear ho1 hd1 hz kQ kQl hbB)
        | (refine wpList_store_4 rfl (.tmp 8) (.tmp 14) rfl w1.heap.size (cells4 p Ao no co A1 n1 c1) rfl rfl _ kz.out rfl rfl (one4 _ _ _ _ _ _ _) ?_)
        | (refine wpList_store_PO rfl (.tmp 9) (.tmp 15) rfl (w1.heap.size + 1) (cellsPo xx) rfl rfl _ kx.out rfl rfl (one_po _) ?_)
        | (refine wpList_store_QD rfl (.tmp 6) (.tmp 19) rfl w.heap.size zeroQd rfl rfl _ kQ5.out rfl rfl (one_qd none 0 0 zero4 none 0 0 none 0 0 0) ?_; rw [setRow_self _ _ _ _ _ kQ5.out.at_])
        | (refine wpList_store_QD rfl (.tmp 6) (.tmp 29) rfl w.heap.size zeroQd rfl rfl _ kQ5.out rfl rfl (one_qd none 0 0 zero4 none 0 0 none 0 0 0) ?_; rw [setRow_self _ _ _ _ _ kQ5.out.at_])
        | (go_at_call 44; refine (hR'.out _).mono ?_; rintro e w' ⟨rfl, rfl⟩)
        | (go_at_call 45; refine (hF'.out _).mono ?_; rintro e w' ⟨rfl, rfl⟩)
        | fail)
      refine bodyPost_ret (results_ct Try.results25 rfl (run_load_QD kQ5.out rfl)) rfl ?_
      exact ⟨by rw [hM.out]; rfl, hb2.out⟩
  · rw [if_pos h0] at hM
    have hkn : (k != 0) = true := by simpa using h0
    replace hM := Lib.hid hM
    have hR' := Lib.hid (fun (W : World) => Right4_any a (w := W))
    have hF' := Lib.hid (fun W => Fits_any x 2 W)
    clear h0 hm
    go_enter Try.func25, Try.ntmps25
    go_upto_region 1 with fail
    rw [hw0.out]
    go_wp2_with (first
      | (go_at_call 13; refine (hO.out _ hb.out).mono ?_; rintro e w1 ⟨Ao, no, co, A1, n1, c1, rfl, ho1, hd1, hB1⟩; have hbB := hb.out.trans (hB1.mono hb.out.size); have hz := (hbB.alloc hbB.size (.cells zero4c 32)).alloc (hbB.alloc hbB.size (.cells zero4c 32)).size (.cells (cellsPo (0, 0, 0)) 41); have kz := Lib.hid ((Blk.new w1 zero4c 32).alloc (.cells (cellsPo (0, 0, 0)) 41)); have kx := Lib.hid ((blk_at (show (w1.alloc (.cells zero4c 32)).heap.size = w1.heap.size + 1 by simp) : Blk _ _ (cellsPo (0, 0, 0)) 41).farRow (show w1.heap.size + 1 ≠ w1.heap.size by omega) (cells4 p Ao no co A1 n1 c1)); have kQ := kZ.out.to hB1; have kQl := kQ.lt; have kQ5 := Lib.hid ((((kQ.alloc (.cells zero4c 32)).alloc (.cells (cellsPo (0, 0, 0)) 41)).farRow (Nat.ne_of_lt kQl) (cells4 p Ao no co A1 n1 c1)).farRow (Nat.ne_of_lt (Nat.lt_succ_of_lt kQl)) (cellsPo xx)); have hb2 := Lib.hid (below_row (below_row hz hbB.size (cells4 p Ao no co A1 n1 c1)) (Nat.le_succ_of_le hbB.size) (cellsPo xx)); replace hB1 := 0; clear ho1 hd1 hz kQ kQl hbB)
      | (refine wpList_store_4 rfl (.tmp 8) (.tmp 14) rfl w1.heap.size (cells4 p Ao no co A1 n1 c1) rfl rfl _ kz.out rfl rfl (one4 _ _ _ _ _ _ _) ?_)
      | (refine wpList_store_PO rfl (.tmp 9) (.tmp 15) rfl (w1.heap.size + 1) (cellsPo xx) rfl rfl _ kx.out rfl rfl (one_po _) ?_)
      | (refine wpList_store_QD rfl (.tmp 6) (.tmp 19) rfl w.heap.size zeroQd rfl rfl _ kQ5.out rfl rfl (one_qd none 0 0 zero4 none 0 0 none 0 0 0) ?_; rw [setRow_self _ _ _ _ _ kQ5.out.at_])
      | (refine wpList_store_QD rfl (.tmp 6) (.tmp 29) rfl w.heap.size zeroQd rfl rfl _ kQ5.out rfl rfl (one_qd none 0 0 zero4 none 0 0 none 0 0 0) ?_; rw [setRow_self _ _ _ _ _ kQ5.out.at_])
      | (go_at_call 44; refine (hR'.out _).mono ?_; rintro e w' ⟨rfl, rfl⟩)
      | (go_at_call 45; refine (hF'.out _).mono ?_; rintro e w' ⟨rfl, rfl⟩)
      | fail)
    refine bodyPost_ret (results_ct Try.results25 rfl (run_load_QD kQ5.out rfl)) rfl ?_
    exact ⟨by rw [hM.out]; rfl, hb2.out⟩
set_option maxRecDepth 100000 in
set_option maxHeartbeats 2000000 in
theorem QMay_good (a x : Int) (A : Option Addr) (n c : Nat) (bs : List Int) (w : World) (h : RB w A n c bs) (hn : n ≤ 3000) (hm : mayQ bs a x = 0) :
    Calls Try.prog 25 #[.slice A n c, .int .i64 a, .int .i64 x] w (QdOut w A n c (readV4 true bs) (hdQ bs : Int) 0) := by
  obtain ⟨w0, hw0⟩ : ∃ w0, w.alloc (.cells zeroQd 57) = w0 := ⟨_, rfl⟩
  have hb := Lib.hid (show Below w.heap.size w w0 by rw [← hw0]; exact (Below.refl _ w).alloc (Nat.le_refl _) _)
  have kZ := Lib.hid (show Blk w0 w.heap.size zeroQd 57 by rw [← hw0]; exact blk_at rfl)
  have hO := fun W (hW : Below w.heap.size w W) => QuotePorts_any A n c bs W (h.below hW) hn
  unfold QpOut at hO
  replace hw0 := Lib.hid hw0
  have hcq : codeQ bs = 0 := by
    unfold mayQ at hm
    by_cases h : codeQ bs = 0
    · exact h
    · rw [if_pos h] at hm; exact absurd hm h
  have hcqo : codeQo bs = 0 := by
    unfold codeQ at hcq
    by_cases h : codeQo bs = 0
    · exact h
    · rw [if_pos h] at hcq; exact absurd hcq h
  obtain ⟨ha, hf⟩ : rightB a = true ∧ fitsB x 2 = true := by
    unfold mayQ at hm
    rw [if_neg (fun g => g hcq)] at hm
    by_cases h : rightB a = true ∧ fitsB x 2 = true
    · exact h
    · rw [if_neg h] at hm; cases hm
  rw [hcq] at hO
  have hP := fun W (hW : Below w.heap.size w W) => QOpen_good A n c bs W (h.below hW) (by omega) hcqo
  unfold QdOut at hP ⊢
  have hR' := fun (W : World) => Right4_any a (w := W)
  rw [ha] at hR'
  have hF' := fun W => Fits_any x 2 W
  rw [hf] at hF'
  replace hR' := Lib.hid hR'
  replace hF' := Lib.hid hF'
  clear hm hcq hcqo ha hf h
  generalize packQ bs = p at *
  generalize portQ bs = xx at *
  generalize readV4 true bs = q at *
  generalize hdQ bs = hh at *
  replace hO := Lib.hid hO
  replace hP := Lib.hid hP
  go_enter Try.func25, Try.ntmps25
  go_upto_region 1 with fail
  rw [hw0.out]
  go_wp2_with (first
    | (go_at_call 13; refine (hO.out _ hb.out).mono ?_; rintro e w1 ⟨Ao, no, co, A1, n1, c1, rfl, ho1, hd1, hB1⟩; have hbB := hb.out.trans (hB1.mono hb.out.size); have hz := (hbB.alloc hbB.size (.cells zero4c 32)).alloc (hbB.alloc hbB.size (.cells zero4c 32)).size (.cells (cellsPo (0, 0, 0)) 41); have kz := Lib.hid ((Blk.new w1 zero4c 32).alloc (.cells (cellsPo (0, 0, 0)) 41)); have kx := Lib.hid ((blk_at (show (w1.alloc (.cells zero4c 32)).heap.size = w1.heap.size + 1 by simp) : Blk _ _ (cellsPo (0, 0, 0)) 41).farRow (show w1.heap.size + 1 ≠ w1.heap.size by omega) (cells4 p Ao no co A1 n1 c1)); have kQ := kZ.out.to hB1; have kQl := kQ.lt; have kQ5 := Lib.hid ((((kQ.alloc (.cells zero4c 32)).alloc (.cells (cellsPo (0, 0, 0)) 41)).farRow (Nat.ne_of_lt kQl) (cells4 p Ao no co A1 n1 c1)).farRow (Nat.ne_of_lt (Nat.lt_succ_of_lt kQl)) (cellsPo xx)); have hb2 := Lib.hid (below_row (below_row hz hbB.size (cells4 p Ao no co A1 n1 c1)) (Nat.le_succ_of_le hbB.size) (cellsPo xx)); replace hB1 := 0; clear ho1 hd1 hz kQ kQl hbB)
    | (refine wpList_store_4 rfl (.tmp 8) (.tmp 14) rfl w1.heap.size (cells4 p Ao no co A1 n1 c1) rfl rfl _ kz.out rfl rfl (one4 _ _ _ _ _ _ _) ?_)
    | (refine wpList_store_PO rfl (.tmp 9) (.tmp 15) rfl (w1.heap.size + 1) (cellsPo xx) rfl rfl _ kx.out rfl rfl (one_po _) ?_)
    | (refine wpList_store_QD rfl (.tmp 6) (.tmp 19) rfl w.heap.size zeroQd rfl rfl _ kQ5.out rfl rfl (one_qd none 0 0 zero4 none 0 0 none 0 0 0) ?_; rw [setRow_self _ _ _ _ _ kQ5.out.at_])
    | (refine wpList_store_QD rfl (.tmp 6) (.tmp 29) rfl w.heap.size zeroQd rfl rfl _ kQ5.out rfl rfl (one_qd none 0 0 zero4 none 0 0 none 0 0 0) ?_; rw [setRow_self _ _ _ _ _ kQ5.out.at_])
    | (go_at_call 44; refine (hR'.out _).mono ?_; rintro e w' ⟨rfl, rfl⟩)
    | (go_at_call 45; refine (hF'.out _).mono ?_; rintro e w' ⟨rfl, rfl⟩)
    | (go_at_call 31; refine (hP.out _ hb2.out).mono ?_; rintro e w6 ⟨Ao2, no2, co2, A2, n2, c2, rfl, ho2, hd2, hB2⟩; have hb6 := Lib.hid (hb2.out.trans (hB2.mono hb2.out.size)); have kQ6 := Lib.hid (kQ5.out.to hB2); have ho6 := Lib.hid ho2; have hd6 := Lib.hid hd2; clear ho2 hd2; replace hB2 := 0)
    | (refine wpList_store_QD rfl (.tmp 6) (.tmp 32) rfl w.heap.size (cellsQd A n c q Ao2 no2 co2 A2 n2 c2 (hh : Int)) rfl rfl _ kQ6.out rfl rfl (one_qd _ _ _ _ _ _ _ _ _ _ _) ?_)
    | fail)
  refine bodyPost_ret (results_ct Try.results25 rfl (run_load_QD (Blk.mk (setRow_heap _ _ _ _ _ _ kQ6.out.at_)) rfl)) rfl ?_
  exact ⟨Ao2, no2, co2, A2, n2, c2, rfl, ho6.out.farRow (nbcQd (B := none) (p := zero4) kQ6.out) _, hd6.out.farRow (nbcQd (B := none) (p := zero4) kQ6.out) _, below_row hb6.out (Nat.le_refl _) _⟩
end Go.Proofs.Ytmbmmpbfmakfbaa
/- What is quoted (quote): walks of From, To. -/
set_option linter.unusedVariables false
namespace Go.Proofs.Ytmbmmpbfmakfbaa
open Go Go.RowKit
attribute [local go_sem] Oper.semAt_some

theorem QEnds_any (b off n c : Nat) (bs : List Int) (Ao : Option Addr) (no co : Nat) (A1 : Option Addr) (n1 c1 : Nat) (wh pt : Nat) (a x : Int) (w : World) (h : RB w (some ⟨b, off, none⟩) n c bs) (hn : n ≤ 3000) (hk : codeQ bs = 0) (hd : RB w A1 n1 c1 (readV4 true bs).data) (hwh : 12 ≤ wh ∧ wh + 4 ≤ 20) (hpt : pt ≤ 4) (ha : 0 ≤ a ∧ a < 4294967296) (hx : 0 ≤ x ∧ x < 65536) :
    Calls Try.prog 26 #[.agg (cellsQd (some ⟨b, off, none⟩) n c (readV4 true bs) Ao no co A1 n1 c1 (hdQ bs : Int)), .int .i64 (wh : Int), .int .i64 (pt : Int), .int .i64 a, .int .i64 x] w (PutOut w (chgQ bs wh (ptQ (readV4 true bs) pt) a x)) := by
  by_cases h1 : (readV4 true bs).pr = 1
  · exact QEnds_icmp b off n c bs Ao no co A1 n1 c1 wh pt a x w h hn hk hd hwh ha hx h1
  cases hN : noSum (readV4 true bs)
  · by_cases hz : sm2Q bs wh pt a x = 0
    · by_cases hz2 : (readV4 true bs).pr = 17
      · exact QEnds_udp b off n c bs Ao no co A1 n1 c1 wh pt a x w h hn hk hd hwh ha hx h1 hpt hN hz hz2
      · exact QEnds_tcp b off n c bs Ao no co A1 n1 c1 wh pt a x w h hn hk hd hwh ha hx h1 hpt hN hz hz2
    · exact QEnds_keep b off n c bs Ao no co A1 n1 c1 wh pt a x w h hn hk hd hwh ha hx h1 hpt hN hz
  · exact QEnds_no b off n c bs Ao no co A1 n1 c1 wh pt a x w h hn hk hd hwh ha hx h1 hpt hN
set_option maxRecDepth 100000 in
set_option maxHeartbeats 2000000 in
theorem QuoteFrom_any (a x : Int) (A : Option Addr) (n c : Nat) (bs : List Int) (w : World) (h : RB w A n c bs) (hn : n ≤ 3000) :
    Calls Try.prog 9 #[.slice A n c, .int .i64 a, .int .i64 x] w (TwoOut w (fromQ bs a x) (mayQ bs a x)) := by
  have hb := Lib.hid (Below.refl w.heap.size w)
  by_cases hk : mayQ bs a x = 0
  rotate_left
  · have hq : fromQ bs a x = [] := by unfold fromQ; rw [if_neg hk]
    rw [hq]
    have hM := QMay_bad a x A n c bs w h hn hk
    have hkn : (mayQ bs a x != 0) = true := by simpa using hk
    generalize mayQ bs a x = k at *
    replace hM := Lib.hid hM
    clear h hk hq
    go_enter Try.func9, Try.ntmps9
    go_wp2_with (first
      | (go_at_call 25; refine hM.out.mono ?_; rintro e w1 ⟨rfl, hB1⟩; have hb1 := Lib.hid (hB1.alloc hB1.size (.cells zeroQd 57)); replace hB1 := 0)
      | (refine wpList_store_QD rfl (.tmp 8) (.tmp 15) rfl w1.heap.size zeroQd rfl rfl _ (Blk.new w1 zeroQd 57) rfl rfl (one_qd none 0 0 zero4 none 0 0 none 0 0 0) ?_; rw [World.setRow_alloc_new])
      | fail)
    go_ret2
    exact ⟨none, 0, 0, rfl, RB.nil _, hb1.out⟩
  have hq : fromQ bs a x = chgQ bs 12 (ptQ (readV4 true bs) 0) a x := by unfold fromQ; rw [if_pos hk]
  have hcq : codeQ bs = 0 := by
    unfold mayQ at hk
    by_cases h : codeQ bs = 0
    · exact h
    · rw [if_pos h] at hk; exact absurd hk h
  obtain ⟨ha, hf⟩ : rightB a = true ∧ fitsB x 2 = true := by
    unfold mayQ at hk
    rw [if_neg (fun g => g hcq)] at hk
    by_cases h : rightB a = true ∧ fitsB x 2 = true
    · exact h
    · rw [if_neg h] at hk; cases hk
  have ha' : 0 ≤ a ∧ a < 4294967296 := of_decide_eq_true ha
  have hf' := of_decide_eq_true hf
  have hx' : 0 ≤ x ∧ x < 65536 := ⟨hf'.2.1, hf'.2.2⟩
  have h8 := (quo_ok h.byt hcq).2.2.2.1
  have hhd := (quo_ok h.byt hcq).2.2.2.2.1
  have hlen := h.len
  have hM := QMay_good a x A n c bs w h hn hk
  rw [hq, hk]
  obtain ⟨b, off, rfl, hbl, hc⟩ := h.mem (by omega)
  unfold QdOut at hM
  have hE := fun Ao no co A1 n1 c1 W (hW : Below w.heap.size w W) (hd : RB W A1 n1 c1 (readV4 true bs).data) => show Calls Try.prog 26 #[.agg (cellsQd (some ⟨b, off, none⟩) n c (readV4 true bs) Ao no co A1 n1 c1 (hdQ bs : Int)), .int .i64 12, .int .i64 0, .int .i64 a, .int .i64 x] W (PutOut W (chgQ bs 12 (ptQ (readV4 true bs) 0) a x)) from
    QEnds_any b off n c bs Ao no co A1 n1 c1 12 0 a x W (h.below hW) hn hcq hd (by omega) (by omega) ha' hx'
  unfold PutOut at hE
  clear hc hhd h8 hlen hq hk hcq ha hf ha' hf' hx' hbl h
  generalize chgQ bs 12 (ptQ (readV4 true bs) 0) a x = out at *
  generalize readV4 true bs = p at *
  generalize hdQ bs = hh at *
  replace hM := Lib.hid hM
  replace hE := Lib.hid hE
  go_enter Try.func9, Try.ntmps9
  go_wp2_with (first
    | (go_at_call 25; refine hM.out.mono ?_; rintro e w1 ⟨Ao, no, co, A1, n1, c1, rfl, ho1, hd1, hB1⟩; have hb1 := Lib.hid (hB1.alloc hB1.size (.cells (cellsQd (some ⟨b, off, none⟩) n c p Ao no co A1 n1 c1 (hh : Int)) 57)); have hd2 := Lib.hid (hd1.alloc (.cells (cellsQd (some ⟨b, off, none⟩) n c p Ao no co A1 n1 c1 (hh : Int)) 57)); clear ho1 hd1; replace hB1 := 0)
    | (refine wpList_store_QD rfl (.tmp 8) (.tmp 15) rfl w1.heap.size (cellsQd (some ⟨b, off, none⟩) n c p Ao no co A1 n1 c1 (hh : Int)) rfl rfl _ (Blk.new w1 zeroQd 57) rfl rfl (one_qd _ _ _ _ _ _ _ _ _ _ _) ?_; rw [World.setRow_alloc_new])
    | (refine wpList_load_QD rfl (.tmp 8) rfl w1.heap.size rfl _ (Blk.new w1 (cellsQd (some ⟨b, off, none⟩) n c p Ao no co A1 n1 c1 (hh : Int)) 57) rfl ?_)
    | (go_at_call 26; refine (hE.out _ _ _ _ _ _ _ hb1.out hd2.out).mono ?_; rintro e w2 ⟨A2, n2, c2, rfl, ho2, hB2⟩; have hb2 := Lib.hid (hb1.out.trans (hB2.mono hb1.out.size)); have hr2 := Lib.hid ho2; replace hB2 := 0; clear ho2)
    | fail)
  go_ret2
  exact ⟨A2, n2, c2, rfl, hr2.out, hb2.out⟩
set_option maxRecDepth 100000 in
set_option maxHeartbeats 2000000 in
theorem QuoteTo_any (a x : Int) (A : Option Addr) (n c : Nat) (bs : List Int) (w : World) (h : RB w A n c bs) (hn : n ≤ 3000) :
    Calls Try.prog 10 #[.slice A n c, .int .i64 a, .int .i64 x] w (TwoOut w (toQ bs a x) (mayQ bs a x)) := by
  have hb := Lib.hid (Below.refl w.heap.size w)
  by_cases hk : mayQ bs a x = 0
  rotate_left
  · have hq : toQ bs a x = [] := by unfold toQ; rw [if_neg hk]
    rw [hq]
    have hM := QMay_bad a x A n c bs w h hn hk
    have hkn : (mayQ bs a x != 0) = true := by simpa using hk
    generalize mayQ bs a x = k at *
    replace hM := Lib.hid hM
    clear h hk hq
    go_enter Try.func10, Try.ntmps10
    go_wp2_with (first
      | (go_at_call 25; refine hM.out.mono ?_; rintro e w1 ⟨rfl, hB1⟩; have hb1 := Lib.hid (hB1.alloc hB1.size (.cells zeroQd 57)); replace hB1 := 0)
      | (refine wpList_store_QD rfl (.tmp 8) (.tmp 15) rfl w1.heap.size zeroQd rfl rfl _ (Blk.new w1 zeroQd 57) rfl rfl (one_qd none 0 0 zero4 none 0 0 none 0 0 0) ?_; rw [World.setRow_alloc_new])
      | fail)
    go_ret2
    exact ⟨none, 0, 0, rfl, RB.nil _, hb1.out⟩
  have hq : toQ bs a x = chgQ bs 16 (ptQ (readV4 true bs) 2) a x := by unfold toQ; rw [if_pos hk]
  have hcq : codeQ bs = 0 := by
    unfold mayQ at hk
    by_cases h : codeQ bs = 0
    · exact h
    · rw [if_pos h] at hk; exact absurd hk h
  obtain ⟨ha, hf⟩ : rightB a = true ∧ fitsB x 2 = true := by
    unfold mayQ at hk
    rw [if_neg (fun g => g hcq)] at hk
    by_cases h : rightB a = true ∧ fitsB x 2 = true
    · exact h
    · rw [if_neg h] at hk; cases hk
  have ha' : 0 ≤ a ∧ a < 4294967296 := of_decide_eq_true ha
  have hf' := of_decide_eq_true hf
  have hx' : 0 ≤ x ∧ x < 65536 := ⟨hf'.2.1, hf'.2.2⟩
  have h8 := (quo_ok h.byt hcq).2.2.2.1
  have hhd := (quo_ok h.byt hcq).2.2.2.2.1
  have hlen := h.len
  have hM := QMay_good a x A n c bs w h hn hk
  rw [hq, hk]
  obtain ⟨b, off, rfl, hbl, hc⟩ := h.mem (by omega)
  unfold QdOut at hM
  have hE := fun Ao no co A1 n1 c1 W (hW : Below w.heap.size w W) (hd : RB W A1 n1 c1 (readV4 true bs).data) => show Calls Try.prog 26 #[.agg (cellsQd (some ⟨b, off, none⟩) n c (readV4 true bs) Ao no co A1 n1 c1 (hdQ bs : Int)), .int .i64 16, .int .i64 2, .int .i64 a, .int .i64 x] W (PutOut W (chgQ bs 16 (ptQ (readV4 true bs) 2) a x)) from
    QEnds_any b off n c bs Ao no co A1 n1 c1 16 2 a x W (h.below hW) hn hcq hd (by omega) (by omega) ha' hx'
  unfold PutOut at hE
  clear hc hhd h8 hlen hq hk hcq ha hf ha' hf' hx' hbl h
  generalize chgQ bs 16 (ptQ (readV4 true bs) 2) a x = out at *
  generalize readV4 true bs = p at *
  generalize hdQ bs = hh at *
  replace hM := Lib.hid hM
  replace hE := Lib.hid hE
  go_enter Try.func10, Try.ntmps10
  go_wp2_with (first
    | (go_at_call 25; refine hM.out.mono ?_; rintro e w1 ⟨Ao, no, co, A1, n1, c1, rfl, ho1, hd1, hB1⟩; have hb1 := Lib.hid (hB1.alloc hB1.size (.cells (cellsQd (some ⟨b, off, none⟩) n c p Ao no co A1 n1 c1 (hh : Int)) 57)); have hd2 := Lib.hid (hd1.alloc (.cells (cellsQd (some ⟨b, off, none⟩) n c p Ao no co A1 n1 c1 (hh : Int)) 57)); clear ho1 hd1; replace hB1 := 0)
    | (refine wpList_store_QD rfl (.tmp 8) (.tmp 15) rfl w1.heap.size (cellsQd (some ⟨b, off, none⟩) n c p Ao no co A1 n1 c1 (hh : Int)) rfl rfl _ (Blk.new w1 zeroQd 57) rfl rfl (one_qd _ _ _ _ _ _ _ _ _ _ _) ?_; rw [World.setRow_alloc_new])
    | (refine wpList_load_QD rfl (.tmp 8) rfl w1.heap.size rfl _ (Blk.new w1 (cellsQd (some ⟨b, off, none⟩) n c p Ao no co A1 n1 c1 (hh : Int)) 57) rfl ?_)
    | (go_at_call 26; refine (hE.out _ _ _ _ _ _ _ hb1.out hd2.out).mono ?_; rintro e w2 ⟨A2, n2, c2, rfl, ho2, hB2⟩; have hb2 := Lib.hid (hb1.out.trans (hB2.mono hb1.out.size)); have hr2 := Lib.hid ho2; replace hB2 := 0; clear ho2)
    | fail)
  go_ret2
  exact ⟨A2, n2, c2, rfl, hr2.out, hb2.out⟩
end Go.Proofs.Ytmbmmpbfmakfbaa
/- What is quoted: the awake packet. No program in sight. -/
set_option linter.unusedVariables false
namespace Go.Proofs.Ytmbmmpbfmakfbaa
open Go Go.RowKit
attribute [local go_sem] Oper.semAt_some

abbrev aw26 : List Int := bytes4 (dgP 167772161 3221225985 5 6 9 [])
abbrev aw26f : List Int := fromQ aw26 3325256705 7
theorem aw26_may : mayQ aw26 3325256705 7 = 0 := by kernel_rfl
theorem aw26_len : aw26.length = 28 := by kernel_rfl
theorem aw26_code : codeQ aw26f = 0 := by kernel_rfl
theorem aw26_port : portQ aw26f = (17, 7, 6) := by kernel_rfl
theorem aw26_src : (packQ aw26f).src = 3325256705 := by kernel_rfl
theorem aw26_lenf : aw26f.length = 28 := by kernel_rfl
set_option maxRecDepth 100000 in
set_option maxHeartbeats 2000000 in
theorem awake26 (w : World) : Calls Try.prog 7 #[] w fun e w' => e = .returned (.bool true) ∧ Below w.heap.size w w' := by
  have hD := Datagram_any 167772161 3221225985 5 6 9 none 0 0 [] w (by omega) (by omega) (by omega) (by omega) (by omega) (by omega) (RB.nil w)
  have hF := fun A n c W (h : RB W A n c aw26) => QuoteFrom_any 3325256705 7 A n c aw26 W h (by have := h.len; rw [aw26_len] at this; omega)
  have hP := fun A n c W (h : RB W A n c aw26f) => QuotePorts_any A n c aw26f W h (by have := h.len; rw [aw26_lenf] at this; omega)
  unfold TwoOut at hF
  unfold QpOut at hP
  rw [aw26_may] at hF
  rw [aw26_code, aw26_port] at hP
  have hl1 := aw26_len
  have hl2 := aw26_lenf
  have hsrc := aw26_src
  unfold aw26f at *
  generalize packQ (fromQ aw26 3325256705 7) = q at *
  generalize fromQ aw26 3325256705 7 = fs at *
  unfold aw26 at *
  generalize bytes4 (dgP 167772161 3221225985 5 6 9 []) = bs at *
  replace hD := Lib.hid hD
  replace hF := Lib.hid hF
  replace hP := Lib.hid hP
  replace hl1 := Lib.hid hl1
  replace hl2 := Lib.hid hl2
  go_enter Try.func7, Try.ntmps7
  go_upto_region 4 with (first
    | (go_at_call 8; refine hD.out.mono ?_; rintro e w1 ⟨A1, n1, c1, rfl, hr1, hB1⟩; have hn1 : n1 = 28 := (by have := hr1.len; have := hl1.out; omega); subst hn1; have hr1' := Lib.hid hr1; have hb1 := Lib.hid hB1; replace hB1 := 0; clear hr1)
    | (go_at_call 9; refine (hF.out _ _ _ _ hr1'.out).mono ?_; rintro e w2 ⟨A2, n2, c2, rfl, hr2, hB2⟩; have hn2 : n2 = 28 := (by have := hr2.len; have := hl2.out; omega); subst hn2; have hr2' := Lib.hid hr2; have hb2 := Lib.hid (hb1.out.trans (hB2.mono hb1.out.size)); replace hB2 := 0; clear hr2)
    | (go_at_call 13; refine (hP.out _ _ _ _ hr2'.out).mono ?_; rintro e w3 ⟨Ao, no, co, A3, n3, c3, rfl, ho3, hd3, hB3⟩; have hbB := hb2.out.trans (hB3.mono hb2.out.size); have hz := (hbB.alloc hbB.size (.cells zero4c 32)).alloc (hbB.alloc hbB.size (.cells zero4c 32)).size (.cells (cellsPo (0, 0, 0)) 41); have kz := Lib.hid ((Blk.new w3 zero4c 32).alloc (.cells (cellsPo (0, 0, 0)) 41)); have kx := Lib.hid ((blk_at (show (w3.alloc (.cells zero4c 32)).heap.size = w3.heap.size + 1 by simp) : Blk _ _ (cellsPo (0, 0, 0)) 41).farRow (show w3.heap.size + 1 ≠ w3.heap.size by omega) (cells4 q Ao no co A3 n3 c3)); have hb5 := Lib.hid (below_row (below_row hz hbB.size (cells4 q Ao no co A3 n3 c3)) (Nat.le_succ_of_le hbB.size) (cellsPo (17, 7, 6))); have kP5 := Lib.hid (Blk.mk (setRow_heap _ _ _ (cellsPo (17, 7, 6)) _ _ kx.out.at_)); have kV5 := (Blk.mk (setRow_heap _ _ _ (cells4 q Ao no co A3 n3 c3) _ _ kz.out.at_)).farRow (show w3.heap.size ≠ w3.heap.size + 1 by omega) (cellsPo (17, 7, 6)); have e5 := kV5.cell 5 (.int .i64 q.src) rfl; clear kV5; replace hB3 := 0; clear ho3 hd3 hz hbB)
    | (refine wpList_store_4 rfl (.tmp 4) (.tmp 16) rfl w3.heap.size (cells4 q Ao no co A3 n3 c3) rfl rfl _ kz.out rfl rfl (one4 _ _ _ _ _ _ _) ?_)
    | (refine wpList_store_PO rfl (.tmp 5) (.tmp 17) rfl (w3.heap.size + 1) (cellsPo (17, 7, 6)) rfl rfl _ kx.out rfl rfl (one_po _) ?_)
    | fail)
  rw [hsrc] at e5
  go_wp2_with (first
    | (refine wpList_load_PO rfl (.tmp 5) rfl (w3.heap.size + 1) rfl _ kP5.out rfl ?_)
    | fail)
  go_ret
  exact ⟨by first | rfl | simp, hb5.out⟩
end Go.Proofs.Ytmbmmpbfmakfbaa
