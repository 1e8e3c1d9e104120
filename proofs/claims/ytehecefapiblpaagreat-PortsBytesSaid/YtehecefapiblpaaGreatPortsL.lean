/- The laws PortsTell and PortsBytes: their walks. -/
import Derived.Test.YtehecefapiblpaaGreatPortsH
import Derived.Test.YtehecefapiblpaaGreatPortsT
import Derived.Test.YtehecefapiblpaaGreatReadV4
set_option linter.unusedVariables false
namespace Go.Proofs.YtehecefapiblpaaGreat
open Go Go.RowKit
attribute [local go_sem] Oper.semAt_some

theorem rangeAt_blkP {W : World} {g : Nat} {C : Array Value} {T : TypeId} (h : Blk W g C T) : W.rangeAt g 0 C.toList := fun j v hj => by rw [Nat.zero_add]; exact h.cell j v (by rw [← Array.getElem?_toList]; exact hj)
/-- A packet in a slot, of which bytes are known. -/
def V4In (q : V4P) : Value → World → Prop := fun u W => ∃ Ao no co A n c, u = .agg (cells4 q Ao no co A n c) ∧ RB W Ao no co q.opts ∧ RB W A n c q.data
theorem Same4_in {q : V4P} {vx vy : Value} {w : World} (hx : V4In q vx w) (hy : V4In q vy w) : Calls Tryz.prog 11 #[vx, vy] w fun e w' => e = .returned (.bool true) ∧ Below w.heap.size w w' := by
  obtain ⟨Ao, no, co, A, n, c, rfl, h1, h2⟩ := hx
  obtain ⟨Ao', no', co', A', n', c', rfl, h3, h4⟩ := hy
  obtain rfl : no = no' := h1.len.symm.trans h3.len
  obtain rfl : n = n' := h2.len.symm.trans h4.len
  exact RefSame4_same q Ao no co A n c Ao' co' A' c' w h1 h2 h3 h4
set_option maxRecDepth 100000 in
set_option maxHeartbeats 2000000 in
theorem Far11_any (p : V4P) (ao : Option Addr) (no co : Nat) (a : Option Addr) (n c : Nat) (w : World) :
    Calls Tryz.prog 12 #[.agg (cells4 p ao no co a n c)] w fun e w' => e = .returned (.bool (decide (3000 < n) || decide (200 < no))) ∧ Below w.heap.size w w' := by
  have hb := Lib.hid ((Below.refl _ w).alloc (Nat.le_refl _) (.cells (cells4 p ao no co a n c) 25))
  have k := Blk.new w (cells4 p ao no co a n c) 25
  have e9 := k.cell 9 (.slice ao no co) rfl
  have e10 := k.cell 10 (.slice a n c) rfl
  clear k
  by_cases h1 : 3000 < n
  · have h1i : (3000 : Int) < n := by omega
    go_enter Tryz.func12, Tryz.ntmps12
    go_wp2
    go_ret
    exact ⟨by first | rfl | simp [h1], hb.out⟩
  · have h1i : ¬ (3000 : Int) < n := by omega
    by_cases h2 : 200 < no
    · have h2i : (200 : Int) < no := by omega
      go_enter Tryz.func12, Tryz.ntmps12
      go_wp2
      go_ret
      exact ⟨by first | rfl | simp [h1, h2], hb.out⟩
    · have h2i : ¬ (200 : Int) < no := by omega
      go_enter Tryz.func12, Tryz.ntmps12
      go_wp2
      go_ret
      exact ⟨by first | rfl | simp [h1, h2], hb.out⟩
set_option maxRecDepth 100000 in
set_option maxHeartbeats 4000000 in
theorem PortsTell_walk (p : V4P) (Ao : Option Addr) (no co : Nat) (A : Option Addr) (n c : Nat) (addr port : Int) (w : World) (hro : RB w Ao no co p.opts) (hr : RB w A n c p.data) (hfit : p.Fit) (hx0 : -9223372036854775808 ≤ addr) (hx1 : addr ≤ 9223372036854775807) (hy0 : -9223372036854775808 ≤ port) (hy1 : port ≤ 9223372036854775807) :
    Calls Tryz.prog 4 #[.agg (cells4 p Ao no co A n c), .int .i64 addr, .int .i64 port] w fun e w' => e = .returned (.bool true) ∧ Below w.heap.size w w' := by
  clear hx0 hx1 hy0 hy1 hfit
  have hb0 := Lib.hid ((Below.refl _ w).alloc (Nat.le_refl _) (.cells (cells4 p Ao no co A n c) 25))
  have kB0 := Lib.hid (Blk.new w (cells4 p Ao no co A n c) 25)
  have hFar := fun W => Far11_any p Ao no co A n c W
  by_cases hf : (decide (3000 < n) || decide (200 < no)) = true
  · rw [hf] at hFar
    replace hFar := Lib.hid hFar
    clear hf hro hr
    go_enter Tryz.func4, Tryz.ntmps4
    go_wp2_with (first
      | (refine wpList_load_4 rfl (.tmp 3) rfl w.heap.size rfl _ kB0.out rfl ?_)
      | (go_at_call 12; refine (hFar.out _).mono ?_; rintro e w1 ⟨rfl, hB1⟩; have hb1 := Lib.hid (hb0.out.trans (hB1.mono hb0.out.size)); replace hB1 := 0)
      | (go_at_call 5; refine (awake11 _).mono ?_; rintro e W1 ⟨rfl, hB⟩; have hbE := Lib.hid (hb1.out.trans (hB.mono hb1.out.size)); replace hB := 0)
      | fail)
    go_ret
    exact ⟨by first | rfl | simp, hbE.out⟩
  have hlim : n ≤ 3000 ∧ no ≤ 200 := by
    simp only [Bool.or_eq_true, decide_eq_true_eq, not_or] at hf
    omega
  have hff : (decide (3000 < n) || decide (200 < no)) = false := by simpa using hf
  rw [hff] at hFar
  have ro0 := Lib.hid (hro.alloc (.cells (cells4 p Ao no co A n c) 25))
  have rd0 := Lib.hid (hr.alloc (.cells (cells4 p Ao no co A n c) 25))
  have hO := fun W (h1 : RB W Ao no co p.opts) (h2 : RB W A n c p.data) => PortsOf_any p Ao no co A n c W h1 h2 (by omega) (by omega)
  have hRO := fun W (h1 : RB W Ao no co p.opts) (h2 : RB W A n c p.data) => RefPortsOf_any p Ao no co A n c W h1 h2 (by omega) (by omega)
  have hF := fun W (h1 : RB W Ao no co p.opts) (h2 : RB W A n c p.data) => PortsFrom_any p addr port Ao no co A n c W h1 h2 (by omega) (by omega)
  have hRF := fun W (h1 : RB W Ao no co p.opts) (h2 : RB W A n c p.data) => RefPortsFrom_any p addr port Ao no co A n c W h1 h2 (by omega) (by omega)
  have hT := fun W (h1 : RB W Ao no co p.opts) (h2 : RB W A n c p.data) => PortsTo_any p addr port Ao no co A n c W h1 h2 (by omega) (by omega)
  have hRT := fun W (h1 : RB W Ao no co p.opts) (h2 : RB W A n c p.data) => RefPortsTo_any p addr port Ao no co A n c W h1 h2 (by omega) (by omega)
  have hG := fun W (h1 : RB W Ao no co p.opts) (h2 : RB W A n c p.data) => PortsFlags_any p Ao no co A n c W h1 h2 (by omega) (by omega)
  have hRG := fun W (h1 : RB W Ao no co p.opts) (h2 : RB W A n c p.data) => RefPortsFlags_any p Ao no co A n c W h1 h2 (by omega) (by omega)
  unfold PortsOut at hO hRO
  unfold MovOut at hF hRF hT hRT
  obtain ⟨xx, hxx⟩ : ∃ xx, portsP p = xx := ⟨_, rfl⟩
  obtain ⟨kk, hkk⟩ : ∃ kk, codeP p = kk := ⟨_, rfl⟩
  rw [hxx, hkk] at hO hRO
  generalize fromP p addr port = q at *
  generalize toP p addr port = r at *
  generalize codeM p addr port = km at *
  generalize flagsP p = fl at *
  replace hFar := Lib.hid hFar
  replace hO := Lib.hid hO
  replace hRO := Lib.hid hRO
  replace hF := Lib.hid hF
  replace hRF := Lib.hid hRF
  replace hT := Lib.hid hT
  replace hRT := Lib.hid hRT
  replace hG := Lib.hid hG
  replace hRG := Lib.hid hRG
  clear hf hff hlim hro hr hxx hkk
  go_enter Tryz.func4, Tryz.ntmps4
  go_upto_region 9 with (first
    | (refine wpList_load_4 rfl (.tmp 3) rfl w.heap.size rfl _ kB0.out rfl ?_)
    | (refine wpList_load_4 rfl (.tmp 3) rfl w.heap.size rfl _ kB1.out rfl ?_)
    | (refine wpList_load_4 rfl (.tmp 3) rfl w.heap.size rfl _ kB2.out rfl ?_)
    | (refine wpList_load_4 rfl (.tmp 3) rfl w.heap.size rfl _ kB3.out rfl ?_)
    | (refine wpList_load_4 rfl (.tmp 3) rfl w.heap.size rfl _ kB4.out rfl ?_)
    | (refine wpList_load_4 rfl (.tmp 3) rfl w.heap.size rfl _ kB5.out rfl ?_)
    | (refine wpList_load_4 rfl (.tmp 3) rfl w.heap.size rfl _ kB6.out rfl ?_)
    | (go_at_call 12; refine (hFar.out _).mono ?_; rintro e w1 ⟨rfl, hy⟩; have hb1 := Lib.hid (hb0.out.trans (hy.mono hb0.out.size)); have kB1 := Lib.hid (kB0.out.to hy); have ro1 := Lib.hid (ro0.out.below hy); have rd1 := Lib.hid (rd0.out.below hy); clear kB0; replace hy := 0)
    | (go_at_call 7; refine (hO.out _ ro1.out rd1.out).mono ?_; rintro e w2 ⟨rfl, hB⟩; have hy := hB.alloc hB.size (.cells (cellsPo xx) 30); have hb2 := Lib.hid (hb1.out.trans (hy.mono hb1.out.size)); have kB2 := Lib.hid (kB1.out.to hy); have ro2 := Lib.hid (ro1.out.below hy); have rd2 := Lib.hid (rd1.out.below hy); have kx2 := Lib.hid (Blk.new w2 (cellsPo xx) 30); clear kB1 hB; replace hy := 0)
    | (go_at_call 8; refine (hRO.out _ ro2.out rd2.out).mono ?_; rintro e w3 ⟨rfl, hB⟩; have hy := hB.alloc hB.size (.cells (cellsPo xx) 30); have hb3 := Lib.hid (hb2.out.trans (hy.mono hb2.out.size)); have kB3 := Lib.hid (kB2.out.to hy); have ro3 := Lib.hid (ro2.out.below hy); have rd3 := Lib.hid (rd2.out.below hy); have kx3 := Lib.hid (kx2.out.to hy); have ky3 := Lib.hid (Blk.new w3 (cellsPo xx) 30); clear kB2 hB; replace hy := 0)
    | (go_at_call 9; refine (hF.out _ ro3.out rd3.out).mono ?_; rintro e w4 ⟨B1, b1, d1, C1, m1, f1, rfl, hqo, hqd, hB⟩; have hy := hB.alloc hB.size (.cells (cells4 q B1 b1 d1 C1 m1 f1) 25); have hb4 := Lib.hid (hb3.out.trans (hy.mono hb3.out.size)); have kB4 := Lib.hid (kB3.out.to hy); have ro4 := Lib.hid (ro3.out.below hy); have rd4 := Lib.hid (rd3.out.below hy); have kx4 := Lib.hid (kx3.out.to hy); have ky4 := Lib.hid (ky3.out.to hy); have kq4 := Lib.hid (Blk.new w4 (cells4 q B1 b1 d1 C1 m1 f1) 25); have hq4 := Lib.hid (And.intro (hqo.alloc (.cells (cells4 q B1 b1 d1 C1 m1 f1) 25)) (hqd.alloc (.cells (cells4 q B1 b1 d1 C1 m1 f1) 25))); clear kB3 hB hqo hqd; replace hy := 0)
    | (refine wpList_store_4 rfl (.tmp 11) (.tmp 37) rfl w4.heap.size (cells4 q B1 b1 d1 C1 m1 f1) rfl rfl _ (Blk.new _ zero4c 25) rfl rfl (one4 _ _ _ _ _ _ _) ?_; rw [World.setRow_alloc_new])
    | (go_at_call 10; refine (hRF.out _ ro4.out rd4.out).mono ?_; rintro e w5 ⟨B2, b2, d2, C2, m2, f2, rfl, hqo, hqd, hB⟩; have hy := hB.alloc hB.size (.cells (cells4 q B2 b2 d2 C2 m2 f2) 25); have hb5 := Lib.hid (hb4.out.trans (hy.mono hb4.out.size)); have kB5 := Lib.hid (kB4.out.to hy); have ro5 := Lib.hid (ro4.out.below hy); have rd5 := Lib.hid (rd4.out.below hy); have kx5 := Lib.hid (kx4.out.to hy); have ky5 := Lib.hid (ky4.out.to hy); have kq5 := Lib.hid (kq4.out.to hy); have hq5 := Lib.hid (And.intro (hq4.out.1.below hy) (hq4.out.2.below hy)); have kr5 := Lib.hid (Blk.new w5 (cells4 q B2 b2 d2 C2 m2 f2) 25); have hr5 := Lib.hid (And.intro (hqo.alloc (.cells (cells4 q B2 b2 d2 C2 m2 f2) 25)) (hqd.alloc (.cells (cells4 q B2 b2 d2 C2 m2 f2) 25))); clear kB4 hB hqo hqd; replace hy := 0)
    | (refine wpList_store_4 rfl (.tmp 13) (.tmp 44) rfl w5.heap.size (cells4 q B2 b2 d2 C2 m2 f2) rfl rfl _ (Blk.new _ zero4c 25) rfl rfl (one4 _ _ _ _ _ _ _) ?_; rw [World.setRow_alloc_new])
    | (go_at_call 13; refine (hT.out _ ro5.out rd5.out).mono ?_; rintro e w6 ⟨B3, b3, d3, C3, m3, f3, rfl, hqo, hqd, hB⟩; have hy := hB.alloc hB.size (.cells (cells4 r B3 b3 d3 C3 m3 f3) 25); have hb6 := Lib.hid (hb5.out.trans (hy.mono hb5.out.size)); have kB6 := Lib.hid (kB5.out.to hy); have ro6 := Lib.hid (ro5.out.below hy); have rd6 := Lib.hid (rd5.out.below hy); have kx6 := Lib.hid (kx5.out.to hy); have ky6 := Lib.hid (ky5.out.to hy); have kq6 := Lib.hid (kq5.out.to hy); have hq6 := Lib.hid (And.intro (hq5.out.1.below hy) (hq5.out.2.below hy)); have kr6 := Lib.hid (kr5.out.to hy); have hr6 := Lib.hid (And.intro (hr5.out.1.below hy) (hr5.out.2.below hy)); have ks6 := Lib.hid (Blk.new w6 (cells4 r B3 b3 d3 C3 m3 f3) 25); have hs6 := Lib.hid (And.intro (hqo.alloc (.cells (cells4 r B3 b3 d3 C3 m3 f3) 25)) (hqd.alloc (.cells (cells4 r B3 b3 d3 C3 m3 f3) 25))); clear kB5 hB hqo hqd; replace hy := 0)
    | (refine wpList_store_4 rfl (.tmp 15) (.tmp 51) rfl w6.heap.size (cells4 r B3 b3 d3 C3 m3 f3) rfl rfl _ (Blk.new _ zero4c 25) rfl rfl (one4 _ _ _ _ _ _ _) ?_; rw [World.setRow_alloc_new])
    | (go_at_call 14; refine (hRT.out _ ro6.out rd6.out).mono ?_; rintro e w7 ⟨B4, b4, d4, C4, m4, f4, rfl, hqo, hqd, hB⟩; have hy := hB.alloc hB.size (.cells (cells4 r B4 b4 d4 C4 m4 f4) 25); have hb7 := Lib.hid (hb6.out.trans (hy.mono hb6.out.size)); have kB7 := Lib.hid (kB6.out.to hy); have ro7 := Lib.hid (ro6.out.below hy); have rd7 := Lib.hid (rd6.out.below hy); have kx7 := Lib.hid (kx6.out.to hy); have ky7 := Lib.hid (ky6.out.to hy); have kq7 := Lib.hid (kq6.out.to hy); have hq7 := Lib.hid (And.intro (hq6.out.1.below hy) (hq6.out.2.below hy)); have kr7 := Lib.hid (kr6.out.to hy); have hr7 := Lib.hid (And.intro (hr6.out.1.below hy) (hr6.out.2.below hy)); have ks7 := Lib.hid (ks6.out.to hy); have hs7 := Lib.hid (And.intro (hs6.out.1.below hy) (hs6.out.2.below hy)); have kt7 := Lib.hid (Blk.new w7 (cells4 r B4 b4 d4 C4 m4 f4) 25); have ht7 := Lib.hid (And.intro (hqo.alloc (.cells (cells4 r B4 b4 d4 C4 m4 f4) 25)) (hqd.alloc (.cells (cells4 r B4 b4 d4 C4 m4 f4) 25))); clear kB6 hB hqo hqd; replace hy := 0)
    | (refine wpList_store_4 rfl (.tmp 17) (.tmp 58) rfl w7.heap.size (cells4 r B4 b4 d4 C4 m4 f4) rfl rfl _ (Blk.new _ zero4c 25) rfl rfl (one4 _ _ _ _ _ _ _) ?_; rw [World.setRow_alloc_new])
    | fail)
  obtain ⟨w8, hw8⟩ : ∃ w8, w7.alloc (.cells (cells4 r B4 b4 d4 C4 m4 f4) 25) = w8 := ⟨_, rfl⟩
  rw [hw8] at hb7 kB7 ro7 rd7 kx7 ky7 kq7 hq7 kr7 hr7 ks7 hs7 kt7 ht7 ⊢
  replace hw8 := Lib.hid hw8
  have hFf := Lib.hid (fun W (hW : Below w8.heap.size w8 W) => show W.rangeAt w.heap.size 0 (cells4 p Ao no co A n c).toList ∧ W.rangeAt w2.heap.size 0 (cellsPo xx).toList ∧ W.rangeAt w3.heap.size 0 (cellsPo xx).toList ∧ W.rangeAt w4.heap.size 0 (cells4 q B1 b1 d1 C1 m1 f1).toList ∧ W.rangeAt w5.heap.size 0 (cells4 q B2 b2 d2 C2 m2 f2).toList ∧ W.rangeAt w6.heap.size 0 (cells4 r B3 b3 d3 C3 m3 f3).toList ∧ W.rangeAt w7.heap.size 0 (cells4 r B4 b4 d4 C4 m4 f4).toList from
    ⟨rangeAt_blkP (kB7.out.to hW), rangeAt_blkP (kx7.out.to hW), rangeAt_blkP (ky7.out.to hW), rangeAt_blkP (kq7.out.to hW), rangeAt_blkP (kr7.out.to hW), rangeAt_blkP (ks7.out.to hW), rangeAt_blkP (kt7.out.to hW)⟩)
  have hiP := Lib.hid (show (Tryz.prog.info? 30).map (·.size) = some (cellsPo xx).toList.length from info_po)
  have hi0 := Lib.hid (show (Tryz.prog.info? 25).map (·.size) = some (cells4 p Ao no co A n c).toList.length from info_v4)
  have hi1 := Lib.hid (show (Tryz.prog.info? 25).map (·.size) = some (cells4 q B1 b1 d1 C1 m1 f1).toList.length from info_v4)
  have hi2 := Lib.hid (show (Tryz.prog.info? 25).map (·.size) = some (cells4 q B2 b2 d2 C2 m2 f2).toList.length from info_v4)
  have hi3 := Lib.hid (show (Tryz.prog.info? 25).map (·.size) = some (cells4 r B3 b3 d3 C3 m3 f3).toList.length from info_v4)
  have hi4 := Lib.hid (show (Tryz.prog.info? 25).map (·.size) = some (cells4 r B4 b4 d4 C4 m4 f4).toList.length from info_v4)
  have hz0 := Lib.hid (Below.refl w8.heap.size w8).drew
  have hS0 := hFf.out _ hz0.out
  clear kB7 kx7 ky7 kq7 kr7 ks7 kt7
  try simp only [Act.put]
  refine wp_region_held_drew (S := fun W => W.rangeAt w.heap.size 0 (cells4 p Ao no co A n c).toList ∧ W.rangeAt w2.heap.size 0 (cellsPo xx).toList ∧ W.rangeAt w3.heap.size 0 (cellsPo xx).toList ∧ W.rangeAt w4.heap.size 0 (cells4 q B1 b1 d1 C1 m1 f1).toList ∧ W.rangeAt w5.heap.size 0 (cells4 q B2 b2 d2 C2 m2 f2).toList ∧ W.rangeAt w6.heap.size 0 (cells4 r B3 b3 d3 C3 m3 f3).toList ∧ W.rangeAt w7.heap.size 0 (cells4 r B4 b4 d4 C4 m4 f4).toList) (by kernel_rfl) hS0 (fun hHeld => ?_)
  refine take_h (i := 0) rfl rfl (by kernel_rfl) (by kernel_rfl) (by kernel_rfl) (fun _ _ _ h => h) (yieldsIf_load_mid (by rfl) 30 (.tmp 7) rfl _ _ rfl (cellsPo xx).toList _ (fun W hW => hW.2.1) Tryz.underlying30 rfl hiP.out) (by assumption) ?_
  simp only [Act.put, List.setIfInBounds_toArray, List.set_cons_zero, List.set_cons_succ]
  refine take_h (i := 1) rfl rfl (by kernel_rfl) (by kernel_rfl) (by kernel_rfl) (fun _ _ _ h => h) (yieldsIf_load_mid (by rfl) 30 (.tmp 9) rfl _ _ rfl (cellsPo xx).toList _ (fun W hW => hW.2.2.1) Tryz.underlying30 rfl hiP.out) (by assumption) ?_
  simp only [Act.put, List.setIfInBounds_toArray, List.set_cons_zero, List.set_cons_succ]
  refine take_h (i := 2) (v := ?_) rfl rfl (by kernel_rfl) (by kernel_rfl) (by kernel_rfl) (fun _ _ _ h => h) (Or.inl ⟨by rfl, fun W hSw => ?_⟩) (by assumption) ?_
  rotate_left
  · (clear hSw; go_simp; try with_reducible rfl)
  simp only [Act.put, List.setIfInBounds_toArray, List.set_cons_zero, List.set_cons_succ]
  refine take_h (i := 3) (v := ?_) rfl rfl (by kernel_rfl) (by kernel_rfl) (by kernel_rfl) (fun _ _ _ h => h) (Or.inl ⟨by rfl, fun W hSw => ?_⟩) (by assumption) ?_
  rotate_left
  · (clear hSw; go_simp; try with_reducible rfl)
  simp only [Act.put, List.setIfInBounds_toArray, List.set_cons_zero, List.set_cons_succ]
  refine take_h (i := 4) (v := ?_) rfl rfl (by kernel_rfl) (by kernel_rfl) (by kernel_rfl) (fun _ _ _ h => h) (Or.inl ⟨by rfl, fun W hSw => ?_⟩) (by assumption) ?_
  rotate_left
  · (clear hSw; go_simp; try with_reducible rfl)
  simp only [Act.put, List.setIfInBounds_toArray, List.set_cons_zero, List.set_cons_succ]
  refine take_h (i := 5) (v := ?_) rfl rfl (by kernel_rfl) (by kernel_rfl) (by kernel_rfl) (fun _ _ _ h => h) (Or.inl ⟨by rfl, fun W hSw => ?_⟩) (by assumption) ?_
  rotate_left
  · (clear hSw; go_simp; try with_reducible rfl)
  simp only [Act.put, List.setIfInBounds_toArray, List.set_cons_zero, List.set_cons_succ]
  refine take_h (i := 6) (v := ?_) rfl rfl (by kernel_rfl) (by kernel_rfl) (by kernel_rfl) (fun _ _ _ h => h) (Or.inl ⟨by rfl, fun W hSw => ?_⟩) (by assumption) ?_
  rotate_left
  · (clear hSw; go_simp; try with_reducible rfl)
  simp only [Act.put, List.setIfInBounds_toArray, List.set_cons_zero, List.set_cons_succ]
  refine take_h (i := 7) (v := ?_) rfl rfl (by kernel_rfl) (by kernel_rfl) (by kernel_rfl) (fun _ _ _ h => h) (Or.inl ⟨by rfl, fun W hSw => ?_⟩) (by assumption) ?_
  rotate_left
  · (clear hSw; go_simp; try with_reducible rfl)
  simp only [Act.put, List.setIfInBounds_toArray, List.set_cons_zero, List.set_cons_succ]
  refine take_h (i := 8) (v := ?_) rfl rfl (by kernel_rfl) (by kernel_rfl) (by kernel_rfl) (fun _ _ _ h => h) (Or.inl ⟨by rfl, fun W hSw => ?_⟩) (by assumption) ?_
  rotate_left
  · (clear hSw; go_simp; try with_reducible rfl)
  simp only [Act.put, List.setIfInBounds_toArray, List.set_cons_zero, List.set_cons_succ]
  refine take_h (i := 9) (v := ?_) rfl rfl (by kernel_rfl) (by kernel_rfl) (by kernel_rfl) (fun _ _ _ h => h) (Or.inl ⟨by rfl, fun W hSw => ?_⟩) (by assumption) ?_
  rotate_left
  · (clear hSw; go_simp; try with_reducible rfl)
  simp only [Act.put, List.setIfInBounds_toArray, List.set_cons_zero, List.set_cons_succ]
  refine take_h (i := 10) (v := ?_) rfl rfl (by kernel_rfl) (by kernel_rfl) (by kernel_rfl) (fun _ _ _ h => h) (Or.inl ⟨by rfl, fun W hSw => ?_⟩) (by assumption) ?_
  rotate_left
  · (clear hSw; go_simp; try with_reducible rfl)
  simp only [Act.put, List.setIfInBounds_toArray, List.set_cons_zero, List.set_cons_succ]
  refine take_h (i := 11) (v := ?_) rfl rfl (by kernel_rfl) (by kernel_rfl) (by kernel_rfl) (fun _ _ _ h => h) (Or.inl ⟨by rfl, fun W hSw => ?_⟩) (by assumption) ?_
  rotate_left
  · (clear hSw; go_simp; try with_reducible rfl)
  simp only [Act.put, List.setIfInBounds_toArray, List.set_cons_zero, List.set_cons_succ]
  refine take_h (i := 12) (v := ?_) rfl rfl (by kernel_rfl) (by kernel_rfl) (by kernel_rfl) (fun _ _ _ h => h) (Or.inl ⟨by rfl, fun W hSw => ?_⟩) (by assumption) ?_
  rotate_left
  · (clear hSw; go_simp; try with_reducible rfl)
  simp only [Act.put, List.setIfInBounds_toArray, List.set_cons_zero, List.set_cons_succ]
  refine take_h (i := 13) (v := ?_) rfl rfl (by kernel_rfl) (by kernel_rfl) (by kernel_rfl) (fun _ _ _ h => h) (Or.inl ⟨by rfl, fun W hSw => ?_⟩) (by assumption) ?_
  rotate_left
  · (clear hSw; go_simp; try with_reducible rfl)
  simp only [Act.put, List.setIfInBounds_toArray, List.set_cons_zero, List.set_cons_succ]
  refine take_h (i := 14) (v := ?_) rfl rfl (by kernel_rfl) (by kernel_rfl) (by kernel_rfl) (fun _ _ _ h => h) (Or.inl ⟨by rfl, fun W hSw => ?_⟩) (by assumption) ?_
  rotate_left
  · (clear hSw; go_simp; try with_reducible rfl)
  simp only [Act.put, List.setIfInBounds_toArray, List.set_cons_zero, List.set_cons_succ]
  refine take_h (i := 15) (v := ?_) rfl rfl (by kernel_rfl) (by kernel_rfl) (by kernel_rfl) (fun _ _ _ h => h) (Or.inl ⟨by rfl, fun W hSw => ?_⟩) (by assumption) ?_
  rotate_left
  · (clear hSw; go_simp; try with_reducible rfl)
  simp only [Act.put, List.setIfInBounds_toArray, List.set_cons_zero, List.set_cons_succ]
  refine take_h (i := 16) (v := ?_) rfl rfl (by kernel_rfl) (by kernel_rfl) (by kernel_rfl) (fun _ _ _ h => h) (Or.inl ⟨by rfl, fun W hSw => ?_⟩) (by assumption) ?_
  rotate_left
  · (clear hSw; go_simp; try with_reducible rfl)
  simp only [Act.put, List.setIfInBounds_toArray, List.set_cons_zero, List.set_cons_succ]
  refine take_h (i := 17) (v := ?_) rfl rfl (by kernel_rfl) (by kernel_rfl) (by kernel_rfl) (fun _ _ _ h => h) (Or.inl ⟨by rfl, fun W hSw => ?_⟩) (by assumption) ?_
  rotate_left
  · (clear hSw; go_simp; try with_reducible rfl)
  simp only [Act.put, List.setIfInBounds_toArray, List.set_cons_zero, List.set_cons_succ]
  refine take_h (i := 18) (v := ?_) rfl rfl (by kernel_rfl) (by kernel_rfl) (by kernel_rfl) (fun _ _ _ h => h) (Or.inl ⟨by rfl, fun W hSw => ?_⟩) (by assumption) ?_
  rotate_left
  · (clear hSw; go_simp; try with_reducible rfl)
  simp only [Act.put, List.setIfInBounds_toArray, List.set_cons_zero, List.set_cons_succ]
  refine take_h (i := 19) rfl rfl (by kernel_rfl) (by kernel_rfl) (by kernel_rfl) (fun _ _ _ h => h) (yieldsIf_load_mid (by rfl) 25 (.tmp 11) rfl _ _ rfl (cells4 q B1 b1 d1 C1 m1 f1).toList _ (fun W hW => hW.2.2.2.1) Tryz.underlying25 rfl hi1.out) (by assumption) ?_
  simp only [Act.put, List.setIfInBounds_toArray, List.set_cons_zero, List.set_cons_succ]
  refine take_h (i := 20) rfl rfl (by kernel_rfl) (by kernel_rfl) (by kernel_rfl) (fun _ _ _ h => h) (yieldsIf_load_mid (by rfl) 25 (.tmp 13) rfl _ _ rfl (cells4 q B2 b2 d2 C2 m2 f2).toList _ (fun W hW => hW.2.2.2.2.1) Tryz.underlying25 rfl hi2.out) (by assumption) ?_
  simp only [Act.put, List.setIfInBounds_toArray, List.set_cons_zero, List.set_cons_succ]
  refine step_h (i := 21) rfl rfl (by kernel_rfl) (fun K hK => ?_)
  go_simp
  refine Calls.mono (Same4_in (q := q) ⟨B1, b1, d1, C1, m1, f1, rfl, hq7.out.1.below hz0.out, hq7.out.2.below hz0.out⟩ ⟨B2, b2, d2, C2, m2, f2, rfl, hr7.out.1.below hz0.out, hr7.out.2.below hz0.out⟩) ?_
  rintro e w9 ⟨rfl, hB⟩
  have hz1 := Lib.hid (hz0.out.trans (hB.mono hz0.out.size))
  have hS1 := hFf.out _ hz1.out
  clear hHeld hB
  go_wp2_with fail
  refine hK.out _ _ hS1 (fun hHeld => ?_)
  clear hK K
  try simp only [Act.put, List.setIfInBounds_toArray, List.set_cons_zero, List.set_cons_succ]
  refine take_h (i := 22) (v := ?_) rfl rfl (by kernel_rfl) (by kernel_rfl) (by kernel_rfl) (fun _ _ _ h => h) (Or.inl ⟨by rfl, fun W hSw => ?_⟩) (by assumption) ?_
  rotate_left
  · (clear hSw; go_simp; try with_reducible rfl)
  simp only [Act.put, List.setIfInBounds_toArray, List.set_cons_zero, List.set_cons_succ]
  refine take_h (i := 23) (v := ?_) rfl rfl (by kernel_rfl) (by kernel_rfl) (by kernel_rfl) (fun _ _ _ h => h) (Or.inl ⟨by rfl, fun W hSw => ?_⟩) (by assumption) ?_
  rotate_left
  · (clear hSw; go_simp; try with_reducible rfl)
  simp only [Act.put, List.setIfInBounds_toArray, List.set_cons_zero, List.set_cons_succ]
  refine take_h (i := 24) rfl rfl (by kernel_rfl) (by kernel_rfl) (by kernel_rfl) (fun _ _ _ h => h) (yieldsIf_load_mid (by rfl) 25 (.tmp 15) rfl _ _ rfl (cells4 r B3 b3 d3 C3 m3 f3).toList _ (fun W hW => hW.2.2.2.2.2.1) Tryz.underlying25 rfl hi3.out) (by assumption) ?_
  simp only [Act.put, List.setIfInBounds_toArray, List.set_cons_zero, List.set_cons_succ]
  refine take_h (i := 25) rfl rfl (by kernel_rfl) (by kernel_rfl) (by kernel_rfl) (fun _ _ _ h => h) (yieldsIf_load_mid (by rfl) 25 (.tmp 17) rfl _ _ rfl (cells4 r B4 b4 d4 C4 m4 f4).toList _ (fun W hW => hW.2.2.2.2.2.2) Tryz.underlying25 rfl hi4.out) (by assumption) ?_
  simp only [Act.put, List.setIfInBounds_toArray, List.set_cons_zero, List.set_cons_succ]
  refine step_h (i := 26) rfl rfl (by kernel_rfl) (fun K hK => ?_)
  go_simp
  refine Calls.mono (Same4_in (q := r) ⟨B3, b3, d3, C3, m3, f3, rfl, hs7.out.1.below hz1.out, hs7.out.2.below hz1.out⟩ ⟨B4, b4, d4, C4, m4, f4, rfl, ht7.out.1.below hz1.out, ht7.out.2.below hz1.out⟩) ?_
  rintro e w10 ⟨rfl, hB⟩
  have hz2 := Lib.hid (hz1.out.trans (hB.mono hz1.out.size))
  have hS2 := hFf.out _ hz2.out
  clear hHeld hB
  go_wp2_with fail
  refine hK.out _ _ hS2 (fun hHeld => ?_)
  clear hK K
  try simp only [Act.put, List.setIfInBounds_toArray, List.set_cons_zero, List.set_cons_succ]
  refine take_h (i := 27) (v := ?_) rfl rfl (by kernel_rfl) (by kernel_rfl) (by kernel_rfl) (fun _ _ _ h => h) (Or.inl ⟨by rfl, fun W hSw => ?_⟩) (by assumption) ?_
  rotate_left
  · (clear hSw; go_simp; try with_reducible rfl)
  simp only [Act.put, List.setIfInBounds_toArray, List.set_cons_zero, List.set_cons_succ]
  refine take_h (i := 28) (v := ?_) rfl rfl (by kernel_rfl) (by kernel_rfl) (by kernel_rfl) (fun _ _ _ h => h) (Or.inl ⟨by rfl, fun W hSw => ?_⟩) (by assumption) ?_
  rotate_left
  · (clear hSw; go_simp; try with_reducible rfl)
  simp only [Act.put, List.setIfInBounds_toArray, List.set_cons_zero, List.set_cons_succ]
  refine take_h (i := 29) rfl rfl (by kernel_rfl) (by kernel_rfl) (by kernel_rfl) (fun _ _ _ h => h) (yieldsIf_load_mid (by rfl) 25 (.tmp 3) rfl _ _ rfl (cells4 p Ao no co A n c).toList _ (fun W hW => hW.1) Tryz.underlying25 rfl hi0.out) (by assumption) ?_
  simp only [Act.put, List.setIfInBounds_toArray, List.set_cons_zero, List.set_cons_succ]
  refine take_h (i := 31) rfl rfl (by kernel_rfl) (by kernel_rfl) (by kernel_rfl) (fun _ _ _ h => h) (yieldsIf_load_mid (by rfl) 25 (.tmp 3) rfl _ _ rfl (cells4 p Ao no co A n c).toList _ (fun W hW => hW.1) Tryz.underlying25 rfl hi0.out) (by assumption) ?_
  simp only [Act.put, List.setIfInBounds_toArray, List.set_cons_zero, List.set_cons_succ]
  refine step_h (i := 30) rfl rfl (by kernel_rfl) (fun K hK => ?_)
  go_simp
  refine Calls.mono (hG.out _ (ro7.out.below hz2.out) (rd7.out.below hz2.out)) ?_
  rintro e w11 ⟨rfl, hB⟩
  have hz3 := Lib.hid (hz2.out.trans (hB.mono hz2.out.size))
  have hS3 := hFf.out _ hz3.out
  clear hHeld hB
  go_wp2_with fail
  refine hK.out _ _ hS3 (fun hHeld => ?_)
  clear hK K
  try simp only [Act.put, List.setIfInBounds_toArray, List.set_cons_zero, List.set_cons_succ]
  refine step_h (i := 32) rfl rfl (by kernel_rfl) (fun K hK => ?_)
  go_simp
  refine Calls.mono (hRG.out _ (ro7.out.below hz3.out) (rd7.out.below hz3.out)) ?_
  rintro e w12 ⟨rfl, hB⟩
  have hz4 := Lib.hid (hz3.out.trans (hB.mono hz3.out.size))
  have hS4 := hFf.out _ hz4.out
  clear hHeld hB
  go_wp2_with fail
  refine hK.out _ _ hS4 (fun hHeld => ?_)
  clear hK K
  try simp only [Act.put, List.setIfInBounds_toArray, List.set_cons_zero, List.set_cons_succ]
  refine take_h (i := 33) (v := ?_) rfl rfl (by kernel_rfl) (by kernel_rfl) (by kernel_rfl) (fun _ _ _ h => h) (Or.inl ⟨by rfl, fun W hSw => ?_⟩) (by assumption) ?_
  rotate_left
  · (clear hSw; go_simp; try with_reducible rfl)
  simp only [Act.put, List.setIfInBounds_toArray, List.set_cons_zero, List.set_cons_succ]
  refine take_h (i := 34) (v := ?_) rfl rfl (by kernel_rfl) (by kernel_rfl) (by kernel_rfl) (fun _ _ _ h => h) (Or.inl ⟨by rfl, fun W hSw => ?_⟩) (by assumption) ?_
  rotate_left
  · (clear hSw; go_simp; try with_reducible rfl)
  simp only [Act.put, List.setIfInBounds_toArray, List.set_cons_zero, List.set_cons_succ]
  refine take_h (i := 35) (v := ?_) rfl rfl (by kernel_rfl) (by kernel_rfl) (by kernel_rfl) (fun _ _ _ h => h) (Or.inl ⟨by rfl, fun W hSw => ?_⟩) (by assumption) ?_
  rotate_left
  · (clear hSw; go_simp; try with_reducible rfl)
  simp only [Act.put, List.setIfInBounds_toArray, List.set_cons_zero, List.set_cons_succ]
  refine step_h (i := 36) rfl rfl (by kernel_rfl) (fun K hK => ?_)
  go_simp
  refine Calls.mono (awake11 _) ?_
  rintro e w13 ⟨rfl, hB⟩
  have hz5 := Lib.hid (hz4.out.trans (hB.mono hz4.out.size))
  have hS5 := hFf.out _ hz5.out
  clear hHeld hB
  go_wp2_with fail
  refine hK.out _ _ hS5 (fun hHeld => ?_)
  clear hK K
  try simp only [Act.put, List.setIfInBounds_toArray, List.set_cons_zero, List.set_cons_succ]
  refine take_h (i := 37) (v := ?_) rfl rfl (by kernel_rfl) (by kernel_rfl) (by kernel_rfl) (fun _ _ _ h => h) (Or.inl ⟨by rfl, fun W hSw => ?_⟩) (by assumption) ?_
  rotate_left
  · (clear hSw; go_simp; try with_reducible rfl)
  simp only [Act.put, List.setIfInBounds_toArray, List.set_cons_zero, List.set_cons_succ]
  refine take_h (i := 38) (v := ?_) rfl rfl (by kernel_rfl) (by kernel_rfl) (by kernel_rfl) (fun _ _ _ h => h) (Or.inl ⟨by rfl, fun W hSw => ?_⟩) (by assumption) ?_
  rotate_left
  · (clear hSw; go_simp; try with_reducible rfl)
  simp only [Act.put, List.setIfInBounds_toArray, List.set_cons_zero, List.set_cons_succ]
  refine wpAnyH_done (by kernel_rfl) ?_ _
  clear hHeld hS0 hS1 hS2 hS3 hS4 hS5
  try simp only [Act.put]
  go_wp2_with fail
  go_ret
  exact ⟨by first | rfl | simp, hb7.out.trans (hz5.out.mono hb7.out.size)⟩
set_option maxRecDepth 100000 in
set_option maxHeartbeats 4000000 in
theorem PortsBytes_walk (A : Option Addr) (n c : Nat) (bs : List Int) (addr port : Int) (w : World) (h : RB w A n c bs) (hx0 : -9223372036854775808 ≤ addr) (hx1 : addr ≤ 9223372036854775807) (hy0 : -9223372036854775808 ≤ port) (hy1 : port ≤ 9223372036854775807) :
    Calls Tryz.prog 3 #[.slice A n c, .int .i64 addr, .int .i64 port] w fun e w' => e = .returned (.bool true) ∧ Below w.heap.size w w' := by
  clear hx0 hx1 hy0 hy1
  have hb := Lib.hid (Below.refl w.heap.size w)
  by_cases c1 : 3000 < n
  · have c1i : (3000 : Int) < n := by omega
    clear h
    go_enter Tryz.func3, Tryz.ntmps3
    go_wp2_with (first
      | (go_at_call 5; refine (awake11 _).mono ?_; rintro e W1 ⟨rfl, hB⟩; have hbE := Lib.hid (hb.out.trans (hB.mono hb.out.size)); replace hB := 0)
      | fail)
    go_ret
    exact ⟨by first | rfl | simp, hbE.out⟩
  have c1i : ¬ (3000 : Int) < n := by omega
  have hP := fun W (hW : Below w.heap.size w W) => Parse4_any A n c bs W (h.below hW) (by omega)
  unfold V4Out at hP
  by_cases hk : codeV4 false bs = 0
  rotate_left
  · have hkn : (codeV4 false bs != 0) = true := by simpa using hk
    generalize codeV4 false bs = kk at *
    generalize readV4 false bs = p at *
    replace hP := Lib.hid hP
    clear h hk
    go_enter Tryz.func3, Tryz.ntmps3
    go_wp2_with (first
      | (go_at_call 6; refine (hP.out _ hb.out).mono ?_; rintro e w1 ⟨Ao, no, co, A1, n1, c1', rfl, ho1, hd1, hB1⟩; have hb1 := Lib.hid (hB1.alloc hB1.size (.cells (cells4 p Ao no co A1 n1 c1') 25)); clear ho1 hd1; replace hB1 := 0)
      | (refine wpList_store_4 rfl (.tmp 7) (.tmp 24) rfl w1.heap.size (cells4 p Ao no co A1 n1 c1') rfl rfl _ (Blk.new _ zero4c 25) rfl rfl (one4 _ _ _ _ _ _ _) ?_; rw [World.setRow_alloc_new])
      | (go_at_call 5; refine (awake11 _).mono ?_; rintro e W1 ⟨rfl, hB⟩; have hbE := Lib.hid (hb1.out.trans (hB.mono hb1.out.size)); replace hB := 0)
      | fail)
    go_ret
    exact ⟨by first | rfl | simp, hbE.out⟩
  have hch := readV4_chk hk
  rw [hk] at hP
  generalize readV4 false bs = p at *
  obtain ⟨_, _, _, _, _, _, _, l1, _, l2, _⟩ := chk4_all hch
  have hO := fun Ao no co A n c W (h1 : RB W Ao no co p.opts) (h2 : RB W A n c p.data) => PortsOf_any p Ao no co A n c W h1 h2 (by have := h1.len; omega) (by have := h2.len; omega)
  have hRO := fun Ao no co A n c W (h1 : RB W Ao no co p.opts) (h2 : RB W A n c p.data) => RefPortsOf_any p Ao no co A n c W h1 h2 (by have := h1.len; omega) (by have := h2.len; omega)
  have hF := fun Ao no co A n c W (h1 : RB W Ao no co p.opts) (h2 : RB W A n c p.data) => PortsFrom_any p addr port Ao no co A n c W h1 h2 (by have := h1.len; omega) (by have := h2.len; omega)
  have hRF := fun Ao no co A n c W (h1 : RB W Ao no co p.opts) (h2 : RB W A n c p.data) => RefPortsFrom_any p addr port Ao no co A n c W h1 h2 (by have := h1.len; omega) (by have := h2.len; omega)
  unfold PortsOut at hO hRO
  unfold MovOut at hF hRF
  obtain ⟨xx, hxx⟩ : ∃ xx, portsP p = xx := ⟨_, rfl⟩
  obtain ⟨kk, hkk⟩ : ∃ kk, codeP p = kk := ⟨_, rfl⟩
  rw [hxx, hkk] at hO hRO
  generalize fromP p addr port = q at *
  generalize codeM p addr port = km at *
  replace hP := Lib.hid hP
  replace hO := Lib.hid hO
  replace hRO := Lib.hid hRO
  replace hF := Lib.hid hF
  replace hRF := Lib.hid hRF
  clear h hk hch l1 l2 hxx hkk
  go_enter Tryz.func3, Tryz.ntmps3
  go_wp2_with (first
    | (go_at_call 6; refine (hP.out _ hb.out).mono ?_; rintro e w1 ⟨Ao, no, co, A1, n1, c1', rfl, ho1, hd1, hB1⟩; have hb1 := Lib.hid (hB1.alloc hB1.size (.cells (cells4 p Ao no co A1 n1 c1') 25)); have kB1 := Lib.hid (Blk.new w1 (cells4 p Ao no co A1 n1 c1') 25); have ro1 := Lib.hid (ho1.rb.alloc (.cells (cells4 p Ao no co A1 n1 c1') 25)); have rd1 := Lib.hid (hd1.rb.alloc (.cells (cells4 p Ao no co A1 n1 c1') 25)); clear ho1 hd1; replace hB1 := 0)
    | (refine wpList_store_4 rfl (.tmp 7) (.tmp 24) rfl w1.heap.size (cells4 p Ao no co A1 n1 c1') rfl rfl _ (Blk.new _ zero4c 25) rfl rfl (one4 _ _ _ _ _ _ _) ?_; rw [World.setRow_alloc_new])
    | (refine wpList_load_4 rfl (.tmp 7) rfl w1.heap.size rfl _ kB1.out rfl ?_)
    | (refine wpList_load_4 rfl (.tmp 7) rfl w1.heap.size rfl _ kB2.out rfl ?_)
    | (refine wpList_load_4 rfl (.tmp 7) rfl w1.heap.size rfl _ kB3.out rfl ?_)
    | (refine wpList_load_4 rfl (.tmp 7) rfl w1.heap.size rfl _ kB4.out rfl ?_)
    | (go_at_call 7; refine (hO.out _ _ _ _ _ _ _ ro1.out rd1.out).mono ?_; rintro e w2 ⟨rfl, hB⟩; have hy := hB.alloc hB.size (.cells (cellsPo xx) 30); have hb2 := Lib.hid (hb1.out.trans (hy.mono hb1.out.size)); have kB2 := Lib.hid (kB1.out.to hy); have ro2 := Lib.hid (ro1.out.below hy); have rd2 := Lib.hid (rd1.out.below hy); have kx2 := Lib.hid (Blk.new w2 (cellsPo xx) 30); clear kB1 hB; replace hy := 0)
    | (go_at_call 8; refine (hRO.out _ _ _ _ _ _ _ ro2.out rd2.out).mono ?_; rintro e w3 ⟨rfl, hB⟩; have hy := hB.alloc hB.size (.cells (cellsPo xx) 30); have hb3 := Lib.hid (hb2.out.trans (hy.mono hb2.out.size)); have kB3 := Lib.hid (kB2.out.to hy); have ro3 := Lib.hid (ro2.out.below hy); have rd3 := Lib.hid (rd2.out.below hy); have kx3 := Lib.hid (kx2.out.to hy); have ky3 := Lib.hid (Blk.new w3 (cellsPo xx) 30); clear kB2 hB; replace hy := 0)
    | (go_at_call 9; refine (hF.out _ _ _ _ _ _ _ ro3.out rd3.out).mono ?_; rintro e w4 ⟨B1, b1, d1, C1, m1, f1, rfl, hqo, hqd, hB⟩; have hy := hB.alloc hB.size (.cells (cells4 q B1 b1 d1 C1 m1 f1) 25); have hb4 := Lib.hid (hb3.out.trans (hy.mono hb3.out.size)); have kB4 := Lib.hid (kB3.out.to hy); have ro4 := Lib.hid (ro3.out.below hy); have rd4 := Lib.hid (rd3.out.below hy); have kx4 := Lib.hid (kx3.out.to hy); have ky4 := Lib.hid (ky3.out.to hy); have kq4 := Lib.hid (Blk.new w4 (cells4 q B1 b1 d1 C1 m1 f1) 25); have hq4 := Lib.hid (And.intro (hqo.alloc (.cells (cells4 q B1 b1 d1 C1 m1 f1) 25)) (hqd.alloc (.cells (cells4 q B1 b1 d1 C1 m1 f1) 25))); clear kB3 hB hqo hqd; replace hy := 0)
    | (refine wpList_store_4 rfl (.tmp 13) (.tmp 44) rfl w4.heap.size (cells4 q B1 b1 d1 C1 m1 f1) rfl rfl _ (Blk.new _ zero4c 25) rfl rfl (one4 _ _ _ _ _ _ _) ?_; rw [World.setRow_alloc_new])
    | (go_at_call 10; refine (hRF.out _ _ _ _ _ _ _ ro4.out rd4.out).mono ?_; rintro e w5 ⟨B2, b2, d2, C2, m2, f2, rfl, hqo, hqd, hB⟩; have hy := hB.alloc hB.size (.cells (cells4 q B2 b2 d2 C2 m2 f2) 25); have hb5 := Lib.hid (hb4.out.trans (hy.mono hb4.out.size)); have kx5 := Lib.hid (kx4.out.to hy); have ky5 := Lib.hid (ky4.out.to hy); have kq5 := Lib.hid (kq4.out.to hy); have hq5 := Lib.hid (And.intro (hq4.out.1.below hy) (hq4.out.2.below hy)); have kr5 := Lib.hid (Blk.new w5 (cells4 q B2 b2 d2 C2 m2 f2) 25); have hr5 := Lib.hid (And.intro (hqo.alloc (.cells (cells4 q B2 b2 d2 C2 m2 f2) 25)) (hqd.alloc (.cells (cells4 q B2 b2 d2 C2 m2 f2) 25))); clear kB4 hB hqo hqd; replace hy := 0)
    | (refine wpList_store_4 rfl (.tmp 15) (.tmp 51) rfl w5.heap.size (cells4 q B2 b2 d2 C2 m2 f2) rfl rfl _ (Blk.new _ zero4c 25) rfl rfl (one4 _ _ _ _ _ _ _) ?_; rw [World.setRow_alloc_new])
    | (refine wpList_load_PO rfl (.tmp 9) rfl w2.heap.size rfl _ kx5.out rfl ?_)
    | (refine wpList_load_PO rfl (.tmp 11) rfl w3.heap.size rfl _ ky5.out rfl ?_)
    | (refine wpList_load_4 rfl (.tmp 13) rfl w4.heap.size rfl _ kq5.out rfl ?_)
    | (refine wpList_load_4 rfl (.tmp 15) rfl w5.heap.size rfl _ kr5.out rfl ?_)
    | (go_at_call 11; refine (Same4_in (q := q) ⟨B1, b1, d1, C1, m1, f1, rfl, hq5.out.1, hq5.out.2⟩ ⟨B2, b2, d2, C2, m2, f2, rfl, hr5.out.1, hr5.out.2⟩).mono ?_; rintro e w8 ⟨rfl, hB8⟩; have hb8 := Lib.hid (hb5.out.trans (hB8.mono hb5.out.size)); replace hB8 := 0)
    | (go_at_call 5; refine (awake11 _).mono ?_; rintro e W1 ⟨rfl, hB⟩; have hbE := Lib.hid (hb8.out.trans (hB.mono hb8.out.size)); replace hB := 0)
    | fail)
  go_ret
  exact ⟨by first | rfl | simp, hbE.out⟩
end Go.Proofs.YtehecefapiblpaaGreat
