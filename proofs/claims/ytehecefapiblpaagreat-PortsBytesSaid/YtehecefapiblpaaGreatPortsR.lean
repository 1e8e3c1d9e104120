/- Ports of a packet (the reference): icmp, Of. -/
import Derived.Test.YtehecefapiblpaaGreatPortsO
import Derived.Test.YtehecefapiblpaaGreatUdpPR
import Derived.Test.YtehecefapiblpaaGreatTcpPR
import Derived.Test.YtehecefapiblpaaGreatIcmpT
import Derived.Test.YtehecefapiblpaaGreatV4R
set_option linter.unusedVariables false
namespace Go.Proofs.YtehecefapiblpaaGreat
open Go Go.RowKit

def icmpX (p : V4P) : (Int × Int × Int) × Int := if codeI p.data ≠ 0 then ((0, 0, 0), codeI p.data) else if queryI (readI p.data).t = true then ((1, idI (readI p.data), idI (readI p.data)), 0) else ((0, 0, 0), 8)
def PoOut (w : World) (x : Int × Int × Int) (k : Int) (e : Ending) (w' : World) : Prop := e = .returned (.tuple #[.agg (cellsPo x), .int .i64 k]) ∧ Below w.heap.size w w'
set_option maxRecDepth 100000 in
set_option maxHeartbeats 2000000 in
theorem RefIcmp11_any (p : V4P) (ao : Option Addr) (no co : Nat) (a : Option Addr) (n c : Nat) (w : World) (hr : RB w a n c p.data) :
    Calls Tryz.prog 27 #[.agg (cells4 p ao no co a n c)] w (PoOut w (icmpX p).1 (icmpX p).2) := by
  obtain ⟨w0, hw0⟩ : ∃ w0, (w.alloc (.cells (cells4 p ao no co a n c) 25)).alloc (.cells (cellsPo (0, 0, 0)) 30) = w0 := ⟨_, rfl⟩
  have hb0 := (Below.refl _ w).alloc (Nat.le_refl _) (.cells (cells4 p ao no co a n c) 25)
  have hb := Lib.hid (show Below w.heap.size w w0 by rw [← hw0]; exact hb0.alloc hb0.size _)
  have kB := show Blk w0 w.heap.size (cells4 p ao no co a n c) 25 by rw [← hw0]; exact (Blk.new w _ _).alloc _
  have kZ := Lib.hid (show Blk w0 (w.heap.size + 1) (cellsPo (0, 0, 0)) 30 by
    rw [← hw0]
    have := Blk.new (w.alloc (.cells (cells4 p ao no co a n c) 25)) (cellsPo (0, 0, 0)) 30
    rwa [World.size_alloc] at this)
  have hP := fun W (hW : Below w.heap.size w W) => RefIcmpParse_any a n c p.data W (hr.below hW)
  unfold IcmpOut at hP
  have hQ := fun W => RefQuery_any (readI p.data).t W
  have hX : icmpX p = if codeI p.data ≠ 0 then ((0, 0, 0), codeI p.data) else if queryI (readI p.data).t = true then ((1, idI (readI p.data), idI (readI p.data)), 0) else ((0, 0, 0), 8) := rfl
  generalize icmpX p = X at *
  generalize readI p.data = u at *
  replace hw0 := Lib.hid hw0
  clear hb0 hr
  by_cases hci : codeI p.data = 0
  · rw [hci] at hP hX
    rw [if_neg (show ¬ (0 : Int) ≠ 0 by decide)] at hX
    replace hP := Lib.hid hP
    obtain ⟨qb, hqb⟩ : ∃ qb, queryI u.t = qb := ⟨_, rfl⟩
    rw [hqb] at hQ hX
    replace hQ := Lib.hid hQ
    clear hqb hci
    cases qb
    · obtain rfl : X = ((0, 0, 0), 8) := hX
      go_enter Tryz.func27, Tryz.ntmps27
      go_wp2_with (first
        | (rw [hw0.out]; go_at_call 52; refine (hP.out _ hb.out).mono ?_; rintro e w3 ⟨A3, n3, c3, rfl, ho3, hB3⟩; have hb3 := hb.out.trans (hB3.mono hb.out.size); have hb4 := Lib.hid (hb3.alloc hb3.size (.cells (cellsI u A3 n3 c3) 81)); have kZ4 := Lib.hid ((kZ.out.to hB3).alloc (.cells (cellsI u A3 n3 c3) 81)); have k4 := Lib.hid (Blk.new w3 (cellsI u A3 n3 c3) 81); clear hb3 ho3; replace hB3 := 0)
        | (refine wpList_store_PO rfl (.tmp 2) (.tmp 21) rfl (w.heap.size + 1) (cellsPo (0, 0, 0)) rfl rfl _ kZ6.out rfl rfl (one_po _) ?_)
        | (refine wpList_store_PO rfl (.tmp 2) (.tmp 21) rfl (w.heap.size + 1) (cellsPo (0, 0, 0)) rfl rfl _ kZ5.out rfl rfl (one_po _) ?_)
        | (go_at_call 53; refine (toB (hQ.out _)).mono ?_; rintro e w5 ⟨rfl, hB5⟩; have hb5 := Lib.hid (hb4.out.trans (hB5.mono hb4.out.size)); have kZ5 := Lib.hid (kZ4.out.to hB5); have k5 := k4.out.to hB5; have y0 := k5.cell 0 _ rfl; have y1 := k5.cell 1 _ rfl; have y2 := k5.cell 2 _ rfl; have y3 := k5.cell 3 _ rfl; clear k5; replace hB5 := 0)
        | (go_at_call 54; refine (RefIcmpID_any u A3 n3 c3 _).mono ?_; rintro e w6 ⟨rfl, hB6⟩; have hb6 := Lib.hid (hb5.out.trans (hB6.mono hb5.out.size)); have kZ6 := Lib.hid (kZ5.out.to hB6); replace hB6 := 0)
        | fail)
      refine bodyPost_ret (results_ct Tryz.results27 rfl (run_load_PO (Blk.mk (setRow_heap _ _ _ _ _ _ kZ5.out.at_)) rfl)) rfl ?_
      exact ⟨rfl, below_setRow hb5.out (Nat.le_succ _) _⟩
    · obtain rfl : X = ((1, idI u, idI u), 0) := hX
      go_enter Tryz.func27, Tryz.ntmps27
      go_wp2_with (first
        | (rw [hw0.out]; go_at_call 52; refine (hP.out _ hb.out).mono ?_; rintro e w3 ⟨A3, n3, c3, rfl, ho3, hB3⟩; have hb3 := hb.out.trans (hB3.mono hb.out.size); have hb4 := Lib.hid (hb3.alloc hb3.size (.cells (cellsI u A3 n3 c3) 81)); have kZ4 := Lib.hid ((kZ.out.to hB3).alloc (.cells (cellsI u A3 n3 c3) 81)); have k4 := Lib.hid (Blk.new w3 (cellsI u A3 n3 c3) 81); clear hb3 ho3; replace hB3 := 0)
        | (refine wpList_store_PO rfl (.tmp 2) (.tmp 26) rfl (w.heap.size + 1) (cellsPo (1, idI u, idI u)) rfl rfl _ kZ6.out rfl rfl (one_po _) ?_)
        | (refine wpList_store_PO rfl (.tmp 2) (.tmp 26) rfl (w.heap.size + 1) (cellsPo (1, idI u, idI u)) rfl rfl _ kZ5.out rfl rfl (one_po _) ?_)
        | (go_at_call 53; refine (toB (hQ.out _)).mono ?_; rintro e w5 ⟨rfl, hB5⟩; have hb5 := Lib.hid (hb4.out.trans (hB5.mono hb4.out.size)); have kZ5 := Lib.hid (kZ4.out.to hB5); have k5 := k4.out.to hB5; have y0 := k5.cell 0 _ rfl; have y1 := k5.cell 1 _ rfl; have y2 := k5.cell 2 _ rfl; have y3 := k5.cell 3 _ rfl; clear k5; replace hB5 := 0)
        | (go_at_call 54; refine (RefIcmpID_any u A3 n3 c3 _).mono ?_; rintro e w6 ⟨rfl, hB6⟩; have hb6 := Lib.hid (hb5.out.trans (hB6.mono hb5.out.size)); have kZ6 := Lib.hid (kZ5.out.to hB6); replace hB6 := 0)
        | fail)
      refine bodyPost_ret (results_ct Tryz.results27 rfl (run_load_PO (Blk.mk (setRow_heap _ _ _ _ _ _ kZ6.out.at_)) rfl)) rfl ?_
      exact ⟨rfl, below_setRow hb6.out (Nat.le_succ _) _⟩
  · have hcn : (codeI p.data != 0) = true := by simpa using hci
    rw [if_pos hci] at hX
    generalize codeI p.data = k at *
    obtain rfl : X = ((0, 0, 0), k) := hX
    replace hP := Lib.hid hP
    clear hci hQ
    go_enter Tryz.func27, Tryz.ntmps27
    go_wp2_with (first
      | (rw [hw0.out]; go_at_call 52; refine (hP.out _ hb.out).mono ?_; rintro e w3 ⟨A3, n3, c3, rfl, ho3, hB3⟩; have hb3 := hb.out.trans (hB3.mono hb.out.size); have hb4 := Lib.hid (hb3.alloc hb3.size (.cells (cellsI u A3 n3 c3) 81)); have kZ4 := Lib.hid ((kZ.out.to hB3).alloc (.cells (cellsI u A3 n3 c3) 81)); clear hb3 ho3; replace hB3 := 0)
      | (refine wpList_store_PO rfl (.tmp 2) (.tmp 15) rfl (w.heap.size + 1) (cellsPo (0, 0, 0)) rfl rfl _ kZ4.out rfl rfl (one_po _) ?_)
      | fail)
    refine bodyPost_ret (results_ct Tryz.results27 rfl (run_load_PO (Blk.mk (setRow_heap _ _ _ _ _ _ kZ4.out.at_)) rfl)) rfl ?_
    exact ⟨rfl, below_setRow hb4.out (Nat.le_succ _) _⟩
theorem portsP_no {p : V4P} (h : codeP p ≠ 0) : portsP p = (0, 0, 0) := by unfold portsP; rw [if_pos h]
set_option maxRecDepth 100000 in
set_option maxHeartbeats 4000000 in
theorem RefPortsOf_any (p : V4P) (ao : Option Addr) (no co : Nat) (a : Option Addr) (n c : Nat) (w : World) (hro : RB w ao no co p.opts) (hr : RB w a n c p.data) (hno : no ≤ 100000) (hn : n ≤ 100000) :
    Calls Tryz.prog 8 #[.agg (cells4 p ao no co a n c)] w (PortsOut w p) := by
  obtain ⟨w0, hw0⟩ : ∃ w0, (w.alloc (.cells (cells4 p ao no co a n c) 25)).alloc (.cells (cellsPo (0, 0, 0)) 30) = w0 := ⟨_, rfl⟩
  have hb0 := (Below.refl _ w).alloc (Nat.le_refl _) (.cells (cells4 p ao no co a n c) 25)
  have hb := Lib.hid (show Below w.heap.size w w0 by rw [← hw0]; exact hb0.alloc hb0.size _)
  have kB := Lib.hid (show Blk w0 w.heap.size (cells4 p ao no co a n c) 25 by rw [← hw0]; exact (Blk.new w _ _).alloc _)
  have kZ := Lib.hid (show Blk w0 (w.heap.size + 1) (cellsPo (0, 0, 0)) 30 by
    rw [← hw0]
    have := Blk.new (w.alloc (.cells (cells4 p ao no co a n c) 25)) (cellsPo (0, 0, 0)) 30
    rwa [World.size_alloc] at this)
  have hck : chk4 p = checkV4 p no n := by unfold chk4; rw [hro.len, hr.len]
  have hK := fun W => RefCheck4_any p ao no co a n c W hno hn
  have hWh := fun W => RefWhole4_any p ao no co a n c W
  replace hw0 := Lib.hid hw0
  clear hb0
  by_cases hc : checkV4 p no n = 0
  rotate_left
  · have hcp := Lib.hid (show codeP p = checkV4 p no n by unfold codeP; rw [hck, if_pos hc])
    have hcn : (checkV4 p no n != 0) = true := by simpa using hc
    have hc' := Lib.hid hc
    generalize checkV4 p no n = k at *
    replace hK := Lib.hid hK
    replace hWh := Lib.hid hWh
    clear hc hck hro hr
    go_enter Tryz.func8, Tryz.ntmps8
    go_wp2_with (first
      | (rw [hw0.out]; refine wpList_load_4 rfl (.tmp 1) rfl w.heap.size rfl _ kB.out rfl ?_)
      | (refine wpList_load_4 rfl (.tmp 1) rfl w.heap.size rfl _ kB2.out rfl ?_)
      | (refine wpList_load_4 rfl (.tmp 1) rfl w.heap.size rfl _ kB1.out rfl ?_)
      | (go_at_call 23; refine (hK.out _).mono ?_; rintro e w1 ⟨rfl, hB1⟩; have kB1 := Lib.hid (kB.out.to hB1); have kZ1 := Lib.hid (kZ.out.to hB1); have hb1 := Lib.hid (hb.out.trans (hB1.mono hb.out.size)); replace hB1 := 0)
      | (go_at_call 24; refine (hWh.out _).mono ?_; rintro e w2 ⟨rfl, hB2⟩; have kB2' := kB1.out.to hB2; have kZ2 := Lib.hid (kZ1.out.to hB2); have hb2 := Lib.hid (hb1.out.trans (hB2.mono hb1.out.size)); have c4 := kB2'.cell 4 _ rfl; have c5 := kB2'.cell 5 _ rfl; have c6 := kB2'.cell 6 _ rfl; have c10 := kB2'.cell 10 _ rfl; have kB2 := Lib.hid kB2'; clear kB2'; replace hB2 := 0)
      | (refine wpList_store_PO rfl (.tmp 2) (.tmp 13) rfl (w.heap.size + 1) (cellsPo (0, 0, 0)) rfl rfl _ kZ1.out rfl rfl (one_po _) ?_; rw [setRow_self _ _ _ _ _ kZ1.out.at_])
      | fail)
    refine bodyPost_ret (results_ct Tryz.results8 rfl (run_load_PO kZ1.out rfl)) rfl ?_
    exact PortsOut.no hcp.out hc'.out hb1.out
  rw [hc] at hck hK
  replace hK := Lib.hid hK
  by_cases hw : wholeB p = true
  rotate_left
  · have hwf : wholeB p = false := by simpa using hw
    have hcp := Lib.hid (show codeP p = 4 by unfold codeP; rw [hck, if_neg (by decide), if_pos hwf])
    rw [hwf] at hWh
    replace hWh := Lib.hid hWh
    clear hc hck hw hwf hro hr
    go_enter Tryz.func8, Tryz.ntmps8
    go_wp2_with (first
      | (rw [hw0.out]; refine wpList_load_4 rfl (.tmp 1) rfl w.heap.size rfl _ kB.out rfl ?_)
      | (refine wpList_load_4 rfl (.tmp 1) rfl w.heap.size rfl _ kB2.out rfl ?_)
      | (refine wpList_load_4 rfl (.tmp 1) rfl w.heap.size rfl _ kB1.out rfl ?_)
      | (go_at_call 23; refine (hK.out _).mono ?_; rintro e w1 ⟨rfl, hB1⟩; have kB1 := Lib.hid (kB.out.to hB1); have kZ1 := Lib.hid (kZ.out.to hB1); have hb1 := Lib.hid (hb.out.trans (hB1.mono hb.out.size)); replace hB1 := 0)
      | (go_at_call 24; refine (hWh.out _).mono ?_; rintro e w2 ⟨rfl, hB2⟩; have kB2' := kB1.out.to hB2; have kZ2 := Lib.hid (kZ1.out.to hB2); have hb2 := Lib.hid (hb1.out.trans (hB2.mono hb1.out.size)); have c4 := kB2'.cell 4 _ rfl; have c5 := kB2'.cell 5 _ rfl; have c6 := kB2'.cell 6 _ rfl; have c10 := kB2'.cell 10 _ rfl; have kB2 := Lib.hid kB2'; clear kB2'; replace hB2 := 0)
      | (refine wpList_store_PO rfl (.tmp 2) (.tmp 18) rfl (w.heap.size + 1) (cellsPo (0, 0, 0)) rfl rfl _ kZ2.out rfl rfl (one_po _) ?_; rw [setRow_self _ _ _ _ _ kZ2.out.at_])
      | fail)
    refine bodyPost_ret (results_ct Tryz.results8 rfl (run_load_PO kZ2.out rfl)) rfl ?_
    exact PortsOut.no hcp.out (by decide) hb2.out
  rw [hw] at hWh
  replace hWh := Lib.hid hWh
  have hcode : codeP p = if p.pr = 17 then codeU p.src p.dst p.data else if p.pr = 6 then codeT p.src p.dst p.data else if p.pr = 1 then (if codeI p.data ≠ 0 then codeI p.data else if queryI (readI p.data).t = true then 0 else 8) else 8 := by
    unfold codeP; rw [hck, if_neg (by decide), if_neg (by rw [hw]; decide)]
  have hpp : codeP p = 0 → portsP p = if p.pr = 17 then (17, (readU p.src p.dst p.data).s, (readU p.src p.dst p.data).d) else if p.pr = 6 then (6, (readT p.src p.dst p.data).s, (readT p.src p.dst p.data).d) else (1, idI (readI p.data), idI (readI p.data)) := fun h => by
    unfold portsP; rw [if_neg (by omega)]
  have hR := Lib.hid (fun W (hW : Below w.heap.size w W) => hr.below hW)
  clear hc hck hw hro hr
  by_cases p17 : p.pr = 17
  · have q17 : (p.pr == 17) = true := by simpa using p17
    have hcp := hcode.trans (if_pos p17)
    have hpq := fun h => (hpp h).trans (if_pos p17)
    have hP := fun W (hW : Below w.heap.size w W) => RefUdpParse_any p.src p.dst a n c p.data W (hR.out _ hW) hn
    unfold UdpOut at hP
    generalize readU p.src p.dst p.data = u at *
    by_cases hk : codeU p.src p.dst p.data = 0
    · have hc0 := hcp.trans hk
      have hpx := Lib.hid (hpq hc0)
      have hc0' := Lib.hid hc0
      rw [hk] at hP
      replace hP := Lib.hid hP
      clear hcp hpq hk hc0 hcode hpp p17
      go_enter Tryz.func8, Tryz.ntmps8
      go_wp2_with (first
        | (rw [hw0.out]; refine wpList_load_4 rfl (.tmp 1) rfl w.heap.size rfl _ kB.out rfl ?_)
        | (refine wpList_load_4 rfl (.tmp 1) rfl w.heap.size rfl _ kB2.out rfl ?_)
        | (refine wpList_load_4 rfl (.tmp 1) rfl w.heap.size rfl _ kB1.out rfl ?_)
        | (go_at_call 23; refine (hK.out _).mono ?_; rintro e w1 ⟨rfl, hB1⟩; have kB1 := Lib.hid (kB.out.to hB1); have kZ1 := Lib.hid (kZ.out.to hB1); have hb1 := Lib.hid (hb.out.trans (hB1.mono hb.out.size)); replace hB1 := 0)
        | (go_at_call 24; refine (hWh.out _).mono ?_; rintro e w2 ⟨rfl, hB2⟩; have kB2' := kB1.out.to hB2; have kZ2 := Lib.hid (kZ1.out.to hB2); have hb2 := Lib.hid (hb1.out.trans (hB2.mono hb1.out.size)); have c4 := kB2'.cell 4 _ rfl; have c5 := kB2'.cell 5 _ rfl; have c6 := kB2'.cell 6 _ rfl; have c10 := kB2'.cell 10 _ rfl; have kB2 := Lib.hid kB2'; clear kB2'; replace hB2 := 0)
        | (go_at_call 25; refine (hP.out _ hb2.out).mono ?_; rintro e w3 ⟨A3, n3, c3, rfl, ho3, hB3⟩; have hb3 := hb2.out.trans (hB3.mono hb2.out.size); have hb4 := Lib.hid (hb3.alloc hb3.size (.cells (cellsU u A3 n3 c3) 53)); have kZ4 := Lib.hid ((kZ2.out.to hB3).alloc (.cells (cellsU u A3 n3 c3) 53)); clear hb3 ho3; replace hB3 := 0)
        | (refine wpList_store_PO rfl (.tmp 2) (.tmp 41) rfl (w.heap.size + 1) (cellsPo (17, u.s, u.d)) rfl rfl _ kZ4.out rfl rfl (one_po _) ?_)
        | fail)
      refine bodyPost_ret (results_ct Tryz.results8 rfl (run_load_PO (Blk.mk (setRow_heap _ _ _ _ _ _ kZ4.out.at_)) rfl)) rfl ?_
      exact PortsOut.yes hc0'.out hpx.out (below_setRow hb4.out (Nat.le_succ _) _)
    · have hkn : (codeU p.src p.dst p.data != 0) = true := by simpa using hk
      have hk' := Lib.hid hk
      have hcp' := Lib.hid hcp
      generalize codeU p.src p.dst p.data = k at *
      replace hP := Lib.hid hP
      clear hcp hpq hk hcode hpp p17
      go_enter Tryz.func8, Tryz.ntmps8
      go_wp2_with (first
        | (rw [hw0.out]; refine wpList_load_4 rfl (.tmp 1) rfl w.heap.size rfl _ kB.out rfl ?_)
        | (refine wpList_load_4 rfl (.tmp 1) rfl w.heap.size rfl _ kB2.out rfl ?_)
        | (refine wpList_load_4 rfl (.tmp 1) rfl w.heap.size rfl _ kB1.out rfl ?_)
        | (go_at_call 23; refine (hK.out _).mono ?_; rintro e w1 ⟨rfl, hB1⟩; have kB1 := Lib.hid (kB.out.to hB1); have kZ1 := Lib.hid (kZ.out.to hB1); have hb1 := Lib.hid (hb.out.trans (hB1.mono hb.out.size)); replace hB1 := 0)
        | (go_at_call 24; refine (hWh.out _).mono ?_; rintro e w2 ⟨rfl, hB2⟩; have kB2' := kB1.out.to hB2; have kZ2 := Lib.hid (kZ1.out.to hB2); have hb2 := Lib.hid (hb1.out.trans (hB2.mono hb1.out.size)); have c4 := kB2'.cell 4 _ rfl; have c5 := kB2'.cell 5 _ rfl; have c6 := kB2'.cell 6 _ rfl; have c10 := kB2'.cell 10 _ rfl; have kB2 := Lib.hid kB2'; clear kB2'; replace hB2 := 0)
        | (go_at_call 25; refine (hP.out _ hb2.out).mono ?_; rintro e w3 ⟨A3, n3, c3, rfl, ho3, hB3⟩; have hb3 := hb2.out.trans (hB3.mono hb2.out.size); have hb4 := Lib.hid (hb3.alloc hb3.size (.cells (cellsU u A3 n3 c3) 53)); have kZ4 := Lib.hid ((kZ2.out.to hB3).alloc (.cells (cellsU u A3 n3 c3) 53)); clear hb3 ho3; replace hB3 := 0)
        | (refine wpList_store_PO rfl (.tmp 2) (.tmp 35) rfl (w.heap.size + 1) (cellsPo (0, 0, 0)) rfl rfl _ kZ4.out rfl rfl (one_po _) ?_; rw [setRow_self _ _ _ _ _ kZ4.out.at_])
        | fail)
      refine bodyPost_ret (results_ct Tryz.results8 rfl (run_load_PO kZ4.out rfl)) rfl ?_
      exact PortsOut.no hcp'.out hk'.out hb4.out
  have q17 : (p.pr == 17) = false := by simpa using p17
  have hcode2 := hcode.trans (if_neg p17)
  have hpp2 := fun h => (hpp h).trans (if_neg p17)
  by_cases p6 : p.pr = 6
  · have q6 : (p.pr == 6) = true := by simpa using p6
    have hcp := hcode2.trans (if_pos p6)
    have hpq := fun h => (hpp2 h).trans (if_pos p6)
    have hP := fun W (hW : Below w.heap.size w W) => RefTcpParse_any p.src p.dst a n c p.data W (hR.out _ hW)
    unfold TcpOut at hP
    generalize readT p.src p.dst p.data = u at *
    by_cases hk : codeT p.src p.dst p.data = 0
    · have hc0 := hcp.trans hk
      have hpx := Lib.hid (hpq hc0)
      have hc0' := Lib.hid hc0
      rw [hk] at hP
      replace hP := Lib.hid hP
      clear hcp hpq hk hc0 hcode hpp p17 p6 hcode2 hpp2
      go_enter Tryz.func8, Tryz.ntmps8
      go_wp2_with (first
        | (rw [hw0.out]; refine wpList_load_4 rfl (.tmp 1) rfl w.heap.size rfl _ kB.out rfl ?_)
        | (refine wpList_load_4 rfl (.tmp 1) rfl w.heap.size rfl _ kB2.out rfl ?_)
        | (refine wpList_load_4 rfl (.tmp 1) rfl w.heap.size rfl _ kB1.out rfl ?_)
        | (go_at_call 23; refine (hK.out _).mono ?_; rintro e w1 ⟨rfl, hB1⟩; have kB1 := Lib.hid (kB.out.to hB1); have kZ1 := Lib.hid (kZ.out.to hB1); have hb1 := Lib.hid (hb.out.trans (hB1.mono hb.out.size)); replace hB1 := 0)
        | (go_at_call 24; refine (hWh.out _).mono ?_; rintro e w2 ⟨rfl, hB2⟩; have kB2' := kB1.out.to hB2; have kZ2 := Lib.hid (kZ1.out.to hB2); have hb2 := Lib.hid (hb1.out.trans (hB2.mono hb1.out.size)); have c4 := kB2'.cell 4 _ rfl; have c5 := kB2'.cell 5 _ rfl; have c6 := kB2'.cell 6 _ rfl; have c10 := kB2'.cell 10 _ rfl; have kB2 := Lib.hid kB2'; clear kB2'; replace hB2 := 0)
        | (refine wpList_store_T rfl (.tmp 7) (.tmp 52) rfl w3.heap.size (cellsT u A4 n4 c4' A3 n3 c3) rfl rfl _ (Blk.new _ zeroT 57) rfl rfl (one_T _ _ _ _ _ _ _) ?_; rw [World.setRow_alloc_new])
        | (go_at_call 26; refine (hP.out _ hb2.out).mono ?_; rintro e w3 ⟨A4, n4, c4', A3, n3, c3, rfl, ho4, ho3, hB3⟩; have hb3 := hb2.out.trans (hB3.mono hb2.out.size); have hb4 := Lib.hid (hb3.alloc hb3.size (.cells (cellsT u A4 n4 c4' A3 n3 c3) 57)); have kZ4 := Lib.hid ((kZ2.out.to hB3).alloc (.cells (cellsT u A4 n4 c4' A3 n3 c3) 57)); have k4 := Blk.new w3 (cellsT u A4 n4 c4' A3 n3 c3) 57; have y0 := k4.cell 0 _ rfl; have y1 := k4.cell 1 _ rfl; clear hb3 ho3 ho4 k4; replace hB3 := 0)
        | (refine wpList_store_PO rfl (.tmp 2) (.tmp 62) rfl (w.heap.size + 1) (cellsPo (6, u.s, u.d)) rfl rfl _ kZ4.out rfl rfl (one_po _) ?_)
        | fail)
      refine bodyPost_ret (results_ct Tryz.results8 rfl (run_load_PO (Blk.mk (setRow_heap _ _ _ _ _ _ kZ4.out.at_)) rfl)) rfl ?_
      exact PortsOut.yes hc0'.out hpx.out (below_setRow hb4.out (Nat.le_succ _) _)
    · have hkn : (codeT p.src p.dst p.data != 0) = true := by simpa using hk
      have hk' := Lib.hid hk
      have hcp' := Lib.hid hcp
      generalize codeT p.src p.dst p.data = k at *
      replace hP := Lib.hid hP
      clear hcp hpq hk hcode hpp p17 p6 hcode2 hpp2
      go_enter Tryz.func8, Tryz.ntmps8
      go_wp2_with (first
        | (rw [hw0.out]; refine wpList_load_4 rfl (.tmp 1) rfl w.heap.size rfl _ kB.out rfl ?_)
        | (refine wpList_load_4 rfl (.tmp 1) rfl w.heap.size rfl _ kB2.out rfl ?_)
        | (refine wpList_load_4 rfl (.tmp 1) rfl w.heap.size rfl _ kB1.out rfl ?_)
        | (go_at_call 23; refine (hK.out _).mono ?_; rintro e w1 ⟨rfl, hB1⟩; have kB1 := Lib.hid (kB.out.to hB1); have kZ1 := Lib.hid (kZ.out.to hB1); have hb1 := Lib.hid (hb.out.trans (hB1.mono hb.out.size)); replace hB1 := 0)
        | (go_at_call 24; refine (hWh.out _).mono ?_; rintro e w2 ⟨rfl, hB2⟩; have kB2' := kB1.out.to hB2; have kZ2 := Lib.hid (kZ1.out.to hB2); have hb2 := Lib.hid (hb1.out.trans (hB2.mono hb1.out.size)); have c4 := kB2'.cell 4 _ rfl; have c5 := kB2'.cell 5 _ rfl; have c6 := kB2'.cell 6 _ rfl; have c10 := kB2'.cell 10 _ rfl; have kB2 := Lib.hid kB2'; clear kB2'; replace hB2 := 0)
        | (refine wpList_store_T rfl (.tmp 7) (.tmp 52) rfl w3.heap.size (cellsT u A4 n4 c4' A3 n3 c3) rfl rfl _ (Blk.new _ zeroT 57) rfl rfl (one_T _ _ _ _ _ _ _) ?_; rw [World.setRow_alloc_new])
        | (go_at_call 26; refine (hP.out _ hb2.out).mono ?_; rintro e w3 ⟨A4, n4, c4', A3, n3, c3, rfl, ho4, ho3, hB3⟩; have hb3 := hb2.out.trans (hB3.mono hb2.out.size); have hb4 := Lib.hid (hb3.alloc hb3.size (.cells (cellsT u A4 n4 c4' A3 n3 c3) 57)); have kZ4 := Lib.hid ((kZ2.out.to hB3).alloc (.cells (cellsT u A4 n4 c4' A3 n3 c3) 57)); clear hb3 ho3 ho4; replace hB3 := 0)
        | (refine wpList_store_PO rfl (.tmp 2) (.tmp 56) rfl (w.heap.size + 1) (cellsPo (0, 0, 0)) rfl rfl _ kZ4.out rfl rfl (one_po _) ?_; rw [setRow_self _ _ _ _ _ kZ4.out.at_])
        | fail)
      refine bodyPost_ret (results_ct Tryz.results8 rfl (run_load_PO kZ4.out rfl)) rfl ?_
      exact PortsOut.no hcp'.out hk'.out hb4.out
  have q6 : (p.pr == 6) = false := by simpa using p6
  have hcode3 := hcode2.trans (if_neg p6)
  have hpp3 := fun h => (hpp2 h).trans (if_neg p6)
  by_cases p1 : p.pr = 1
  rotate_left
  · have q1 : (p.pr == 1) = false := by simpa using p1
    have hcp := Lib.hid (hcode3.trans (if_neg p1))
    clear p1 p6 p17 hcode hcode2 hcode3 hpp hpp2 hpp3
    go_enter Tryz.func8, Tryz.ntmps8
    go_wp2_with (first
      | (rw [hw0.out]; refine wpList_load_4 rfl (.tmp 1) rfl w.heap.size rfl _ kB.out rfl ?_)
      | (refine wpList_load_4 rfl (.tmp 1) rfl w.heap.size rfl _ kB2.out rfl ?_)
      | (refine wpList_load_4 rfl (.tmp 1) rfl w.heap.size rfl _ kB1.out rfl ?_)
      | (go_at_call 23; refine (hK.out _).mono ?_; rintro e w1 ⟨rfl, hB1⟩; have kB1 := Lib.hid (kB.out.to hB1); have kZ1 := Lib.hid (kZ.out.to hB1); have hb1 := Lib.hid (hb.out.trans (hB1.mono hb.out.size)); replace hB1 := 0)
      | (go_at_call 24; refine (hWh.out _).mono ?_; rintro e w2 ⟨rfl, hB2⟩; have kB2' := kB1.out.to hB2; have kZ2 := Lib.hid (kZ1.out.to hB2); have hb2 := Lib.hid (hb1.out.trans (hB2.mono hb1.out.size)); have c4 := kB2'.cell 4 _ rfl; have c5 := kB2'.cell 5 _ rfl; have c6 := kB2'.cell 6 _ rfl; have c10 := kB2'.cell 10 _ rfl; have kB2 := Lib.hid kB2'; clear kB2'; replace hB2 := 0)
      | (refine wpList_store_PO rfl (.tmp 2) (.tmp 69) rfl (w.heap.size + 1) (cellsPo (0, 0, 0)) rfl rfl _ kZ2.out rfl rfl (one_po _) ?_; rw [setRow_self _ _ _ _ _ kZ2.out.at_])
      | fail)
    refine bodyPost_ret (results_ct Tryz.results8 rfl (run_load_PO kZ2.out rfl)) rfl ?_
    exact PortsOut.no hcp.out (by decide) hb2.out
  have q1 : (p.pr == 1) = true := by simpa using p1
  have hcode4 := hcode3.trans (if_pos p1)
  have hX : portsP p = (icmpX p).1 ∧ codeP p = (icmpX p).2 := by
    unfold icmpX
    by_cases h1 : codeI p.data = 0
    · rw [if_neg (show ¬ codeI p.data ≠ 0 by omega)] at hcode4 ⊢
      by_cases h2 : queryI (readI p.data).t = true
      · rw [if_pos h2] at hcode4 ⊢
        exact ⟨hpp3 hcode4, hcode4⟩
      · rw [if_neg h2] at hcode4 ⊢
        exact ⟨portsP_no (by omega), hcode4⟩
    · rw [if_pos h1] at hcode4 ⊢
      exact ⟨portsP_no (by omega), hcode4⟩
  have hP := fun W (hW : Below w.heap.size w W) => RefIcmp11_any p ao no co a n c W (hR.out _ hW)
  unfold PoOut at hP
  rw [← hX.1, ← hX.2] at hP
  obtain ⟨x, hx⟩ : ∃ x, portsP p = x := ⟨_, rfl⟩
  obtain ⟨k, hk⟩ : ∃ k, codeP p = k := ⟨_, rfl⟩
  rw [hx, hk] at hP
  replace hP := Lib.hid hP
  have hx' := Lib.hid hx
  have hk' := Lib.hid hk
  clear hx hk hX hcode4 p1 p6 p17 hcode hcode2 hcode3 hpp hpp2 hpp3
  go_enter Tryz.func8, Tryz.ntmps8
  go_wp2_with (first
    | (rw [hw0.out]; refine wpList_load_4 rfl (.tmp 1) rfl w.heap.size rfl _ kB.out rfl ?_)
    | (refine wpList_load_4 rfl (.tmp 1) rfl w.heap.size rfl _ kB2.out rfl ?_)
    | (refine wpList_load_4 rfl (.tmp 1) rfl w.heap.size rfl _ kB1.out rfl ?_)
    | (go_at_call 23; refine (hK.out _).mono ?_; rintro e w1 ⟨rfl, hB1⟩; have kB1 := Lib.hid (kB.out.to hB1); have kZ1 := Lib.hid (kZ.out.to hB1); have hb1 := Lib.hid (hb.out.trans (hB1.mono hb.out.size)); replace hB1 := 0)
    | (go_at_call 24; refine (hWh.out _).mono ?_; rintro e w2 ⟨rfl, hB2⟩; have kB2' := kB1.out.to hB2; have kZ2 := Lib.hid (kZ1.out.to hB2); have hb2 := Lib.hid (hb1.out.trans (hB2.mono hb1.out.size)); have c4 := kB2'.cell 4 _ rfl; have c5 := kB2'.cell 5 _ rfl; have c6 := kB2'.cell 6 _ rfl; have c10 := kB2'.cell 10 _ rfl; have kB2 := Lib.hid kB2'; clear kB2'; replace hB2 := 0)
    | (refine wpList_store_PO rfl (.tmp 2) (.tmp 67) rfl (w.heap.size + 1) (cellsPo x) rfl rfl _ kZ3.out rfl rfl (one_po _) ?_)
    | (go_at_call 27; refine (hP.out _ hb2.out).mono ?_; rintro e w3 ⟨rfl, hB3⟩; have hb3 := Lib.hid (hb2.out.trans (hB3.mono hb2.out.size)); have kZ3 := Lib.hid (kZ2.out.to hB3); replace hB3 := 0)
    | fail)
  refine bodyPost_ret (results_ct Tryz.results8 rfl (run_load_PO (Blk.mk (setRow_heap _ _ _ _ _ _ kZ3.out.at_)) rfl)) rfl ?_
  exact ⟨by rw [hx'.out, hk'.out]; rfl, below_setRow hb3.out (Nat.le_succ _) _⟩
end Go.Proofs.YtehecefapiblpaaGreat
