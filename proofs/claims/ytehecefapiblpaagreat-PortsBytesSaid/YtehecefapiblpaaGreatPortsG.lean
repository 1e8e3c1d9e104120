/- Packets between other ends (the reference): walks of may, built, From, To, Flags; ports.Flags. -/
import Derived.Test.YtehecefapiblpaaGreatPortsF
import Derived.Test.YtehecefapiblpaaGreatPortsR
import Derived.Test.YtehecefapiblpaaGreatTcpBR
import Derived.Test.YtehecefapiblpaaGreatTcpPR
import Derived.Test.YtehecefapiblpaaGreatUdpPR
set_option linter.unusedVariables false
namespace Go.Proofs.YtehecefapiblpaaGreat
open Go Go.RowKit
attribute [local go_sem] Oper.semAt_some

set_option maxRecDepth 100000 in
set_option maxHeartbeats 2000000 in
theorem RefMay11_any (p : V4P) (addr port : Int) (ao : Option Addr) (no co : Nat) (a : Option Addr) (n c : Nat) (w : World) (hro : RB w ao no co p.opts) (hr : RB w a n c p.data) (hno : no ≤ 100000) (hn : n ≤ 100000) :
    Calls Tryz.prog 29 #[.agg (cells4 p ao no co a n c), .int .i64 addr, .int .i64 port] w fun e w' => e = .returned (.int .i64 (codeM p addr port)) ∧ Below w.heap.size w w' := by
  have hb := Lib.hid ((Below.refl _ w).alloc (Nat.le_refl _) (.cells (cells4 p ao no co a n c) 25))
  have kB := Lib.hid (Blk.new w (cells4 p ao no co a n c) 25)
  have hO := fun W (hW : Below w.heap.size w W) => RefPortsOf_any p ao no co a n c W (hro.below hW) (hr.below hW) hno hn
  unfold PortsOut at hO
  obtain ⟨k, hk⟩ : ∃ k, codeP p = k := ⟨_, rfl⟩
  have hM : codeM p addr port = if k ≠ 0 then k else if rightB addr = true ∧ fitsB port 2 = true then 0 else 1 := by unfold codeM; rw [hk]
  rw [hk] at hO
  generalize portsP p = xx at *
  clear hk hro hr
  by_cases h0 : k = 0
  · subst h0
    rw [if_neg (by decide)] at hM
    have hR := Lib.hid (fun W => RefRight4_any W addr)
    have hF := Lib.hid (fun W => RefFits_any port 2 W)
    replace hO := Lib.hid hO
    cases ha : rightB addr
    all_goals
      cases hf : fitsB port 2
      all_goals
        rw [ha, hf] at hM
        simp only [Bool.false_eq_true, false_and, and_false, and_self, if_true, if_false] at hM
        have hR' := hR.out
        have hF' := hF.out
        rw [ha] at hR'
        rw [hf] at hF'
        replace hR' := Lib.hid hR'
        replace hF' := Lib.hid hF'
        replace hM := Lib.hid hM
        clear ha hf
        go_enter Tryz.func29, Tryz.ntmps29
        go_wp2_with (first
          | (refine wpList_load_4 rfl (.tmp 3) rfl w.heap.size rfl _ kB.out rfl ?_)
          | (go_at_call 8; refine (hO.out _ hb.out).mono ?_; rintro e w1 ⟨rfl, hB1⟩; have hb1 := Lib.hid (hb.out.trans (hB1.mono hb.out.size)); replace hB1 := 0; have hb2 := Lib.hid (hb1.out.alloc hb1.out.size (.cells (cellsPo xx) 30)))
          | (go_at_call 46; refine (hR'.out _).mono ?_; rintro e w' ⟨rfl, rfl⟩)
          | (go_at_call 45; refine (hF'.out _).mono ?_; rintro e w' ⟨rfl, rfl⟩)
          | fail)
        go_ret
        exact ⟨by rw [hM.out]; rfl, hb2.out⟩
  · rw [if_pos h0] at hM
    have hkn : (k != 0) = true := by simpa using h0
    replace hO := Lib.hid hO
    replace hM := Lib.hid hM
    clear h0
    go_enter Tryz.func29, Tryz.ntmps29
    go_wp2_with (first
      | (refine wpList_load_4 rfl (.tmp 3) rfl w.heap.size rfl _ kB.out rfl ?_)
      | (go_at_call 8; refine (hO.out _ hb.out).mono ?_; rintro e w1 ⟨rfl, hB1⟩; have hb1 := Lib.hid (hb.out.trans (hB1.mono hb.out.size)); replace hB1 := 0; have hb2 := Lib.hid (hb1.out.alloc hb1.out.size (.cells (cellsPo xx) 30)))
      | fail)
    go_ret
    exact ⟨by rw [hM.out]; rfl, hb2.out⟩

set_option maxRecDepth 100000 in
set_option maxHeartbeats 4000000 in
theorem RefBuilt_17s (p : V4P) (a b s d : Int) (ao : Option Addr) (no co : Nat) (A : Option Addr) (n c : Nat) (w : World) (hro : RB w ao no co p.opts) (hr : RB w A n c p.data) (hno : no ≤ 100000) (hn : n ≤ 100000) (q0 : V4P) (hq0 : q0 = { p with src := a, dst := b }) (hc : codeP p = 0) (e17 : p.pr = 17) (hs : 0 ≤ s ∧ s < 65536) (hd : d = -1) :
    Calls Tryz.prog 30 #[.agg (cells4 q0 ao no co A n c), .agg (cells4 p ao no co A n c), .int .i64 s, .int .i64 d] w (PackOut w (movP p a b s d)) := by
  obtain ⟨w0, hw0⟩ : ∃ w0, ((w.alloc (.cells (cells4 q0 ao no co A n c) 25)).alloc (.cells (cells4 p ao no co A n c) 25)).alloc (.cells zero4c 25) = w0 := ⟨_, rfl⟩
  have hb := Lib.hid (show Below w.heap.size w w0 by rw [← hw0]; exact (((Below.refl _ w).alloc (Nat.le_refl _) _).alloc (by simp) _).alloc (by simp; omega) _)
  have kB := Lib.hid (show Blk w0 w.heap.size (cells4 q0 ao no co A n c) 25 by rw [← hw0]; exact ((blk_at rfl).alloc _).alloc _)
  have kE := Lib.hid (show Blk w0 (w.heap.size + 1) (cells4 p ao no co A n c) 25 by rw [← hw0]; exact (blk_at (by simp)).alloc _)
  have kZ := Lib.hid (show Blk w0 (w.heap.size + 1 + 1) zero4c 25 by rw [← hw0]; exact blk_at (by simp))
  have hby := hr.byt
  have z4 : q0.pr = p.pr := by rw [hq0]
  have z5 : q0.src = a := by rw [hq0]
  have z6 : q0.dst = b := by rw [hq0]
  replace hq0 := Lib.hid hq0
  have ro0 := Lib.hid (hro.below hb.out)
  have rd0 := Lib.hid (hr.below hb.out)
  have e9 := kB.out.cell 9 (.slice ao no co) rfl
  have f9 := kB.out.frz 9
  have hlo := Lib.hid (show 0 + no ≤ 140737488355328 by omega)
  replace hw0 := Lib.hid hw0
  clear hro hr
  obtain ⟨m1, m2⟩ := movB_17 (s := s) (d := d) a b hby hc e17 (.inr hs) (.inl hd)
  obtain ⟨_, _, h3⟩ := codeP_zero hc
  obtain ⟨_, hcu⟩ : p.pr = 17 ∧ codeU p.src p.dst p.data = 0 := by
    rcases h3 with h | ⟨h, _⟩ | ⟨h, _⟩
    · exact h
    · omega
    · omega
  have hBl : ∀ A3 n3 c3 W (h : RB W A3 n3 c3 (readU p.src p.dst p.data).data), Calls Tryz.prog 31 #[.int .i64 a, .int .i64 b, .agg (cellsU (newU (readU p.src p.dst p.data) s d) A3 n3 c3)] W (TwoOut W (movD p a b s d) 0) := fun A3 n3 c3 W h => by
    have := RefUdpBuild_any a b (newU (readU p.src p.dst p.data) s d) A3 n3 c3 W h
    rw [← h.len, m1, m2] at this
    rw [← h.len]
    exact this
  have hU := fun W (h : RB W A n c p.data) => RefUdpParse_any p.src p.dst A n c p.data W h hn
  rw [hcu] at hU
  unfold UdpOut at hU
  generalize readU p.src p.dst p.data = u at *
  have hnew : newU u s d = (⟨s, u.d, u.ns, u.data⟩ : UdpP) := by
    unfold newU pickI
    rw [if_neg (by omega), if_pos hd]
  rw [hnew] at hBl
  replace hU := Lib.hid hU
  replace hBl := Lib.hid hBl
  have q17 : (p.pr == 17) = true := by simpa using e17
  have hs0 : 0 ≤ s := by omega
  have hd0 : ¬ 0 ≤ d := by omega
  have hi := Lib.hid (show ∀ C : Array Value, C.size = 4 → (Tryz.prog.info? 53).map (·.size) = some C.size from fun C h => by rw [h]; exact info_udpW)
  clear m1 m2 hcu hby h3 hc hs hd hnew
  go_enter Tryz.func30, Tryz.ntmps30
  go_upto_region 1 with fail
  rw [hw0.out]
  go_upto_region 2 with (first
    | (at_builtin; refine wpList_append_bytes _ rfl (.const (.slice none 0 0)) (.tmp 16) rfl rfl rfl (OB.nil _ w0.heap.size) ro0.out hlo.out (Nat.le_refl _) ?_; intro A3 c3 w3 ho3 hg3 hr3; rw [Nat.zero_add, List.nil_append] at ho3; have hB3 := (Below.refl _ w0).grown hg3 (Nat.le_refl _) (fun k hk => by cases hk); have ho3' := Lib.hid ho3.rb; clear e9 f9; have k3 := kB.out.to hB3; have e9 := k3.cell 9 (.slice ao no co) rfl; have f9 := k3.frz 9; replace k3 := Lib.hid k3; have hB3' := Lib.hid hB3; clear hg3 hr3 ho3 hB3)
    | fail)
  have hlt3 := k3.out.lt
  have k4' : Blk (w3.setCell ⟨w.heap.size, 9, none⟩ (.slice A3 no c3)) w.heap.size (cells4 q0 A3 no c3 A n c) 25 := by simpa using k3.out.set 9 (.slice A3 no c3)
  have kE4 := Lib.hid ((kE.out.to hB3'.out).far (B' := w.heap.size) (by omega) 9 (.slice A3 no c3))
  have kZ4 := Lib.hid ((kZ.out.to hB3'.out).far (B' := w.heap.size) (by omega) 9 (.slice A3 no c3))
  have ro4 := Lib.hid (show RB (w3.setCell ⟨w.heap.size, 9, none⟩ (.slice A3 no c3)) A3 no c3 p.opts from ho3'.out.farN (nbc4 k3.out) 9 (.slice A3 no c3))
  have rd4 := Lib.hid ((rd0.out.below hB3'.out).farN (nbc4 k3.out) 9 (.slice A3 no c3))
  have hb4 := Lib.hid ((hb.out.trans (hB3'.out.mono hb.out.size)).setCell (p := ⟨w.heap.size, 9, none⟩) (Nat.le_refl _) (.slice A3 no c3))
  have k4 := Lib.hid k4'
  obtain ⟨w4, hw4⟩ : ∃ w4, w3.setCell ⟨w.heap.size, 9, none⟩ (.slice A3 no c3) = w4 := ⟨_, rfl⟩
  rw [hw4] at k4 kE4 kZ4 ro4 rd4 hb4 ⊢
  replace hw4 := Lib.hid hw4
  have a4 := k4.out.cell 4 (.int .i64 q0.pr) rfl
  have a5 := k4.out.cell 5 (.int .i64 q0.src) rfl
  have a6 := k4.out.cell 6 (.int .i64 q0.dst) rfl
  rw [z4] at a4
  rw [z5] at a5
  rw [z6] at a6
  replace z4 := Lib.hid z4
  replace z5 := Lib.hid z5
  replace z6 := Lib.hid z6
  have g5 := kE4.out.cell 5 (.int .i64 p.src) rfl
  have g6 := kE4.out.cell 6 (.int .i64 p.dst) rfl
  have g10 := kE4.out.cell 10 (.slice A n c) rfl
  clear e9 f9 k4' hlt3
  try simp only [Act.put]
  go_upto_region 11 with (first
    | (go_at_call 25; refine (hU.out _ rd4.out).mono ?_; rintro e w5 ⟨A5, n5, c5, rfl, ho5, hB5⟩; have hy5 := hB5.alloc hB5.size (.cells (cellsU (⟨s, u.d, u.ns, u.data⟩ : UdpP) A5 n5 c5) 53); have k6 := Lib.hid (k4.out.to hy5); have kZ6 := Lib.hid (kZ4.out.to hy5); have ro6 := Lib.hid (ro4.out.below hy5); have hb6 := Lib.hid (hb4.out.trans (hy5.mono hb4.out.size)); have kU7 := Lib.hid (Blk.new w5 (cellsU (⟨s, u.d, u.ns, u.data⟩ : UdpP) A5 n5 c5) 53); have hd6 := Lib.hid (ho5.rb.alloc (.cells (cellsU (⟨s, u.d, u.ns, u.data⟩ : UdpP) A5 n5 c5) 53)); clear a4 a5 a6 g5 g6 g10 ho5; replace hy5 := 0; replace hB5 := 0)
    | fail)
  obtain ⟨w6, hw6⟩ : ∃ w6, w5.alloc (.cells (cellsU (⟨s, u.d, u.ns, u.data⟩ : UdpP) A5 n5 c5) 53) = w6 := ⟨_, rfl⟩
  rw [hw6] at k6 kZ6 ro6 hd6 hb6 kU7 ⊢
  replace hw6 := Lib.hid hw6
  have a5 := k6.out.cell 5 (.int .i64 q0.src) rfl
  have a6 := k6.out.cell 6 (.int .i64 q0.dst) rfl
  rw [z5.out] at a5
  rw [z6.out] at a6
  try simp only [Act.put]
  go_upto_region 19 with (first
    | (refine wpList_load_row rfl 53 (.tmp 9) rfl w5.heap.size rfl _ (cellsU (⟨s, u.d, u.ns, u.data⟩ : UdpP) A5 n5 c5) _ _ kU7.out.at_ Tryz.underlying53 rfl (hi.out _ rfl) ?_)
    | (go_at_call 31; refine (hBl.out _ _ _ _ hd6.out).mono ?_; rintro e w7 ⟨A7, n7, c7, rfl, hr7, hB7⟩; have k7 := k6.out.to hB7; clear a5 a6; have a10 := k7.cell 10 (.slice A n c) rfl; have v10 := k7.frz 10; have kZ7 := Lib.hid (kZ6.out.to hB7); have ro7 := Lib.hid (ro6.out.below hB7); have hb7 := Lib.hid (hb6.out.trans (hB7.mono hb6.out.size)); have hr7' := Lib.hid hr7; replace hB7 := 0; clear hr7)
    | fail)
  have kL' : Blk (w7.setCell ⟨w.heap.size, 10, none⟩ (.slice A7 n7 c7)) w.heap.size (cells4 (movP p a b s d) A3 no c3 A7 n7 c7) 25 := by
    have := k7.set 10 (.slice A7 n7 c7)
    rw [hq0.out] at this
    simpa [movP] using this
  have kL := Lib.hid kL'
  have hL7 := k7.lt
  have kZ8 := Lib.hid (kZ7.out.far (B' := w.heap.size) (by omega) 10 (.slice A7 n7 c7))
  have ro8 := Lib.hid (ro7.out.farN (nbc4 k7) 10 (.slice A7 n7 c7))
  have rd8 := Lib.hid (hr7'.out.farN (nbc4 k7) 10 (.slice A7 n7 c7))
  have hb8 := Lib.hid (hb7.out.setCell (p := ⟨w.heap.size, 10, none⟩) (Nat.le_refl _) (.slice A7 n7 c7))
  generalize w7.setCell ⟨w.heap.size, 10, none⟩ (.slice A7 n7 c7) = w8 at *
  clear k7 kL' hL7
  try simp only [Act.put]
  go_wp2_with (first
    | (refine wpList_load_4 rfl (.tmp 4) rfl w.heap.size rfl _ kL.out rfl ?_)
    | (refine wpList_store_4 rfl (.tmp 8) (.tmp 97) rfl (w.heap.size + 1 + 1) (cells4 (movP p a b s d) A3 no c3 A7 n7 c7) rfl rfl _ kZ8.out rfl rfl (one4 _ _ _ _ _ _ _) ?_)
    | fail)
  refine bodyPost_ret (results_c Tryz.results30 rfl (run_load_4 (Blk.mk (setRow_heap _ _ _ _ _ _ kZ8.out.at_)) rfl)) rfl ?_
  exact ⟨A3, no, c3, A7, n7, c7, rfl, ro8.out.farRow (nbc4 (q := zero4) kZ8.out) _, rd8.out.farRow (nbc4 (q := zero4) kZ8.out) _, below_row hb8.out (by omega) _⟩
set_option maxRecDepth 100000 in
set_option maxHeartbeats 4000000 in
theorem RefBuilt_17d (p : V4P) (a b s d : Int) (ao : Option Addr) (no co : Nat) (A : Option Addr) (n c : Nat) (w : World) (hro : RB w ao no co p.opts) (hr : RB w A n c p.data) (hno : no ≤ 100000) (hn : n ≤ 100000) (q0 : V4P) (hq0 : q0 = { p with src := a, dst := b }) (hc : codeP p = 0) (e17 : p.pr = 17) (hs : s = -1) (hd : 0 ≤ d ∧ d < 65536) :
    Calls Tryz.prog 30 #[.agg (cells4 q0 ao no co A n c), .agg (cells4 p ao no co A n c), .int .i64 s, .int .i64 d] w (PackOut w (movP p a b s d)) := by
  obtain ⟨w0, hw0⟩ : ∃ w0, ((w.alloc (.cells (cells4 q0 ao no co A n c) 25)).alloc (.cells (cells4 p ao no co A n c) 25)).alloc (.cells zero4c 25) = w0 := ⟨_, rfl⟩
  have hb := Lib.hid (show Below w.heap.size w w0 by rw [← hw0]; exact (((Below.refl _ w).alloc (Nat.le_refl _) _).alloc (by simp) _).alloc (by simp; omega) _)
  have kB := Lib.hid (show Blk w0 w.heap.size (cells4 q0 ao no co A n c) 25 by rw [← hw0]; exact ((blk_at rfl).alloc _).alloc _)
  have kE := Lib.hid (show Blk w0 (w.heap.size + 1) (cells4 p ao no co A n c) 25 by rw [← hw0]; exact (blk_at (by simp)).alloc _)
  have kZ := Lib.hid (show Blk w0 (w.heap.size + 1 + 1) zero4c 25 by rw [← hw0]; exact blk_at (by simp))
  have hby := hr.byt
  have z4 : q0.pr = p.pr := by rw [hq0]
  have z5 : q0.src = a := by rw [hq0]
  have z6 : q0.dst = b := by rw [hq0]
  replace hq0 := Lib.hid hq0
  have ro0 := Lib.hid (hro.below hb.out)
  have rd0 := Lib.hid (hr.below hb.out)
  have e9 := kB.out.cell 9 (.slice ao no co) rfl
  have f9 := kB.out.frz 9
  have hlo := Lib.hid (show 0 + no ≤ 140737488355328 by omega)
  replace hw0 := Lib.hid hw0
  clear hro hr
  obtain ⟨m1, m2⟩ := movB_17 (s := s) (d := d) a b hby hc e17 (.inl hs) (.inr hd)
  obtain ⟨_, _, h3⟩ := codeP_zero hc
  obtain ⟨_, hcu⟩ : p.pr = 17 ∧ codeU p.src p.dst p.data = 0 := by
    rcases h3 with h | ⟨h, _⟩ | ⟨h, _⟩
    · exact h
    · omega
    · omega
  have hBl : ∀ A3 n3 c3 W (h : RB W A3 n3 c3 (readU p.src p.dst p.data).data), Calls Tryz.prog 31 #[.int .i64 a, .int .i64 b, .agg (cellsU (newU (readU p.src p.dst p.data) s d) A3 n3 c3)] W (TwoOut W (movD p a b s d) 0) := fun A3 n3 c3 W h => by
    have := RefUdpBuild_any a b (newU (readU p.src p.dst p.data) s d) A3 n3 c3 W h
    rw [← h.len, m1, m2] at this
    rw [← h.len]
    exact this
  have hU := fun W (h : RB W A n c p.data) => RefUdpParse_any p.src p.dst A n c p.data W h hn
  rw [hcu] at hU
  unfold UdpOut at hU
  generalize readU p.src p.dst p.data = u at *
  have hnew : newU u s d = (⟨u.s, d, u.ns, u.data⟩ : UdpP) := by
    unfold newU pickI
    rw [if_pos hs, if_neg (by omega)]
  rw [hnew] at hBl
  replace hU := Lib.hid hU
  replace hBl := Lib.hid hBl
  have q17 : (p.pr == 17) = true := by simpa using e17
  have hs0 : ¬ 0 ≤ s := by omega
  have hd0 : 0 ≤ d := by omega
  have hi := Lib.hid (show ∀ C : Array Value, C.size = 4 → (Tryz.prog.info? 53).map (·.size) = some C.size from fun C h => by rw [h]; exact info_udpW)
  clear m1 m2 hcu hby h3 hc hs hd hnew
  go_enter Tryz.func30, Tryz.ntmps30
  go_upto_region 1 with fail
  rw [hw0.out]
  go_upto_region 2 with (first
    | (at_builtin; refine wpList_append_bytes _ rfl (.const (.slice none 0 0)) (.tmp 16) rfl rfl rfl (OB.nil _ w0.heap.size) ro0.out hlo.out (Nat.le_refl _) ?_; intro A3 c3 w3 ho3 hg3 hr3; rw [Nat.zero_add, List.nil_append] at ho3; have hB3 := (Below.refl _ w0).grown hg3 (Nat.le_refl _) (fun k hk => by cases hk); have ho3' := Lib.hid ho3.rb; clear e9 f9; have k3 := kB.out.to hB3; have e9 := k3.cell 9 (.slice ao no co) rfl; have f9 := k3.frz 9; replace k3 := Lib.hid k3; have hB3' := Lib.hid hB3; clear hg3 hr3 ho3 hB3)
    | fail)
  have hlt3 := k3.out.lt
  have k4' : Blk (w3.setCell ⟨w.heap.size, 9, none⟩ (.slice A3 no c3)) w.heap.size (cells4 q0 A3 no c3 A n c) 25 := by simpa using k3.out.set 9 (.slice A3 no c3)
  have kE4 := Lib.hid ((kE.out.to hB3'.out).far (B' := w.heap.size) (by omega) 9 (.slice A3 no c3))
  have kZ4 := Lib.hid ((kZ.out.to hB3'.out).far (B' := w.heap.size) (by omega) 9 (.slice A3 no c3))
  have ro4 := Lib.hid (show RB (w3.setCell ⟨w.heap.size, 9, none⟩ (.slice A3 no c3)) A3 no c3 p.opts from ho3'.out.farN (nbc4 k3.out) 9 (.slice A3 no c3))
  have rd4 := Lib.hid ((rd0.out.below hB3'.out).farN (nbc4 k3.out) 9 (.slice A3 no c3))
  have hb4 := Lib.hid ((hb.out.trans (hB3'.out.mono hb.out.size)).setCell (p := ⟨w.heap.size, 9, none⟩) (Nat.le_refl _) (.slice A3 no c3))
  have k4 := Lib.hid k4'
  obtain ⟨w4, hw4⟩ : ∃ w4, w3.setCell ⟨w.heap.size, 9, none⟩ (.slice A3 no c3) = w4 := ⟨_, rfl⟩
  rw [hw4] at k4 kE4 kZ4 ro4 rd4 hb4 ⊢
  replace hw4 := Lib.hid hw4
  have a4 := k4.out.cell 4 (.int .i64 q0.pr) rfl
  have a5 := k4.out.cell 5 (.int .i64 q0.src) rfl
  have a6 := k4.out.cell 6 (.int .i64 q0.dst) rfl
  rw [z4] at a4
  rw [z5] at a5
  rw [z6] at a6
  replace z4 := Lib.hid z4
  replace z5 := Lib.hid z5
  replace z6 := Lib.hid z6
  have g5 := kE4.out.cell 5 (.int .i64 p.src) rfl
  have g6 := kE4.out.cell 6 (.int .i64 p.dst) rfl
  have g10 := kE4.out.cell 10 (.slice A n c) rfl
  clear e9 f9 k4' hlt3
  try simp only [Act.put]
  go_upto_region 11 with (first
    | (go_at_call 25; refine (hU.out _ rd4.out).mono ?_; rintro e w5 ⟨A5, n5, c5, rfl, ho5, hB5⟩; have hy5 := hB5.alloc hB5.size (.cells (cellsU (⟨u.s, d, u.ns, u.data⟩ : UdpP) A5 n5 c5) 53); have k6 := Lib.hid (k4.out.to hy5); have kZ6 := Lib.hid (kZ4.out.to hy5); have ro6 := Lib.hid (ro4.out.below hy5); have hb6 := Lib.hid (hb4.out.trans (hy5.mono hb4.out.size)); have kU7 := Lib.hid (Blk.new w5 (cellsU (⟨u.s, d, u.ns, u.data⟩ : UdpP) A5 n5 c5) 53); have hd6 := Lib.hid (ho5.rb.alloc (.cells (cellsU (⟨u.s, d, u.ns, u.data⟩ : UdpP) A5 n5 c5) 53)); clear a4 a5 a6 g5 g6 g10 ho5; replace hy5 := 0; replace hB5 := 0)
    | fail)
  obtain ⟨w6, hw6⟩ : ∃ w6, w5.alloc (.cells (cellsU (⟨u.s, d, u.ns, u.data⟩ : UdpP) A5 n5 c5) 53) = w6 := ⟨_, rfl⟩
  rw [hw6] at k6 kZ6 ro6 hd6 hb6 kU7 ⊢
  replace hw6 := Lib.hid hw6
  have a5 := k6.out.cell 5 (.int .i64 q0.src) rfl
  have a6 := k6.out.cell 6 (.int .i64 q0.dst) rfl
  rw [z5.out] at a5
  rw [z6.out] at a6
  try simp only [Act.put]
  go_upto_region 19 with (first
    | (refine wpList_load_row rfl 53 (.tmp 9) rfl w5.heap.size rfl _ (cellsU (⟨u.s, d, u.ns, u.data⟩ : UdpP) A5 n5 c5) _ _ kU7.out.at_ Tryz.underlying53 rfl (hi.out _ rfl) ?_)
    | (go_at_call 31; refine (hBl.out _ _ _ _ hd6.out).mono ?_; rintro e w7 ⟨A7, n7, c7, rfl, hr7, hB7⟩; have k7 := k6.out.to hB7; clear a5 a6; have a10 := k7.cell 10 (.slice A n c) rfl; have v10 := k7.frz 10; have kZ7 := Lib.hid (kZ6.out.to hB7); have ro7 := Lib.hid (ro6.out.below hB7); have hb7 := Lib.hid (hb6.out.trans (hB7.mono hb6.out.size)); have hr7' := Lib.hid hr7; replace hB7 := 0; clear hr7)
    | fail)
  have kL' : Blk (w7.setCell ⟨w.heap.size, 10, none⟩ (.slice A7 n7 c7)) w.heap.size (cells4 (movP p a b s d) A3 no c3 A7 n7 c7) 25 := by
    have := k7.set 10 (.slice A7 n7 c7)
    rw [hq0.out] at this
    simpa [movP] using this
  have kL := Lib.hid kL'
  have hL7 := k7.lt
  have kZ8 := Lib.hid (kZ7.out.far (B' := w.heap.size) (by omega) 10 (.slice A7 n7 c7))
  have ro8 := Lib.hid (ro7.out.farN (nbc4 k7) 10 (.slice A7 n7 c7))
  have rd8 := Lib.hid (hr7'.out.farN (nbc4 k7) 10 (.slice A7 n7 c7))
  have hb8 := Lib.hid (hb7.out.setCell (p := ⟨w.heap.size, 10, none⟩) (Nat.le_refl _) (.slice A7 n7 c7))
  generalize w7.setCell ⟨w.heap.size, 10, none⟩ (.slice A7 n7 c7) = w8 at *
  clear k7 kL' hL7
  try simp only [Act.put]
  go_wp2_with (first
    | (refine wpList_load_4 rfl (.tmp 4) rfl w.heap.size rfl _ kL.out rfl ?_)
    | (refine wpList_store_4 rfl (.tmp 8) (.tmp 97) rfl (w.heap.size + 1 + 1) (cells4 (movP p a b s d) A3 no c3 A7 n7 c7) rfl rfl _ kZ8.out rfl rfl (one4 _ _ _ _ _ _ _) ?_)
    | fail)
  refine bodyPost_ret (results_c Tryz.results30 rfl (run_load_4 (Blk.mk (setRow_heap _ _ _ _ _ _ kZ8.out.at_)) rfl)) rfl ?_
  exact ⟨A3, no, c3, A7, n7, c7, rfl, ro8.out.farRow (nbc4 (q := zero4) kZ8.out) _, rd8.out.farRow (nbc4 (q := zero4) kZ8.out) _, below_row hb8.out (by omega) _⟩
set_option maxRecDepth 100000 in
set_option maxHeartbeats 4000000 in
theorem RefBuilt_6s (p : V4P) (a b s d : Int) (ao : Option Addr) (no co : Nat) (A : Option Addr) (n c : Nat) (w : World) (hro : RB w ao no co p.opts) (hr : RB w A n c p.data) (hno : no ≤ 100000) (hn : n ≤ 100000) (q0 : V4P) (hq0 : q0 = { p with src := a, dst := b }) (hc : codeP p = 0) (e6 : p.pr = 6) (hs : 0 ≤ s ∧ s < 65536) (hd : d = -1) :
    Calls Tryz.prog 30 #[.agg (cells4 q0 ao no co A n c), .agg (cells4 p ao no co A n c), .int .i64 s, .int .i64 d] w (PackOut w (movP p a b s d)) := by
  obtain ⟨w0, hw0⟩ : ∃ w0, ((w.alloc (.cells (cells4 q0 ao no co A n c) 25)).alloc (.cells (cells4 p ao no co A n c) 25)).alloc (.cells zero4c 25) = w0 := ⟨_, rfl⟩
  have hb := Lib.hid (show Below w.heap.size w w0 by rw [← hw0]; exact (((Below.refl _ w).alloc (Nat.le_refl _) _).alloc (by simp) _).alloc (by simp; omega) _)
  have kB := Lib.hid (show Blk w0 w.heap.size (cells4 q0 ao no co A n c) 25 by rw [← hw0]; exact ((blk_at rfl).alloc _).alloc _)
  have kE := Lib.hid (show Blk w0 (w.heap.size + 1) (cells4 p ao no co A n c) 25 by rw [← hw0]; exact (blk_at (by simp)).alloc _)
  have kZ := Lib.hid (show Blk w0 (w.heap.size + 1 + 1) zero4c 25 by rw [← hw0]; exact blk_at (by simp))
  have hby := hr.byt
  have z4 : q0.pr = p.pr := by rw [hq0]
  have z5 : q0.src = a := by rw [hq0]
  have z6 : q0.dst = b := by rw [hq0]
  replace hq0 := Lib.hid hq0
  have ro0 := Lib.hid (hro.below hb.out)
  have rd0 := Lib.hid (hr.below hb.out)
  have e9 := kB.out.cell 9 (.slice ao no co) rfl
  have f9 := kB.out.frz 9
  have hlo := Lib.hid (show 0 + no ≤ 140737488355328 by omega)
  replace hw0 := Lib.hid hw0
  clear hro hr
  obtain ⟨m1, m2⟩ := movB_6 (s := s) (d := d) a b hby hc e6 (.inr hs) (.inl hd)
  obtain ⟨_, _, hcu⟩ := codeP_six hc e6
  have hln := (read_lens hby hc).2.1 e6
  have hBl : ∀ A3 n3 c3 A4 n4 c4 W (h1 : RB W A3 n3 c3 (readT p.src p.dst p.data).opts) (h2 : RB W A4 n4 c4 (readT p.src p.dst p.data).data), Calls Tryz.prog 55 #[.int .i64 a, .int .i64 b, .agg (cellsT (newT (readT p.src p.dst p.data) s d) A3 n3 c3 A4 n4 c4)] W (TwoOut W (movD p a b s d) 0) := fun A3 n3 c3 A4 n4 c4 W h1 h2 => by
    have := RefTcpBuild_any a b (newT (readT p.src p.dst p.data) s d) A3 n3 c3 A4 n4 c4 W h1 h2 (by have := h2.len; omega)
    rw [← h1.len, ← h2.len, m1, m2] at this
    rw [← h1.len, ← h2.len]
    exact this
  have hU := fun W (h : RB W A n c p.data) => RefTcpParse_any p.src p.dst A n c p.data W h
  rw [hcu] at hU
  unfold TcpOut at hU
  generalize readT p.src p.dst p.data = u at *
  have hnew : newT u s d = ({ u with s := s } : TcpP) := by
    unfold newT pickI
    rw [if_neg (by omega), if_pos hd]
  rw [hnew] at hBl
  replace hU := Lib.hid hU
  replace hBl := Lib.hid hBl
  have q17 : (p.pr == 17) = false := by simp [e6]
  have q6 : (p.pr == 6) = true := by simpa using e6
  have hs0 : 0 ≤ s := by omega
  have hd0 : ¬ 0 ≤ d := by omega
  have hi := Lib.hid (show ∀ C : Array Value, C.size = 10 → (Tryz.prog.info? 57).map (·.size) = some C.size from fun C h => by rw [h]; exact info_tcpW)
  clear m1 m2 hcu hby hc hs hd hnew hln
  go_enter Tryz.func30, Tryz.ntmps30
  go_upto_region 1 with fail
  rw [hw0.out]
  go_upto_region 2 with (first
    | (at_builtin; refine wpList_append_bytes _ rfl (.const (.slice none 0 0)) (.tmp 16) rfl rfl rfl (OB.nil _ w0.heap.size) ro0.out hlo.out (Nat.le_refl _) ?_; intro A3 c3 w3 ho3 hg3 hr3; rw [Nat.zero_add, List.nil_append] at ho3; have hB3 := (Below.refl _ w0).grown hg3 (Nat.le_refl _) (fun k hk => by cases hk); have ho3' := Lib.hid ho3.rb; clear e9 f9; have k3 := kB.out.to hB3; have e9 := k3.cell 9 (.slice ao no co) rfl; have f9 := k3.frz 9; replace k3 := Lib.hid k3; have hB3' := Lib.hid hB3; clear hg3 hr3 ho3 hB3)
    | fail)
  have hlt3 := k3.out.lt
  have k4' : Blk (w3.setCell ⟨w.heap.size, 9, none⟩ (.slice A3 no c3)) w.heap.size (cells4 q0 A3 no c3 A n c) 25 := by simpa using k3.out.set 9 (.slice A3 no c3)
  have kE4 := Lib.hid ((kE.out.to hB3'.out).far (B' := w.heap.size) (by omega) 9 (.slice A3 no c3))
  have kZ4 := Lib.hid ((kZ.out.to hB3'.out).far (B' := w.heap.size) (by omega) 9 (.slice A3 no c3))
  have ro4 := Lib.hid (show RB (w3.setCell ⟨w.heap.size, 9, none⟩ (.slice A3 no c3)) A3 no c3 p.opts from ho3'.out.farN (nbc4 k3.out) 9 (.slice A3 no c3))
  have rd4 := Lib.hid ((rd0.out.below hB3'.out).farN (nbc4 k3.out) 9 (.slice A3 no c3))
  have hb4 := Lib.hid ((hb.out.trans (hB3'.out.mono hb.out.size)).setCell (p := ⟨w.heap.size, 9, none⟩) (Nat.le_refl _) (.slice A3 no c3))
  have k4 := Lib.hid k4'
  obtain ⟨w4, hw4⟩ : ∃ w4, w3.setCell ⟨w.heap.size, 9, none⟩ (.slice A3 no c3) = w4 := ⟨_, rfl⟩
  rw [hw4] at k4 kE4 kZ4 ro4 rd4 hb4 ⊢
  replace hw4 := Lib.hid hw4
  have a4 := k4.out.cell 4 (.int .i64 q0.pr) rfl
  have a5 := k4.out.cell 5 (.int .i64 q0.src) rfl
  have a6 := k4.out.cell 6 (.int .i64 q0.dst) rfl
  rw [z4] at a4
  rw [z5] at a5
  rw [z6] at a6
  replace z4 := Lib.hid z4
  replace z5 := Lib.hid z5
  replace z6 := Lib.hid z6
  have g5 := kE4.out.cell 5 (.int .i64 p.src) rfl
  have g6 := kE4.out.cell 6 (.int .i64 p.dst) rfl
  have g10 := kE4.out.cell 10 (.slice A n c) rfl
  clear e9 f9 k4' hlt3
  try simp only [Act.put]
  go_upto_region 18 with (first
    | (go_at_call 26; refine (hU.out _ rd4.out).mono ?_; rintro e w5 ⟨A6, n6, c6, A5, n5, c5, rfl, ho6, ho5, hB5⟩; have hy5 := hB5.alloc hB5.size (.cells (cellsT ({ u with s := s } : TcpP) A6 n6 c6 A5 n5 c5) 57); have k6 := Lib.hid (k4.out.to hy5); have kZ6 := Lib.hid (kZ4.out.to hy5); have ro6 := Lib.hid (ro4.out.below hy5); have hb6 := Lib.hid (hb4.out.trans (hy5.mono hb4.out.size)); have kU7 := Lib.hid (Blk.new w5 (cellsT ({ u with s := s } : TcpP) A6 n6 c6 A5 n5 c5) 57); have hd6 := Lib.hid (ho5.rb.alloc (.cells (cellsT ({ u with s := s } : TcpP) A6 n6 c6 A5 n5 c5) 57)); have hq6 := Lib.hid (ho6.rb.alloc (.cells (cellsT ({ u with s := s } : TcpP) A6 n6 c6 A5 n5 c5) 57)); clear a4 a5 a6 g5 g6 g10 ho5 ho6; replace hy5 := 0; replace hB5 := 0)
    | (refine wpList_store_T rfl (.tmp 11) (.tmp 77) rfl w5.heap.size (cellsT u A6 n6 c6 A5 n5 c5) rfl rfl _ (Blk.new _ zeroT 57) rfl rfl (one_T _ _ _ _ _ _ _) ?_; rw [World.setRow_alloc_new])
    | fail)
  obtain ⟨w6, hw6⟩ : ∃ w6, w5.alloc (.cells (cellsT ({ u with s := s } : TcpP) A6 n6 c6 A5 n5 c5) 57) = w6 := ⟨_, rfl⟩
  rw [hw6] at k6 kZ6 ro6 hd6 hq6 hb6 kU7 ⊢
  replace hw6 := Lib.hid hw6
  have a5 := k6.out.cell 5 (.int .i64 q0.src) rfl
  have a6 := k6.out.cell 6 (.int .i64 q0.dst) rfl
  rw [z5.out] at a5
  rw [z6.out] at a6
  try simp only [Act.put]
  go_upto_region 19 with (first
    | (refine wpList_load_row rfl 57 (.tmp 11) rfl w5.heap.size rfl _ (cellsT ({ u with s := s } : TcpP) A6 n6 c6 A5 n5 c5) _ _ kU7.out.at_ Tryz.underlying57 rfl (hi.out _ rfl) ?_)
    | (go_at_call 55; refine (hBl.out _ _ _ _ _ _ _ hq6.out hd6.out).mono ?_; rintro e w7 ⟨A7, n7, c7, rfl, hr7, hB7⟩; have k7 := k6.out.to hB7; clear a5 a6; have a10 := k7.cell 10 (.slice A n c) rfl; have v10 := k7.frz 10; have kZ7 := Lib.hid (kZ6.out.to hB7); have ro7 := Lib.hid (ro6.out.below hB7); have hb7 := Lib.hid (hb6.out.trans (hB7.mono hb6.out.size)); have hr7' := Lib.hid hr7; replace hB7 := 0; clear hr7)
    | fail)
  have kL' : Blk (w7.setCell ⟨w.heap.size, 10, none⟩ (.slice A7 n7 c7)) w.heap.size (cells4 (movP p a b s d) A3 no c3 A7 n7 c7) 25 := by
    have := k7.set 10 (.slice A7 n7 c7)
    rw [hq0.out] at this
    simpa [movP] using this
  have kL := Lib.hid kL'
  have hL7 := k7.lt
  have kZ8 := Lib.hid (kZ7.out.far (B' := w.heap.size) (by omega) 10 (.slice A7 n7 c7))
  have ro8 := Lib.hid (ro7.out.farN (nbc4 k7) 10 (.slice A7 n7 c7))
  have rd8 := Lib.hid (hr7'.out.farN (nbc4 k7) 10 (.slice A7 n7 c7))
  have hb8 := Lib.hid (hb7.out.setCell (p := ⟨w.heap.size, 10, none⟩) (Nat.le_refl _) (.slice A7 n7 c7))
  generalize w7.setCell ⟨w.heap.size, 10, none⟩ (.slice A7 n7 c7) = w8 at *
  clear k7 kL' hL7
  try simp only [Act.put]
  go_wp2_with (first
    | (refine wpList_load_4 rfl (.tmp 4) rfl w.heap.size rfl _ kL.out rfl ?_)
    | (refine wpList_store_4 rfl (.tmp 8) (.tmp 97) rfl (w.heap.size + 1 + 1) (cells4 (movP p a b s d) A3 no c3 A7 n7 c7) rfl rfl _ kZ8.out rfl rfl (one4 _ _ _ _ _ _ _) ?_)
    | fail)
  refine bodyPost_ret (results_c Tryz.results30 rfl (run_load_4 (Blk.mk (setRow_heap _ _ _ _ _ _ kZ8.out.at_)) rfl)) rfl ?_
  exact ⟨A3, no, c3, A7, n7, c7, rfl, ro8.out.farRow (nbc4 (q := zero4) kZ8.out) _, rd8.out.farRow (nbc4 (q := zero4) kZ8.out) _, below_row hb8.out (by omega) _⟩
set_option maxRecDepth 100000 in
set_option maxHeartbeats 4000000 in
theorem RefBuilt_6d (p : V4P) (a b s d : Int) (ao : Option Addr) (no co : Nat) (A : Option Addr) (n c : Nat) (w : World) (hro : RB w ao no co p.opts) (hr : RB w A n c p.data) (hno : no ≤ 100000) (hn : n ≤ 100000) (q0 : V4P) (hq0 : q0 = { p with src := a, dst := b }) (hc : codeP p = 0) (e6 : p.pr = 6) (hs : s = -1) (hd : 0 ≤ d ∧ d < 65536) :
    Calls Tryz.prog 30 #[.agg (cells4 q0 ao no co A n c), .agg (cells4 p ao no co A n c), .int .i64 s, .int .i64 d] w (PackOut w (movP p a b s d)) := by
  obtain ⟨w0, hw0⟩ : ∃ w0, ((w.alloc (.cells (cells4 q0 ao no co A n c) 25)).alloc (.cells (cells4 p ao no co A n c) 25)).alloc (.cells zero4c 25) = w0 := ⟨_, rfl⟩
  have hb := Lib.hid (show Below w.heap.size w w0 by rw [← hw0]; exact (((Below.refl _ w).alloc (Nat.le_refl _) _).alloc (by simp) _).alloc (by simp; omega) _)
  have kB := Lib.hid (show Blk w0 w.heap.size (cells4 q0 ao no co A n c) 25 by rw [← hw0]; exact ((blk_at rfl).alloc _).alloc _)
  have kE := Lib.hid (show Blk w0 (w.heap.size + 1) (cells4 p ao no co A n c) 25 by rw [← hw0]; exact (blk_at (by simp)).alloc _)
  have kZ := Lib.hid (show Blk w0 (w.heap.size + 1 + 1) zero4c 25 by rw [← hw0]; exact blk_at (by simp))
  have hby := hr.byt
  have z4 : q0.pr = p.pr := by rw [hq0]
  have z5 : q0.src = a := by rw [hq0]
  have z6 : q0.dst = b := by rw [hq0]
  replace hq0 := Lib.hid hq0
  have ro0 := Lib.hid (hro.below hb.out)
  have rd0 := Lib.hid (hr.below hb.out)
  have e9 := kB.out.cell 9 (.slice ao no co) rfl
  have f9 := kB.out.frz 9
  have hlo := Lib.hid (show 0 + no ≤ 140737488355328 by omega)
  replace hw0 := Lib.hid hw0
  clear hro hr
  obtain ⟨m1, m2⟩ := movB_6 (s := s) (d := d) a b hby hc e6 (.inl hs) (.inr hd)
  obtain ⟨_, _, hcu⟩ := codeP_six hc e6
  have hln := (read_lens hby hc).2.1 e6
  have hBl : ∀ A3 n3 c3 A4 n4 c4 W (h1 : RB W A3 n3 c3 (readT p.src p.dst p.data).opts) (h2 : RB W A4 n4 c4 (readT p.src p.dst p.data).data), Calls Tryz.prog 55 #[.int .i64 a, .int .i64 b, .agg (cellsT (newT (readT p.src p.dst p.data) s d) A3 n3 c3 A4 n4 c4)] W (TwoOut W (movD p a b s d) 0) := fun A3 n3 c3 A4 n4 c4 W h1 h2 => by
    have := RefTcpBuild_any a b (newT (readT p.src p.dst p.data) s d) A3 n3 c3 A4 n4 c4 W h1 h2 (by have := h2.len; omega)
    rw [← h1.len, ← h2.len, m1, m2] at this
    rw [← h1.len, ← h2.len]
    exact this
  have hU := fun W (h : RB W A n c p.data) => RefTcpParse_any p.src p.dst A n c p.data W h
  rw [hcu] at hU
  unfold TcpOut at hU
  generalize readT p.src p.dst p.data = u at *
  have hnew : newT u s d = ({ u with d := d } : TcpP) := by
    unfold newT pickI
    rw [if_pos hs, if_neg (by omega)]
  rw [hnew] at hBl
  replace hU := Lib.hid hU
  replace hBl := Lib.hid hBl
  have q17 : (p.pr == 17) = false := by simp [e6]
  have q6 : (p.pr == 6) = true := by simpa using e6
  have hs0 : ¬ 0 ≤ s := by omega
  have hd0 : 0 ≤ d := by omega
  have hi := Lib.hid (show ∀ C : Array Value, C.size = 10 → (Tryz.prog.info? 57).map (·.size) = some C.size from fun C h => by rw [h]; exact info_tcpW)
  clear m1 m2 hcu hby hc hs hd hnew hln
  go_enter Tryz.func30, Tryz.ntmps30
  go_upto_region 1 with fail
  rw [hw0.out]
  go_upto_region 2 with (first
    | (at_builtin; refine wpList_append_bytes _ rfl (.const (.slice none 0 0)) (.tmp 16) rfl rfl rfl (OB.nil _ w0.heap.size) ro0.out hlo.out (Nat.le_refl _) ?_; intro A3 c3 w3 ho3 hg3 hr3; rw [Nat.zero_add, List.nil_append] at ho3; have hB3 := (Below.refl _ w0).grown hg3 (Nat.le_refl _) (fun k hk => by cases hk); have ho3' := Lib.hid ho3.rb; clear e9 f9; have k3 := kB.out.to hB3; have e9 := k3.cell 9 (.slice ao no co) rfl; have f9 := k3.frz 9; replace k3 := Lib.hid k3; have hB3' := Lib.hid hB3; clear hg3 hr3 ho3 hB3)
    | fail)
  have hlt3 := k3.out.lt
  have k4' : Blk (w3.setCell ⟨w.heap.size, 9, none⟩ (.slice A3 no c3)) w.heap.size (cells4 q0 A3 no c3 A n c) 25 := by simpa using k3.out.set 9 (.slice A3 no c3)
  have kE4 := Lib.hid ((kE.out.to hB3'.out).far (B' := w.heap.size) (by omega) 9 (.slice A3 no c3))
  have kZ4 := Lib.hid ((kZ.out.to hB3'.out).far (B' := w.heap.size) (by omega) 9 (.slice A3 no c3))
  have ro4 := Lib.hid (show RB (w3.setCell ⟨w.heap.size, 9, none⟩ (.slice A3 no c3)) A3 no c3 p.opts from ho3'.out.farN (nbc4 k3.out) 9 (.slice A3 no c3))
  have rd4 := Lib.hid ((rd0.out.below hB3'.out).farN (nbc4 k3.out) 9 (.slice A3 no c3))
  have hb4 := Lib.hid ((hb.out.trans (hB3'.out.mono hb.out.size)).setCell (p := ⟨w.heap.size, 9, none⟩) (Nat.le_refl _) (.slice A3 no c3))
  have k4 := Lib.hid k4'
  obtain ⟨w4, hw4⟩ : ∃ w4, w3.setCell ⟨w.heap.size, 9, none⟩ (.slice A3 no c3) = w4 := ⟨_, rfl⟩
  rw [hw4] at k4 kE4 kZ4 ro4 rd4 hb4 ⊢
  replace hw4 := Lib.hid hw4
  have a4 := k4.out.cell 4 (.int .i64 q0.pr) rfl
  have a5 := k4.out.cell 5 (.int .i64 q0.src) rfl
  have a6 := k4.out.cell 6 (.int .i64 q0.dst) rfl
  rw [z4] at a4
  rw [z5] at a5
  rw [z6] at a6
  replace z4 := Lib.hid z4
  replace z5 := Lib.hid z5
  replace z6 := Lib.hid z6
  have g5 := kE4.out.cell 5 (.int .i64 p.src) rfl
  have g6 := kE4.out.cell 6 (.int .i64 p.dst) rfl
  have g10 := kE4.out.cell 10 (.slice A n c) rfl
  clear e9 f9 k4' hlt3
  try simp only [Act.put]
  go_upto_region 18 with (first
    | (go_at_call 26; refine (hU.out _ rd4.out).mono ?_; rintro e w5 ⟨A6, n6, c6, A5, n5, c5, rfl, ho6, ho5, hB5⟩; have hy5 := hB5.alloc hB5.size (.cells (cellsT ({ u with d := d } : TcpP) A6 n6 c6 A5 n5 c5) 57); have k6 := Lib.hid (k4.out.to hy5); have kZ6 := Lib.hid (kZ4.out.to hy5); have ro6 := Lib.hid (ro4.out.below hy5); have hb6 := Lib.hid (hb4.out.trans (hy5.mono hb4.out.size)); have kU7 := Lib.hid (Blk.new w5 (cellsT ({ u with d := d } : TcpP) A6 n6 c6 A5 n5 c5) 57); have hd6 := Lib.hid (ho5.rb.alloc (.cells (cellsT ({ u with d := d } : TcpP) A6 n6 c6 A5 n5 c5) 57)); have hq6 := Lib.hid (ho6.rb.alloc (.cells (cellsT ({ u with d := d } : TcpP) A6 n6 c6 A5 n5 c5) 57)); clear a4 a5 a6 g5 g6 g10 ho5 ho6; replace hy5 := 0; replace hB5 := 0)
    | (refine wpList_store_T rfl (.tmp 11) (.tmp 77) rfl w5.heap.size (cellsT u A6 n6 c6 A5 n5 c5) rfl rfl _ (Blk.new _ zeroT 57) rfl rfl (one_T _ _ _ _ _ _ _) ?_; rw [World.setRow_alloc_new])
    | fail)
  obtain ⟨w6, hw6⟩ : ∃ w6, w5.alloc (.cells (cellsT ({ u with d := d } : TcpP) A6 n6 c6 A5 n5 c5) 57) = w6 := ⟨_, rfl⟩
  rw [hw6] at k6 kZ6 ro6 hd6 hq6 hb6 kU7 ⊢
  replace hw6 := Lib.hid hw6
  have a5 := k6.out.cell 5 (.int .i64 q0.src) rfl
  have a6 := k6.out.cell 6 (.int .i64 q0.dst) rfl
  rw [z5.out] at a5
  rw [z6.out] at a6
  try simp only [Act.put]
  go_upto_region 19 with (first
    | (refine wpList_load_row rfl 57 (.tmp 11) rfl w5.heap.size rfl _ (cellsT ({ u with d := d } : TcpP) A6 n6 c6 A5 n5 c5) _ _ kU7.out.at_ Tryz.underlying57 rfl (hi.out _ rfl) ?_)
    | (go_at_call 55; refine (hBl.out _ _ _ _ _ _ _ hq6.out hd6.out).mono ?_; rintro e w7 ⟨A7, n7, c7, rfl, hr7, hB7⟩; have k7 := k6.out.to hB7; clear a5 a6; have a10 := k7.cell 10 (.slice A n c) rfl; have v10 := k7.frz 10; have kZ7 := Lib.hid (kZ6.out.to hB7); have ro7 := Lib.hid (ro6.out.below hB7); have hb7 := Lib.hid (hb6.out.trans (hB7.mono hb6.out.size)); have hr7' := Lib.hid hr7; replace hB7 := 0; clear hr7)
    | fail)
  have kL' : Blk (w7.setCell ⟨w.heap.size, 10, none⟩ (.slice A7 n7 c7)) w.heap.size (cells4 (movP p a b s d) A3 no c3 A7 n7 c7) 25 := by
    have := k7.set 10 (.slice A7 n7 c7)
    rw [hq0.out] at this
    simpa [movP] using this
  have kL := Lib.hid kL'
  have hL7 := k7.lt
  have kZ8 := Lib.hid (kZ7.out.far (B' := w.heap.size) (by omega) 10 (.slice A7 n7 c7))
  have ro8 := Lib.hid (ro7.out.farN (nbc4 k7) 10 (.slice A7 n7 c7))
  have rd8 := Lib.hid (hr7'.out.farN (nbc4 k7) 10 (.slice A7 n7 c7))
  have hb8 := Lib.hid (hb7.out.setCell (p := ⟨w.heap.size, 10, none⟩) (Nat.le_refl _) (.slice A7 n7 c7))
  generalize w7.setCell ⟨w.heap.size, 10, none⟩ (.slice A7 n7 c7) = w8 at *
  clear k7 kL' hL7
  try simp only [Act.put]
  go_wp2_with (first
    | (refine wpList_load_4 rfl (.tmp 4) rfl w.heap.size rfl _ kL.out rfl ?_)
    | (refine wpList_store_4 rfl (.tmp 8) (.tmp 97) rfl (w.heap.size + 1 + 1) (cells4 (movP p a b s d) A3 no c3 A7 n7 c7) rfl rfl _ kZ8.out rfl rfl (one4 _ _ _ _ _ _ _) ?_)
    | fail)
  refine bodyPost_ret (results_c Tryz.results30 rfl (run_load_4 (Blk.mk (setRow_heap _ _ _ _ _ _ kZ8.out.at_)) rfl)) rfl ?_
  exact ⟨A3, no, c3, A7, n7, c7, rfl, ro8.out.farRow (nbc4 (q := zero4) kZ8.out) _, rd8.out.farRow (nbc4 (q := zero4) kZ8.out) _, below_row hb8.out (by omega) _⟩
set_option maxRecDepth 100000 in
set_option maxHeartbeats 4000000 in
theorem RefBuilt_1 (p : V4P) (a b s d : Int) (ao : Option Addr) (no co : Nat) (A : Option Addr) (n c : Nat) (w : World) (hro : RB w ao no co p.opts) (hr : RB w A n c p.data) (hno : no ≤ 100000) (hn : n ≤ 100000) (q0 : V4P) (hq0 : q0 = { p with src := a, dst := b }) (hc : codeP p = 0) (e1 : p.pr = 1) (hs : (0 ≤ s ∧ d = -1) ∨ (s = -1 ∧ 0 ≤ d)) :
    Calls Tryz.prog 30 #[.agg (cells4 q0 ao no co A n c), .agg (cells4 p ao no co A n c), .int .i64 s, .int .i64 d] w (PackOut w (movP p a b s d)) := by
  obtain ⟨w0, hw0⟩ : ∃ w0, ((w.alloc (.cells (cells4 q0 ao no co A n c) 25)).alloc (.cells (cells4 p ao no co A n c) 25)).alloc (.cells zero4c 25) = w0 := ⟨_, rfl⟩
  have hb := Lib.hid (show Below w.heap.size w w0 by rw [← hw0]; exact (((Below.refl _ w).alloc (Nat.le_refl _) _).alloc (by simp) _).alloc (by simp; omega) _)
  have kB := Lib.hid (show Blk w0 w.heap.size (cells4 q0 ao no co A n c) 25 by rw [← hw0]; exact ((blk_at rfl).alloc _).alloc _)
  have kE := Lib.hid (show Blk w0 (w.heap.size + 1) (cells4 p ao no co A n c) 25 by rw [← hw0]; exact (blk_at (by simp)).alloc _)
  have kZ := Lib.hid (show Blk w0 (w.heap.size + 1 + 1) zero4c 25 by rw [← hw0]; exact blk_at (by simp))
  have hby := hr.byt
  have z4 : q0.pr = p.pr := by rw [hq0]
  have z5 : q0.src = a := by rw [hq0]
  have z6 : q0.dst = b := by rw [hq0]
  replace hq0 := Lib.hid hq0
  have ro0 := Lib.hid (hro.below hb.out)
  have rd0 := Lib.hid (hr.below hb.out)
  have e9 := kB.out.cell 9 (.slice ao no co) rfl
  have f9 := kB.out.frz 9
  have hlo := Lib.hid (show 0 + no ≤ 140737488355328 by omega)
  replace hw0 := Lib.hid hw0
  clear hro hr
  obtain ⟨m1, m2⟩ := movB_1 (s := s) (d := d) a b hby hc e1
  obtain ⟨_, _, h3⟩ := codeP_zero hc
  obtain ⟨_, hcu, _⟩ : p.pr = 1 ∧ codeI p.data = 0 ∧ queryI (readI p.data).t = true := by
    rcases h3 with ⟨h, _⟩ | ⟨h, _⟩ | h
    · omega
    · omega
    · exact h
  have hln := (read_lens hby hc).2.2 e1
  have hBl : ∀ A3 n3 c3 W (h : RB W A3 n3 c3 (withI (readI p.data) (pickI s d)).data), Calls Tryz.prog 56 #[.agg (cellsI (withI (readI p.data) (pickI s d)) A3 n3 c3)] W (TwoOut W (movD p a b s d) 0) := fun A3 n3 c3 W h => by
    have := RefIcmpBuild_any (newI (readI p.data) s d) A3 n3 c3 W h
    have hl : (readI p.data).data.length = n3 := h.len
    rw [← hl, m1, m2] at this
    rw [← hl]
    exact this
  have hU := fun W (h : RB W A n c p.data) => RefIcmpParse_any A n c p.data W h
  rw [hcu] at hU
  unfold IcmpOut at hU
  have hmx : (if s < d then d else s) = pickI s d := by
    unfold pickI
    rcases hs with ⟨h1, h2⟩ | ⟨h1, h2⟩
    · rw [if_neg (by omega), if_neg (by omega)]
    · rw [if_pos (by omega), if_pos h1]
  have hWd := fun t A3 n3 c3 W (h : RB W A3 n3 c3 (readI p.data).data) => RefIcmpWithID_any (readI p.data) t A3 n3 c3 W h (by have := h.len; omega)
  unfold IcmpOne at hWd
  generalize readI p.data = u at *
  generalize pickI s d = t at *
  replace hU := Lib.hid hU
  replace hBl := Lib.hid hBl
  replace hWd := Lib.hid hWd
  have q17 : (p.pr == 17) = false := by simp [e1]
  have q6 : (p.pr == 6) = false := by simp [e1]
  clear m1 m2 hcu hby hc hs hln h3
  go_enter Tryz.func30, Tryz.ntmps30
  go_upto_region 1 with fail
  rw [hw0.out]
  go_upto_region 2 with (first
    | (at_builtin; refine wpList_append_bytes _ rfl (.const (.slice none 0 0)) (.tmp 16) rfl rfl rfl (OB.nil _ w0.heap.size) ro0.out hlo.out (Nat.le_refl _) ?_; intro A3 c3 w3 ho3 hg3 hr3; rw [Nat.zero_add, List.nil_append] at ho3; have hB3 := (Below.refl _ w0).grown hg3 (Nat.le_refl _) (fun k hk => by cases hk); have ho3' := Lib.hid ho3.rb; clear e9 f9; have k3 := kB.out.to hB3; have e9 := k3.cell 9 (.slice ao no co) rfl; have f9 := k3.frz 9; replace k3 := Lib.hid k3; have hB3' := Lib.hid hB3; clear hg3 hr3 ho3 hB3)
    | fail)
  have hlt3 := k3.out.lt
  have k4' : Blk (w3.setCell ⟨w.heap.size, 9, none⟩ (.slice A3 no c3)) w.heap.size (cells4 q0 A3 no c3 A n c) 25 := by simpa using k3.out.set 9 (.slice A3 no c3)
  have kE4 := Lib.hid ((kE.out.to hB3'.out).far (B' := w.heap.size) (by omega) 9 (.slice A3 no c3))
  have kZ4 := Lib.hid ((kZ.out.to hB3'.out).far (B' := w.heap.size) (by omega) 9 (.slice A3 no c3))
  have ro4 := Lib.hid (show RB (w3.setCell ⟨w.heap.size, 9, none⟩ (.slice A3 no c3)) A3 no c3 p.opts from ho3'.out.farN (nbc4 k3.out) 9 (.slice A3 no c3))
  have rd4 := Lib.hid ((rd0.out.below hB3'.out).farN (nbc4 k3.out) 9 (.slice A3 no c3))
  have hb4 := Lib.hid ((hb.out.trans (hB3'.out.mono hb.out.size)).setCell (p := ⟨w.heap.size, 9, none⟩) (Nat.le_refl _) (.slice A3 no c3))
  have k4 := Lib.hid k4'
  obtain ⟨w4, hw4⟩ : ∃ w4, w3.setCell ⟨w.heap.size, 9, none⟩ (.slice A3 no c3) = w4 := ⟨_, rfl⟩
  rw [hw4] at k4 kE4 kZ4 ro4 rd4 hb4 ⊢
  replace hw4 := Lib.hid hw4
  have a4 := k4.out.cell 4 (.int .i64 q0.pr) rfl
  have a5 := k4.out.cell 5 (.int .i64 q0.src) rfl
  have a6 := k4.out.cell 6 (.int .i64 q0.dst) rfl
  rw [z4] at a4
  rw [z5] at a5
  rw [z6] at a6
  replace z4 := Lib.hid z4
  replace z5 := Lib.hid z5
  replace z6 := Lib.hid z6
  have g5 := kE4.out.cell 5 (.int .i64 p.src) rfl
  have g6 := kE4.out.cell 6 (.int .i64 p.dst) rfl
  have g10 := kE4.out.cell 10 (.slice A n c) rfl
  clear e9 f9 k4' hlt3
  try simp only [Act.put]
  go_upto_region 19 with (first
    | (go_at_call 52; refine (hU.out _ rd4.out).mono ?_; rintro e w5 ⟨A5, n5, c5, rfl, ho5, hB5⟩; have hy5 := hB5.alloc hB5.size (.cells (cellsI u A5 n5 c5) 81); have k5 := Lib.hid (k4.out.to hy5); have kZ5 := Lib.hid (kZ4.out.to hy5); have ro5 := Lib.hid (ro4.out.below hy5); have hb5 := Lib.hid (hb4.out.trans (hy5.mono hb4.out.size)); have kU5 := Lib.hid (Blk.new w5 (cellsI u A5 n5 c5) 81); have hd5 := Lib.hid (ho5.rb.alloc (.cells (cellsI u A5 n5 c5) 81)); have hi5 := Lib.hid (show (Tryz.prog.info? 81).map (·.size) = some (cellsI u A5 n5 c5).size from info_icmpW); clear a4 a5 a6 g5 g6 g10 ho5; replace hy5 := 0; replace hB5 := 0)
    | (refine wpList_load_row rfl 81 (.tmp 13) rfl w5.heap.size rfl _ (cellsI u A5 n5 c5) _ _ kU5.out.at_ Tryz.underlying81 rfl hi5.out ?_)
    | (go_at_call 57; refine (hWd.out _ _ _ _ _ hd5.out).mono ?_; rintro e w6 ⟨A6, n6, c6, rfl, ho6, hB6⟩; have k6 := Lib.hid (k5.out.to hB6); have kZ6 := Lib.hid (kZ5.out.to hB6); have ro6 := Lib.hid (ro5.out.below hB6); have hb6 := Lib.hid (hb5.out.trans (hB6.mono hb5.out.size)); have hd6 := Lib.hid ho6.rb; replace hB6 := 0; clear ho6)
    | (go_at_call 56; refine (hBl.out _ _ _ _ hd6.out).mono ?_; rintro e w7 ⟨A7, n7, c7, rfl, hr7, hB7⟩; have k7 := k6.out.to hB7; have a10 := k7.cell 10 (.slice A n c) rfl; have v10 := k7.frz 10; have kZ7 := Lib.hid (kZ6.out.to hB7); have ro7 := Lib.hid (ro6.out.below hB7); have hb7 := Lib.hid (hb6.out.trans (hB7.mono hb6.out.size)); have hr7' := Lib.hid hr7; replace hB7 := 0; clear hr7)
    | fail)
  have kL' : Blk (w7.setCell ⟨w.heap.size, 10, none⟩ (.slice A7 n7 c7)) w.heap.size (cells4 (movP p a b s d) A3 no c3 A7 n7 c7) 25 := by
    have := k7.set 10 (.slice A7 n7 c7)
    rw [hq0.out] at this
    simpa [movP] using this
  have kL := Lib.hid kL'
  have hL7 := k7.lt
  have kZ8 := Lib.hid (kZ7.out.far (B' := w.heap.size) (by omega) 10 (.slice A7 n7 c7))
  have ro8 := Lib.hid (ro7.out.farN (nbc4 k7) 10 (.slice A7 n7 c7))
  have rd8 := Lib.hid (hr7'.out.farN (nbc4 k7) 10 (.slice A7 n7 c7))
  have hb8 := Lib.hid (hb7.out.setCell (p := ⟨w.heap.size, 10, none⟩) (Nat.le_refl _) (.slice A7 n7 c7))
  generalize w7.setCell ⟨w.heap.size, 10, none⟩ (.slice A7 n7 c7) = w8 at *
  clear k7 kL' hL7
  try simp only [Act.put]
  go_wp2_with (first
    | (refine wpList_load_4 rfl (.tmp 4) rfl w.heap.size rfl _ kL.out rfl ?_)
    | (refine wpList_store_4 rfl (.tmp 8) (.tmp 97) rfl (w.heap.size + 1 + 1) (cells4 (movP p a b s d) A3 no c3 A7 n7 c7) rfl rfl _ kZ8.out rfl rfl (one4 _ _ _ _ _ _ _) ?_)
    | fail)
  refine bodyPost_ret (results_c Tryz.results30 rfl (run_load_4 (Blk.mk (setRow_heap _ _ _ _ _ _ kZ8.out.at_)) rfl)) rfl ?_
  exact ⟨A3, no, c3, A7, n7, c7, rfl, ro8.out.farRow (nbc4 (q := zero4) kZ8.out) _, rd8.out.farRow (nbc4 (q := zero4) kZ8.out) _, below_row hb8.out (by omega) _⟩
theorem RefBuilt_any (p : V4P) (a b s d : Int) (ao : Option Addr) (no co : Nat) (A : Option Addr) (n c : Nat) (w : World) (hro : RB w ao no co p.opts) (hr : RB w A n c p.data) (hno : no ≤ 100000) (hn : n ≤ 100000) (q0 : V4P) (hq0 : q0 = { p with src := a, dst := b }) (hc : codeP p = 0) (hs : ((0 ≤ s ∧ s < 65536) ∧ d = -1) ∨ (s = -1 ∧ (0 ≤ d ∧ d < 65536))) :
    Calls Tryz.prog 30 #[.agg (cells4 q0 ao no co A n c), .agg (cells4 p ao no co A n c), .int .i64 s, .int .i64 d] w (PackOut w (movP p a b s d)) := by
  rcases (codeP_zero hc).2.2 with ⟨e, _⟩ | ⟨e, _⟩ | ⟨e, _⟩
  · rcases hs with ⟨h1, h2⟩ | ⟨h1, h2⟩
    · exact RefBuilt_17s p a b s d ao no co A n c w hro hr hno hn q0 hq0 hc e h1 h2
    · exact RefBuilt_17d p a b s d ao no co A n c w hro hr hno hn q0 hq0 hc e h1 h2
  · rcases hs with ⟨h1, h2⟩ | ⟨h1, h2⟩
    · exact RefBuilt_6s p a b s d ao no co A n c w hro hr hno hn q0 hq0 hc e h1 h2
    · exact RefBuilt_6d p a b s d ao no co A n c w hro hr hno hn q0 hq0 hc e h1 h2
  · exact RefBuilt_1 p a b s d ao no co A n c w hro hr hno hn q0 hq0 hc e (by omega)
set_option maxRecDepth 100000 in
set_option maxHeartbeats 4000000 in
theorem RefPortsFrom_any (p : V4P) (addr port : Int) (ao : Option Addr) (no co : Nat) (A : Option Addr) (n c : Nat) (w : World) (hro : RB w ao no co p.opts) (hr : RB w A n c p.data) (hno : no ≤ 100000) (hn : n ≤ 100000) :
    Calls Tryz.prog 10 #[.agg (cells4 p ao no co A n c), .int .i64 addr, .int .i64 port] w (MovOut w (fromP p addr port) (codeM p addr port)) := by
  obtain ⟨w0, hw0⟩ : ∃ w0, (w.alloc (.cells (cells4 p ao no co A n c) 25)).alloc (.cells zero4c 25) = w0 := ⟨_, rfl⟩
  have hb := Lib.hid (show Below w.heap.size w w0 by rw [← hw0]; exact ((Below.refl _ w).alloc (Nat.le_refl _) _).alloc (by simp) _)
  have kB := Lib.hid (show Blk w0 w.heap.size (cells4 p ao no co A n c) 25 by rw [← hw0]; exact (blk_at rfl).alloc _)
  have kZ := Lib.hid (show Blk w0 (w.heap.size + 1) zero4c 25 by rw [← hw0]; exact blk_at (by simp))
  have hM := fun W (hW : Below w.heap.size w W) => RefMay11_any p addr port ao no co A n c W (hro.below hW) (hr.below hW) hno hn
  replace hw0 := Lib.hid hw0
  by_cases hm : codeM p addr port = 0
  rotate_left
  · have hq := Lib.hid (show fromP p addr port = zero4 by unfold fromP; rw [if_neg hm])
    have hmn : (codeM p addr port != 0) = true := by simpa using hm
    generalize codeM p addr port = k at *
    replace hM := Lib.hid hM
    clear hro hr hm
    go_enter Tryz.func10, Tryz.ntmps10
    go_upto_region 1 with fail
    rw [hw0.out]
    go_wp2_with (first
      | (refine wpList_load_4 rfl (.tmp 3) rfl w.heap.size rfl _ kB.out rfl ?_)
      | (refine wpList_store_4 rfl (.tmp 6) (.tmp 16) rfl (w.heap.size + 1) zero4c rfl rfl _ kZ1.out rfl rfl (one4 zero4 none 0 0 none 0 0) ?_; rw [setRow_self _ _ _ _ _ kZ1.out.at_])
      | (go_at_call 29; refine (hM.out _ hb.out).mono ?_; rintro e w1 ⟨rfl, hB1⟩; have kZ1 := Lib.hid (kZ.out.to hB1); have hb1 := Lib.hid (hb.out.trans (hB1.mono hb.out.size)); replace hB1 := 0)
      | fail)
    refine bodyPost_ret (results_ct Tryz.results10 rfl (run_load_4 kZ1.out rfl)) rfl ?_
    exact MovOut.no rfl hq.out hb1.out
  have hc : codeP p = 0 := by
    unfold codeM at hm
    by_cases h : codeP p = 0
    · exact h
    · rw [if_pos h] at hm; exact absurd hm h
  have hf : fitsB port 2 = true := by
    unfold codeM at hm
    rw [if_neg (fun g => g hc)] at hm
    by_cases h : rightB addr = true ∧ fitsB port 2 = true
    · exact h.2
    · rw [if_neg h] at hm; cases hm
  have hpt := of_decide_eq_true hf
  have hpt0 : 0 ≤ port ∧ port < 65536 := ⟨hpt.2.1, hpt.2.2⟩
  have hq := Lib.hid (show fromP p addr port = movP p addr p.dst port (-1) by unfold fromP; rw [if_pos hm])
  obtain ⟨q0, hq0⟩ : ∃ q0 : V4P, { p with src := addr } = q0 := ⟨_, rfl⟩
  have hBt := Lib.hid (fun W (h1 : RB W ao no co p.opts) (h2 : RB W A n c p.data) => RefBuilt_any p addr p.dst port (-1) ao no co A n c W h1 h2 hno hn q0 hq0.symm hc (.inl ⟨hpt0, rfl⟩))
  rw [hq.out]
  unfold PackOut at hBt
  rw [hm] at hM ⊢
  replace hM := Lib.hid hM
  replace hro := Lib.hid hro
  replace hr := Lib.hid hr
  replace hq0 := Lib.hid hq0
  clear hm hc hf hpt hpt0 hq
  generalize movP p addr p.dst port (-1) = q at *
  go_enter Tryz.func10, Tryz.ntmps10
  go_upto_region 1 with fail
  rw [hw0.out]
  go_upto_region 5 with (first
    | (refine wpList_load_4 rfl (.tmp 3) rfl w.heap.size rfl _ kB.out rfl ?_)
    | (refine wpList_load_4 rfl (.tmp 3) rfl w.heap.size rfl _ kB1.out rfl ?_)
    | (refine wpList_store_4 rfl (.tmp 9) (.tmp 18) rfl w1.heap.size (cells4 p ao no co A n c) rfl rfl _ (Blk.new _ zero4c 25) rfl rfl (one4 _ _ _ _ _ _ _) ?_; rw [World.setRow_alloc_new])
    | (go_at_call 29; refine (hM.out _ hb.out).mono ?_; rintro e w1 ⟨rfl, hB1⟩; have kZ1 := Lib.hid (kZ.out.to hB1); have kB1 := Lib.hid (kB.out.to hB1); have hb1 := Lib.hid (hb.out.trans (hB1.mono hb.out.size)); have hs1 := Lib.hid hB1.size; replace hB1 := 0)
    | fail)
  try simp only [Act.put]
  go_upto_region 6 with fail
  obtain ⟨w2, hw2⟩ : ∃ w2, w1.alloc (.cells (cells4 { p with src := addr } ao no co A n c) 25) = w2 := ⟨_, rfl⟩
  rw [hw2]
  have hxx : Below w1.heap.size w1 w2 := by rw [← hw2]; exact (Below.refl w1.heap.size w1).alloc (Nat.le_refl _) _
  have kQ2 := Lib.hid (show Blk w2 w1.heap.size (cells4 q0 ao no co A n c) 25 by rw [← hw2, ← hq0.out]; exact Blk.new w1 _ _)
  have kB2 := Lib.hid (kB1.out.to hxx)
  have kZ2 := Lib.hid (kZ1.out.to hxx)
  have hb3 := Lib.hid (hb1.out.trans (hxx.mono hb1.out.size))
  have ro2 := Lib.hid (hro.out.below hb3.out)
  have rd2 := Lib.hid (hr.out.below hb3.out)
  replace hw2 := Lib.hid hw2
  clear hxx
  try simp only [Act.put]
  go_wp2_with (first
    | (refine wpList_load_4 rfl (.tmp 9) rfl w1.heap.size rfl _ kQ2.out rfl ?_)
    | (refine wpList_load_4 rfl (.tmp 3) rfl w.heap.size rfl _ kB2.out rfl ?_)
    | (go_at_call 30; refine (hBt.out _ ro2.out rd2.out).mono ?_; rintro e w3 ⟨A3, n3, c3, A4, n4, c4, rfl, ho3, hd3, hB3⟩; have kZ3 := Lib.hid (kZ2.out.to hB3); have hb4 := Lib.hid (hb3.out.trans (hB3.mono hb3.out.size)); replace hB3 := 0; replace ho3 := Lib.hid ho3; replace hd3 := Lib.hid hd3)
    | (refine wpList_store_4 rfl (.tmp 6) (.tmp 24) rfl (w.heap.size + 1) (cells4 q A3 n3 c3 A4 n4 c4) rfl rfl _ kZ3.out rfl rfl (one4 _ _ _ _ _ _ _) ?_)
    | fail)
  refine bodyPost_ret (results_ct Tryz.results10 rfl (run_load_4 (Blk.mk (setRow_heap _ _ _ _ _ _ kZ3.out.at_)) rfl)) rfl ?_
  exact ⟨A3, n3, c3, A4, n4, c4, rfl, ho3.out.farRow (nbc4 (q := zero4) kZ3.out) _, hd3.out.farRow (nbc4 (q := zero4) kZ3.out) _, below_row hb4.out (Nat.le_succ _) _⟩
set_option maxRecDepth 100000 in
set_option maxHeartbeats 4000000 in
theorem RefPortsTo_any (p : V4P) (addr port : Int) (ao : Option Addr) (no co : Nat) (A : Option Addr) (n c : Nat) (w : World) (hro : RB w ao no co p.opts) (hr : RB w A n c p.data) (hno : no ≤ 100000) (hn : n ≤ 100000) :
    Calls Tryz.prog 14 #[.agg (cells4 p ao no co A n c), .int .i64 addr, .int .i64 port] w (MovOut w (toP p addr port) (codeM p addr port)) := by
  obtain ⟨w0, hw0⟩ : ∃ w0, (w.alloc (.cells (cells4 p ao no co A n c) 25)).alloc (.cells zero4c 25) = w0 := ⟨_, rfl⟩
  have hb := Lib.hid (show Below w.heap.size w w0 by rw [← hw0]; exact ((Below.refl _ w).alloc (Nat.le_refl _) _).alloc (by simp) _)
  have kB := Lib.hid (show Blk w0 w.heap.size (cells4 p ao no co A n c) 25 by rw [← hw0]; exact (blk_at rfl).alloc _)
  have kZ := Lib.hid (show Blk w0 (w.heap.size + 1) zero4c 25 by rw [← hw0]; exact blk_at (by simp))
  have hM := fun W (hW : Below w.heap.size w W) => RefMay11_any p addr port ao no co A n c W (hro.below hW) (hr.below hW) hno hn
  replace hw0 := Lib.hid hw0
  by_cases hm : codeM p addr port = 0
  rotate_left
  · have hq := Lib.hid (show toP p addr port = zero4 by unfold toP; rw [if_neg hm])
    have hmn : (codeM p addr port != 0) = true := by simpa using hm
    generalize codeM p addr port = k at *
    replace hM := Lib.hid hM
    clear hro hr hm
    go_enter Tryz.func14, Tryz.ntmps14
    go_upto_region 1 with fail
    rw [hw0.out]
    go_wp2_with (first
      | (refine wpList_load_4 rfl (.tmp 3) rfl w.heap.size rfl _ kB.out rfl ?_)
      | (refine wpList_store_4 rfl (.tmp 6) (.tmp 16) rfl (w.heap.size + 1) zero4c rfl rfl _ kZ1.out rfl rfl (one4 zero4 none 0 0 none 0 0) ?_; rw [setRow_self _ _ _ _ _ kZ1.out.at_])
      | (go_at_call 29; refine (hM.out _ hb.out).mono ?_; rintro e w1 ⟨rfl, hB1⟩; have kZ1 := Lib.hid (kZ.out.to hB1); have hb1 := Lib.hid (hb.out.trans (hB1.mono hb.out.size)); replace hB1 := 0)
      | fail)
    refine bodyPost_ret (results_ct Tryz.results14 rfl (run_load_4 kZ1.out rfl)) rfl ?_
    exact MovOut.no rfl hq.out hb1.out
  have hc : codeP p = 0 := by
    unfold codeM at hm
    by_cases h : codeP p = 0
    · exact h
    · rw [if_pos h] at hm; exact absurd hm h
  have hf : fitsB port 2 = true := by
    unfold codeM at hm
    rw [if_neg (fun g => g hc)] at hm
    by_cases h : rightB addr = true ∧ fitsB port 2 = true
    · exact h.2
    · rw [if_neg h] at hm; cases hm
  have hpt := of_decide_eq_true hf
  have hpt0 : 0 ≤ port ∧ port < 65536 := ⟨hpt.2.1, hpt.2.2⟩
  have hq := Lib.hid (show toP p addr port = movP p p.src addr (-1) port by unfold toP; rw [if_pos hm])
  obtain ⟨q0, hq0⟩ : ∃ q0 : V4P, { p with dst := addr } = q0 := ⟨_, rfl⟩
  have hBt := Lib.hid (fun W (h1 : RB W ao no co p.opts) (h2 : RB W A n c p.data) => RefBuilt_any p p.src addr (-1) port ao no co A n c W h1 h2 hno hn q0 hq0.symm hc (.inr ⟨rfl, hpt0⟩))
  rw [hq.out]
  unfold PackOut at hBt
  rw [hm] at hM ⊢
  replace hM := Lib.hid hM
  replace hro := Lib.hid hro
  replace hr := Lib.hid hr
  replace hq0 := Lib.hid hq0
  clear hm hc hf hpt hpt0 hq
  generalize movP p p.src addr (-1) port = q at *
  go_enter Tryz.func14, Tryz.ntmps14
  go_upto_region 1 with fail
  rw [hw0.out]
  go_upto_region 5 with (first
    | (refine wpList_load_4 rfl (.tmp 3) rfl w.heap.size rfl _ kB.out rfl ?_)
    | (refine wpList_load_4 rfl (.tmp 3) rfl w.heap.size rfl _ kB1.out rfl ?_)
    | (refine wpList_store_4 rfl (.tmp 9) (.tmp 18) rfl w1.heap.size (cells4 p ao no co A n c) rfl rfl _ (Blk.new _ zero4c 25) rfl rfl (one4 _ _ _ _ _ _ _) ?_; rw [World.setRow_alloc_new])
    | (go_at_call 29; refine (hM.out _ hb.out).mono ?_; rintro e w1 ⟨rfl, hB1⟩; have kZ1 := Lib.hid (kZ.out.to hB1); have kB1 := Lib.hid (kB.out.to hB1); have hb1 := Lib.hid (hb.out.trans (hB1.mono hb.out.size)); have hs1 := Lib.hid hB1.size; replace hB1 := 0)
    | fail)
  try simp only [Act.put]
  go_upto_region 6 with fail
  obtain ⟨w2, hw2⟩ : ∃ w2, w1.alloc (.cells (cells4 { p with dst := addr } ao no co A n c) 25) = w2 := ⟨_, rfl⟩
  rw [hw2]
  have hxx : Below w1.heap.size w1 w2 := by rw [← hw2]; exact (Below.refl w1.heap.size w1).alloc (Nat.le_refl _) _
  have kQ2 := Lib.hid (show Blk w2 w1.heap.size (cells4 q0 ao no co A n c) 25 by rw [← hw2, ← hq0.out]; exact Blk.new w1 _ _)
  have kB2 := Lib.hid (kB1.out.to hxx)
  have kZ2 := Lib.hid (kZ1.out.to hxx)
  have hb3 := Lib.hid (hb1.out.trans (hxx.mono hb1.out.size))
  have ro2 := Lib.hid (hro.out.below hb3.out)
  have rd2 := Lib.hid (hr.out.below hb3.out)
  replace hw2 := Lib.hid hw2
  clear hxx
  try simp only [Act.put]
  go_wp2_with (first
    | (refine wpList_load_4 rfl (.tmp 9) rfl w1.heap.size rfl _ kQ2.out rfl ?_)
    | (refine wpList_load_4 rfl (.tmp 3) rfl w.heap.size rfl _ kB2.out rfl ?_)
    | (go_at_call 30; refine (hBt.out _ ro2.out rd2.out).mono ?_; rintro e w3 ⟨A3, n3, c3, A4, n4, c4, rfl, ho3, hd3, hB3⟩; have kZ3 := Lib.hid (kZ2.out.to hB3); have hb4 := Lib.hid (hb3.out.trans (hB3.mono hb3.out.size)); replace hB3 := 0; replace ho3 := Lib.hid ho3; replace hd3 := Lib.hid hd3)
    | (refine wpList_store_4 rfl (.tmp 6) (.tmp 24) rfl (w.heap.size + 1) (cells4 q A3 n3 c3 A4 n4 c4) rfl rfl _ kZ3.out rfl rfl (one4 _ _ _ _ _ _ _) ?_)
    | fail)
  refine bodyPost_ret (results_ct Tryz.results14 rfl (run_load_4 (Blk.mk (setRow_heap _ _ _ _ _ _ kZ3.out.at_)) rfl)) rfl ?_
  exact ⟨A3, n3, c3, A4, n4, c4, rfl, ho3.out.farRow (nbc4 (q := zero4) kZ3.out) _, hd3.out.farRow (nbc4 (q := zero4) kZ3.out) _, below_row hb4.out (Nat.le_succ _) _⟩
end Go.Proofs.YtehecefapiblpaaGreat
