/- The law ClampTwice: its walk. -/
import Derived.Test.YtehecefapiblpaaClampT
import Derived.Test.YtehecefapiblpaaV4I
import Derived.Laws.StructEq
set_option linter.unusedVariables false
namespace Go.Proofs.Ytehecefapiblpaa
open Go Go.RowKit

theorem readV4_chk {bs : List Int} (h : codeV4 false bs = 0) : chk4 (readV4 false bs) = 0 := by
  have e : readV4 false bs = pack4 bs := by unfold readV4; rw [if_pos h]
  rw [e]
  unfold codeV4 at h
  by_cases h1 : codeO false bs ≠ 0
  · rw [if_pos h1] at h; exact absurd h h1
  rw [if_neg h1, if_neg (by decide)] at h
  by_cases h2 : (foldI (totalI [bs.take (hd4 bs)]) == 65535) = false
  · rw [if_pos h2] at h; cases h
  rw [if_neg h2] at h
  by_cases h3 : chk4 (pack4 bs) ≠ 0
  · rw [if_pos h3] at h; cases h
  · exact Classical.not_not.1 h3
theorem segT_sd (m : TcpP) (b : Int) : (segT m b).s = m.s ∧ (segT m b).d = m.d := by unfold segT; split <;> exact ⟨rfl, rfl⟩
/-- The ports stay. -/
theorem portsP_packC {p : V4P} (b : Int) (hd : Byts p.data) : portsP (packC p b) = portsP p := by
  obtain ⟨_, hc, _⟩ := packC_twice (p := p) b hd
  by_cases h : codeP p = 0 ∧ p.pr = 6
  · obtain ⟨hk, h6⟩ := h
    obtain ⟨h1, h2, h3⟩ := codeP_six hk h6
    obtain ⟨g1, g2, g3, g4, g5⟩ := clampD_ok b hd h3
    have e : packC p b = { p with data := clampD p b } := by unfold packC; rw [if_pos ⟨hk, h6⟩]
    rw [e] at hc ⊢
    unfold portsP
    rw [hc, hk]
    simp only [ne_eq, not_true_eq_false, if_false]
    rw [if_neg (by rw [h6]; decide), if_pos h6, if_neg (by rw [h6]; decide), if_pos h6, g5]
    obtain ⟨s1, s2⟩ := segT_sd (readT p.src p.dst p.data) b
    rw [s1, s2]
  · have e : packC p b = p := by unfold packC; rw [if_neg h]
    rw [e]
theorem rangeAt_blk {W : World} {g : Nat} {C : Array Value} {T : TypeId} (h : Blk W g C T) : W.rangeAt g 0 C.toList := fun j v hj => by rw [Nat.zero_add]; exact h.cell j v (by rw [← Array.getElem?_toList]; exact hj)
set_option maxRecDepth 100000 in
set_option maxHeartbeats 4000000 in
theorem ClampTwice_walk (A : Option Addr) (n c : Nat) (bs : List Int) (x : Int) (w : World) (h : RB w A n c bs) (hx0 : -9223372036854775808 ≤ x) (hx1 : x ≤ 9223372036854775807) :
    Calls Try.prog 7 #[.slice A n c, .int .i64 x] w fun e w' => e = .returned (.bool true) ∧ Below w.heap.size w w' := by
  clear hx0 hx1
  have hb := Lib.hid (Below.refl w.heap.size w)
  by_cases c1 : 3000 < n
  · have c1i : (3000 : Int) < n := by omega
    clear h
    go_enter Try.func7, Try.ntmps7
    go_wp2_with (first
      | (go_at_call 25; refine (awake12 _).mono ?_; rintro e W1 ⟨rfl, hB⟩; have hbE := Lib.hid (hb.out.trans (hB.mono hb.out.size)); replace hB := 0)
      | fail)
    go_ret
    exact ⟨by first | rfl | simp, hbE.out⟩
  have c1i : ¬ (3000 : Int) < n := by omega
  have hP := fun W (hW : Below w.heap.size w W) => RefParse4_any A n c bs W (h.below hW) (by omega)
  unfold V4Out at hP
  by_cases hk : codeV4 false bs = 0
  rotate_left
  · have hkn : (codeV4 false bs != 0) = true := by simpa using hk
    generalize codeV4 false bs = kk at *
    generalize readV4 false bs = p at *
    replace hP := Lib.hid hP
    clear h hk
    go_enter Try.func7, Try.ntmps7
    go_wp2_with (first
      | (go_at_call 13; refine (hP.out _ hb.out).mono ?_; rintro e w1 ⟨Ao, no, co, A1, n1, c1', rfl, ho1, hd1, hB1⟩; have hb1 := Lib.hid (hB1.alloc hB1.size (.cells (cells4 p Ao no co A1 n1 c1') 32)); clear ho1 hd1; replace hB1 := 0)
      | (refine wpList_store_4 rfl (.tmp 5) (.tmp 19) rfl w1.heap.size (cells4 p Ao no co A1 n1 c1') rfl rfl _ (Blk.new _ zero4c 32) rfl rfl (one4 _ _ _ _ _ _ _) ?_; rw [World.setRow_alloc_new])
      | (go_at_call 25; refine (awake12 _).mono ?_; rintro e W1 ⟨rfl, hB⟩; have hbE := Lib.hid (hb1.out.trans (hB.mono hb1.out.size)); replace hB := 0)
      | fail)
    go_ret
    exact ⟨by first | rfl | simp, hbE.out⟩
  have hch := readV4_chk hk
  rw [hk] at hP
  generalize readV4 false bs = p at *
  replace hP := Lib.hid hP
  clear h hk
  go_enter Try.func7, Try.ntmps7
  go_upto_region 6 with (first
    | (go_at_call 13; refine (hP.out _ hb.out).mono ?_; rintro e w1 ⟨Ao, no, co, A1, n1, c1', rfl, ho1, hd1, hB1⟩)
    | (refine wpList_store_4 rfl (.tmp 5) (.tmp 19) rfl w1.heap.size (cells4 p Ao no co A1 n1 c1') rfl rfl _ (Blk.new _ zero4c 32) rfl rfl (one4 _ _ _ _ _ _ _) ?_; rw [World.setRow_alloc_new])
    | fail)
  have hch' : checkV4 p no n1 = 0 := by unfold chk4 at hch; rw [ho1.len, hd1.len] at hch; exact hch
  obtain ⟨l1, l2, _, _⟩ := checkV4_ok4 hch'
  obtain ⟨t1, t2, t3, t4, t5⟩ := packC_twice (p := p) x hd1.byt
  have t6 := portsP_packC (p := p) x hd1.byt
  rw [hd1.len] at t3
  obtain ⟨wA, hwA⟩ : ∃ wA, w1.alloc (.cells (cells4 p Ao no co A1 n1 c1') 32) = wA := ⟨_, rfl⟩
  rw [hwA]
  have k5 := Lib.hid (show Blk wA w1.heap.size (cells4 p Ao no co A1 n1 c1') 32 by rw [← hwA]; exact Blk.new w1 _ _)
  have ro5 := Lib.hid (show RB wA Ao no co p.opts by rw [← hwA]; exact ho1.rb.alloc _)
  have rd5 := Lib.hid (show RB wA A1 n1 c1' p.data by rw [← hwA]; exact hd1.rb.alloc _)
  have hb5 := Lib.hid (show Below w.heap.size w wA by rw [← hwA]; exact hB1.alloc hB1.size _)
  replace hwA := Lib.hid hwA
  have hq1 := fun W (hW : Below wA.heap.size wA W) => ClampPacket_any p x Ao no co A1 n1 c1' W (ro5.out.below hW) (rd5.out.below hW) (by omega) (by omega)
  have hf1 := fun W (hW : Below wA.heap.size wA W) => PortsOf_any p Ao no co A1 n1 c1' W (ro5.out.below hW) (rd5.out.below hW) (by omega) (by omega)
  have hlo : (packC p x).opts.length = no := by
    have : (packC p x).opts = p.opts := by unfold packC; split <;> rfl
    rw [this, ho1.len]
  have hq2 := fun W (Ao2 : Option Addr) (co2 : Nat) (A2 : Option Addr) (c2 : Nat) (h1 : RB W Ao2 no co2 (packC p x).opts) (h2 : RB W A2 n1 c2 (packC p x).data) => ClampPacket_any (packC p x) x Ao2 no co2 A2 n1 c2 W h1 h2 (by omega) (by omega)
  have hf2 := fun W (Ao2 : Option Addr) (co2 : Nat) (A2 : Option Addr) (c2 : Nat) (h1 : RB W Ao2 no co2 (packC p x).opts) (h2 : RB W A2 n1 c2 (packC p x).data) => PortsOf_any (packC p x) Ao2 no co2 A2 n1 c2 W h1 h2 (by omega) (by omega)
  unfold PortsOut at hf1 hf2
  rw [t1] at hq2
  rw [t2, t6] at hf2
  have hi4 := Lib.hid info_v4
  clear t1 t2 t4 t6 hch hch' l1 l2 ho1 hd1 hB1
  generalize packC p x = q at *
  generalize portsP p = xx at *
  generalize codeP p = kk at *
  replace hq1 := Lib.hid hq1
  replace hf1 := Lib.hid hf1
  replace hq2 := Lib.hid hq2
  replace hf2 := Lib.hid hf2
  replace t3 := Lib.hid t3
  replace t5 := Lib.hid t5
  replace hlo := Lib.hid hlo
  go_upto_region 9 with (first
    | (refine wpList_load_4 rfl (.tmp 5) rfl w1.heap.size rfl _ k52.out rfl ?_)
    | (refine wpList_load_4 rfl (.tmp 5) rfl w1.heap.size rfl _ k5.out rfl ?_)
    | (refine wpList_load_4 rfl (.tmp 7) rfl w2.heap.size rfl _ k73.out rfl ?_)
    | (go_at_call 26; refine (hq1.out _ (Below.refl _ _)).mono ?_; rintro e w2 ⟨Ao2, no2, co2, A2, n2, c2, rfl, ro2, rd2, hB2⟩; obtain rfl : no2 = no := ro2.len.symm.trans hlo.out; obtain rfl : n2 = n1 := rd2.len.symm.trans t3.out; have hs2 := Lib.hid hB2.size; have hy2 := hB2.alloc hB2.size (.cells (cells4 q Ao2 no2 co2 A2 n2 c2) 32); have k52 := Lib.hid (k5.out.to hy2); have hx2 := Lib.hid hy2; have k72 := Lib.hid (Blk.new w2 (cells4 q Ao2 no2 co2 A2 n2 c2) 32); have ro22 := Lib.hid (ro2.alloc (.cells (cells4 q Ao2 no2 co2 A2 n2 c2) 32)); have rd22 := Lib.hid (rd2.alloc (.cells (cells4 q Ao2 no2 co2 A2 n2 c2) 32)); clear ro2 rd2 hy2; replace hB2 := 0)
    | (refine wpList_store_4 rfl (.tmp 7) (.tmp 26) rfl w2.heap.size (cells4 q Ao2 no2 co2 A2 n2 c2) rfl rfl _ (Blk.new _ zero4c 32) rfl rfl (one4 _ _ _ _ _ _ _) ?_; rw [World.setRow_alloc_new])
    | (go_at_call_of 27 (Value.agg (cells4 p Ao no2 co A1 n2 c1')); refine (hf1.out _ hx2.out).mono ?_; rintro e w3 ⟨rfl, hB3⟩; have hy3 := hB3.alloc hB3.size (.cells (cellsPo xx) 41); have k53 := Lib.hid (k52.out.to hy3); have k73 := Lib.hid (k72.out.to hy3); have k83 := Lib.hid (Blk.new w3 (cellsPo xx) 41); have ro3 := Lib.hid (ro22.out.below hy3); have rd3 := Lib.hid (rd22.out.below hy3); have hx3 := Lib.hid (hx2.out.trans (hy3.mono hx2.out.size)); clear hy3; replace hB3 := 0)
    | (go_at_call_of 27 (Value.agg (cells4 q Ao2 no2 co2 A2 n2 c2)); refine (hf2.out _ Ao2 co2 A2 c2 ro3.out rd3.out).mono ?_; rintro e w4 ⟨rfl, hB4⟩; have hy4 := hB4.alloc hB4.size (.cells (cellsPo xx) 41); have k54 := Lib.hid (k53.out.to hy4); have k74 := Lib.hid (k73.out.to hy4); have k84 := Lib.hid (k83.out.to hy4); have k94 := Lib.hid (Blk.new w4 (cellsPo xx) 41); have ro4 := Lib.hid (ro3.out.below hy4); have rd4 := Lib.hid (rd3.out.below hy4); have hx4 := Lib.hid (hx3.out.trans (hy4.mono hx3.out.size)); clear hy4; replace hB4 := 0)
    | fail)
  obtain ⟨w5, hw5⟩ : ∃ w5, w4.alloc (.cells (cellsPo xx) 41) = w5 := ⟨_, rfl⟩
  rw [hw5] at k54 k74 k84 k94 ro4 rd4 hx4 ⊢
  replace hw5 := Lib.hid hw5
  have hF := Lib.hid (fun W (hW : Below w5.heap.size w5 W) => show (W.cell? ⟨w2.heap.size, 10, none⟩ = some (.slice A2 n2 c2) ∧ W.cell? ⟨w1.heap.size, 10, none⟩ = some (.slice A1 n2 c1')) ∧ W.rangeAt w3.heap.size 0 (cellsPo xx).toList ∧ W.rangeAt w4.heap.size 0 (cellsPo xx).toList ∧ W.rangeAt w2.heap.size 0 (cells4 q Ao2 no2 co2 A2 n2 c2).toList from
    ⟨⟨(k74.out.to hW).cell 10 _ rfl, (k54.out.to hW).cell 10 _ rfl⟩, rangeAt_blk (k84.out.to hW), rangeAt_blk (k94.out.to hW), rangeAt_blk (k74.out.to hW)⟩)
  have hiP := Lib.hid (show (Try.prog.info? 41).map (·.size) = some (cellsPo xx).toList.length from info_po)
  have hiQ := Lib.hid (show (Try.prog.info? 32).map (·.size) = some (cells4 q Ao2 no2 co2 A2 n2 c2).toList.length from info_v4)
  have hy5 := Lib.hid (Below.refl w5.heap.size w5).drew
  have hkk : (kk != kk) = false := by simp
  try simp only [Act.put]
  refine wp_region_held_drew (S := fun W => (W.cell? ⟨w2.heap.size, 10, none⟩ = some (.slice A2 n2 c2) ∧ W.cell? ⟨w1.heap.size, 10, none⟩ = some (.slice A1 n2 c1')) ∧ W.rangeAt w3.heap.size 0 (cellsPo xx).toList ∧ W.rangeAt w4.heap.size 0 (cellsPo xx).toList ∧ W.rangeAt w2.heap.size 0 (cells4 q Ao2 no2 co2 A2 n2 c2).toList) (by kernel_rfl) (hF.out _ hy5.out) (fun hHeld => ?_)
  refine take_h (i := 0) (v := ?_) rfl rfl (by kernel_rfl) (by kernel_rfl) (by kernel_rfl) (fun _ _ _ h => h) (Or.inl ⟨by rfl, fun W hSw => ?_⟩) (by assumption) ?_
  rotate_left
  · (clear hSw; go_simp; try with_reducible rfl)
  simp only [Act.put, List.setIfInBounds_toArray, List.set_cons_zero, List.set_cons_succ]
  refine take_h (i := 1) (v := ?_) rfl rfl (by kernel_rfl) (by kernel_rfl) (by kernel_rfl) (fun _ _ _ h => h) (Or.inl ⟨by rfl, fun W hSw => ?_⟩) (by assumption) ?_
  rotate_left
  · (clear hSw; go_simp; try with_reducible rfl)
  simp only [Act.put, List.setIfInBounds_toArray, List.set_cons_zero, List.set_cons_succ]
  refine take_h (i := 2) (v := ?_) rfl rfl (by kernel_rfl) (by kernel_rfl) (by kernel_rfl) (fun _ _ _ h => h) (Or.inl ⟨by rfl, fun W hSw => ?_⟩) (by assumption) ?_
  rotate_left
  · (clear hSw; go_simp; try with_reducible rfl)
  simp only [Act.put, List.setIfInBounds_toArray, List.set_cons_zero, List.set_cons_succ]
  refine take_h (i := 3) (v := ?_) rfl rfl (by kernel_rfl) (by kernel_rfl) (by kernel_rfl) (fun _ _ _ h => h) (Or.inl ⟨by rfl, fun W hSw => ?_⟩) (by assumption) ?_
  rotate_left
  · (clear hSw; go_simp; try with_reducible rfl)
  simp only [Act.put, List.setIfInBounds_toArray, List.set_cons_zero, List.set_cons_succ]
  refine take_h (i := 4) rfl rfl (by kernel_rfl) (by kernel_rfl) (by kernel_rfl) (fun _ _ _ h => h) (yieldsIf_load_mid (by rfl) 41 (.tmp 8) rfl _ _ rfl (cellsPo xx).toList _ (fun W hW => hW.2.1) Try.underlying41 rfl hiP.out) (by assumption) ?_
  simp only [Act.put, List.setIfInBounds_toArray, List.set_cons_zero, List.set_cons_succ]
  refine take_h (i := 5) rfl rfl (by kernel_rfl) (by kernel_rfl) (by kernel_rfl) (fun _ _ _ h => h) (yieldsIf_load_mid (by rfl) 41 (.tmp 10) rfl _ _ rfl (cellsPo xx).toList _ (fun W hW => hW.2.2.1) Try.underlying41 rfl hiP.out) (by assumption) ?_
  simp only [Act.put, List.setIfInBounds_toArray, List.set_cons_zero, List.set_cons_succ]
  refine take_h (i := 6) (v := ?_) rfl rfl (by kernel_rfl) (by kernel_rfl) (by kernel_rfl) (fun _ _ _ h => h) (Or.inl ⟨by rfl, fun W hSw => ?_⟩) (by assumption) ?_
  rotate_left
  · (clear hSw; go_simp; try with_reducible rfl)
  simp only [Act.put, List.setIfInBounds_toArray, List.set_cons_zero, List.set_cons_succ]
  refine take_h (i := 7) (v := ?_) rfl rfl (by kernel_rfl) (by kernel_rfl) (by kernel_rfl) (fun _ _ _ h => h) (Or.inl ⟨by rfl, fun W hSw => ?_⟩) (by assumption) ?_
  rotate_left
  · (clear hSw; go_simp; try with_reducible rfl)
  simp only [Act.put, List.setIfInBounds_toArray, List.set_cons_zero, List.set_cons_succ]
  refine take_h (i := 8) (v := ?_) rfl rfl (by kernel_rfl) (by kernel_rfl) (by kernel_rfl) (fun _ _ _ h => h) (Or.inl ⟨by rfl, fun W hSw => ?_⟩) (by assumption) ?_
  rotate_left
  · (clear hSw; go_simp; try with_reducible rfl)
  simp only [Act.put, List.setIfInBounds_toArray, List.set_cons_zero, List.set_cons_succ]
  refine take_h (i := 9) (v := ?_) rfl rfl (by kernel_rfl) (by kernel_rfl) (by kernel_rfl) (fun _ _ _ h => h) (Or.inl ⟨by rfl, fun W hSw => ?_⟩) (by assumption) ?_
  rotate_left
  · (clear hSw; go_simp; try with_reducible rfl)
  simp only [Act.put, List.setIfInBounds_toArray, List.set_cons_zero, List.set_cons_succ]
  refine take_h (i := 10) (v := ?_) rfl rfl (by kernel_rfl) (by kernel_rfl) (by kernel_rfl) (fun _ _ _ h => h) (Or.inl ⟨by rfl, fun W hSw => ?_⟩) (by assumption) ?_
  rotate_left
  · (obtain ⟨hs0, _⟩ := hSw; go_simp; try with_reducible rfl)
  simp only [Act.put, List.setIfInBounds_toArray, List.set_cons_zero, List.set_cons_succ]
  refine take_h (i := 11) (v := ?_) rfl rfl (by kernel_rfl) (by kernel_rfl) (by kernel_rfl) (fun _ _ _ h => h) (Or.inl ⟨by rfl, fun W hSw => ?_⟩) (by assumption) ?_
  rotate_left
  · (clear hSw; go_simp; try with_reducible rfl)
  simp only [Act.put, List.setIfInBounds_toArray, List.set_cons_zero, List.set_cons_succ]
  refine take_h (i := 12) (v := ?_) rfl rfl (by kernel_rfl) (by kernel_rfl) (by kernel_rfl) (fun _ _ _ h => h) (Or.inl ⟨by rfl, fun W hSw => ?_⟩) (by assumption) ?_
  rotate_left
  · (clear hSw; go_simp; try with_reducible rfl)
  simp only [Act.put, List.setIfInBounds_toArray, List.set_cons_zero, List.set_cons_succ]
  refine take_h (i := 13) (v := ?_) rfl rfl (by kernel_rfl) (by kernel_rfl) (by kernel_rfl) (fun _ _ _ h => h) (Or.inl ⟨by rfl, fun W hSw => ?_⟩) (by assumption) ?_
  rotate_left
  · (obtain ⟨hs0, _⟩ := hSw; go_simp; try with_reducible rfl)
  simp only [Act.put, List.setIfInBounds_toArray, List.set_cons_zero, List.set_cons_succ]
  refine take_h (i := 14) (v := ?_) rfl rfl (by kernel_rfl) (by kernel_rfl) (by kernel_rfl) (fun _ _ _ h => h) (Or.inl ⟨by rfl, fun W hSw => ?_⟩) (by assumption) ?_
  rotate_left
  · (clear hSw; go_simp; try with_reducible rfl)
  simp only [Act.put, List.setIfInBounds_toArray, List.set_cons_zero, List.set_cons_succ]
  refine take_h (i := 15) (v := ?_) rfl rfl (by kernel_rfl) (by kernel_rfl) (by kernel_rfl) (fun _ _ _ h => h) (Or.inl ⟨by rfl, fun W hSw => ?_⟩) (by assumption) ?_
  rotate_left
  · (clear hSw; go_simp; try with_reducible rfl)
  simp only [Act.put, List.setIfInBounds_toArray, List.set_cons_zero, List.set_cons_succ]
  refine take_h (i := 16) (v := ?_) rfl rfl (by kernel_rfl) (by kernel_rfl) (by kernel_rfl) (fun _ _ _ h => h) (Or.inl ⟨by rfl, fun W hSw => ?_⟩) (by assumption) ?_
  rotate_left
  · (clear hSw; go_simp; try with_reducible rfl)
  simp only [Act.put, List.setIfInBounds_toArray, List.set_cons_zero, List.set_cons_succ]
  refine take_h (i := 17) (v := ?_) rfl rfl (by kernel_rfl) (by kernel_rfl) (by kernel_rfl) (fun _ _ _ h => h) (Or.inl ⟨by rfl, fun W hSw => ?_⟩) (by assumption) ?_
  rotate_left
  · (clear hSw; go_simp; try with_reducible rfl)
  simp only [Act.put, List.setIfInBounds_toArray, List.set_cons_zero, List.set_cons_succ]
  refine take_h (i := 18) rfl rfl (by kernel_rfl) (by kernel_rfl) (by kernel_rfl) (fun _ _ _ h => h) (yieldsIf_load_mid (by rfl) 32 (.tmp 7) rfl _ _ rfl (cells4 q Ao2 no2 co2 A2 n2 c2).toList _ (fun W hW => hW.2.2.2) Try.underlying32 rfl hiQ.out) (by assumption) ?_
  simp only [Act.put, List.setIfInBounds_toArray, List.set_cons_zero, List.set_cons_succ]
  refine take_h (i := 19) (v := ?_) rfl rfl (by kernel_rfl) (by kernel_rfl) (by kernel_rfl) (fun _ _ _ h => h) (Or.inl ⟨by rfl, fun W hSw => ?_⟩) (by assumption) ?_
  rotate_left
  · (clear hSw; go_simp; try with_reducible rfl)
  simp only [Act.put, List.setIfInBounds_toArray, List.set_cons_zero, List.set_cons_succ]
  refine take_h (i := 21) rfl rfl (by kernel_rfl) (by kernel_rfl) (by kernel_rfl) (fun _ _ _ h => h) (yieldsIf_load_mid (by rfl) 32 (.tmp 7) rfl _ _ rfl (cells4 q Ao2 no2 co2 A2 n2 c2).toList _ (fun W hW => hW.2.2.2) Try.underlying32 rfl hiQ.out) (by assumption) ?_
  simp only [Act.put, List.setIfInBounds_toArray, List.set_cons_zero, List.set_cons_succ]
  refine step_h (i := 20) rfl rfl (by kernel_rfl) (fun K hK => ?_)
  go_simp
  refine Calls.mono (hq2.out _ Ao2 co2 A2 c2 (ro4.out.below hy5.out) (rd4.out.below hy5.out)) ?_
  rintro e w6 ⟨Ao6, no6, co6, A6, n6, c6, rfl, ro6, rd6, hB6⟩
  have hy6 := Lib.hid (hy5.out.trans (hB6.mono hy5.out.size))
  have hS6 := hF.out w6 hy6.out
  have ro6' := Lib.hid ro6
  have rd6' := Lib.hid rd6
  clear hHeld hB6 ro6 rd6
  go_wp2_with fail
  refine hK.out _ _ hS6 (fun hHeld => ?_)
  clear hK K
  try simp only [Act.put, List.setIfInBounds_toArray, List.set_cons_zero, List.set_cons_succ]
  refine step_h (i := 22) rfl rfl (by kernel_rfl) (fun K hK => ?_)
  go_simp
  refine Calls.mono (Same4_rl (q := q) ⟨Ao6, no6, co6, A6, n6, c6, rfl, ro6'.out, rd6'.out⟩ ⟨Ao2, no2, co2, A2, n2, c2, rfl, ro4.out.below hy6.out, rd4.out.below hy6.out⟩) ?_
  rintro e w7 ⟨rfl, hB7⟩
  have hy7 := hy6.out.trans (hB7.mono hy6.out.size)
  have hS7 := hF.out w7 hy7
  clear hHeld hB7 hS6
  go_wp2_with fail
  refine hK.out _ _ hS7 (fun hHeld => ?_)
  clear hK K
  try simp only [Act.put, List.setIfInBounds_toArray, List.set_cons_zero, List.set_cons_succ]
  refine take_h (i := 23) (v := ?_) rfl rfl (by kernel_rfl) (by kernel_rfl) (by kernel_rfl) (fun _ _ _ h => h) (Or.inl ⟨by rfl, fun W hSw => ?_⟩) (by assumption) ?_
  rotate_left
  · (clear hSw; go_simp; try with_reducible rfl)
  simp only [Act.put, List.setIfInBounds_toArray, List.set_cons_zero, List.set_cons_succ]
  refine take_h (i := 24) (v := ?_) rfl rfl (by kernel_rfl) (by kernel_rfl) (by kernel_rfl) (fun _ _ _ h => h) (Or.inl ⟨by rfl, fun W hSw => ?_⟩) (by assumption) ?_
  rotate_left
  · (clear hSw; go_simp; try with_reducible rfl)
  simp only [Act.put, List.setIfInBounds_toArray, List.set_cons_zero, List.set_cons_succ]
  refine wpAnyH_done (by kernel_rfl) ?_ _
  have k57 := k54.out.to hy7
  have k77 := k74.out.to hy7
  have e10 := k57.cell 10 _ rfl
  have f10 := k77.frz 10
  have d10 := k77.cell 10 _ rfl
  have hxL := hx4.out.trans (hy7.mono hx4.out.size)
  have hbL := hb5.out.trans (hxL.mono hb5.out.size)
  have hne : w1.heap.size ≠ w2.heap.size := by have h1 := k5.out.lt; have h2 := hs2.out; omega
  have hq5 : q.opts = p.opts := by have := congrArg V4P.opts t5.out; exact this
  have kL := Lib.hid (show Blk (w7.setCell ⟨w2.heap.size, 10, none⟩ (.slice A1 n2 c1')) w2.heap.size (cells4 p Ao2 no2 co2 A1 n2 c1') 32 by
    have h1 : Blk (w7.setCell ⟨w2.heap.size, 10, none⟩ (.slice A1 n2 c1')) w2.heap.size (cells4 { q with data := p.data } Ao2 no2 co2 A1 n2 c1') 32 := by simpa using k77.set 10 (.slice A1 n2 c1')
    rw [t5.out] at h1
    exact h1)
  have k5L := Lib.hid (k57.far (B' := w2.heap.size) hne 10 (.slice A1 n2 c1'))
  have roL := Lib.hid ((ro5.out.below hxL).farN (nbc4 k77) 10 (.slice A1 n2 c1'))
  have rdL := Lib.hid ((rd5.out.below hxL).farN (nbc4 k77) 10 (.slice A1 n2 c1'))
  have roM := Lib.hid (show RB (w7.setCell ⟨w2.heap.size, 10, none⟩ (.slice A1 n2 c1')) Ao2 no2 co2 p.opts by have := (ro4.out.below hy7).farN (nbc4 k77) 10 (.slice A1 n2 c1'); rwa [hq5] at this)
  have hbM := Lib.hid (hbL.setCell (p := ⟨w2.heap.size, 10, none⟩) (Nat.le_trans hb5.out.size hs2.out) (.slice A1 n2 c1'))
  clear hHeld hS7 k57 k77 hxL hbL hne hq5 hiP hiQ hy7
  try simp only [Act.put]
  go_wp2_with (first
    | (refine wpList_load_4 rfl (.tmp 5) rfl w1.heap.size rfl _ k5L.out rfl ?_)
    | (refine wpList_load_4 rfl (.tmp 7) rfl w2.heap.size rfl _ kL.out rfl ?_)
    | (go_at_call 21; refine (Same4_rl (q := p) ⟨Ao, no2, co, A1, n2, c1', rfl, roL.out, rdL.out⟩ ⟨Ao2, no2, co2, A1, n2, c1', rfl, roM.out, rdL.out⟩).mono ?_; rintro e w8 ⟨rfl, hB8⟩; have hbN := Lib.hid (hbM.out.trans (hB8.mono hbM.out.size)); replace hB8 := 0)
    | (go_at_call 25; refine (awake12 _).mono ?_; rintro e W1 ⟨rfl, hB⟩; have hbE := Lib.hid (hbN.out.trans (hB.mono hbN.out.size)); replace hB := 0)
    | fail)
  go_ret
  exact ⟨by first | rfl | simp, hbE.out⟩
end Go.Proofs.Ytehecefapiblpaa
