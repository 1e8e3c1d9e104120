/- clamp: walk of Packet. -/
import Derived.Test.YtehecefapiblpaaClampP
import Derived.Test.YtehecefapiblpaaPortsO
import Derived.Test.YtehecefapiblpaaConcat
import Derived.Test.YtehecefapiblpaaRow4
import Derived.Deep.RegionWith
import Derived.Deep.DeepCutAuto
import Derived.Deep.WholeRow
set_option linter.unusedVariables false
namespace Go.Proofs.Ytehecefapiblpaa
open Go Go.RowKit
attribute [local go_sem] Oper.semAt_some

/-- A packet is answered, in slices of some capacity. -/
def PackOut (w : World) (q : V4P) (e : Ending) (w' : World) : Prop :=
  ∃ Ao no co A n c, e = .returned (.agg (cells4 q Ao no co A n c)) ∧ RB w' Ao no co q.opts ∧ RB w' A n c q.data ∧ Below w.heap.size w w'
theorem PackOut.row {w W : World} {q : V4P} {Ao : Option Addr} {no co : Nat} {A : Option Addr} {n c : Nat} {B : Nat} {p z : V4P} {b : Int} (hq : packC p b = q) (kz : Blk W B (cells4 z none 0 0 none 0 0) 32) (ho : RB W Ao no co q.opts) (hd : RB W A n c q.data) (hb : Below w.heap.size w W) (hB : w.heap.size ≤ B) :
    PackOut w (packC p b) (.returned (.agg (cells4 q Ao no co A n c))) (W.setRow B (cells4 q Ao no co A n c)) := by
  rw [hq]
  exact ⟨Ao, no, co, A, n, c, rfl, ho.farRow (nbc4 kz) _, hd.farRow (nbc4 kz) _, below_row hb hB _⟩
set_option maxRecDepth 100000 in
set_option maxHeartbeats 4000000 in
theorem ClampPacket_any (p : V4P) (bound : Int) (ao : Option Addr) (no co : Nat) (a : Option Addr) (n c : Nat) (w : World) (hro : RB w ao no co p.opts) (hr : RB w a n c p.data) (hno : no ≤ 100000) (hn : n ≤ 100000) :
    Calls Try.prog 26 #[.agg (cells4 p ao no co a n c), .int .i64 bound] w (PackOut w (packC p bound)) := by
  obtain ⟨w1, hw1⟩ : ∃ w1, (w.alloc (.cells (cells4 p ao no co a n c) 32)).alloc (.cells zero4c 32) = w1 := ⟨_, rfl⟩
  have hb0 := (Below.refl _ w).alloc (Nat.le_refl _) (.cells (cells4 p ao no co a n c) 32)
  have hb1 : Below w.heap.size w w1 := by rw [← hw1]; exact hb0.alloc hb0.size _
  have kH : Blk w1 w.heap.size (cells4 p ao no co a n c) 32 := by rw [← hw1]; exact (Blk.new w _ _).alloc _
  have kZ : Blk w1 (w.heap.size + 1) zero4c 32 := by
    rw [← hw1]
    have := Blk.new (w.alloc (.cells (cells4 p ao no co a n c) 32)) zero4c 32
    rwa [World.size_alloc] at this
  have ro1 := hro.below hb1
  have rd1 := hr.below hb1
  have hlo := hro.len
  have hlr := hr.len
  have hby := Lib.hid hr.byt
  have hck : chk4 p = checkV4 p no n := by unfold chk4; rw [hlo, hlr]
  have hz1 := Lib.hid (show w.heap.size + 2 ≤ w1.heap.size from kZ.lt)
  have hCo := Lib.hid (fun X (hX : Below w1.heap.size w1 X) => Clone_any ao no co p.opts X (ro1.below hX) (by omega))
  have hCd := Lib.hid (fun X (hX : Below w1.heap.size w1 X) => Clone_any a n c p.data X (rd1.below hX) (by omega))
  have kd' := kH.drew
  have e9 := kd'.cell 9 (.slice ao no co) rfl
  have e10 := kd'.cell 10 (.slice a n c) rfl
  have ho9 := Lib.hid (Below.refl w1.heap.size w1).drew
  have kd := Lib.hid kd'
  have kz := Lib.hid kZ
  have hb1' := Lib.hid hb1
  have hw1' := Lib.hid hw1
  clear hw1 kH kZ hb0 hb1 ro1 rd1 kd' hro hr
  go_enter Try.func26, Try.ntmps26
  go_upto_region 1 with fail
  rw [hw1'.out]
  try simp only [Act.put]
  go_cut [] (fun wx => ∃ A3 c3 A4 c4, Blk wx w.heap.size (cells4 p A3 no c3 A4 n c4) 32 ∧ RB wx A3 no c3 p.opts ∧ RB wx A4 n c4 p.data ∧ Blk wx (w.heap.size + 1) zero4c 32 ∧ Below w.heap.size w wx)
  case first =>
    go_region_with (first
      | (go_at_call_of 50 (Value.slice ao no co); refine (hCo.out _ ho9.out).mono ?_; rintro e w3 ⟨A3, c3, rfl, ho3, hB3⟩; have hb3 := Lib.hid (ho9.out.trans (hB3.mono ho9.out.size)); have k3 := kd.out.to hB3; have e103 := k3.cell 10 (.slice a n c) rfl; replace k3 := Lib.hid k3; replace ho3 := Lib.hid ho3)
      | (go_at_call_of 50 (Value.slice a n c); refine (hCd.out _ hb3.out).mono ?_; rintro e w4 ⟨A4, c4, rfl, ho4, hB4⟩; have hb4 := Lib.hid (hb3.out.trans (hB4.mono hb3.out.size)); have k4 := k3.out.to hB4; have c9 := k4.cell 9 (.slice ao no co) rfl; have f9 := k4.frz 9; have c10 := (k4.set 9 (.slice A3 no c3)).cell 10 (.slice a n c) rfl; have f10 := (k4.set 9 (.slice A3 no c3)).frz 10; have ho34 := Lib.hid (ho3.out.below hB4); replace ho4 := Lib.hid ho4)
      | fail)
    all_goals
      go_wp2_with fail
      go_meet
      have nb4 := nbc4 k4
      have k5 : Blk (w4.setCell ⟨w.heap.size, 9, none⟩ (.slice A3 no c3)) w.heap.size (cells4 p A3 no c3 a n c) 32 := by simpa using k4.set 9 (.slice A3 no c3)
      have nb5 := nbc4 k5
      have kz4 := kz.out.to hb4.out
      exact ⟨A3, c3, A4, c4, by simpa using k5.set 10 (.slice A4 n c4), (ho34.out.rb.farN nb4 9 _).farN nb5 10 _, (ho4.out.rb.farN nb4 9 _).farN nb5 10 _, (kz4.far (by omega) 9 _).far (by omega) 10 _, ((hb1'.out.trans (hb4.out.mono hb1'.out.size)).setCell (p := ⟨w.heap.size, 9, none⟩) (Nat.le_refl _) _).setCell (p := ⟨w.heap.size, 10, none⟩) (Nat.le_refl _) _⟩
  case rest =>
  obtain ⟨A3, c3, A4, c4, k5', ro5, rd5, kz5, hb5⟩ := hcut
  obtain ⟨w5, rfl⟩ : ∃ w5, w5 = wc := ⟨_, rfl⟩
  have k5 := Lib.hid k5'
  have e4 := k5'.cell 4 _ rfl
  replace ro5 := Lib.hid ro5
  replace rd5 := Lib.hid rd5
  replace kz5 := Lib.hid kz5
  replace hb5 := Lib.hid hb5
  have hK := fun W => Check4_any p A3 no c3 A4 n c4 W hno hn
  clear k5'
  by_cases h6 : p.pr = 6
  rotate_left
  · have q6 : (p.pr == 6) = false := by simpa using h6
    have q6' : (p.pr != 6) = true := by simpa using h6
    have hq := Lib.hid (show packC p bound = p by unfold packC; rw [if_neg (by simp [h6])])
    clear h6 hck hlo hlr
    go_wp2_with (first
      | (refine wpList_load_4 rfl (.tmp 2) rfl w.heap.size rfl _ k5.out rfl ?_)
      | (refine wpList_store_4 rfl (.tmp 4) (.tmp 27) rfl (w.heap.size + 1) (cells4 p A3 no c3 A4 n c4) rfl rfl _ kz5.out rfl rfl (one4 _ _ _ _ _ _ _) ?_)
      | fail)
    refine bodyPost_ret (results_c Try.results26 rfl (run_load_4 (Blk.mk (setRow_heap _ _ _ _ _ _ kz5.out.at_)) rfl)) rfl ?_
    exact PackOut.row (z := zero4) hq.out kz5.out ro5.out rd5.out hb5.out (by omega)
  have q6 : (p.pr == 6) = true := by simpa using h6
  have q6' : (p.pr != 6) = false := by simpa using h6
  by_cases hc : checkV4 p no n = 0
  rotate_left
  · have hcp : codeP p ≠ 0 := fun h => by
      obtain ⟨h1, _⟩ := codeP_six h h6
      rw [hck] at h1; exact hc h1
    have hq := Lib.hid (show packC p bound = p by unfold packC; rw [if_neg (by simp [hcp])])
    have hcn : (checkV4 p no n != 0) = true := by simpa using hc
    clear h6 hck hlo hlr hcp hc
    generalize checkV4 p no n = kk at *
    replace hK := Lib.hid hK
    go_wp2_with (first
      | (refine wpList_load_4 rfl (.tmp 2) rfl w.heap.size rfl _ k6.out rfl ?_)
      | (refine wpList_load_4 rfl (.tmp 2) rfl w.heap.size rfl _ k5.out rfl ?_)
      | (go_at_call 51; refine (hK.out _).mono ?_; rintro e w6 ⟨rfl, hB6⟩; have k6 := Lib.hid (k5.out.to hB6); have kz6 := Lib.hid (kz5.out.to hB6); have ro6 := Lib.hid (ro5.out.below hB6); have rd6 := Lib.hid (rd5.out.below hB6); have hb6 := Lib.hid (hb5.out.trans (hB6.mono hb5.out.size)); replace hB6 := 0)
      | (refine wpList_store_4 rfl (.tmp 4) (.tmp 27) rfl (w.heap.size + 1) (cells4 p A3 no c3 A4 n c4) rfl rfl _ kz6.out rfl rfl (one4 _ _ _ _ _ _ _) ?_)
      | fail)
    refine bodyPost_ret (results_c Try.results26 rfl (run_load_4 (Blk.mk (setRow_heap _ _ _ _ _ _ kz6.out.at_)) rfl)) rfl ?_
    exact PackOut.row (z := zero4) hq.out kz6.out ro6.out rd6.out hb6.out (by omega)
  rw [hc] at hck hK
  replace hK := Lib.hid hK
  have hP := Lib.hid (fun W (h1 : RB W A3 no c3 p.opts) (h2 : RB W A4 n c4 p.data) => PortsOf_any p A3 no c3 A4 n c4 W h1 h2 hno hn)
  by_cases hcp : codeP p = 0
  rotate_left
  · have hq := Lib.hid (show packC p bound = p by unfold packC; rw [if_neg (by simp [hcp])])
    have hcn : (codeP p != 0) = true := by simpa using hcp
    unfold PortsOut at hP
    clear h6 hck hlo hlr hcp hc
    generalize codeP p = kk at *
    generalize portsP p = xx at *
    go_wp2_with (first
      | (refine wpList_load_4 rfl (.tmp 2) rfl w.heap.size rfl _ k7.out rfl ?_)
      | (refine wpList_load_4 rfl (.tmp 2) rfl w.heap.size rfl _ k6.out rfl ?_)
      | (refine wpList_load_4 rfl (.tmp 2) rfl w.heap.size rfl _ k5.out rfl ?_)
      | (go_at_call 51; refine (hK.out _).mono ?_; rintro e w6 ⟨rfl, hB6⟩; have k6 := Lib.hid (k5.out.to hB6); have kz6 := Lib.hid (kz5.out.to hB6); have ro6 := Lib.hid (ro5.out.below hB6); have rd6 := Lib.hid (rd5.out.below hB6); have hb6 := Lib.hid (hb5.out.trans (hB6.mono hb5.out.size)); replace hB6 := 0)
      | (go_at_call 27; refine (hP.out _ ro6.out rd6.out).mono ?_; rintro e w7 ⟨rfl, hB7⟩; have hbx := (Below.refl _ w6).trans hB7; have hby7 := hbx.alloc hbx.size (.cells (cellsPo xx) 41); have k7 := Lib.hid (k6.out.to hby7); have kz7 := Lib.hid (kz6.out.to hby7); have ro7 := Lib.hid (ro6.out.below hby7); have rd7 := Lib.hid (rd6.out.below hby7); have hb7 := Lib.hid (hb6.out.trans (hby7.mono hb6.out.size)); clear hbx; replace hby7 := 0; replace hB7 := 0)
      | (refine wpList_store_4 rfl (.tmp 4) (.tmp 35) rfl (w.heap.size + 1) (cells4 p A3 no c3 A4 n c4) rfl rfl _ kz7.out rfl rfl (one4 _ _ _ _ _ _ _) ?_)
      | fail)
    refine bodyPost_ret (results_c Try.results26 rfl (run_load_4 (Blk.mk (setRow_heap _ _ _ _ _ _ kz7.out.at_)) rfl)) rfl ?_
    exact PackOut.row (z := zero4) hq.out kz7.out ro7.out rd7.out hb7.out (by omega)
  obtain ⟨hk1, hk2, hk3⟩ := codeP_six hcp h6
  obtain ⟨g1, g2, g3, g4, g5⟩ := clampD_ok bound hby.out hk3
  obtain ⟨j1, j2, j3, j4⟩ := read_check hby.out hk3
  have hq := Lib.hid (show packC p bound = { p with data := clampD p bound } by unfold packC; rw [if_pos ⟨hcp, h6⟩])
  have hT := fun W (h : RB W A4 n c4 p.data) => TcpParse_any p.src p.dst A4 n c4 p.data W h
  have hS := fun W Ao no' co' A n' c' (ho : RB W Ao no' co' (readT p.src p.dst p.data).opts) (hd : RB W A n' c' (readT p.src p.dst p.data).data) => Segment_any (readT p.src p.dst p.data) bound Ao no' co' A n' c' W ho hd (by have := ho.len; omega) (by have := hd.len; omega)
  have hBd := fun W A8 no' c8 A9 n' c9 (ho : RB W A8 no' c8 (segT (readT p.src p.dst p.data) bound).opts) (hd : RB W A9 n' c9 (readT p.src p.dst p.data).data) => show Calls Try.prog 53 #[.int .i64 p.src, .int .i64 p.dst, .agg (cellsT (segT (readT p.src p.dst p.data) bound) A8 no' c8 A9 n' c9)] W (TwoOut W (clampD p bound) 0) from by
    have h1 := ho.len
    have h2 := hd.len
    rw [segT_len] at h1
    subst h1
    subst h2
    have hd' : RB W A9 (readT p.src p.dst p.data).data.length c9 (segT (readT p.src p.dst p.data) bound).data := by rw [segT_data]; exact hd
    have := TcpBuild_any p.src p.dst (segT (readT p.src p.dst p.data) bound) A8 (readT p.src p.dst p.data).opts.length c8 A9 (readT p.src p.dst p.data).data.length c9 W ho hd' (by omega)
    rw [g1] at this
    unfold builtT? at this
    rw [g1, if_pos rfl] at this
    exact this
  unfold TcpOut at hT
  rw [hk3] at hT
  unfold PortsOut at hP
  rw [hcp] at hP
  have hld := Lib.hid (show (clampD p bound).length = n by rw [g2, hlr])
  have hxx : ∃ xx, portsP p = xx := ⟨_, rfl⟩
  obtain ⟨xx, hxx⟩ := hxx
  rw [hxx] at hP
  clear hk1 hk2 hk3 g1 g2 g3 g4 g5 j1 j2 j3 j4 hxx hcp h6 hck hlo hlr hc
  generalize segT (readT p.src p.dst p.data) bound = sg at *
  generalize readT p.src p.dst p.data = m at *
  generalize clampD p bound = ds at *
  replace hT := Lib.hid hT
  replace hS := Lib.hid hS
  replace hBd := Lib.hid hBd
  go_upto_region 8 with (first
    | (refine wpList_load_4 rfl (.tmp 2) rfl w.heap.size rfl _ k6.out rfl ?_)
    | (refine wpList_load_4 rfl (.tmp 2) rfl w.heap.size rfl _ k5.out rfl ?_)
    | (go_at_call 51; refine (hK.out _).mono ?_; rintro e w6 ⟨rfl, hB6⟩; have k6 := Lib.hid (k5.out.to hB6); have kz6 := Lib.hid (kz5.out.to hB6); have ro6 := Lib.hid (ro5.out.below hB6); have rd6 := Lib.hid (rd5.out.below hB6); have hb6 := Lib.hid (hb5.out.trans (hB6.mono hb5.out.size)); replace hB6 := 0)
    | (go_at_call 27; refine (hP.out _ ro6.out rd6.out).mono ?_; rintro e w7 ⟨rfl, hB7⟩; have hbx := (Below.refl _ w6).trans hB7; have hby7 := hbx.alloc hbx.size (.cells (cellsPo xx) 41); have k7 := Lib.hid (k6.out.to hby7); have kz7 := Lib.hid (kz6.out.to hby7); have ro7 := Lib.hid (ro6.out.below hby7); have rd7 := Lib.hid (rd6.out.below hby7); have hb7 := Lib.hid (hb6.out.trans (hby7.mono hb6.out.size)); have c5 := k7.out.cell 5 _ rfl; have c6 := k7.out.cell 6 _ rfl; have c10 := k7.out.cell 10 _ rfl; clear hbx; replace hby7 := 0; replace hB7 := 0)
    | (go_at_call 52; refine (hT.out _ rd7.out).mono ?_; rintro e w8 ⟨A6, n6, c6', A7, n7, c7', rfl, ho8, hd8, hB8⟩; have hx8 := hB8.alloc hB8.size (.cells (cellsT m A6 n6 c6' A7 n7 c7') 78); have k8 := Lib.hid (k7.out.to hx8); have kz8 := Lib.hid (kz7.out.to hx8); have ro8 := Lib.hid (ro7.out.below hx8); have hb8 := Lib.hid (hb7.out.trans (hx8.mono hb7.out.size)); have kT8 := Lib.hid (Blk.new w8 (cellsT m A6 n6 c6' A7 n7 c7') 78); have ho8' := Lib.hid (ho8.rb.alloc (.cells (cellsT m A6 n6 c6' A7 n7 c7') 78)); have hd8' := Lib.hid (hd8.rb.alloc (.cells (cellsT m A6 n6 c6' A7 n7 c7') 78)); clear hx8 ho8 hd8 c5 c6 c10 e4; replace hB8 := 0)
    | (refine wpList_store_T rfl (.tmp 7) (.tmp 44) rfl w8.heap.size (cellsT m A6 n6 c6' A7 n7 c7') rfl rfl _ (Blk.new _ zeroT 78) rfl rfl (one_T _ _ _ _ _ _ _) ?_; rw [World.setRow_alloc_new])
    | fail)
  obtain ⟨w9, hw9⟩ : ∃ w9, w8.alloc (.cells (cellsT m A6 n6 c6' A7 n7 c7') 78) = w9 := ⟨_, rfl⟩
  rw [hw9] at k8 kz8 ro8 hb8 kT8 ho8' hd8' ⊢
  have hF := Lib.hid (fun W (hW : Below w9.heap.size w9 W) => show W.cell? ⟨w.heap.size, 5, none⟩ = some (.int .i64 p.src) ∧ W.cell? ⟨w.heap.size, 6, none⟩ = some (.int .i64 p.dst) ∧ W.rangeAt w8.heap.size 0 (cellsT m A6 n6 c6' A7 n7 c7').toList ∧ Below w9.heap.size w9 W from
    ⟨(k8.out.to hW).cell 5 _ rfl, (k8.out.to hW).cell 6 _ rfl, fun j v hj => by rw [Nat.zero_add]; exact (kT8.out.to hW).cell j v (by rw [← Array.getElem?_toList]; exact hj), hW⟩)
  have hi := Lib.hid (show (Try.prog.info? 78).map (·.size) = some (cellsT m A6 n6 c6' A7 n7 c7').toList.length from info_tcp)
  replace hw9 := Lib.hid hw9
  try simp only [Act.put]
  refine wp_region_held_drew (S := fun W => W.cell? ⟨w.heap.size, 5, none⟩ = some (.int .i64 p.src) ∧ W.cell? ⟨w.heap.size, 6, none⟩ = some (.int .i64 p.dst) ∧ W.rangeAt w8.heap.size 0 (cellsT m A6 n6 c6' A7 n7 c7').toList ∧ Below w9.heap.size w9 W) (by kernel_rfl) (hF.out _ (Below.refl _ w9).drew) (fun hHeld => ?_)
  refine take_h (i := 0) (v := ?_) rfl rfl (by kernel_rfl) (by kernel_rfl) (by kernel_rfl) (fun _ _ _ h => h) (Or.inl ⟨by rfl, fun W hSw => ?_⟩) (by assumption) ?_
  rotate_left
  · (clear hSw; go_simp; try with_reducible rfl)
  simp only [Act.put, List.setIfInBounds_toArray, List.set_cons_zero, List.set_cons_succ]
  refine take_h (i := 1) (v := ?_) rfl rfl (by kernel_rfl) (by kernel_rfl) (by kernel_rfl) (fun _ _ _ h => h) (Or.inl ⟨by rfl, fun W hSw => ?_⟩) (by assumption) ?_
  rotate_left
  · (obtain ⟨hs0, _⟩ := hSw; go_simp; try with_reducible rfl)
  simp only [Act.put, List.setIfInBounds_toArray, List.set_cons_zero, List.set_cons_succ]
  refine take_h (i := 2) (v := ?_) rfl rfl (by kernel_rfl) (by kernel_rfl) (by kernel_rfl) (fun _ _ _ h => h) (Or.inl ⟨by rfl, fun W hSw => ?_⟩) (by assumption) ?_
  rotate_left
  · (clear hSw; go_simp; try with_reducible rfl)
  simp only [Act.put, List.setIfInBounds_toArray, List.set_cons_zero, List.set_cons_succ]
  refine take_h (i := 3) (v := ?_) rfl rfl (by kernel_rfl) (by kernel_rfl) (by kernel_rfl) (fun _ _ _ h => h) (Or.inl ⟨by rfl, fun W hSw => ?_⟩) (by assumption) ?_
  rotate_left
  · (obtain ⟨hs0, hs1⟩ := hSw; go_simp; try with_reducible rfl)
  simp only [Act.put, List.setIfInBounds_toArray, List.set_cons_zero, List.set_cons_succ]
  refine take_h (i := 4) rfl rfl (by kernel_rfl) (by kernel_rfl) (by kernel_rfl) (fun _ _ _ h => h) (yieldsIf_load_mid (by rfl) 78 (.tmp 7) rfl _ _ rfl (cellsT m A6 n6 c6' A7 n7 c7').toList _ (fun W hW => hW.2.2.1) Try.underlying78 rfl hi.out) (by assumption) ?_
  simp only [Act.put, List.setIfInBounds_toArray, List.set_cons_zero, List.set_cons_succ]
  refine take_h (i := 5) (v := ?_) rfl rfl (by kernel_rfl) (by kernel_rfl) (by kernel_rfl) (fun _ _ _ h => h) (Or.inl ⟨by rfl, fun W hSw => ?_⟩) (by assumption) ?_
  rotate_left
  · (clear hSw; go_simp; try with_reducible rfl)
  simp only [Act.put, List.setIfInBounds_toArray, List.set_cons_zero, List.set_cons_succ]
  refine step_h (i := 6) rfl rfl (by kernel_rfl) (fun K hK => ?_)
  go_simp
  refine Calls.mono (hS.out _ A6 n6 c6' A7 n7 c7' (ho8'.out.below hHeld.2.2.2) (hd8'.out.below hHeld.2.2.2)) ?_
  rintro e w10 ⟨A8, c8, A9, c9, rfl, ho10, hd10, hB10⟩
  have hS10 := hF.out w10 (hHeld.2.2.2.trans (hB10.mono hHeld.2.2.2.size))
  have ho10' := Lib.hid ho10.rb
  have hd10' := Lib.hid hd10.rb
  clear hHeld hB10 ho10 hd10
  go_wp2_with fail
  refine hK.out _ _ hS10 (fun hHeld => ?_)
  clear hK K
  try simp only [Act.put, List.setIfInBounds_toArray, List.set_cons_zero, List.set_cons_succ]
  refine step_h (i := 7) rfl rfl (by kernel_rfl) (fun K hK => ?_)
  go_simp
  refine Calls.mono (hBd.out w10 A8 n6 c8 A9 n7 c9 ho10'.out hd10'.out) ?_
  rintro e w11 ⟨A11, n11, c11, rfl, hr11, hB11⟩
  have hS11 := hF.out w11 (hHeld.2.2.2.trans (hB11.mono hHeld.2.2.2.size))
  have hr11' := Lib.hid hr11
  clear hHeld hB11 hr11 hS10
  go_wp2_with fail
  refine hK.out _ _ hS11 (fun hHeld => ?_)
  clear hK K
  try simp only [Act.put, List.setIfInBounds_toArray, List.set_cons_zero, List.set_cons_succ]
  refine take_h (i := 8) (v := ?_) rfl rfl (by kernel_rfl) (by kernel_rfl) (by kernel_rfl) (fun _ _ _ h => h) (Or.inl ⟨by rfl, fun W hSw => ?_⟩) (by assumption) ?_
  rotate_left
  · (clear hSw; go_simp; try with_reducible rfl)
  simp only [Act.put, List.setIfInBounds_toArray, List.set_cons_zero, List.set_cons_succ]
  refine take_h (i := 9) (v := ?_) rfl rfl (by kernel_rfl) (by kernel_rfl) (by kernel_rfl) (fun _ _ _ h => h) (Or.inl ⟨by rfl, fun W hSw => ?_⟩) (by assumption) ?_
  rotate_left
  · (clear hSw; go_simp; try with_reducible rfl)
  simp only [Act.put, List.setIfInBounds_toArray, List.set_cons_zero, List.set_cons_succ]
  refine take_h (i := 10) (v := ?_) rfl rfl (by kernel_rfl) (by kernel_rfl) (by kernel_rfl) (fun _ _ _ h => h) (Or.inl ⟨by rfl, fun W hSw => ?_⟩) (by assumption) ?_
  rotate_left
  · (clear hSw; go_simp; try with_reducible rfl)
  simp only [Act.put, List.setIfInBounds_toArray, List.set_cons_zero, List.set_cons_succ]
  refine take_h (i := 11) (v := ?_) rfl rfl (by kernel_rfl) (by kernel_rfl) (by kernel_rfl) (fun _ _ _ h => h) (Or.inl ⟨by rfl, fun W hSw => ?_⟩) (by assumption) ?_
  rotate_left
  · (clear hSw; go_simp; try with_reducible rfl)
  simp only [Act.put, List.setIfInBounds_toArray, List.set_cons_zero, List.set_cons_succ]
  refine take_h (i := 12) (v := ?_) rfl rfl (by kernel_rfl) (by kernel_rfl) (by kernel_rfl) (fun _ _ _ h => h) (Or.inl ⟨by rfl, fun W hSw => ?_⟩) (by assumption) ?_
  rotate_left
  · (clear hSw; go_simp; try with_reducible rfl)
  simp only [Act.put, List.setIfInBounds_toArray, List.set_cons_zero, List.set_cons_succ]
  refine wpAnyH_done (by kernel_rfl) ?_ _
  have hB11 := hHeld.2.2.2
  have k11 := k8.out.to hB11
  have kz11 := Lib.hid (kz8.out.to hB11)
  have ro11 := Lib.hid (ro8.out.below hB11)
  have hb11 := Lib.hid (hb8.out.trans (hB11.mono hb8.out.size))
  clear hHeld hS11 hB11 hi
  have c10 := k11.cell 10 _ rfl
  have f10 := k11.frz 10
  have hl11 := hr11'.out.len
  rw [hld.out] at hl11
  subst hl11
  have kL := Lib.hid (show Blk (w11.setCell ⟨w.heap.size, 10, none⟩ (.slice A11 n c11)) w.heap.size (cells4 { p with data := ds } A3 no c3 A11 n c11) 32 by simpa using k11.set 10 (.slice A11 n c11))
  have kzL := Lib.hid (kz11.out.far (B' := w.heap.size) (by omega) 10 (.slice A11 n c11))
  have roL := Lib.hid (ro11.out.farN (nbc4 k11) 10 (.slice A11 n c11))
  have rdL := Lib.hid (hr11'.out.farN (nbc4 k11) 10 (.slice A11 n c11))
  have hbL := Lib.hid (hb11.out.setCell (p := ⟨w.heap.size, 10, none⟩) (Nat.le_refl _) (.slice A11 n c11))
  replace k11 := Lib.hid k11
  try simp only [Act.put]
  go_wp2_with (first
    | (refine wpList_load_4 rfl (.tmp 2) rfl w.heap.size rfl _ kL.out rfl ?_)
    | (refine wpList_store_4 rfl (.tmp 4) (.tmp 61) rfl (w.heap.size + 1) (cells4 { p with data := ds } A3 no c3 A11 n c11) rfl rfl _ kzL.out rfl rfl (one4 _ _ _ _ _ _ _) ?_)
    | fail)
  refine bodyPost_ret (results_c Try.results26 rfl (run_load_4 (Blk.mk (setRow_heap _ _ _ _ _ _ kzL.out.at_)) rfl)) rfl ?_
  exact PackOut.row (z := zero4) hq.out kzL.out roL.out rdL.out hbL.out (by omega)
end Go.Proofs.Ytehecefapiblpaa
