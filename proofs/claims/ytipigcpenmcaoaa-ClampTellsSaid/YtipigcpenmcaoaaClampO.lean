/- clamp (the reference): walk of Packet. -/
import Derived.Test.YtipigcpenmcaoaaClampR
import Derived.Test.YtipigcpenmcaoaaPortsR
import Derived.Test.YtipigcpenmcaoaaTcpBR
import Derived.Test.YtipigcpenmcaoaaTcpPR
set_option linter.unusedVariables false
namespace Go.Proofs.Ytipigcpenmcaoaa
open Go Go.RowKit
attribute [local go_sem] Oper.semAt_some

theorem pack_fin {m : V4P} {ao : Option Addr} {no co : Nat} {a : Option Addr} {n c : Nat} {w1 X : World} {N b1 b2 : Nat} {A3 A4 : Option Addr} {c3 c4 : Nat} (k : Blk X N (cells4 m ao no co a n c) 24) (kz : Blk X (N + 1) zero4c 24) (ho : OB X b1 A3 no c3 m.opts) (hd : OB X b2 A4 n c4 m.data) (hb : Below N w1 X) :
    ∃ B3 d3 B4' d4, Blk ((X.setCell ⟨N, 9, none⟩ (.slice A3 no c3)).setCell ⟨N, 10, none⟩ (.slice A4 n c4)) N (cells4 m B3 no d3 B4' n d4) 24 ∧
      RB ((X.setCell ⟨N, 9, none⟩ (.slice A3 no c3)).setCell ⟨N, 10, none⟩ (.slice A4 n c4)) B3 no d3 m.opts ∧ RB ((X.setCell ⟨N, 9, none⟩ (.slice A3 no c3)).setCell ⟨N, 10, none⟩ (.slice A4 n c4)) B4' n d4 m.data ∧
      Blk ((X.setCell ⟨N, 9, none⟩ (.slice A3 no c3)).setCell ⟨N, 10, none⟩ (.slice A4 n c4)) (N + 1) zero4c 24 ∧ Below N w1 ((X.setCell ⟨N, 9, none⟩ (.slice A3 no c3)).setCell ⟨N, 10, none⟩ (.slice A4 n c4)) := by
  have k5 : Blk (X.setCell ⟨N, 9, none⟩ (.slice A3 no c3)) N (cells4 m A3 no c3 a n c) 24 := by simpa using k.set 9 (.slice A3 no c3)
  exact ⟨A3, c3, A4, c4, by simpa using k5.set 10 (.slice A4 n c4), (ho.rb.farN (nbc4 k) 9 _).farN (nbc4 k5) 10 _, (hd.rb.farN (nbc4 k) 9 _).farN (nbc4 k5) 10 _,
    (kz.far (by omega) 9 _).far (by omega) 10 _, (hb.setCell (p := ⟨N, 9, none⟩) (Nat.le_refl _) _).setCell (p := ⟨N, 10, none⟩) (Nat.le_refl _) _⟩
set_option maxRecDepth 100000 in
set_option maxHeartbeats 4000000 in
theorem RefClampPacket_any (p : V4P) (bound : Int) (ao : Option Addr) (no co : Nat) (a : Option Addr) (n c : Nat) (w : World) (hro : RB w ao no co p.opts) (hr : RB w a n c p.data) (hno : no ≤ 100000) (hn : n ≤ 100000) :
    Calls Try.prog 34 #[.agg (cells4 p ao no co a n c), .int .i64 bound] w (PackOut w (packC p bound)) := by
  obtain ⟨w1, hw1⟩ : ∃ w1, (w.alloc (.cells (cells4 p ao no co a n c) 24)).alloc (.cells zero4c 24) = w1 := ⟨_, rfl⟩
  have hb0 := (Below.refl _ w).alloc (Nat.le_refl _) (.cells (cells4 p ao no co a n c) 24)
  have hb1 : Below w.heap.size w w1 := by rw [← hw1]; exact hb0.alloc hb0.size _
  have kH : Blk w1 w.heap.size (cells4 p ao no co a n c) 24 := by rw [← hw1]; exact (Blk.new w _ _).alloc _
  have kZ : Blk w1 (w.heap.size + 1) zero4c 24 := by
    rw [← hw1]
    have := Blk.new (w.alloc (.cells (cells4 p ao no co a n c) 24)) zero4c 24
    rwa [World.size_alloc] at this
  have ro1 := hro.below hb1
  have rd1 := hr.below hb1
  have hlo := hro.len
  have hlr := hr.len
  have hby := Lib.hid hr.byt
  have hz1 := Lib.hid (show w.heap.size + 2 ≤ w1.heap.size from kZ.lt)
  have hcr := Lib.hid (fun X (hX : Below w1.heap.size w1 X) => ro1.below hX)
  have hcd := Lib.hid (fun X (hX : Below w1.heap.size w1 X) => rd1.below hX)
  have kd' := kH.drew
  have e9 := kd'.cell 9 (.slice ao no co) rfl
  have e10 := kd'.cell 10 (.slice a n c) rfl
  have kd := Lib.hid kd'
  have kz := Lib.hid kZ
  have hb1' := Lib.hid hb1
  have hw1' := Lib.hid hw1
  clear hw1 kH kZ hb0 hb1 ro1 rd1 kd' hro hr hlo
  replace hlr := Lib.hid hlr
  go_enter Try.func34, Try.ntmps34
  go_upto_region 1 with fail
  rw [hw1'.out]
  try simp only [Act.put]
  go_cut [] (fun wx => ∃ A3 c3 A4 c4, Blk wx w.heap.size (cells4 p A3 no c3 A4 n c4) 24 ∧ RB wx A3 no c3 p.opts ∧ RB wx A4 n c4 p.data ∧ Blk wx (w.heap.size + 1) zero4c 24 ∧ Below w.heap.size w1 wx)
  case first =>
    have hsO := Lib.hid (show 0 + no ≤ 140737488355328 by omega)
    have hsD := Lib.hid (show 0 + n ≤ 140737488355328 by omega)
    have hbd := Lib.hid (Below.refl w1.heap.size w1).drew
    have hNd := Lib.hid (show w.heap.size + 2 ≤ w1.drew.heap.size from hz1.out)
    go_region_law (first
    | (refine step_append_bytes (A := none) (n := 0) (c := 0) (A' := ao) (m := no) (c' := co) (base := wDd.heap.size) (bs := []) (ys := p.opts) rfl (.const (.slice none 0 0)) (.tmp 10) rfl (by simp [Act.eval]) (by simp [Act.eval]) (OB.nil _ _) (hcr.out _ hbD.out) hsO.out (Nat.le_refl _) ?_; intro A3 c3 wOD hoO hg hr; have hBx := (Below.refl _ _).grown hg (Nat.le_refl _) (fun k hk => by cases hk); have kO := kD.out.to hBx; have hbO := Lib.hid (hbD.out.trans (hBx.mono hbD.out.size)); have e9O := kO.cell 9 (.slice ao no co) rfl; have e10O := kO.cell 10 (.slice a n c) rfl; have hoD2 := Lib.hid (hoD.out.below hBx); replace hoO := Lib.hid hoO; have f9 := kO.frz 9; have c10 := (kO.set 9 (.slice A3 no c3)).cell 10 (.slice a n c) rfl; have f10 := (kO.set 9 (.slice A3 no c3)).frz 10; replace kO := Lib.hid kO; replace hBx := 0; clear hg hr)
    | (refine step_append_bytes (A := none) (n := 0) (c := 0) (A' := a) (m := n) (c' := c) (base := wOd.heap.size) (bs := []) (ys := p.data) rfl (.const (.slice none 0 0)) (.tmp 13) rfl (by simp [Act.eval]) (by simp [Act.eval, Act.put]) (OB.nil _ _) (hcd.out _ hbO.out) hsD.out (Nat.le_refl _) ?_; intro A4 c4 wDO hoD hg hr; have hBx := (Below.refl _ _).grown hg (Nat.le_refl _) (fun k hk => by cases hk); have kD := kO.out.to hBx; have hbD := Lib.hid (hbO.out.trans (hBx.mono hbO.out.size)); have e9D := kD.cell 9 (.slice ao no co) rfl; have e10D := kD.cell 10 (.slice a n c) rfl; have hoO2 := Lib.hid (hoO.out.below hBx); replace hoD := Lib.hid hoD; have f9 := kD.frz 9; have c10 := (kD.set 9 (.slice A3 no c3)).cell 10 (.slice a n c) rfl; have f10 := (kD.set 9 (.slice A3 no c3)).frz 10; replace kD := Lib.hid kD; replace hBx := 0; clear hg hr)
    | (refine step_append_bytes (A := none) (n := 0) (c := 0) (A' := ao) (m := no) (c' := co) (base := w1.drew.heap.size) (bs := []) (ys := p.opts) rfl (.const (.slice none 0 0)) (.tmp 10) rfl (by simp [Act.eval]) (by simp [Act.eval]) (OB.nil _ _) (hcr.out _ hbd.out) hsO.out (Nat.le_refl _) ?_; intro A3 c3 wOd hoO hg hr; have hBx := (Below.refl _ _).grown hg (Nat.le_refl _) (fun k hk => by cases hk); have kO := kd.out.to hBx; have hbO := Lib.hid (hbd.out.trans (hBx.mono hbd.out.size)); have e9O := kO.cell 9 (.slice ao no co) rfl; have e10O := kO.cell 10 (.slice a n c) rfl; replace hoO := Lib.hid hoO; replace kO := Lib.hid kO; replace hBx := 0; clear hg hr)
    | (refine step_append_bytes (A := none) (n := 0) (c := 0) (A' := a) (m := n) (c' := c) (base := w1.drew.heap.size) (bs := []) (ys := p.data) rfl (.const (.slice none 0 0)) (.tmp 13) rfl (by simp [Act.eval]) (by simp [Act.eval, Act.put]) (OB.nil _ _) (hcd.out _ hbd.out) hsD.out (Nat.le_refl _) ?_; intro A4 c4 wDd hoD hg hr; have hBx := (Below.refl _ _).grown hg (Nat.le_refl _) (fun k hk => by cases hk); have kD := kd.out.to hBx; have hbD := Lib.hid (hbd.out.trans (hBx.mono hbd.out.size)); have e9D := kD.cell 9 (.slice ao no co) rfl; have e10D := kD.cell 10 (.slice a n c) rfl; replace hoD := Lib.hid hoD; replace kD := Lib.hid kD; replace hBx := 0; clear hg hr))
    all_goals
      go_wp2_with fail
      go_meet
      first
        | (exact pack_fin kD.out (kz.out.to hbD.out) (by have := hoO2.out; rwa [Nat.zero_add] at this) (by have := hoD.out; rwa [Nat.zero_add] at this) (hbD.out.mono (by have h9 := hz1.out; omega)))
        | (exact pack_fin kO.out (kz.out.to hbO.out) (by have := hoO.out; rwa [Nat.zero_add] at this) (by have := hoD2.out; rwa [Nat.zero_add] at this) (hbO.out.mono (by have h9 := hz1.out; omega)))
  case rest =>
  obtain ⟨A3, c3, A4, c4', k5', ro5, rd5, kz5, hB5⟩ := hcut
  obtain ⟨w5, rfl⟩ : ∃ w5, w5 = wc := ⟨_, rfl⟩
  have hb5 := Lib.hid (hb1'.out.trans hB5)
  have k5 := Lib.hid k5'
  replace ro5 := Lib.hid ro5
  replace rd5 := Lib.hid rd5
  replace kz5 := Lib.hid kz5
  clear k5' hB5
  have hP := Lib.hid (fun W (h1 : RB W A3 no c3 p.opts) (h2 : RB W A4 n c4' p.data) => RefPortsOf_any p A3 no c3 A4 n c4' W h1 h2 hno hn)
  unfold PortsOut at hP
  by_cases hcp : codeP p = 0
  rotate_left
  · have hq := Lib.hid (show packC p bound = p by unfold packC; rw [if_neg (by simp [hcp])])
    have hcn : (codeP p != 0) = true := by simpa using hcp
    clear hcp
    generalize codeP p = kk at *
    generalize portsP p = xx at *
    go_wp2_with (first
      | (go_at_call 79; refine (hP.out _ ro5.out rd5.out).mono ?_; rintro e w7 ⟨rfl, hB7⟩; have hbx := (Below.refl _ w5).trans hB7; have hby7 := hbx.alloc hbx.size (.cells (cellsPo xx) 45); have k7 := Lib.hid (k5.out.to hby7); have kz7 := Lib.hid (kz5.out.to hby7); have ro7 := Lib.hid (ro5.out.below hby7); have rd7 := Lib.hid (rd5.out.below hby7); have hb7 := Lib.hid (hb5.out.trans (hby7.mono hb5.out.size)); have c4 := k7.out.cell 4 _ rfl; have c5 := k7.out.cell 5 _ rfl; have c6 := k7.out.cell 6 _ rfl; have c10 := k7.out.cell 10 _ rfl; clear hbx; replace hby7 := 0; replace hB7 := 0)
      | (refine wpList_load_4 rfl (.tmp 2) rfl w.heap.size rfl _ k7.out rfl ?_)
      | (refine wpList_load_4 rfl (.tmp 2) rfl w.heap.size rfl _ k5.out rfl ?_)
      | (refine wpList_store_4 rfl (.tmp 4) (.tmp 29) rfl (w.heap.size + 1) (cells4 p A3 no c3 A4 n c4') rfl rfl _ kz7.out rfl rfl (one4 _ _ _ _ _ _ _) ?_)
      | fail)
    refine bodyPost_ret (results_c Try.results34 rfl (run_load_4 (Blk.mk (setRow_heap _ _ _ _ _ _ kz7.out.at_)) rfl)) rfl ?_
    exact PackOut.row (z := zero4) hq.out kz7.out ro7.out rd7.out hb7.out (by omega)
  by_cases h6 : p.pr = 6
  rotate_left
  · have q6 : (p.pr == 6) = false := by simpa using h6
    have q6' : (p.pr != 6) = true := by simpa using h6
    have hq := Lib.hid (show packC p bound = p by unfold packC; rw [if_neg (by simp [h6])])
    rw [hcp] at hP
    clear h6 hcp
    generalize portsP p = xx at *
    go_wp2_with (first
      | (go_at_call 79; refine (hP.out _ ro5.out rd5.out).mono ?_; rintro e w7 ⟨rfl, hB7⟩; have hbx := (Below.refl _ w5).trans hB7; have hby7 := hbx.alloc hbx.size (.cells (cellsPo xx) 45); have k7 := Lib.hid (k5.out.to hby7); have kz7 := Lib.hid (kz5.out.to hby7); have ro7 := Lib.hid (ro5.out.below hby7); have rd7 := Lib.hid (rd5.out.below hby7); have hb7 := Lib.hid (hb5.out.trans (hby7.mono hb5.out.size)); have c4 := k7.out.cell 4 _ rfl; have c5 := k7.out.cell 5 _ rfl; have c6 := k7.out.cell 6 _ rfl; have c10 := k7.out.cell 10 _ rfl; clear hbx; replace hby7 := 0; replace hB7 := 0)
      | (refine wpList_load_4 rfl (.tmp 2) rfl w.heap.size rfl _ k7.out rfl ?_)
      | (refine wpList_load_4 rfl (.tmp 2) rfl w.heap.size rfl _ k5.out rfl ?_)
      | (refine wpList_store_4 rfl (.tmp 4) (.tmp 29) rfl (w.heap.size + 1) (cells4 p A3 no c3 A4 n c4') rfl rfl _ kz7.out rfl rfl (one4 _ _ _ _ _ _ _) ?_)
      | fail)
    refine bodyPost_ret (results_c Try.results34 rfl (run_load_4 (Blk.mk (setRow_heap _ _ _ _ _ _ kz7.out.at_)) rfl)) rfl ?_
    exact PackOut.row (z := zero4) hq.out kz7.out ro7.out rd7.out hb7.out (by omega)
  have q6 : (p.pr == 6) = true := by simpa using h6
  have q6' : (p.pr != 6) = false := by simpa using h6
  obtain ⟨hk1, hk2, hk3⟩ := codeP_six hcp h6
  obtain ⟨g1, g2, g3, g4, g5⟩ := clampD_ok bound hby.out hk3
  obtain ⟨j1, j2, j3, j4⟩ := read_check hby.out hk3
  have hq := Lib.hid (show packC p bound = { p with data := clampD p bound } by unfold packC; rw [if_pos ⟨hcp, h6⟩])
  have hT := fun W (h : RB W A4 n c4' p.data) => RefTcpParse_any p.src p.dst A4 n c4' p.data W h
  have hS := fun W Ao no' co' A n' c' (ho : RB W Ao no' co' (readT p.src p.dst p.data).opts) (hd : RB W A n' c' (readT p.src p.dst p.data).data) => RefSegment_any (readT p.src p.dst p.data) bound Ao no' co' A n' c' W ho hd (by have := ho.len; have := hlr.out; omega) (by have := hd.len; have := hlr.out; omega)
  have hBd := fun W A8 no' c8 A9 n' c9 (ho : RB W A8 no' c8 (segT (readT p.src p.dst p.data) bound).opts) (hd : RB W A9 n' c9 (segT (readT p.src p.dst p.data) bound).data) => show Calls Try.prog 81 #[.int .i64 p.src, .int .i64 p.dst, .agg (cellsT (segT (readT p.src p.dst p.data) bound) A8 no' c8 A9 n' c9)] W (TwoOut W (clampD p bound) 0) from by
    have h1 := ho.len
    have h2 := hd.len
    rw [segT_data] at h2
    rw [segT_len] at h1
    subst h1
    subst h2
    have hd' := hd
    have := RefTcpBuild_any p.src p.dst (segT (readT p.src p.dst p.data) bound) A8 (readT p.src p.dst p.data).opts.length c8 A9 (readT p.src p.dst p.data).data.length c9 W ho hd' (by have := hlr.out; omega)
    rw [g1] at this
    unfold builtT? at this
    rw [g1, if_pos rfl] at this
    exact this
  unfold TcpOut at hT
  rw [hk3] at hT
  rw [hcp] at hP
  have hld := Lib.hid (show (clampD p bound).length = n by rw [g2, hlr.out])
  have hxx : ∃ xx, portsP p = xx := ⟨_, rfl⟩
  obtain ⟨xx, hxx⟩ := hxx
  rw [hxx] at hP
  clear hk1 hk2 hk3 g1 g2 g3 g4 g5 j1 j2 j3 j4 hxx hcp h6
  unfold SegOut at hS
  generalize segT (readT p.src p.dst p.data) bound = sg at *
  generalize readT p.src p.dst p.data = m at *
  generalize clampD p bound = ds at *
  replace hT := Lib.hid hT
  replace hS := Lib.hid hS
  replace hBd := Lib.hid hBd
  go_upto_region 6 with (first
    | (go_at_call 79; refine (hP.out _ ro5.out rd5.out).mono ?_; rintro e w7 ⟨rfl, hB7⟩; have hbx := (Below.refl _ w5).trans hB7; have hby7 := hbx.alloc hbx.size (.cells (cellsPo xx) 45); have k7 := Lib.hid (k5.out.to hby7); have kz7 := Lib.hid (kz5.out.to hby7); have ro7 := Lib.hid (ro5.out.below hby7); have rd7 := Lib.hid (rd5.out.below hby7); have hb7 := Lib.hid (hb5.out.trans (hby7.mono hb5.out.size)); have c4 := k7.out.cell 4 _ rfl; have c5 := k7.out.cell 5 _ rfl; have c6 := k7.out.cell 6 _ rfl; have c10 := k7.out.cell 10 _ rfl; clear hbx; replace hby7 := 0; replace hB7 := 0)
    | (refine wpList_load_4 rfl (.tmp 2) rfl w.heap.size rfl _ k7.out rfl ?_)
    | (refine wpList_load_4 rfl (.tmp 2) rfl w.heap.size rfl _ k5.out rfl ?_)
    | (go_at_call 80; refine (hT.out _ rd7.out).mono ?_; rintro e w8 ⟨A6, n6, c6', A7, n7, c7', rfl, ho8, hd8, hB8⟩; have hx8 := hB8.alloc hB8.size (.cells (cellsT m A6 n6 c6' A7 n7 c7') 50); have k8 := Lib.hid (k7.out.to hx8); have kz8 := Lib.hid (kz7.out.to hx8); have ro8 := Lib.hid (ro7.out.below hx8); have hb8 := Lib.hid (hb7.out.trans (hx8.mono hb7.out.size)); have kT8 := Lib.hid (Blk.new w8 (cellsT m A6 n6 c6' A7 n7 c7') 50); have ho8' := Lib.hid (ho8.rb.alloc (.cells (cellsT m A6 n6 c6' A7 n7 c7') 50)); have hd8' := Lib.hid (hd8.rb.alloc (.cells (cellsT m A6 n6 c6' A7 n7 c7') 50)); clear hx8 ho8 hd8 c4 c5 c6 c10; replace hB8 := 0)
    | (refine wpList_store_T rfl (.tmp 7) (.tmp 38) rfl w8.heap.size (cellsT m A6 n6 c6' A7 n7 c7') rfl rfl _ (Blk.new _ zeroT 50) rfl rfl (one_T _ _ _ _ _ _ _) ?_; rw [World.setRow_alloc_new])
    | fail)
  obtain ⟨w9, hw9⟩ : ∃ w9, w8.alloc (.cells (cellsT m A6 n6 c6' A7 n7 c7') 50) = w9 := ⟨_, rfl⟩
  rw [hw9] at k8 kz8 ro8 hb8 kT8 ho8' hd8' ⊢
  have hF := Lib.hid (fun W (hW : Below w9.heap.size w9 W) => show W.cell? ⟨w.heap.size, 5, none⟩ = some (.int .i64 p.src) ∧ W.cell? ⟨w.heap.size, 6, none⟩ = some (.int .i64 p.dst) ∧ W.rangeAt w8.heap.size 0 (cellsT m A6 n6 c6' A7 n7 c7').toList from
    ⟨(k8.out.to hW).cell 5 _ rfl, (k8.out.to hW).cell 6 _ rfl, fun j v hj => by rw [Nat.zero_add]; exact (kT8.out.to hW).cell j v (by rw [← Array.getElem?_toList]; exact hj)⟩)
  have hi := Lib.hid (show (Try.prog.info? 50).map (·.size) = some (cellsT m A6 n6 c6' A7 n7 c7').toList.length from info_tcp)
  have hx9 := Lib.hid (Below.refl w9.heap.size w9).drew
  have hTN := Lib.hid (show w8.heap.size ≠ w.heap.size by have := hb7.out.size; have := k8.out.lt; intro e; have := kT8.out.at_; rw [e, k8.out.at_] at this; injection this with this; injection this with this _; exact absurd (congrArg Array.size this) (by simp))
  replace hw9 := Lib.hid hw9
  try simp only [Act.put]
  refine wp_region_held_drew (S := fun W => W.cell? ⟨w.heap.size, 5, none⟩ = some (.int .i64 p.src) ∧ W.cell? ⟨w.heap.size, 6, none⟩ = some (.int .i64 p.dst) ∧ W.rangeAt w8.heap.size 0 (cellsT m A6 n6 c6' A7 n7 c7').toList) (by kernel_rfl) (hF.out _ hx9.out) (fun hHeld => ?_)
  refine take_h (i := 0) (v := ?_) rfl rfl (by kernel_rfl) (by kernel_rfl) (by kernel_rfl) (fun _ _ _ h => h) (Or.inl ⟨by rfl, fun W hSw => ?_⟩) (by assumption) ?_
  rotate_left
  · (clear hSw; go_simp; try with_reducible rfl)
  simp only [Act.put, List.setIfInBounds_toArray, List.set_cons_zero, List.set_cons_succ]
  refine take_h (i := 1) (v := ?_) rfl rfl (by kernel_rfl) (by kernel_rfl) (by kernel_rfl) (fun _ _ _ h => h) (Or.inl ⟨by rfl, fun W hSw => ?_⟩) (by assumption) ?_
  rotate_left
  · (obtain ⟨hs0, _⟩ := hSw; go_simp; try with_reducible rfl)
  simp only [Act.put, List.setIfInBounds_toArray, List.set_cons_zero, List.set_cons_succ]
  refine take_h (i := 2) (v := ?_) rfl rfl (by kernel_rfl) (by kernel_rfl) (by kernel_rfl) (fun _ _ _ h => h) (Or.inl ⟨by rfl, fun W hSw => ?_⟩) (by assumption) ?_
  rotate_left
  · (clear hSw; go_simp; try with_reducible rfl)
  simp only [Act.put, List.setIfInBounds_toArray, List.set_cons_zero, List.set_cons_succ]
  refine take_h (i := 3) (v := ?_) rfl rfl (by kernel_rfl) (by kernel_rfl) (by kernel_rfl) (fun _ _ _ h => h) (Or.inl ⟨by rfl, fun W hSw => ?_⟩) (by assumption) ?_
  rotate_left
  · (obtain ⟨hs0, hs1⟩ := hSw; go_simp; try with_reducible rfl)
  simp only [Act.put, List.setIfInBounds_toArray, List.set_cons_zero, List.set_cons_succ]
  refine take_h (i := 4) rfl rfl (by kernel_rfl) (by kernel_rfl) (by kernel_rfl) (fun _ _ _ h => h) (yieldsIf_load_mid (by rfl) 50 (.tmp 7) rfl _ _ rfl (cellsT m A6 n6 c6' A7 n7 c7').toList _ (fun W hW => hW.2.2) Try.underlying50 rfl hi.out) (by assumption) ?_
  simp only [Act.put, List.setIfInBounds_toArray, List.set_cons_zero, List.set_cons_succ]
  refine take_h (i := 5) (v := ?_) rfl rfl (by kernel_rfl) (by kernel_rfl) (by kernel_rfl) (fun _ _ _ h => h) (Or.inl ⟨by rfl, fun W hSw => ?_⟩) (by assumption) ?_
  rotate_left
  · (clear hSw; go_simp; try with_reducible rfl)
  simp only [Act.put, List.setIfInBounds_toArray, List.set_cons_zero, List.set_cons_succ]
  refine step_h (i := 6) rfl rfl (by kernel_rfl) (fun K hK => ?_)
  go_simp
  refine Calls.mono (hS.out _ A6 n6 c6' A7 n7 c7' (ho8'.out.below hx9.out) (hd8'.out.below hx9.out)) ?_
  rintro e w10 ⟨A8, c8, A9, c9, rfl, ho10, hd10, hB10⟩
  have hx10 := Lib.hid (hx9.out.trans (hB10.mono hx9.out.size))
  have hS10 := hF.out w10 hx10.out
  have ho10' := Lib.hid ho10
  have hd10' := Lib.hid hd10
  clear hHeld hB10 ho10 hd10
  go_wp2_with fail
  refine hK.out _ _ hS10 (fun hHeld => ?_)
  clear hK K
  try simp only [Act.put, List.setIfInBounds_toArray, List.set_cons_zero, List.set_cons_succ]
  refine step_h (i := 7) rfl rfl (by kernel_rfl) (fun K hK => ?_)
  go_simp
  refine Calls.mono (hBd.out w10 A8 n6 c8 A9 n7 c9 ho10'.out hd10'.out) ?_
  rintro e w11 ⟨A11, n11, c11, rfl, hr11, hB11⟩
  have hx11 := hx10.out.trans (hB11.mono hx10.out.size)
  have hS11 := hF.out w11 hx11
  have hr11' := Lib.hid hr11
  clear hHeld hB11 hr11 hS10
  go_wp2_with fail
  refine hK.out _ _ hS11 (fun hHeld => ?_)
  clear hK K
  try simp only [Act.put, List.setIfInBounds_toArray, List.set_cons_zero, List.set_cons_succ]
  refine take_h (i := 8) (v := ?_) rfl rfl (by kernel_rfl) (by kernel_rfl) (by kernel_rfl) (fun _ _ _ h => h) (Or.inl ⟨by rfl, fun W hSw => ?_⟩) (by assumption) ?_
  rotate_left
  · (clear hSw; go_simp; try with_reducible rfl)
  simp only [Act.put, List.setIfInBounds_toArray, List.set_cons_zero, List.set_cons_succ]
  refine take_h (i := 9) (v := ?_) rfl rfl (by kernel_rfl) (by kernel_rfl) (by kernel_rfl) (fun _ _ _ h => h) (Or.inl ⟨by rfl, fun W hSw => ?_⟩) (by assumption) ?_
  rotate_left
  · (clear hSw; go_simp; try with_reducible rfl)
  simp only [Act.put, List.setIfInBounds_toArray, List.set_cons_zero, List.set_cons_succ]
  refine take_h (i := 10) (v := ?_) rfl rfl (by kernel_rfl) (by kernel_rfl) (by kernel_rfl) (fun _ _ _ h => h) (Or.inl ⟨by rfl, fun W hSw => ?_⟩) (by assumption) ?_
  rotate_left
  · (clear hSw; go_simp; try with_reducible rfl)
  simp only [Act.put, List.setIfInBounds_toArray, List.set_cons_zero, List.set_cons_succ]
  refine take_h (i := 11) (v := ?_) rfl rfl (by kernel_rfl) (by kernel_rfl) (by kernel_rfl) (fun _ _ _ h => h) (Or.inl ⟨by rfl, fun W hSw => ?_⟩) (by assumption) ?_
  rotate_left
  · (clear hSw; go_simp; try with_reducible rfl)
  simp only [Act.put, List.setIfInBounds_toArray, List.set_cons_zero, List.set_cons_succ]
  have k11 := k8.out.to hx11
  have kz11 := Lib.hid (kz8.out.to hx11)
  have kT11 := kT8.out.to hx11
  have ro11 := Lib.hid (ro8.out.below hx11)
  have hb11 := Lib.hid (hb8.out.trans (hx11.mono hb8.out.size))
  have c10 := k11.cell 10 _ rfl
  have f10 := k11.frz 10
  have hl11 := hr11'.out.len
  rw [hld.out] at hl11
  subst hl11
  have kL' : Blk (w11.setCell ⟨w.heap.size, 10, none⟩ (.slice A11 n c11)) w.heap.size (cells4 { p with data := ds } A3 no c3 A11 n c11) 24 := by simpa using k11.set 10 (.slice A11 n c11)
  have kzL := Lib.hid (kz11.out.far (B' := w.heap.size) (by omega) 10 (.slice A11 n c11))
  have kTL := kT11.far (B' := w.heap.size) hTN.out 10 (.slice A11 n c11)
  have roL := Lib.hid (ro11.out.farN (nbc4 k11) 10 (.slice A11 n c11))
  have rdL := Lib.hid (hr11'.out.farN (nbc4 k11) 10 (.slice A11 n c11))
  have hbL := Lib.hid (hb11.out.setCell (p := ⟨w.heap.size, 10, none⟩) (Nat.le_refl _) (.slice A11 n c11))
  have hSL := Lib.hid (show (w11.setCell ⟨w.heap.size, 10, none⟩ (.slice A11 n c11)).cell? ⟨w.heap.size, 5, none⟩ = some (.int .i64 p.src) ∧ (w11.setCell ⟨w.heap.size, 10, none⟩ (.slice A11 n c11)).cell? ⟨w.heap.size, 6, none⟩ = some (.int .i64 p.dst) ∧ (w11.setCell ⟨w.heap.size, 10, none⟩ (.slice A11 n c11)).rangeAt w8.heap.size 0 (cellsT m A6 n6 c6' A7 n7 c7').toList from
    ⟨kL'.cell 5 _ rfl, kL'.cell 6 _ rfl, fun j v hj => by rw [Nat.zero_add]; exact kTL.cell j v (by rw [← Array.getElem?_toList]; exact hj)⟩)
  have kL := Lib.hid kL'
  clear hHeld hS11 kL' kTL kT11 k11 hx11
  refine step_h (i := 12) rfl rfl (by kernel_rfl) (fun K hK => ?_)
  go_simp
  have hSL' := hSL.out
  refine hK.out _ _ hSL' (fun hHeld => ?_)
  clear hK K
  try simp only [Act.put, List.setIfInBounds_toArray, List.set_cons_zero, List.set_cons_succ]
  refine wpAnyH_done (by kernel_rfl) ?_ _
  clear hHeld hSL' c10 f10 hi
  try simp only [Act.put]
  go_wp2_with (first
    | (refine wpList_load_4 rfl (.tmp 2) rfl w.heap.size rfl _ kL.out rfl ?_)
    | (refine wpList_store_4 rfl (.tmp 4) (.tmp 52) rfl (w.heap.size + 1) (cells4 { p with data := ds } A3 no c3 A11 n c11) rfl rfl _ kzL.out rfl rfl (one4 _ _ _ _ _ _ _) ?_)
    | fail)
  refine bodyPost_ret (results_c Try.results34 rfl (run_load_4 (Blk.mk (setRow_heap _ _ _ _ _ _ kzL.out.at_)) rfl)) rfl ?_
  exact PackOut.row (z := zero4) hq.out kzL.out roL.out rdL.out hbL.out (by omega)
end Go.Proofs.Ytipigcpenmcaoaa
