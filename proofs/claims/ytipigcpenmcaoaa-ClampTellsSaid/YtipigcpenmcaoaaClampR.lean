/- clamp (the reference): walk of Segment. -/
import Derived.Test.YtipigcpenmcaoaaClampP
import Derived.Test.YtipigcpenmcaoaaClampK
import Derived.Test.YtipigcpenmcaoaaTcpM
import Derived.Test.YtipigcpenmcaoaaV4K
import Derived.Deep.DeepCutAuto
set_option linter.unusedVariables false
namespace Go.Proofs.Ytipigcpenmcaoaa
open Go Go.RowKit
attribute [local go_sem] Oper.semAt_some

theorem nbcT {X : World} {gp : Nat} {m : TcpP} {x1 : Option Addr} {x2 x3 : Nat} {y1 : Option Addr} {y2 y3 : Nat} (h : Blk X gp (cellsT m x1 x2 x3 y1 y2 y3) 50) : ∀ j x, X.cell? ⟨gp, j, none⟩ ≠ some (.int .u8 x) := h.nobytes (fun u hu x => by simp at hu; rcases hu with rfl | rfl | rfl | rfl | rfl | rfl | rfl | rfl | rfl | rfl <;> simp)
def SegOut (w : World) (q : TcpP) (no n : Nat) (e : Ending) (w' : World) : Prop :=
  ∃ A8 c8 A9 c9, e = .returned (.agg (cellsT q A8 no c8 A9 n c9)) ∧ RB w' A8 no c8 q.opts ∧ RB w' A9 n c9 q.data ∧ Below w.heap.size w w'
theorem SegOut.row {w W : World} {q : TcpP} {Ao : Option Addr} {no co : Nat} {A : Option Addr} {n c : Nat} {B : Nat} {m z : TcpP} {b : Int} (hq : segT m b = q) (kz : Blk W B (cellsT z none 0 0 none 0 0) 50) (ho : RB W Ao no co q.opts) (hd : RB W A n c q.data) (hb : Below w.heap.size w W) (hB : w.heap.size ≤ B) :
    SegOut w (segT m b) no n (.returned (.agg (cellsT q Ao no co A n c))) (W.setRow B (cellsT q Ao no co A n c)) := by
  rw [hq]
  exact ⟨Ao, co, A, c, rfl, ho.farRow (nbcT kz) _, hd.farRow (nbcT kz) _, below_row hb hB _⟩
theorem segT_fin {m : TcpP} {ao : Option Addr} {no co : Nat} {a : Option Addr} {n c : Nat} {w1 X : World} {N b1 b2 : Nat} {A3 A4 : Option Addr} {c3 c4 : Nat} (k : Blk X N (cellsT m ao no co a n c) 50) (kz : Blk X (N + 1) zeroT 50) (ho : OB X b1 A3 no c3 m.opts) (hd : OB X b2 A4 n c4 m.data) (h1 : N + 2 ≤ b1) (h2 : N + 2 ≤ b2) (hb : Below N w1 X) (hne : ∀ k, ownBlk A3 = some k → ownBlk A4 = some k → False) :
    ∃ B3 d3 B4' d4, Blk ((X.setCell ⟨N, 8, none⟩ (.slice A3 no c3)).setCell ⟨N, 9, none⟩ (.slice A4 n c4)) N (cellsT m B3 no d3 B4' n d4) 50 ∧
      OB ((X.setCell ⟨N, 8, none⟩ (.slice A3 no c3)).setCell ⟨N, 9, none⟩ (.slice A4 n c4)) (N + 2) B3 no d3 m.opts ∧ OB ((X.setCell ⟨N, 8, none⟩ (.slice A3 no c3)).setCell ⟨N, 9, none⟩ (.slice A4 n c4)) (N + 2) B4' n d4 m.data ∧
      (∀ k, ownBlk B3 = some k → ownBlk B4' = some k → False) ∧ Blk ((X.setCell ⟨N, 8, none⟩ (.slice A3 no c3)).setCell ⟨N, 9, none⟩ (.slice A4 n c4)) (N + 1) zeroT 50 ∧ Below N w1 ((X.setCell ⟨N, 8, none⟩ (.slice A3 no c3)).setCell ⟨N, 9, none⟩ (.slice A4 n c4)) := by
  have k5 : Blk (X.setCell ⟨N, 8, none⟩ (.slice A3 no c3)) N (cellsT m A3 no c3 a n c) 50 := by simpa using k.set 8 (.slice A3 no c3)
  exact ⟨A3, c3, A4, c4, by simpa using k5.set 9 (.slice A4 n c4), ((ho.mono h1).set_low (by omega) 8 _).set_low (by omega) 9 _, ((hd.mono h2).set_low (by omega) 8 _).set_low (by omega) 9 _, hne,
    (kz.far (by omega) 8 _).far (by omega) 9 _, (hb.setCell (p := ⟨N, 8, none⟩) (Nat.le_refl _) _).setCell (p := ⟨N, 9, none⟩) (Nat.le_refl _) _⟩
theorem seg_ix {y no : Nat} (h : y + 4 ≤ no) (hn : no ≤ 100000) : ((y : Int) + 2 < no ∧ (y : Int) + 3 < no ∧ 0 ≤ (y : Int) + 2 ∧ 0 ≤ (y : Int) + 3) ∧ (((y : Int) + 2).toNat = y + 2 ∧ ((y : Int) + 3).toNat = y + 3) ∧ (IntKind.i64.wrap ((y : Int) + 2) = (y : Int) + 2 ∧ IntKind.i64.wrap ((y : Int) + 3) = (y : Int) + 3) ∧ y + 2 < no ∧ y + 3 < no ∧ 0 < no := by
  refine ⟨by omega, by omega, ?_, by omega, by omega, by omega⟩
  rw [IntKind.wrap_i64, IntKind.wrap_i64]; omega
theorem seg_by {b : Int} (h0 : 0 ≤ b) (h1 : b < 65536) : (b.tdiv 256 = b / 256 ∧ b.tmod 256 = b % 256) ∧ (IntKind.u8.wrap (b / 256) = b / 256 ∧ IntKind.u8.wrap (b % 256) = b % 256) ∧ (IntKind.i64.wrap (b / 256) = b / 256 ∧ IntKind.i64.wrap (b % 256) = b % 256) ∧ ((0 ≤ b / 256 ∧ b / 256 ≤ 255) ∧ (0 ≤ b % 256 ∧ b % 256 ≤ 255)) ∧ digL b 2 = [b / 256, b % 256] ∧ decide (b < 0) = false ∧ decide (65535 < b) = false := by
  refine ⟨⟨Int.tdiv_eq_ediv_of_nonneg h0, Int.tmod_eq_emod_of_nonneg h0⟩, ⟨by rw [IntKind.wrap_u8]; omega, by rw [IntKind.wrap_u8]; omega⟩, ⟨by rw [IntKind.wrap_i64]; omega, by rw [IntKind.wrap_i64]; omega⟩, by omega, ?_, decide_eq_false (by omega), decide_eq_false (by omega)⟩
  have : digL b 2 = [b / 256 % 256, b % 256] := by simp [digL, List.range_succ]
  rw [this, show b / 256 % 256 = b / 256 by omega]
set_option maxRecDepth 100000 in
set_option maxHeartbeats 4000000 in
theorem RefSegment_any (m : TcpP) (bound : Int) (ao : Option Addr) (no co : Nat) (a : Option Addr) (n c : Nat) (w : World) (hro : RB w ao no co m.opts) (hr : RB w a n c m.data) (hno : no ≤ 100000) (hn : n ≤ 100000) :
    Calls Try.prog 33 #[.agg (cellsT m ao no co a n c), .int .i64 bound] w (SegOut w (segT m bound) no n) := by
  obtain ⟨w1, hw1⟩ : ∃ w1, (w.alloc (.cells (cellsT m ao no co a n c) 50)).alloc (.cells zeroT 50) = w1 := ⟨_, rfl⟩
  have hb0 := (Below.refl _ w).alloc (Nat.le_refl _) (.cells (cellsT m ao no co a n c) 50)
  have hb1 : Below w.heap.size w w1 := by rw [← hw1]; exact hb0.alloc hb0.size _
  have kH : Blk w1 w.heap.size (cellsT m ao no co a n c) 50 := by rw [← hw1]; exact (Blk.new w _ _).alloc _
  have kZ : Blk w1 (w.heap.size + 1) zeroT 50 := by
    rw [← hw1]
    have := Blk.new (w.alloc (.cells (cellsT m ao no co a n c) 50)) zeroT 50
    rwa [World.size_alloc] at this
  have ro1 := hro.below hb1
  have rd1 := hr.below hb1
  have hlo := Lib.hid hro.len
  have hz1 := Lib.hid (show w.heap.size + 2 ≤ w1.heap.size from kZ.lt)
  have hcr := Lib.hid (fun X (hX : Below w1.heap.size w1 X) => ro1.below hX)
  have hcd := Lib.hid (fun X (hX : Below w1.heap.size w1 X) => rd1.below hX)
  have kd' := kH.drew
  have e9 := kd'.cell 8 (.slice ao no co) rfl
  have e10 := kd'.cell 9 (.slice a n c) rfl
  have kd := Lib.hid kd'
  have kz := Lib.hid kZ
  have hb1' := Lib.hid hb1
  have hw1' := Lib.hid hw1
  clear hw1 kH kZ hb0 hb1 ro1 rd1 kd' hro hr
  go_enter Try.func33, Try.ntmps33
  go_upto_region 1 with fail
  rw [hw1'.out]
  try simp only [Act.put]
  go_cut [] (fun wx => ∃ A3 c3 A4 c4, Blk wx w.heap.size (cellsT m A3 no c3 A4 n c4) 50 ∧ OB wx (w.heap.size + 2) A3 no c3 m.opts ∧ OB wx (w.heap.size + 2) A4 n c4 m.data ∧ (∀ k, ownBlk A3 = some k → ownBlk A4 = some k → False) ∧ Blk wx (w.heap.size + 1) zeroT 50 ∧ Below w.heap.size w1 wx)
  case first =>
    have hsO := Lib.hid (show 0 + no ≤ 140737488355328 by omega)
    have hsD := Lib.hid (show 0 + n ≤ 140737488355328 by omega)
    have hbd := Lib.hid (Below.refl w1.heap.size w1).drew
    have hNd := Lib.hid (show w.heap.size + 2 ≤ w1.drew.heap.size from hz1.out)
    go_region_law (first
    | (refine step_append_bytes (A := none) (n := 0) (c := 0) (A' := ao) (m := no) (c' := co) (base := wDd.heap.size) (bs := []) (ys := m.opts) rfl (.const (.slice none 0 0)) (.tmp 9) rfl (by simp [Act.eval]) (by simp [Act.eval]) (OB.nil _ _) (hcr.out _ hbD.out) hsO.out (Nat.le_refl _) ?_; intro A3 c3 wOD hoO hg hr; have hBx := (Below.refl _ _).grown hg (Nat.le_refl _) (fun k hk => by cases hk); have kO := kD.out.to hBx; have hbO := Lib.hid (hbD.out.trans (hBx.mono hbD.out.size)); have e9O := kO.cell 8 (.slice ao no co) rfl; have e10O := kO.cell 9 (.slice a n c) rfl; have hoD2 := Lib.hid (hoD.out.below hBx); replace hoO := Lib.hid hoO; have f9 := kO.frz 8; have c10 := (kO.set 8 (.slice A3 no c3)).cell 9 (.slice a n c) rfl; have f10 := (kO.set 8 (.slice A3 no c3)).frz 9; replace kO := Lib.hid kO; replace hBx := 0; clear hg hr)
    | (refine step_append_bytes (A := none) (n := 0) (c := 0) (A' := a) (m := n) (c' := c) (base := wOd.heap.size) (bs := []) (ys := m.data) rfl (.const (.slice none 0 0)) (.tmp 12) rfl (by simp [Act.eval]) (by simp [Act.eval, Act.put]) (OB.nil _ _) (hcd.out _ hbO.out) hsD.out (Nat.le_refl _) ?_; intro A4 c4 wDO hoD hg hr; have hBx := (Below.refl _ _).grown hg (Nat.le_refl _) (fun k hk => by cases hk); have kD := kO.out.to hBx; have hbD := Lib.hid (hbO.out.trans (hBx.mono hbO.out.size)); have e9D := kD.cell 8 (.slice ao no co) rfl; have e10D := kD.cell 9 (.slice a n c) rfl; have hoO2 := Lib.hid (hoO.out.below hBx); replace hoD := Lib.hid hoD; have f9 := kD.frz 8; have c10 := (kD.set 8 (.slice A3 no c3)).cell 9 (.slice a n c) rfl; have f10 := (kD.set 8 (.slice A3 no c3)).frz 9; replace kD := Lib.hid kD; replace hBx := 0; clear hg hr)
    | (refine step_append_bytes (A := none) (n := 0) (c := 0) (A' := ao) (m := no) (c' := co) (base := w1.drew.heap.size) (bs := []) (ys := m.opts) rfl (.const (.slice none 0 0)) (.tmp 9) rfl (by simp [Act.eval]) (by simp [Act.eval]) (OB.nil _ _) (hcr.out _ hbd.out) hsO.out (Nat.le_refl _) ?_; intro A3 c3 wOd hoO hg hr; have hBx := (Below.refl _ _).grown hg (Nat.le_refl _) (fun k hk => by cases hk); have kO := kd.out.to hBx; have hbO := Lib.hid (hbd.out.trans (hBx.mono hbd.out.size)); have e9O := kO.cell 8 (.slice ao no co) rfl; have e10O := kO.cell 9 (.slice a n c) rfl; replace hoO := Lib.hid hoO; replace kO := Lib.hid kO; replace hBx := 0; clear hg hr)
    | (refine step_append_bytes (A := none) (n := 0) (c := 0) (A' := a) (m := n) (c' := c) (base := w1.drew.heap.size) (bs := []) (ys := m.data) rfl (.const (.slice none 0 0)) (.tmp 12) rfl (by simp [Act.eval]) (by simp [Act.eval, Act.put]) (OB.nil _ _) (hcd.out _ hbd.out) hsD.out (Nat.le_refl _) ?_; intro A4 c4 wDd hoD hg hr; have hBx := (Below.refl _ _).grown hg (Nat.le_refl _) (fun k hk => by cases hk); have kD := kd.out.to hBx; have hbD := Lib.hid (hbd.out.trans (hBx.mono hbd.out.size)); have e9D := kD.cell 8 (.slice ao no co) rfl; have e10D := kD.cell 9 (.slice a n c) rfl; replace hoD := Lib.hid hoD; replace kD := Lib.hid kD; replace hBx := 0; clear hg hr))
    all_goals
      go_wp2_with fail
      go_meet
      first
        | (exact segT_fin kD.out (kz.out.to hbD.out) (by have := hoO2.out; rwa [Nat.zero_add] at this) (by have := hoD.out; rwa [Nat.zero_add] at this) hNd.out (by have h8 := hbO.out.size; have h9 := hz1.out; omega) (hbD.out.mono (by have h9 := hz1.out; omega)) (fun k hk h4 => by have h5 := (hoO.out.blk hk).2; have h6 := (hoD.out.blk h4).1; omega))
        | (exact segT_fin kO.out (kz.out.to hbO.out) (by have := hoO.out; rwa [Nat.zero_add] at this) (by have := hoD2.out; rwa [Nat.zero_add] at this) (by have h8 := hbD.out.size; have h9 := hz1.out; omega) hNd.out (hbO.out.mono (by have h9 := hz1.out; omega)) (fun k hk h4 => by have h5 := (hoO.out.blk hk).1; have h6 := (hoD.out.blk h4).2; omega))
  case rest =>
  obtain ⟨A3, c3, A4, c4, k5', ro5, rd5, hne5, kz5, hB5⟩ := hcut
  obtain ⟨w5, rfl⟩ : ∃ w5, w5 = wc := ⟨_, rfl⟩
  have hb5 := Lib.hid (hb1'.out.trans hB5)
  have k5 := Lib.hid k5'
  replace ro5 := Lib.hid ro5
  replace rd5 := Lib.hid rd5
  replace kz5 := Lib.hid kz5
  replace hne5 := Lib.hid hne5
  have hM := fun W (h : RB W A3 no c3 m.opts) => RefMSS_any m A3 no c3 A4 n c4 W h hno
  clear k5' hB5
  obtain ⟨v, hv⟩ : ∃ v, (mssT m.opts).1 = v := ⟨_, rfl⟩
  obtain ⟨x, hx⟩ : ∃ x, (mssT m.opts).2.1 = x := ⟨_, rfl⟩
  obtain ⟨k, hk⟩ : ∃ k, (mssT m.opts).2.2 = k := ⟨_, rfl⟩
  have hh : heldT m bound = if (bits .and .i64 m.f 2 == 0) = true then (0, false) else if fitsB bound 2 = false then (0, false) else (x, k && decide (bound < v)) := by unfold heldT; rw [hv, hx, hk]
  have hse : (heldT m bound).2 = false → segT m bound = m := fun h => by unfold segT; rw [h]; rfl
  unfold mssV at hM
  rw [hv, hx, hk] at hM
  replace hM := Lib.hid hM
  by_cases hhl : (heldT m bound).2 = true
  · obtain ⟨y, hx1, hx2, hx3, hx4, hx5, hx6, hx7, hx8⟩ := heldT_true hhl
    obtain rfl : (getV m.opts ((y : Int) + 2) 2).1 = v := by rw [← hv, hx2]
    obtain rfl : (y : Int) = x := by rw [← hx, hx2]
    obtain rfl : true = k := by rw [← hk, hx2]
    have hxo := optL_le m.opts y
    rw [hx4, hlo.out] at hxo
    have hx9 : y + 4 ≤ no := by omega
    have hxt : ((y : Int) + 2).toNat = y + 2 := by omega
    have hb256 : (256 : Int) ^ (((2 : Nat) : Int)).toNat = 65536 := by decide
    have hbl : 0 ≤ bound ∧ bound < 65536 := ⟨hx7.2.1, by have := hx7.2.2; rwa [hb256] at this⟩
    obtain ⟨⟨hq1, hq2⟩, ⟨hq3, hq4⟩, ⟨hq5, hq6⟩, hbs, hdg, d2', d3'⟩ := seg_by hbl.1 hbl.2
    obtain ⟨⟨hi0, hi1, hn0, hn1⟩, ⟨ht2, ht3⟩, ⟨hw2, hw3⟩, hi2, hi3, hnp⟩ := seg_ix hx9 hno
    replace hbs := Lib.hid hbs
    have hs := Lib.hid (show segT m bound = { m with opts := (m.opts.set (y + 2) (bound / 256)).set (y + 3) (bound % 256) } by
      unfold segT
      rw [hhl, if_pos rfl, hx5, hxt, hdg]
      rfl)
    have d1' : decide ((getV m.opts ((y : Int) + 2) 2).1 ≤ bound) = false := decide_eq_false (Int.not_le.2 hx6)
    obtain ⟨g, rfl, hg1, hg2, hgf⟩ := ro5.out.form hnp
    have hne := Lib.hid (fun k (hk : ownBlk A4 = some k) (e : k = g) => hne5.out g rfl (by rw [hk, e]))
    generalize (getV m.opts ((y : Int) + 2) 2).1 = v at *
    generalize bound / 256 = hi at *
    generalize bound % 256 = lo at *
    clear hx1 hx2 hx3 hx4 hx5 hx6 hx7 hxo hxt hb256 hbl hdg hhl hse hh hv hx hk hgf hne5
    replace hg2 := 0
    go_upto_region 5 with (first
      | (go_at_call 78; refine (hM.out _ ro5.out.rb).mono ?_; rintro e w6 ⟨rfl, hB6⟩; have k6' := k5.out.to hB6; have e5 := k6'.cell 5 _ rfl; have k6 := Lib.hid k6'; have kz6 := Lib.hid (kz5.out.to hB6); have ro6 := Lib.hid (ro5.out.below hB6); have rd6 := Lib.hid (rd5.out.below hB6); have hb6 := Lib.hid (hb5.out.trans (hB6.mono hb5.out.size)); clear k6'; replace hB6 := 0)
      | (refine wpList_load_S rfl (.tmp 2) rfl w.heap.size rfl (cellsT m (some ⟨g, 0, none⟩) no c3 A4 n c4) k5.out rfl ?_)
      | fail)
    obtain ⟨w7, hw7⟩ : ∃ w7, w6.drew = w7 := ⟨_, rfl⟩
    have k7 : Blk w7 w.heap.size (cellsT m (some ⟨g, 0, none⟩) no c3 A4 n c4) 50 := by rw [← hw7]; exact k6.out.drew
    have hdr := (Below.refl w6.heap.size w6).drew
    rw [hw7] at hdr
    have kz7 := kz6.out.to hdr
    have ro7 := ro6.out.below hdr
    have rd7 := rd6.out.rb.below hdr
    have hb7 := hb6.out.trans (hdr.mono hb6.out.size)
    obtain ⟨g', e, _, hg7, hgf⟩ := ro7.form hnp
    obtain rfl : g = g' := by simpa using e
    obtain ⟨b', o', e', _, hc7⟩ := ro7.rb.mem hnp
    obtain ⟨rfl, rfl⟩ : g = b' ∧ 0 = o' := by simpa using e'
    have hcA := hc7 (y + 2) hi2
    have hcB := hc7 (y + 3) hi3
    rw [Nat.zero_add] at hcA hcB
    have hfA := hgf (y + 2)
    have hfB := hgf (y + 3)
    have hS0 := Lib.hid (k7.cell 8 _ rfl)
    have hS1 : w6.drew.cell? ⟨w.heap.size, 8, none⟩ = some (.slice (some ⟨g, 0, none⟩) no c3) := by rw [hw7]; exact hS0.out
    replace hS1 := Lib.hid hS1
    replace hw7 := Lib.hid hw7
    replace k7 := Lib.hid k7
    replace kz7 := Lib.hid kz7
    replace ro7 := Lib.hid ro7
    replace rd7 := Lib.hid rd7
    replace hb7 := Lib.hid hb7
    replace hdr := 0
    clear e5 hg7 hgf hc7 e e'
    try simp only [Act.put]
    refine wp_region_held_drew (S := fun W => W.cell? ⟨w.heap.size, 8, none⟩ = some (.slice (some ⟨g, 0, none⟩) no c3) ∧ True) (by kernel_rfl) ⟨hS1.out, trivial⟩ (fun hHeld => ?_)
    rw [hw7.out] at hHeld ⊢
    refine take_h (i := 0) (v := ?_) rfl rfl (by kernel_rfl) (by kernel_rfl) (by kernel_rfl) (fun _ _ _ h => h) (Or.inl ⟨by rfl, fun W hSw => ?_⟩) (by assumption) ?_
    rotate_left
    · (clear hSw; go_simp; try with_reducible rfl)
    simp only [Act.put, List.setIfInBounds_toArray, List.set_cons_zero, List.set_cons_succ]
    refine take_h (i := 1) (v := ?_) rfl rfl (by kernel_rfl) (by kernel_rfl) (by kernel_rfl) (fun _ _ _ h => h) (Or.inl ⟨by rfl, fun W hSw => ?_⟩) (by assumption) ?_
    rotate_left
    · (obtain ⟨hs0, _⟩ := hSw; go_simp; try with_reducible rfl)
    simp only [Act.put, List.setIfInBounds_toArray, List.set_cons_zero, List.set_cons_succ]
    refine take_h (i := 2) (v := ?_) rfl rfl (by kernel_rfl) (by kernel_rfl) (by kernel_rfl) (fun _ _ _ h => h) (Or.inl ⟨by rfl, fun W hSw => ?_⟩) (by assumption) ?_
    rotate_left
    · (clear hSw; go_simp; try with_reducible rfl)
    simp only [Act.put, List.setIfInBounds_toArray, List.set_cons_zero, List.set_cons_succ]
    refine take_h (i := 3) (v := ?_) rfl rfl (by kernel_rfl) (by kernel_rfl) (by kernel_rfl) (fun _ _ _ h => h) (Or.inl ⟨by rfl, fun W hSw => ?_⟩) (by assumption) ?_
    rotate_left
    · (clear hSw; go_simp; try with_reducible rfl)
    simp only [Act.put, List.setIfInBounds_toArray, List.set_cons_zero, List.set_cons_succ]
    refine take_h (i := 4) (v := ?_) rfl rfl (by kernel_rfl) (by kernel_rfl) (by kernel_rfl) (fun _ _ _ h => h) (Or.inl ⟨by rfl, fun W hSw => ?_⟩) (by assumption) ?_
    rotate_left
    · (clear hSw; go_simp; try with_reducible rfl)
    simp only [Act.put, List.setIfInBounds_toArray, List.set_cons_zero, List.set_cons_succ]
    refine take_h (i := 5) (v := ?_) rfl rfl (by kernel_rfl) (by kernel_rfl) (by kernel_rfl) (fun _ _ _ h => h) (Or.inl ⟨by rfl, fun W hSw => ?_⟩) (by assumption) ?_
    rotate_left
    · (obtain ⟨hs0, _⟩ := hSw; go_simp; try with_reducible rfl)
    simp only [Act.put, List.setIfInBounds_toArray, List.set_cons_zero, List.set_cons_succ]
    refine take_h (i := 6) (v := ?_) rfl rfl (by kernel_rfl) (by kernel_rfl) (by kernel_rfl) (fun _ _ _ h => h) (Or.inl ⟨by rfl, fun W hSw => ?_⟩) (by assumption) ?_
    rotate_left
    · (clear hSw; go_simp; try with_reducible rfl)
    simp only [Act.put, List.setIfInBounds_toArray, List.set_cons_zero, List.set_cons_succ]
    refine take_h (i := 7) (v := ?_) rfl rfl (by kernel_rfl) (by kernel_rfl) (by kernel_rfl) (fun _ _ _ h => h) (Or.inl ⟨by rfl, fun W hSw => ?_⟩) (by assumption) ?_
    rotate_left
    · (clear hSw; go_simp; try with_reducible rfl)
    simp only [Act.put, List.setIfInBounds_toArray, List.set_cons_zero, List.set_cons_succ]
    refine take_h (i := 8) (v := ?_) rfl rfl (by kernel_rfl) (by kernel_rfl) (by kernel_rfl) (fun _ _ _ h => h) (Or.inl ⟨by rfl, fun W hSw => ?_⟩) (by assumption) ?_
    rotate_left
    · (clear hSw; go_simp; try with_reducible rfl)
    simp only [Act.put, List.setIfInBounds_toArray, List.set_cons_zero, List.set_cons_succ]
    refine take_h (i := 9) (v := ?_) rfl rfl (by kernel_rfl) (by kernel_rfl) (by kernel_rfl) (fun _ _ _ h => h) (Or.inl ⟨by rfl, fun W hSw => ?_⟩) (by assumption) ?_
    rotate_left
    · (clear hSw; go_simp; try with_reducible rfl)
    simp only [Act.put, List.setIfInBounds_toArray, List.set_cons_zero, List.set_cons_succ]
    refine take_h (i := 10) (v := ?_) rfl rfl (by kernel_rfl) (by kernel_rfl) (by kernel_rfl) (fun _ _ _ h => h) (Or.inl ⟨by rfl, fun W hSw => ?_⟩) (by assumption) ?_
    rotate_left
    · (clear hSw; go_simp; try with_reducible rfl)
    simp only [Act.put, List.setIfInBounds_toArray, List.set_cons_zero, List.set_cons_succ]
    refine take_h (i := 11) (v := ?_) rfl rfl (by kernel_rfl) (by kernel_rfl) (by kernel_rfl) (fun _ _ _ h => h) (Or.inl ⟨by rfl, fun W hSw => ?_⟩) (by assumption) ?_
    rotate_left
    · (clear hSw; go_simp; try with_reducible rfl)
    simp only [Act.put, List.setIfInBounds_toArray, List.set_cons_zero, List.set_cons_succ]
    refine take_h (i := 12) (v := ?_) rfl rfl (by kernel_rfl) (by kernel_rfl) (by kernel_rfl) (fun _ _ _ h => h) (Or.inl ⟨by rfl, fun W hSw => ?_⟩) (by assumption) ?_
    rotate_left
    · (clear hSw; go_simp; try with_reducible rfl)
    simp only [Act.put, List.setIfInBounds_toArray, List.set_cons_zero, List.set_cons_succ]
    refine take_h (i := 13) (v := ?_) rfl rfl (by kernel_rfl) (by kernel_rfl) (by kernel_rfl) (fun _ _ _ h => h) (Or.inl ⟨by rfl, fun W hSw => ?_⟩) (by assumption) ?_
    rotate_left
    · (clear hSw; go_simp; try with_reducible rfl)
    simp only [Act.put, List.setIfInBounds_toArray, List.set_cons_zero, List.set_cons_succ]
    refine take_h (i := 14) (v := ?_) rfl rfl (by kernel_rfl) (by kernel_rfl) (by kernel_rfl) (fun _ _ _ h => h) (Or.inl ⟨by rfl, fun W hSw => ?_⟩) (by assumption) ?_
    rotate_left
    · (clear hSw; go_simp; try with_reducible rfl)
    simp only [Act.put, List.setIfInBounds_toArray, List.set_cons_zero, List.set_cons_succ]
    have hgN := Lib.hid (show w.heap.size ≠ g ∧ w.heap.size + 1 ≠ g ∧ w.heap.size ≤ g by omega)
    refine step_h (i := 15) rfl rfl (by kernel_rfl) (fun K hK => ?_)
    go_simp
    have k8 := k7.out.far (B' := g) hgN.out.1 (y + 2) (.int .u8 hi)
    have kz8 := kz7.out.far (B' := g) hgN.out.2.1 (y + 2) (.int .u8 hi)
    have ro8 := ro7.out.set_ (j := y + 2) hbs.out.1.1 hbs.out.1.2
    have rd8 := rd7.out.kept (B := g) (Keep.set w7 (y + 2) (.int .u8 hi)) (fun _ => hne.out)
    have hb8 := hb7.out.setCell (p := ⟨g, y + 2, none⟩) hgN.out.2.2 (.int .u8 hi)
    obtain ⟨g2, e, _, _, hgf⟩ := ro8.form hnp
    have hfB' := hgf (y + 3)
    obtain ⟨b', o', e', _, hc8⟩ := ro8.rb.mem hnp
    have hcB' := hc8 (y + 3) hi3
    obtain ⟨rfl, rfl⟩ : g = b' ∧ 0 = o' := by simpa using e'
    rw [Nat.zero_add] at hcB'
    obtain rfl : g = g2 := by simpa using e
    obtain ⟨w8, hw8⟩ : ∃ w8, w7.setCell ⟨g, y + 2, none⟩ (.int .u8 hi) = w8 := ⟨_, rfl⟩
    rw [hw8] at k8 kz8 ro8 rd8 hb8 hfB' hcB' ⊢
    have hS8 : w8.cell? ⟨w.heap.size, 8, none⟩ = some (.slice (some ⟨g, 0, none⟩) no c3) ∧ True := ⟨k8.cell 8 _ rfl, trivial⟩
    replace k8 := Lib.hid k8
    replace kz8 := Lib.hid kz8
    replace ro8 := Lib.hid ro8
    replace rd8 := Lib.hid rd8
    replace hb8 := Lib.hid hb8
    clear hgf hc8 e e' hw8 hcA hfA hcB hfB hHeld
    refine hK.out _ _ hS8 (fun hHeld => ?_)
    clear hK K
    try simp only [Act.put, List.setIfInBounds_toArray, List.set_cons_zero, List.set_cons_succ]
    refine take_h (i := 16) (v := ?_) rfl rfl (by kernel_rfl) (by kernel_rfl) (by kernel_rfl) (fun _ _ _ h => h) (Or.inl ⟨by rfl, fun W hSw => ?_⟩) (by assumption) ?_
    rotate_left
    · (clear hSw; go_simp; try with_reducible rfl)
    simp only [Act.put, List.setIfInBounds_toArray, List.set_cons_zero, List.set_cons_succ]
    refine step_h (i := 17) rfl rfl (by kernel_rfl) (fun K hK => ?_)
    go_simp
    have k9 := k8.out.far (B' := g) hgN.out.1 (y + 3) (.int .u8 lo)
    have kz9 := kz8.out.far (B' := g) hgN.out.2.1 (y + 3) (.int .u8 lo)
    have ro9 := ro8.out.set_ (j := y + 3) hbs.out.2.1 hbs.out.2.2
    have rd9 := rd8.out.kept (B := g) (Keep.set w8 (y + 3) (.int .u8 lo)) (fun _ => hne.out)
    have hb9 := hb8.out.setCell (p := ⟨g, y + 3, none⟩) hgN.out.2.2 (.int .u8 lo)
    obtain ⟨w9, hw9⟩ : ∃ w9, w8.setCell ⟨g, y + 3, none⟩ (.int .u8 lo) = w9 := ⟨_, rfl⟩
    rw [hw9] at k9 kz9 ro9 rd9 hb9 ⊢
    have hS9 : w9.cell? ⟨w.heap.size, 8, none⟩ = some (.slice (some ⟨g, 0, none⟩) no c3) ∧ True := ⟨k9.cell 8 _ rfl, trivial⟩
    replace k9 := Lib.hid k9
    replace kz9 := Lib.hid kz9
    replace ro9 := Lib.hid ro9.rb
    replace rd9 := Lib.hid rd9
    replace hb9 := Lib.hid hb9
    clear hw9 hHeld hcB' hfB'
    refine hK.out _ _ hS9 (fun hHeld => ?_)
    clear hK K
    try simp only [Act.put, List.setIfInBounds_toArray, List.set_cons_zero, List.set_cons_succ]
    refine wpAnyH_done (by kernel_rfl) ?_ _
    clear hHeld hS9 hS8
    try simp only [Act.put]
    go_wp2_with (first
      | (refine wpList_load_S rfl (.tmp 2) rfl w.heap.size rfl (cellsT m (some ⟨g, 0, none⟩) no c3 A4 n c4) k9.out rfl ?_)
      | (refine wpList_store_T rfl (.tmp 4) (.tmp 60) rfl (w.heap.size + 1) (cellsT m (some ⟨g, 0, none⟩) no c3 A4 n c4) rfl rfl _ kz9.out rfl rfl (one_T _ _ _ _ _ _ _) ?_)
      | fail)
    refine bodyPost_ret (results_c Try.results33 rfl (run_load_blk (Blk.mk (setRow_heap _ _ _ _ _ _ kz9.out.at_)) rfl)) rfl ?_
    exact SegOut.row (z := zeroP) (q := { m with opts := (m.opts.set (y + 2) hi).set (y + 3) lo }) hs.out kz9.out ro9.out rd9.out hb9.out (by omega)
  have hs := Lib.hid (hse (by simpa using hhl))
  have hfb : bound < 0 ∨ 65535 < bound ∨ fitsB bound 2 = true := by
    by_cases h1 : bound < 0
    · exact .inl h1
    · by_cases h2 : 65535 < bound
      · exact .inr (.inl h2)
      · exact .inr (.inr (fitsB_yes ⟨by omega, by omega, show bound < 65536 by omega⟩))
  rw [hh] at hhl
  clear hse hv hx hk hh
  cases hf : (bits .and .i64 m.f 2 == 0)
  · cases k
    · clear hhl hfb
      go_wp2_with (first
        | (go_at_call 78; refine (hM.out _ ro5.out.rb).mono ?_; rintro e w6 ⟨rfl, hB6⟩; have k6' := k5.out.to hB6; have e5 := k6'.cell 5 _ rfl; have k6 := Lib.hid k6'; have kz6 := Lib.hid (kz5.out.to hB6); have ro6 := Lib.hid (ro5.out.below hB6); have rd6 := Lib.hid (rd5.out.below hB6); have hb6 := Lib.hid (hb5.out.trans (hB6.mono hb5.out.size)); clear k6'; replace hB6 := 0)
        | (refine wpList_load_S rfl (.tmp 2) rfl w.heap.size rfl (cellsT m A3 no c3 A4 n c4) k6.out rfl ?_)
        | (refine wpList_load_S rfl (.tmp 2) rfl w.heap.size rfl (cellsT m A3 no c3 A4 n c4) k5.out rfl ?_)
        | (refine wpList_store_T rfl (.tmp 4) (.tmp 43) rfl (w.heap.size + 1) (cellsT m A3 no c3 A4 n c4) rfl rfl _ kz6.out rfl rfl (one_T _ _ _ _ _ _ _) ?_)
        | fail)
      refine bodyPost_ret (results_c Try.results33 rfl (run_load_blk (Blk.mk (setRow_heap _ _ _ _ _ _ kz6.out.at_)) rfl)) rfl ?_
      exact SegOut.row (z := zeroP) hs.out kz6.out ro6.out.rb rd6.out.rb hb6.out (by omega)
    · by_cases d1 : v ≤ bound
      · have d1' : decide (v ≤ bound) = true := decide_eq_true d1
        clear hhl hfb
        go_wp2_with (first
          | (go_at_call 78; refine (hM.out _ ro5.out.rb).mono ?_; rintro e w6 ⟨rfl, hB6⟩; have k6' := k5.out.to hB6; have e5 := k6'.cell 5 _ rfl; have k6 := Lib.hid k6'; have kz6 := Lib.hid (kz5.out.to hB6); have ro6 := Lib.hid (ro5.out.below hB6); have rd6 := Lib.hid (rd5.out.below hB6); have hb6 := Lib.hid (hb5.out.trans (hB6.mono hb5.out.size)); clear k6'; replace hB6 := 0)
          | (refine wpList_load_S rfl (.tmp 2) rfl w.heap.size rfl (cellsT m A3 no c3 A4 n c4) k6.out rfl ?_)
          | (refine wpList_load_S rfl (.tmp 2) rfl w.heap.size rfl (cellsT m A3 no c3 A4 n c4) k5.out rfl ?_)
          | (refine wpList_store_T rfl (.tmp 4) (.tmp 43) rfl (w.heap.size + 1) (cellsT m A3 no c3 A4 n c4) rfl rfl _ kz6.out rfl rfl (one_T _ _ _ _ _ _ _) ?_)
          | fail)
        refine bodyPost_ret (results_c Try.results33 rfl (run_load_blk (Blk.mk (setRow_heap _ _ _ _ _ _ kz6.out.at_)) rfl)) rfl ?_
        exact SegOut.row (z := zeroP) hs.out kz6.out ro6.out.rb rd6.out.rb hb6.out (by omega)
      · have d1' : decide (v ≤ bound) = false := decide_eq_false d1
        by_cases d2 : bound < 0
        · have d2' : decide (bound < 0) = true := decide_eq_true d2
          clear hhl hfb
          go_wp2_with (first
            | (go_at_call 78; refine (hM.out _ ro5.out.rb).mono ?_; rintro e w6 ⟨rfl, hB6⟩; have k6' := k5.out.to hB6; have e5 := k6'.cell 5 _ rfl; have k6 := Lib.hid k6'; have kz6 := Lib.hid (kz5.out.to hB6); have ro6 := Lib.hid (ro5.out.below hB6); have rd6 := Lib.hid (rd5.out.below hB6); have hb6 := Lib.hid (hb5.out.trans (hB6.mono hb5.out.size)); clear k6'; replace hB6 := 0)
            | (refine wpList_load_S rfl (.tmp 2) rfl w.heap.size rfl (cellsT m A3 no c3 A4 n c4) k6.out rfl ?_)
            | (refine wpList_load_S rfl (.tmp 2) rfl w.heap.size rfl (cellsT m A3 no c3 A4 n c4) k5.out rfl ?_)
            | (refine wpList_store_T rfl (.tmp 4) (.tmp 43) rfl (w.heap.size + 1) (cellsT m A3 no c3 A4 n c4) rfl rfl _ kz6.out rfl rfl (one_T _ _ _ _ _ _ _) ?_)
            | fail)
          refine bodyPost_ret (results_c Try.results33 rfl (run_load_blk (Blk.mk (setRow_heap _ _ _ _ _ _ kz6.out.at_)) rfl)) rfl ?_
          exact SegOut.row (z := zeroP) hs.out kz6.out ro6.out.rb rd6.out.rb hb6.out (by omega)
        · have d2' : decide (bound < 0) = false := decide_eq_false d2
          by_cases d3 : 65535 < bound
          · have d3' : decide (65535 < bound) = true := decide_eq_true d3
            clear hhl hfb
            go_wp2_with (first
              | (go_at_call 78; refine (hM.out _ ro5.out.rb).mono ?_; rintro e w6 ⟨rfl, hB6⟩; have k6' := k5.out.to hB6; have e5 := k6'.cell 5 _ rfl; have k6 := Lib.hid k6'; have kz6 := Lib.hid (kz5.out.to hB6); have ro6 := Lib.hid (ro5.out.below hB6); have rd6 := Lib.hid (rd5.out.below hB6); have hb6 := Lib.hid (hb5.out.trans (hB6.mono hb5.out.size)); clear k6'; replace hB6 := 0)
              | (refine wpList_load_S rfl (.tmp 2) rfl w.heap.size rfl (cellsT m A3 no c3 A4 n c4) k6.out rfl ?_)
              | (refine wpList_load_S rfl (.tmp 2) rfl w.heap.size rfl (cellsT m A3 no c3 A4 n c4) k5.out rfl ?_)
              | (refine wpList_store_T rfl (.tmp 4) (.tmp 43) rfl (w.heap.size + 1) (cellsT m A3 no c3 A4 n c4) rfl rfl _ kz6.out rfl rfl (one_T _ _ _ _ _ _ _) ?_)
              | fail)
            refine bodyPost_ret (results_c Try.results33 rfl (run_load_blk (Blk.mk (setRow_heap _ _ _ _ _ _ kz6.out.at_)) rfl)) rfl ?_
            exact SegOut.row (z := zeroP) hs.out kz6.out ro6.out.rb rd6.out.rb hb6.out (by omega)
          · exfalso
            rcases hfb with h | h | h
            · exact d2 h
            · exact d3 h
            · rw [hf, h] at hhl
              simp at hhl
              omega
  · clear hhl hfb
    go_wp2_with (first
      | (go_at_call 78; refine (hM.out _ ro5.out.rb).mono ?_; rintro e w6 ⟨rfl, hB6⟩; have k6' := k5.out.to hB6; have e5 := k6'.cell 5 _ rfl; have k6 := Lib.hid k6'; have kz6 := Lib.hid (kz5.out.to hB6); have ro6 := Lib.hid (ro5.out.below hB6); have rd6 := Lib.hid (rd5.out.below hB6); have hb6 := Lib.hid (hb5.out.trans (hB6.mono hb5.out.size)); clear k6'; replace hB6 := 0)
      | (refine wpList_load_S rfl (.tmp 2) rfl w.heap.size rfl (cellsT m A3 no c3 A4 n c4) k6.out rfl ?_)
      | (refine wpList_load_S rfl (.tmp 2) rfl w.heap.size rfl (cellsT m A3 no c3 A4 n c4) k5.out rfl ?_)
      | (refine wpList_store_T rfl (.tmp 4) (.tmp 43) rfl (w.heap.size + 1) (cellsT m A3 no c3 A4 n c4) rfl rfl _ kz6.out rfl rfl (one_T _ _ _ _ _ _ _) ?_)
      | fail)
    refine bodyPost_ret (results_c Try.results33 rfl (run_load_blk (Blk.mk (setRow_heap _ _ _ _ _ _ kz6.out.at_)) rfl)) rfl ?_
    exact SegOut.row (z := zeroP) hs.out kz6.out ro6.out.rb rd6.out.rb hb6.out (by omega)
end Go.Proofs.Ytipigcpenmcaoaa
