/- Packets of IPv4: v4.Same of two that are the same. -/
import Derived.Test.YtipigcpenmcaoaaAwake12
import Derived.Test.YtipigcpenmcaoaaAppend
import Derived.Deep.DeepCutAuto
import Derived.Deep.RegionWith
set_option linter.unusedVariables false
namespace Go.Proofs.Ytipigcpenmcaoaa
open Go Go.RowKit
attribute [local go_sem] Oper.semAt_some

theorem en_V4Fields (args : Array Value) (w : World) : (callFunc 69 args).run Try.prog w = .ok (.enter 69 args) w := enters Try.func69 (by kernel_rfl) (by kernel_rfl) args w
theorem en_V4EqF (args : Array Value) (w : World) : (callFunc 68 args).run Try.prog w = .ok (.enter 68 args) w := enters Try.func68 (by kernel_rfl) (by kernel_rfl) args w
theorem en_V4BEq (args : Array Value) (w : World) : (callFunc 17 args).run Try.prog w = .ok (.enter 17 args) w := enters Try.func17 (by kernel_rfl) (by kernel_rfl) args w
theorem one_cells4 (p : V4P) (Ao : Option Addr) (no co : Nat) (A : Option Addr) (n c : Nat) : (cells4 p Ao no co A n c).all (·.oneCell') = true := by simp [cells4, Value.oneCell']
set_option maxRecDepth 100000 in
set_option maxHeartbeats 2000000 in
theorem Same4_same (p : V4P) (Ao : Option Addr) (no co : Nat) (A : Option Addr) (n c : Nat) (Ao' : Option Addr) (co' : Nat) (A' : Option Addr) (c' : Nat) (w : World) (ho : RB w Ao no co p.opts) (hd : RB w A n c p.data) (ho' : RB w Ao' no co' p.opts) (hd' : RB w A' n c' p.data) (hno : no ≤ 100000) (hn : n ≤ 100000) :
    Calls Try.prog 25 #[.agg (cells4 p Ao no co A n c), .agg (cells4 p Ao' no co' A' n c')] w fun e w' => e = .returned (.bool true) ∧ Below w.heap.size w w' := by
  obtain ⟨w0, hw0⟩ : ∃ w0, (w.alloc (.cells (cells4 p Ao no co A n c) 24)).alloc (.cells (cells4 p Ao' no co' A' n c') 24) = w0 := ⟨_, rfl⟩
  have hsz : w0.heap.size = w.heap.size + 2 := by rw [← hw0]; simp
  have k1 : Blk w0 w.heap.size (cells4 p Ao no co A n c) 24 := by rw [← hw0]; exact (Blk.new w _ _).alloc _
  have k2 : Blk w0 (w.heap.size + 1) (cells4 p Ao' no co' A' n c') 24 := by
    rw [← hw0]
    have := Blk.new (w.alloc (.cells (cells4 p Ao no co A n c) 24)) (cells4 p Ao' no co' A' n c') 24
    rwa [World.size_alloc] at this
  have hb0 : Below w.heap.size w w0 := by rw [← hw0]; exact ((Below.refl _ w).alloc (Nat.le_refl _) _).alloc (by simp) _
  have hV := Lib.hid (fun Ao no co A n c => show (Try.prog.info? 24).map (·.size) = some (cells4 p Ao no co A n c).size from info_v4)
  go_enter Try.func25, Try.ntmps25
  go_upto_region 1 with (fail)
  go_cut [5, 6] (fun u v wx => ∃ B5 B6, u = .pointer (some ⟨B5, 0, none⟩) ∧ v = .pointer (some ⟨B6, 0, none⟩) ∧ B5 ≠ B6 ∧ w0.heap.size ≤ B5 ∧ w0.heap.size ≤ B6 ∧ Blk wx B5 (cells4 p Ao no co A n c) 24 ∧ Blk wx B6 (cells4 p Ao' no co' A' n c') 24 ∧ Below w0.heap.size w0 wx)
  case first =>
    have hr1 := Lib.hid (fun W (hW : Below w0.heap.size w0 W) => k1.to hW)
    have hr2 := Lib.hid (fun W (hW : Below w0.heap.size w0 W) => k2.to hW)
    refine wp_region_lst (JV w0 w0.heap.size 24 11 [⟨2, 4, 5, cells4 p Ao no co A n c⟩, ⟨3, 5, 6, cells4 p Ao' no co' A' n c'⟩]) (StayT 24) (by kernel_rfl) (by kernel_rfl) (by kernel_rfl) (StayT.refl _)
      ⟨(Below.refl _ _).drew, Nat.le_refl _, ?_, ?_⟩ ?_
    · intro v hv
      simp only [List.mem_cons, List.not_mem_nil, or_false] at hv
      rcases hv with rfl | rfl <;> exact ⟨fun _ => ⟨rfl, rfl⟩, fun h => by cases h⟩
    · intro v hv v' hv' _ h
      simp only [List.mem_cons, List.not_mem_nil, or_false] at hv
      rcases hv with rfl | rfl <;> cases h
    have hm : ∀ x ∈ [(⟨2, 4, 5, cells4 p Ao no co A n c⟩ : Vr), ⟨3, 5, 6, cells4 p Ao' no co' A' n c'⟩], x = ⟨2, 4, 5, cells4 p Ao no co A n c⟩ ∨ x = ⟨3, 5, 6, cells4 p Ao' no co' A' n c'⟩ := fun x hx => by simpa using hx
    refine vr_row (by rfl) (by rfl) (by rfl) (by rfl) (by rfl) (fun x hx => by rcases hm x hx with rfl | rfl <;> simp) 24 (.tmp 2) rfl w.heap.size rfl _ (cells4 p Ao no co A n c) _ hr1.out Try.underlying24 rfl (hV.out _ _ _ _ _ _) ?_
    simp only [putV, List.setIfInBounds_toArray, List.set_cons_zero, List.set_cons_succ]
    refine vr_row (by rfl) (by rfl) (by rfl) (by rfl) (by rfl) (fun x hx => by rcases hm x hx with rfl | rfl <;> simp) 24 (.tmp 3) rfl (w.heap.size + 1) rfl _ (cells4 p Ao' no co' A' n c') _ hr2.out Try.underlying24 rfl (hV.out _ _ _ _ _ _) ?_
    simp only [putV, List.setIfInBounds_toArray, List.set_cons_zero, List.set_cons_succ]
    refine vr_alloc ⟨2, 4, 5, cells4 p Ao no co A n c⟩ (by simp) (by rfl) rfl (by rfl) zero4c rfl (show (5 : Nat) < 69 from by decide) rfl (fun x hx => by rcases hm x hx with rfl | rfl <;> simp) (fun a W => by unfold execOp; simp [go_sem]) ?_
    refine vr_alloc ⟨3, 5, 6, cells4 p Ao' no co' A' n c'⟩ (by simp) (by rfl) rfl (by rfl) zero4c rfl (show (6 : Nat) < 69 from by decide) rfl (fun x hx => by rcases hm x hx with rfl | rfl <;> simp) (fun a W => by unfold execOp; simp [go_sem]) ?_
    refine vr_store ⟨2, 4, 5, cells4 p Ao no co A n c⟩ (by simp) (e := 8) (by rfl) (by rfl) rfl rfl (fun x hx => by rcases hm x hx with rfl | rfl <;> simp) (Nat.le_refl _) rfl (by rfl) (by rfl) rfl rfl (one_cells4 _ _ _ _ _ _ _) info_v4 ?_
    refine vr_store ⟨3, 5, 6, cells4 p Ao' no co' A' n c'⟩ (by simp) (e := 9) (by rfl) (by rfl) rfl rfl (fun x hx => by rcases hm x hx with rfl | rfl <;> simp) (Nat.le_refl _) rfl (by rfl) (by rfl) rfl rfl (one_cells4 _ _ _ _ _ _ _) info_v4 ?_
    refine lstL_nil fun L a W7 hL hS hsz7 hds hR => ?_
    obtain ⟨hB7, _, hvs, hdist⟩ := hS
    obtain ⟨g5, c5, e5, l5, b5, _, q5⟩ := (hvs ⟨2, 4, 5, cells4 p Ao no co A n c⟩ (by simp)).2 (hL 2 (by decide))
    obtain rfl := q5 (hL 4 (by decide))
    obtain ⟨g6, c6, e6, l6, b6, _, q6⟩ := (hvs ⟨3, 5, 6, cells4 p Ao' no co' A' n c'⟩ (by simp)).2 (hL 3 (by decide))
    obtain rfl := q6 (hL 5 (by decide))
    have hne := hdist ⟨2, 4, 5, cells4 p Ao no co A n c⟩ (by simp) ⟨3, 5, 6, cells4 p Ao' no co' A' n c'⟩ (by simp) (by simp) (hL 2 (by decide)) (hL 3 (by decide))
    dsimp only at e5 e6 b5 b6 hne
    rw [e5, e6] at hne
    have hT := tmps_eql (T := a.tmps) [5, 6] (by rw [hsz7]; rfl) (by rw [hsz7]; rfl) hR
    rw [List.foldl_cons, List.foldl_cons, List.foldl_nil, e5, e6] at hT
    simp only [List.setIfInBounds_toArray, List.set_cons_zero, List.set_cons_succ] at hT
    clear hR hsz7 hL hdist hvs
    obtain ⟨T, D⟩ := a
    have hD' : D = [] := hds
    subst hD'
    dsimp only at hT
    subst hT
    clear hds
    go_wp2
    go_meet
    case rel => exact ⟨g5, g6, rfl, rfl, fun e => hne (by rw [e]), l5, l6, b5, b6, hB7⟩
  case rest =>
    obtain ⟨B5, B6, rfl, rfl, hne, l5, l6, b5, b6, hB⟩ := hcut
    have hne' : B6 ≠ B5 := fun e => hne e.symm
    have x9 : wc.cell? ⟨B5, 9, none⟩ = some (.slice Ao no co) := b5.cell 9 _ rfl
    have x10 : wc.cell? ⟨B5, 10, none⟩ = some (.slice A n c) := b5.cell 10 _ rfl
    have y9 : wc.cell? ⟨B6, 9, none⟩ = some (.slice Ao' no co') := b6.cell 9 _ rfl
    have y10 : wc.cell? ⟨B6, 10, none⟩ = some (.slice A' n c') := b6.cell 10 _ rfl
    have f9 := b5.frz 9
    have f10 := b5.frz 10
    have g9 := b6.frz 9
    have g10 := b6.frz 10
    have k5 := (((b5.set 9 (.slice none 0 0)).set 10 (.slice none 0 0)).far hne 9 (.slice none 0 0)).far hne 10 (.slice none 0 0)
    have k6 := (((b6.far hne' 9 (.slice none 0 0)).far hne' 10 (.slice none 0 0)).set 9 (.slice none 0 0)).set 10 (.slice none 0 0)
    have hBx := (((hB.setCell (p := ⟨B5, 9, none⟩) l5 (.slice none 0 0)).setCell (p := ⟨B5, 10, none⟩) l5 (.slice none 0 0)).setCell (p := ⟨B6, 9, none⟩) l6 (.slice none 0 0)).setCell (p := ⟨B6, 10, none⟩) l6 (.slice none 0 0)
    obtain ⟨Wx, hWx⟩ : ∃ Wx, (((wc.setCell ⟨B5, 9, none⟩ (.slice none 0 0)).setCell ⟨B5, 10, none⟩ (.slice none 0 0)).setCell ⟨B6, 9, none⟩ (.slice none 0 0)).setCell ⟨B6, 10, none⟩ (.slice none 0 0) = Wx := ⟨_, rfl⟩
    rw [hWx] at k5 k6 hBx
    replace k5 : Blk Wx B5 (cells4 p none 0 0 none 0 0) 24 := k5
    replace k6 : Blk Wx B6 (cells4 p none 0 0 none 0 0) 24 := k6
    replace k5 := Lib.hid k5
    replace k6 := Lib.hid k6
    replace hBx := Lib.hid hBx
    replace k1 := Lib.hid k1
    replace k2 := Lib.hid k2
    replace b5 := 0
    replace b6 := 0
    replace hB := 0
    replace hw0 := Lib.hid hw0
    replace hsz := Lib.hid hsz
    go_upto_region 3 with (fail)
    replace hWx := Lib.hid hWx
    clear x9 x10 y9 y10 f9 f10 g9 g10
    have hK := Lib.hid (show ∀ W W', (fun W => Below Wx.heap.size Wx W) W → Below W.heap.size W W' → (fun W => Below Wx.heap.size Wx W) W' from fun W W' h1 h2 => h1.trans (h2.mono h1.size))
    have hA5 := Lib.hid (fun W (hW : Below Wx.heap.size Wx W) => (k5.out.to hW).at_)
    have hA6 := Lib.hid (fun W (hW : Below Wx.heap.size Wx W) => (k6.out.to hW).at_)
    have hC1 := Lib.hid (show ∀ W, (fun W => Below Wx.heap.size Wx W) W → (W.cell? ⟨B5, 2, none⟩ = some (.int .i64 p.off) ∧ W.cell? ⟨B6, 2, none⟩ = some (.int .i64 p.off) ∧ W.cell? ⟨B5, 1, none⟩ = some (.int .i64 p.id) ∧ W.cell? ⟨B6, 1, none⟩ = some (.int .i64 p.id)) from fun W hW => ⟨(k5.out.to hW).cell 2 _ rfl, (k6.out.to hW).cell 2 _ rfl, (k5.out.to hW).cell 1 _ rfl, (k6.out.to hW).cell 1 _ rfl⟩)
    have hV0 := Lib.hid (hV.out none 0 0 none 0 0)
    refine wp_region_loose (fun W => Below Wx.heap.size Wx W) (by kernel_rfl) (by kernel_rfl) (by kernel_rfl) (Below.refl _ _).drew ?_
    repeat (first
      | (refine looseL_skip (by rfl) (by rfl) rfl ?_; simp only [putV, List.setIfInBounds_toArray, List.set_cons_zero, List.set_cons_succ])
      | (refine looseL_row (by rfl) (by rfl) (by rfl) rfl 24 (.tmp 5) rfl B5 rfl _ (cells4 p none 0 0 none 0 0) _ _ (fun W hS => hA5.out W hS) Try.underlying24 rfl hV0.out ?_; simp only [putV, List.setIfInBounds_toArray, List.set_cons_zero, List.set_cons_succ])
      | (refine looseL_row (by rfl) (by rfl) (by rfl) rfl 24 (.tmp 6) rfl B6 rfl _ (cells4 p none 0 0 none 0 0) _ _ (fun W hS => hA6.out W hS) Try.underlying24 rfl hV0.out ?_; simp only [putV, List.setIfInBounds_toArray, List.set_cons_zero, List.set_cons_succ])
      | (refine looseL_call1E (d := 15) (LitP 10 (flds4 p 0 0) 93) (by rfl) (by rfl) 69 (.tmp 14) _ rfl en_V4Fields rfl (LitP.stable _ _ _) ?_ ?_; (intro vx W hS hx; cases hx; exact (Fields4_any p none 0 0 none 0 0 W (by decide) (by decide)).mono fun e W' ⟨g, he, hk, hb⟩ => ⟨⟨_, he, g, rfl, hk⟩, hK.out W W' hS hb, hb⟩))
      | (refine looseL_call1E (d := 17) (LitP 10 (flds4 p 0 0) 93) (by rfl) (by rfl) 69 (.tmp 16) _ rfl en_V4Fields rfl (LitP.stable _ _ _) ?_ ?_; (intro vx W hS hx; cases hx; exact (Fields4_any p none 0 0 none 0 0 W (by decide) (by decide)).mono fun e W' ⟨g, he, hk, hb⟩ => ⟨⟨_, he, g, rfl, hk⟩, hK.out W W' hS hb, hb⟩))
      | (refine looseL_call2 (v := .bool true) (by rfl) rfl 68 (.tmp 15) (.tmp 17) _ rfl en_V4EqF (by rfl) ?_ ?_; (intro vx vy W hS hx hy; obtain ⟨g, rfl, hk⟩ := hx; obtain ⟨g', rfl, hk'⟩ := hy; exact (EqualF_same g g' 10 (flds4 p 0 0) W hk hk' (by decide) (flds4_two p 0 0)).mono fun e W' ⟨he, hb⟩ => ⟨he, hK.out W W' hS hb, hb⟩); simp only [putV, List.setIfInBounds_toArray, List.set_cons_zero, List.set_cons_succ])
      | (refine looseL_val (v := ?_) (by rfl) (by rfl) (by rfl) rfl (fun W hS => ?_) ?_; rotate_left; (· (obtain ⟨g0, g1, g2, g3⟩ := hC1.out W hS; clear hS; go_simp; try with_reducible rfl)); simp only [putV, List.setIfInBounds_toArray, List.set_cons_zero, List.set_cons_succ]))
    refine looseL_nil fun a W hS hsz9 hds hR => ?_
    have hT := tmps_lse (T := a.tmps) [15, 17] hsz9 (by rw [hsz9]; rfl) (by rw [hsz9]; rfl) hR
    rw [List.foldl_cons, List.foldl_cons, List.foldl_nil] at hT
    generalize a.tmps.getD 15 undef = z15 at hT
    generalize a.tmps.getD 17 undef = z17 at hT
    simp only [List.setIfInBounds_toArray, List.set_cons_zero, List.set_cons_succ] at hT
    clear hR hsz9
    obtain ⟨T, D⟩ := a
    have hD' : D = [] := hds
    subst hD'
    dsimp only at hT
    subst hT
    clear hds
    replace hS := Lib.hid hS
    go_upto_region 4 with (fail)
    have hWW : Below w.heap.size w W := (hb0.trans (hBx.out.mono hb0.size)).trans (hS.out.mono (hb0.trans (hBx.out.mono hb0.size)).size)
    have hK2 := Lib.hid (show ∀ W1 W', (fun X => Below W.heap.size W X) W1 → Below W1.heap.size W1 W' → (fun X => Below W.heap.size W X) W' from fun W1 W' h1 h2 => h1.trans (h2.mono h1.size))
    replace hK := hK2
    have k5W := Lib.hid (k5.out.to hS.out)
    have k6W := Lib.hid (k6.out.to hS.out)
    have k1W := Lib.hid ((k1.out.to hBx.out).to hS.out)
    have k2W := Lib.hid ((k2.out.to hBx.out).to hS.out)
    replace hA5 := Lib.hid (fun X (hX : Below W.heap.size W X) => (k5W.out.to hX).at_)
    replace hA6 := Lib.hid (fun X (hX : Below W.heap.size W X) => (k6W.out.to hX).at_)
    have hR1 := Lib.hid (fun X (hX : Below W.heap.size W X) => ho.below (hWW.trans (hX.mono hWW.size)))
    have hR2 := Lib.hid (fun X (hX : Below W.heap.size W X) => ho'.below (hWW.trans (hX.mono hWW.size)))
    have hR3 := Lib.hid (fun X (hX : Below W.heap.size W X) => hd.below (hWW.trans (hX.mono hWW.size)))
    have hR4 := Lib.hid (fun X (hX : Below W.heap.size W X) => hd'.below (hWW.trans (hX.mono hWW.size)))
    replace hC1 := 0
    have hC2 := Lib.hid (show ∀ X, (fun X => Below W.heap.size W X) X → ((X.cell? ⟨B5, 7, none⟩ = some (.bool p.df) ∧ X.cell? ⟨B6, 7, none⟩ = some (.bool p.df)) ∧ (X.cell? ⟨B5, 8, none⟩ = some (.bool p.mf) ∧ X.cell? ⟨B6, 8, none⟩ = some (.bool p.mf)) ∧ (X.cell? ⟨w.heap.size, 9, none⟩ = some (.slice Ao no co) ∧ X.cell? ⟨w.heap.size + 1, 9, none⟩ = some (.slice Ao' no co')) ∧ (X.cell? ⟨w.heap.size, 10, none⟩ = some (.slice A n c) ∧ X.cell? ⟨w.heap.size + 1, 10, none⟩ = some (.slice A' n c'))) from
      fun X hX => ⟨⟨(k5W.out.to hX).cell 7 _ rfl, (k6W.out.to hX).cell 7 _ rfl⟩, ⟨(k5W.out.to hX).cell 8 _ rfl, (k6W.out.to hX).cell 8 _ rfl⟩, ⟨(k1W.out.to hX).cell 9 _ rfl, (k2W.out.to hX).cell 9 _ rfl⟩, (k1W.out.to hX).cell 10 _ rfl, (k2W.out.to hX).cell 10 _ rfl⟩)
    have hWf := Lib.hid hWW
    clear hWW
    replace ho := 0
    replace hd := 0
    replace ho' := 0
    replace hd' := 0
    refine wp_region_tame (fun X => Below W.heap.size W X) (by kernel_rfl) (by kernel_rfl) (Below.refl _ _).drew ?_
    repeat (first
      | (refine tameL_skip rfl ?_; simp only [Act.put, List.setIfInBounds_toArray, List.set_cons_zero, List.set_cons_succ])
      | (refine tameL_row rfl 24 (.tmp 5) rfl B5 rfl _ (cells4 p none 0 0 none 0 0) _ _ (fun W hS => hA5.out W hS) Try.underlying24 rfl hV0.out ?_; simp only [Act.put, List.setIfInBounds_toArray, List.set_cons_zero, List.set_cons_succ])
      | (refine tameL_row rfl 24 (.tmp 6) rfl B6 rfl _ (cells4 p none 0 0 none 0 0) _ _ (fun W hS => hA6.out W hS) Try.underlying24 rfl hV0.out ?_; simp only [Act.put, List.setIfInBounds_toArray, List.set_cons_zero, List.set_cons_succ])
      | (refine tameL_call1 (v := .int .i64 (flagsB p)) rfl 70 (.tmp 35) _ rfl en_V4Flags rfl ?_ ?_; exact fun W hS => (Flags4_any p none 0 0 none 0 0 W).mono fun e W' ⟨he, hb⟩ => ⟨he, hK.out W W' hS hb⟩; simp only [Act.put, List.setIfInBounds_toArray, List.set_cons_zero, List.set_cons_succ])
      | (refine tameL_call1 (v := .int .i64 (flagsB p)) rfl 70 (.tmp 37) _ rfl en_V4Flags rfl ?_ ?_; exact fun W hS => (Flags4_any p none 0 0 none 0 0 W).mono fun e W' ⟨he, hb⟩ => ⟨he, hK.out W W' hS hb⟩; simp only [Act.put, List.setIfInBounds_toArray, List.set_cons_zero, List.set_cons_succ])
      | (refine tameL_call2 (v := .bool true) rfl 17 (.tmp 57) (.tmp 59) _ rfl en_V4BEq rfl rfl ?_ ?_; exact fun W hS => (toB (Equal_same _ _ _ _ _ _ _ _ (hR1.out W hS) (hR2.out W hS))).mono fun e W' ⟨he, hb⟩ => ⟨he, hK.out W W' hS hb⟩; simp only [Act.put, List.setIfInBounds_toArray, List.set_cons_zero, List.set_cons_succ])
      | (refine tameL_call2 (v := .bool true) rfl 17 (.tmp 64) (.tmp 66) _ rfl en_V4BEq rfl rfl ?_ ?_; exact fun W hS => (toB (Equal_same _ _ _ _ _ _ _ _ (hR3.out W hS) (hR4.out W hS))).mono fun e W' ⟨he, hb⟩ => ⟨he, hK.out W W' hS hb⟩; simp only [Act.put, List.setIfInBounds_toArray, List.set_cons_zero, List.set_cons_succ])
      | (refine tameL_val (v := ?_) rfl (fun X hX => ?_) ?_; rotate_left; (· (obtain ⟨⟨g0, g1⟩, ⟨g2, g3⟩, ⟨g4, g5⟩, g6, g7⟩ := hC2.out X hX; clear hX; go_simp; try with_reducible rfl)); simp only [Act.put, List.setIfInBounds_toArray, List.set_cons_zero, List.set_cons_succ]))
    refine tameL_nil fun X hX => ?_
    go_wp2
    go_ret
    exact ⟨by first | rfl | simp, hWf.out.trans (hX.mono hWf.out.size)⟩
end Go.Proofs.Ytipigcpenmcaoaa
