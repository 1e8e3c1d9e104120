/- Packets of IPv4 (the reference): walks of head and Build; a datagram's packet. -/
import Derived.Test.YtmbmmpbfmakfbaaV4J
import Derived.Test.YtmbmmpbfmakfbaaV4R
import Derived.Test.YtmbmmpbfmakfbaaRow4
import Derived.Deep.WholeRow
set_option linter.unusedVariables false
namespace Go.Proofs.Ytmbmmpbfmakfbaa
open Go Go.RowKit
attribute [local go_sem] Oper.semAt_some

theorem lit_rb (w : World) {x y : Int} (hx0 : 0 ≤ x) (hx1 : x < 256) (hy0 : 0 ≤ y) (hy1 : y < 256) : RB (w.alloc (.cells #[.int .u8 x, .int .u8 y] 5)) (some ⟨w.heap.size, 0, none⟩) 2 2 [x, y] := by
  have := RB.lit w 5 [x, y] (Byts.two hx0 hx1 hy0 hy1) (by simp)
  simpa [u8s] using this
theorem lit_ob (w : World) {x y : Int} (hx0 : 0 ≤ x) (hx1 : x < 256) (hy0 : 0 ≤ y) (hy1 : y < 256) : OB (w.alloc (.cells #[.int .u8 x, .int .u8 y] 5)) w.heap.size (some ⟨w.heap.size, 0, none⟩) 2 2 [x, y] := by
  have := OB.lit w w.heap.size (Nat.le_refl _) [x, y] (Byts.two hx0 hx1 hy0 hy1) (by simp)
  simpa [u8s] using this
set_option maxRecDepth 100000 in
set_option maxHeartbeats 4000000 in
theorem RefHead05_any (p : V4P) (size s : Int) (ao : Option Addr) (no co : Nat) (a : Option Addr) (n c : Nat) (w : World) (hr : RB w ao no co p.opts) (hck : checkV4 p no n = 0) (hsz : 0 ≤ size ∧ size < 65536) (hs : 0 ≤ s ∧ s < 65536) :
    Calls Try.prog 42 #[.agg (cells4 p ao no co a n c), .int .i64 size, .int .i64 s] w (Fresh w (20 + no) (head4 p size s)) := by
  obtain ⟨⟨ht0, ht1⟩, ⟨htl0, htl1⟩, ⟨hpr0, hpr1⟩, hid, hsr, hds, ⟨o1, o2, o3⟩, q1, q2, q3, q4⟩ := chk4_all hck
  obtain ⟨w0, hw0⟩ : ∃ w0, w.alloc (.cells (cells4 p ao no co a n c) 32) = w0 := ⟨_, rfl⟩
  have hb0 := Lib.hid (show Below w.heap.size w w0 by rw [← hw0]; exact (Below.refl _ w).alloc (Nat.le_refl _) _)
  have kB := Lib.hid (show Blk w0 w.heap.size (cells4 p ao no co a n c) 32 by rw [← hw0]; exact Blk.new w _ _)
  have hF := Lib.hid (fun W (hW : Below w0.heap.size w0 W) => show (W.cell? ⟨w.heap.size, 0, none⟩ = some (.int .i64 p.tos) ∧ W.cell? ⟨w.heap.size, 1, none⟩ = some (.int .i64 p.id) ∧ W.cell? ⟨w.heap.size, 5, none⟩ = some (.int .i64 p.src) ∧ W.cell? ⟨w.heap.size, 6, none⟩ = some (.int .i64 p.dst) ∧ W.rangeAt w.heap.size 0 (cells4 p ao no co a n c).toList) from
    ⟨(kB.out.to hW).cell 0 _ rfl, (kB.out.to hW).cell 1 _ rfl, (kB.out.to hW).cell 5 _ rfl, (kB.out.to hW).cell 6 _ rfl, fun j v hj => by rw [Nat.zero_add]; exact (kB.out.to hW).cell j v (by rw [← Array.getElem?_toList]; exact hj)⟩)
  have hi := Lib.hid (show (Try.prog.info? 32).map (·.size) = some (cells4 p ao no co a n c).toList.length from info_v4)
  have hHd := Lib.hid (fun W => RefHead4_any p ao no co a n c W (by omega))
  have hro := Lib.hid (fun W (hW : Below w0.heap.size w0 W) => hr.below (hb0.out.trans (hW.mono hb0.out.size)))
  have hfs := Lib.hid (fit2 hsz.1 hsz.2)
  have hfi := Lib.hid (fit2 hid.1 hid.2)
  have hfl := flg4_in o1 o2
  have hff := fit2 hfl.1 (show flg4 p < 65536 by omega)
  have hfz := Lib.hid (fit2 hs.1 hs.2)
  have hfsr := Lib.hid (show fitsP p.src ((4 : Nat) : Int) from ⟨by omega, hsr.1, by show _ < (256 : Int) ^ 4; omega⟩)
  have hfds := Lib.hid (show fitsP p.dst ((4 : Nat) : Int) from ⟨by omega, hds.1, by show _ < (256 : Int) ^ 4; omega⟩)
  have hsz0 := Lib.hid (show w.heap.size ≤ w0.heap.size from hb0.out.size)
  have t0 : p.off.tdiv 8 = p.off / 8 := Int.tdiv_eq_ediv_of_nonneg o1
  have hFl : flg4 p = p.off / 8 + (if p.df = true then 16384 else 0) + (if p.mf = true then 8192 else 0) := rfl
  have hq0 : 0 ≤ p.off / 8 ∧ p.off / 8 ≤ 8191 := by omega
  have h4q : ((20 : Int) + no).tdiv 4 = (20 + (no : Int)) / 4 := Int.tdiv_eq_ediv_of_nonneg (by omega)
  have h4b : 0 ≤ (20 + (no : Int)) / 4 ∧ (20 + (no : Int)) / 4 ≤ 15 := by omega
  have hby : head4 p size s = [64 + (20 + (no : Int)) / 4, p.tos] ++ digL size 2 ++ digL p.id 2 ++ digL (flg4 p) 2 ++ [p.ttl, p.pr] ++ digL s 2 ++ digL p.src 4 ++ digL p.dst 4 ++ p.opts := by unfold head4; rw [hr.len]
  generalize (20 + (no : Int)) / 4 = h4 at *
  generalize p.off / 8 = q at *
  generalize flg4 p = F at *
  have h40 : 0 ≤ 64 + h4 := by omega
  have h41 : 64 + h4 < 256 := by omega
  have htw : IntKind.u8.wrap p.tos = p.tos := by rw [IntKind.wrap_u8]; omega
  have htlw : IntKind.u8.wrap p.ttl = p.ttl := by rw [IntKind.wrap_u8]; omega
  have hprw : IntKind.u8.wrap p.pr = p.pr := by rw [IntKind.wrap_u8]; omega
  have h4w : IntKind.i64.wrap h4 = h4 := by rw [IntKind.wrap_i64]; omega
  have h4w2 : IntKind.i64.wrap (64 + h4) = 64 + h4 := by rw [IntKind.wrap_i64]; omega
  have h4w3 : IntKind.u8.wrap (64 + h4) = 64 + h4 := by rw [IntKind.wrap_u8]; omega
  have hbytes := Lib.hid hby
  replace hff := Lib.hid hff
  replace hw0 := Lib.hid hw0
  have e2 := kB.out.cell 2 (.int .i64 p.off) rfl
  clear hr hck hby hsz hs hid hsr hds o1 o2 o3 q2 q3 q4 hfl
  cases hd : p.df <;> cases hm : p.mf
  all_goals
    rw [hd, hm] at hFl
    simp only [Bool.false_eq_true, if_false, if_true, Int.add_zero] at hFl
    have wq : IntKind.i64.wrap q = q := by rw [IntKind.wrap_i64]; omega
    have wq1 : IntKind.i64.wrap (q + 16384) = q + 16384 := by rw [IntKind.wrap_i64]; omega
    have wq2 : IntKind.i64.wrap (q + 8192) = q + 8192 := by rw [IntKind.wrap_i64]; omega
    have wq3 : IntKind.i64.wrap (q + 16384 + 8192) = q + 16384 + 8192 := by rw [IntKind.wrap_i64]; omega
    have e7 := kB.out.cell 7 (.bool p.df) rfl
    have e8 := kB.out.cell 8 (.bool p.mf) rfl
    rw [hd] at e7
    rw [hm] at e8
    replace hFl := hFl.symm
    clear hd hm
    go_enter Try.func42, Try.ntmps42
    go_upto_region 1 with fail
    rw [hw0.out]
    go_upto_region 6 with fail
    clear e2 e7 e8
    try simp only [Act.put]
    refine wp_region_held_drew (S := fun W => W.cell? ⟨w.heap.size, 0, none⟩ = some (.int .i64 p.tos) ∧ W.cell? ⟨w.heap.size, 1, none⟩ = some (.int .i64 p.id) ∧ W.cell? ⟨w.heap.size, 5, none⟩ = some (.int .i64 p.src) ∧ W.cell? ⟨w.heap.size, 6, none⟩ = some (.int .i64 p.dst) ∧ W.rangeAt w.heap.size 0 (cells4 p ao no co a n c).toList) (by kernel_rfl) (hF.out _ (Below.refl w0.heap.size w0).drew) (fun hHeld => ?_)
    refine take_h (i := 0) rfl rfl (by kernel_rfl) (by kernel_rfl) (by kernel_rfl) (fun _ _ _ h => h) (yieldsIf_load_mid (by rfl) 32 (.tmp 3) rfl _ _ rfl (cells4 p ao no co a n c).toList _ (fun W hW => hW.2.2.2.2) Try.underlying32 rfl hi.out) (by assumption) ?_
    simp only [Act.put, List.setIfInBounds_toArray, List.set_cons_zero, List.set_cons_succ]
    refine take_h (i := 5) (v := ?_) rfl rfl (by kernel_rfl) (by kernel_rfl) (by kernel_rfl) (fun _ _ _ h => h) (Or.inl ⟨by rfl, fun W hSw => ?_⟩) (by assumption) ?_
    rotate_left
    · (clear hSw; go_simp; try with_reducible rfl)
    simp only [Act.put, List.setIfInBounds_toArray, List.set_cons_zero, List.set_cons_succ]
    refine take_h (i := 6) (v := ?_) rfl rfl (by kernel_rfl) (by kernel_rfl) (by kernel_rfl) (fun _ _ _ h => h) (Or.inl ⟨by rfl, fun W hSw => ?_⟩) (by assumption) ?_
    rotate_left
    · (obtain ⟨hs0, hs1, hs5, hs6, hs7⟩ := hSw; clear hs7; go_simp; try with_reducible rfl)
    simp only [Act.put, List.setIfInBounds_toArray, List.set_cons_zero, List.set_cons_succ]
    refine take_h (i := 7) (v := ?_) rfl rfl (by kernel_rfl) (by kernel_rfl) (by kernel_rfl) (fun _ _ _ h => h) (Or.inl ⟨by rfl, fun W hSw => ?_⟩) (by assumption) ?_
    rotate_left
    · (clear hSw; go_simp; try with_reducible rfl)
    simp only [Act.put, List.setIfInBounds_toArray, List.set_cons_zero, List.set_cons_succ]
    refine step_h (i := 1) rfl rfl (by kernel_rfl) (fun K hK => ?_)
    go_simp
    refine Calls.mono (hHd.out _) ?_
    rintro e w1 ⟨rfl, hB1⟩
    have hx1 := Lib.hid ((Below.refl w0.heap.size w0).drew.trans (hB1.mono (Below.refl w0.heap.size w0).drew.size))
    have hS1 := hF.out _ hx1.out
    clear hHeld hB1
    go_wp2_with fail
    refine hK.out _ _ hS1 (fun hHeld => ?_)
    clear hK K
    try simp only [Act.put, List.setIfInBounds_toArray, List.set_cons_zero, List.set_cons_succ]
    refine take_h (i := 2) (v := ?_) rfl rfl (by kernel_rfl) (by kernel_rfl) (by kernel_rfl) (fun _ _ _ h => h) (Or.inl ⟨by rfl, fun W hSw => ?_⟩) (by assumption) ?_
    rotate_left
    · (clear hSw; go_simp; try with_reducible rfl)
    simp only [Act.put, List.setIfInBounds_toArray, List.set_cons_zero, List.set_cons_succ]
    refine take_h (i := 3) (v := ?_) rfl rfl (by kernel_rfl) (by kernel_rfl) (by kernel_rfl) (fun _ _ _ h => h) (Or.inl ⟨by rfl, fun W hSw => ?_⟩) (by assumption) ?_
    rotate_left
    · (clear hSw; go_simp; try with_reducible rfl)
    simp only [Act.put, List.setIfInBounds_toArray, List.set_cons_zero, List.set_cons_succ]
    refine take_h (i := 4) (v := ?_) rfl rfl (by kernel_rfl) (by kernel_rfl) (by kernel_rfl) (fun _ _ _ h => h) (Or.inl ⟨by rfl, fun W hSw => ?_⟩) (by assumption) ?_
    rotate_left
    · (clear hSw; go_simp; try with_reducible rfl)
    simp only [Act.put, List.setIfInBounds_toArray, List.set_cons_zero, List.set_cons_succ]
    have hx2 := Lib.hid (hx1.out.alloc hx1.out.size (.cells #[.int .u8 (64 + h4), .int .u8 p.tos] 5))
    have hS2 := hF.out _ hx2.out
    have ol2 := Lib.hid (lit_ob w1 h40 h41 ht0 ht1)
    clear hHeld
    refine step_h (i := 8) rfl rfl (by kernel_rfl) (fun K hK => ?_)
    go_simp
    refine hK.out _ _ hS2 (fun hHeld => ?_)
    clear hK K
    try simp only [Act.put, List.setIfInBounds_toArray, List.set_cons_zero, List.set_cons_succ]
    refine take_h (i := 9) (v := ?_) rfl rfl (by kernel_rfl) (by kernel_rfl) (by kernel_rfl) (fun _ _ _ h => h) (Or.inl ⟨by rfl, fun W hSw => ?_⟩) (by assumption) ?_
    rotate_left
    · (clear hSw; go_simp; try with_reducible rfl)
    simp only [Act.put, List.setIfInBounds_toArray, List.set_cons_zero, List.set_cons_succ]
    refine wpAnyH_done (by kernel_rfl) ?_ _
    obtain ⟨w2, hw2⟩ : ∃ w2, w1.alloc (.cells #[.int .u8 (64 + h4), .int .u8 p.tos] 5) = w2 := ⟨_, rfl⟩
    rw [hw2] at hx2 ol2 ⊢
    replace hw2 := Lib.hid hw2
    clear hHeld hS1 hS2
    have hx2d := Lib.hid hx2.out.drew
    have hS2d := hF.out _ hx2d.out
    have hR2 := Lib.hid (RefPut_yes (some ⟨w1.heap.size, 0, none⟩) 2 2 [64 + h4, p.tos] size 2 w2.drew ol2.out.rb.drew (by omega) hfs.out)
    try simp only [Act.put]
    go_upto_region 7 with fail
    try simp only [Act.put]
    refine wp_region_held_drew (S := fun W => W.cell? ⟨w.heap.size, 0, none⟩ = some (.int .i64 p.tos) ∧ W.cell? ⟨w.heap.size, 1, none⟩ = some (.int .i64 p.id) ∧ W.cell? ⟨w.heap.size, 5, none⟩ = some (.int .i64 p.src) ∧ W.cell? ⟨w.heap.size, 6, none⟩ = some (.int .i64 p.dst) ∧ W.rangeAt w.heap.size 0 (cells4 p ao no co a n c).toList) (by kernel_rfl) hS2d (fun hHeld => ?_)
    refine take_h (i := 0) (v := ?_) rfl rfl (by kernel_rfl) (by kernel_rfl) (by kernel_rfl) (fun _ _ _ h => h) (Or.inl ⟨by rfl, fun W hSw => ?_⟩) (by assumption) ?_
    rotate_left
    · (clear hSw; go_simp; try with_reducible rfl)
    simp only [Act.put, List.setIfInBounds_toArray, List.set_cons_zero, List.set_cons_succ]
    refine take_h (i := 1) (v := ?_) rfl rfl (by kernel_rfl) (by kernel_rfl) (by kernel_rfl) (fun _ _ _ h => h) (Or.inl ⟨by rfl, fun W hSw => ?_⟩) (by assumption) ?_
    rotate_left
    · (clear hSw; go_simp; try with_reducible rfl)
    simp only [Act.put, List.setIfInBounds_toArray, List.set_cons_zero, List.set_cons_succ]
    refine take_h (i := 3) (v := ?_) rfl rfl (by kernel_rfl) (by kernel_rfl) (by kernel_rfl) (fun _ _ _ h => h) (Or.inl ⟨by rfl, fun W hSw => ?_⟩) (by assumption) ?_
    rotate_left
    · (clear hSw; go_simp; try with_reducible rfl)
    simp only [Act.put, List.setIfInBounds_toArray, List.set_cons_zero, List.set_cons_succ]
    refine take_h (i := 4) (v := ?_) rfl rfl (by kernel_rfl) (by kernel_rfl) (by kernel_rfl) (fun _ _ _ h => h) (Or.inl ⟨by rfl, fun W hSw => ?_⟩) (by assumption) ?_
    rotate_left
    · (obtain ⟨hs0, hs1, hs5, hs6, hs7⟩ := hSw; clear hs7; go_simp; try with_reducible rfl)
    simp only [Act.put, List.setIfInBounds_toArray, List.set_cons_zero, List.set_cons_succ]
    refine take_h (i := 6) (v := ?_) rfl rfl (by kernel_rfl) (by kernel_rfl) (by kernel_rfl) (fun _ _ _ h => h) (Or.inl ⟨by rfl, fun W hSw => ?_⟩) (by assumption) ?_
    rotate_left
    · (clear hSw; go_simp; try with_reducible rfl)
    simp only [Act.put, List.setIfInBounds_toArray, List.set_cons_zero, List.set_cons_succ]
    refine step_h (i := 2) rfl rfl (by kernel_rfl) (fun K hK => ?_)
    go_simp
    refine Calls.mono hR2.out ?_
    rintro e w3 ⟨A3, c3, rfl, ho3, hB3⟩
    have hx3 := Lib.hid (hx2d.out.trans (hB3.mono hx2d.out.size))
    have hS3 := hF.out _ hx3.out
    have ho3' := Lib.hid ho3.rb
    clear hHeld hB3 ho3
    go_wp2_with fail
    refine hK.out _ _ hS3 (fun hHeld => ?_)
    clear hK K
    try simp only [Act.put, List.setIfInBounds_toArray, List.set_cons_zero, List.set_cons_succ]
    refine step_h (i := 5) rfl rfl (by kernel_rfl) (fun K hK => ?_)
    go_simp
    refine Calls.mono (RefPut_yes A3 _ c3 _ p.id 2 _ ho3'.out (by omega) hfi.out) ?_
    rintro e w4 ⟨A4, c4, rfl, ho4, hB4⟩
    have hx4 := Lib.hid (hx3.out.trans (hB4.mono hx3.out.size))
    have hS4 := hF.out _ hx4.out
    have ho4' := Lib.hid ho4.rb
    clear hHeld hB4 ho4
    go_wp2_with fail
    refine hK.out _ _ hS4 (fun hHeld => ?_)
    clear hK K
    try simp only [Act.put, List.setIfInBounds_toArray, List.set_cons_zero, List.set_cons_succ]
    refine step_h (i := 7) rfl rfl (by kernel_rfl) (fun K hK => ?_)
    go_simp
    refine Calls.mono (RefPut_yes A4 _ c4 _ F 2 _ ho4'.out (by omega) hff.out) ?_
    rintro e w5 ⟨A5, c5, rfl, ho5, hB5⟩
    have hx5 := Lib.hid (hx4.out.trans (hB5.mono hx4.out.size))
    have hS5 := hF.out _ hx5.out
    have hs5 := hx4.out.size
    have ho5' := Lib.hid (ho5.mono hs5)
    clear hHeld hB5 ho5 hs5
    go_wp2_with fail
    refine hK.out _ _ hS5 (fun hHeld => ?_)
    clear hK K
    try simp only [Act.put, List.setIfInBounds_toArray, List.set_cons_zero, List.set_cons_succ]
    refine take_h (i := 8) (v := ?_) rfl rfl (by kernel_rfl) (by kernel_rfl) (by kernel_rfl) (fun _ _ _ h => h) (Or.inl ⟨by rfl, fun W hSw => ?_⟩) (by assumption) ?_
    rotate_left
    · (clear hSw; go_simp; try with_reducible rfl)
    simp only [Act.put, List.setIfInBounds_toArray, List.set_cons_zero, List.set_cons_succ]
    refine wpAnyH_done (by kernel_rfl) ?_ _
    clear hHeld hS2d hS3 hS4 hS5
    have k5 := Lib.hid (kB.out.to hx5.out)
    have e3 := k5.out.cell 3 (.int .i64 p.ttl) rfl
    have e4 := k5.out.cell 4 (.int .i64 p.pr) rfl
    have hlit := Lib.hid (lit_rb w5 htl0 htl1 hpr0 hpr1)
    have hx6 := Lib.hid (hx5.out.alloc hx5.out.size (.cells #[.int .u8 p.ttl, .int .u8 p.pr] 5))
    have ho6 := Lib.hid (ho5'.out.alloc (.cells #[.int .u8 p.ttl, .int .u8 p.pr] 5))
    try simp only [Act.put]
    go_upto_region 9 with (first
      | (at_builtin; refine wpList_append_bytes _ rfl (.tmp 37) (.tmp 44) rfl rfl rfl ho6.out hlit.out (by omega) hx6.out.size ?_; intro A7 c7 w7 ho7 hg7 _; have hx7 := Lib.hid (hx6.out.grown hg7 hx6.out.size (fun k hk => (ho6.out.blk hk).1)); have ho7' := Lib.hid ho7.rb; clear hg7 ho7)
      | (go_at_call 54; refine (RefPut_yes A7 _ c7 _ s 2 _ ho7'.out (by omega) hfz.out).mono ?_; rintro e w8 ⟨A8, c8, rfl, ho8, hB8⟩; have hx8 := Lib.hid (hx7.out.trans (hB8.mono hx7.out.size)); have ho8' := Lib.hid ho8.rb; clear ho8; replace hB8 := 0)
      | fail)
    clear e3 e4
    have hx8d := Lib.hid hx8.out.drew
    have hS8 := hF.out _ hx8d.out
    have hR8 := Lib.hid (RefPut_yes A8 _ c8 _ p.src 4 w8.drew ho8'.out.drew (by omega) hfsr.out)
    try simp only [Act.put]
    refine wp_region_held_drew (S := fun W => W.cell? ⟨w.heap.size, 0, none⟩ = some (.int .i64 p.tos) ∧ W.cell? ⟨w.heap.size, 1, none⟩ = some (.int .i64 p.id) ∧ W.cell? ⟨w.heap.size, 5, none⟩ = some (.int .i64 p.src) ∧ W.cell? ⟨w.heap.size, 6, none⟩ = some (.int .i64 p.dst) ∧ W.rangeAt w.heap.size 0 (cells4 p ao no co a n c).toList) (by kernel_rfl) hS8 (fun hHeld => ?_)
    refine take_h (i := 0) (v := ?_) rfl rfl (by kernel_rfl) (by kernel_rfl) (by kernel_rfl) (fun _ _ _ h => h) (Or.inl ⟨by rfl, fun W hSw => ?_⟩) (by assumption) ?_
    rotate_left
    · (clear hSw; go_simp; try with_reducible rfl)
    simp only [Act.put, List.setIfInBounds_toArray, List.set_cons_zero, List.set_cons_succ]
    refine take_h (i := 1) (v := ?_) rfl rfl (by kernel_rfl) (by kernel_rfl) (by kernel_rfl) (fun _ _ _ h => h) (Or.inl ⟨by rfl, fun W hSw => ?_⟩) (by assumption) ?_
    rotate_left
    · (clear hSw; go_simp; try with_reducible rfl)
    simp only [Act.put, List.setIfInBounds_toArray, List.set_cons_zero, List.set_cons_succ]
    refine take_h (i := 2) (v := ?_) rfl rfl (by kernel_rfl) (by kernel_rfl) (by kernel_rfl) (fun _ _ _ h => h) (Or.inl ⟨by rfl, fun W hSw => ?_⟩) (by assumption) ?_
    rotate_left
    · (obtain ⟨hs0, hs1, hs5, hs6, hs7⟩ := hSw; clear hs7; go_simp; try with_reducible rfl)
    simp only [Act.put, List.setIfInBounds_toArray, List.set_cons_zero, List.set_cons_succ]
    refine take_h (i := 4) (v := ?_) rfl rfl (by kernel_rfl) (by kernel_rfl) (by kernel_rfl) (fun _ _ _ h => h) (Or.inl ⟨by rfl, fun W hSw => ?_⟩) (by assumption) ?_
    rotate_left
    · (clear hSw; go_simp; try with_reducible rfl)
    simp only [Act.put, List.setIfInBounds_toArray, List.set_cons_zero, List.set_cons_succ]
    refine take_h (i := 5) (v := ?_) rfl rfl (by kernel_rfl) (by kernel_rfl) (by kernel_rfl) (fun _ _ _ h => h) (Or.inl ⟨by rfl, fun W hSw => ?_⟩) (by assumption) ?_
    rotate_left
    · (obtain ⟨hs0, hs1, hs5, hs6, hs7⟩ := hSw; clear hs7; go_simp; try with_reducible rfl)
    simp only [Act.put, List.setIfInBounds_toArray, List.set_cons_zero, List.set_cons_succ]
    refine step_h (i := 3) rfl rfl (by kernel_rfl) (fun K hK => ?_)
    go_simp
    refine Calls.mono hR8.out ?_
    rintro e w9 ⟨A9, c9, rfl, ho9, hB9⟩
    have hx9 := Lib.hid (hx8d.out.trans (hB9.mono hx8d.out.size))
    have hS9 := hF.out _ hx9.out
    have ho9' := Lib.hid ho9.rb
    clear hHeld hB9 ho9
    go_wp2_with fail
    refine hK.out _ _ hS9 (fun hHeld => ?_)
    clear hK K
    try simp only [Act.put, List.setIfInBounds_toArray, List.set_cons_zero, List.set_cons_succ]
    refine step_h (i := 6) rfl rfl (by kernel_rfl) (fun K hK => ?_)
    go_simp
    refine Calls.mono (RefPut_yes A9 _ c9 _ p.dst 4 _ ho9'.out (by omega) hfds.out) ?_
    rintro e w10 ⟨A10, c10, rfl, ho10, hB10⟩
    have hx10 := Lib.hid (hx9.out.trans (hB10.mono hx9.out.size))
    have hS10 := hF.out _ hx10.out
    have hs10 := hx9.out.size
    have ho10' := Lib.hid (ho10.mono hs10)
    clear hHeld hB10 ho10 hs10
    go_wp2_with fail
    refine hK.out _ _ hS10 (fun hHeld => ?_)
    clear hK K
    try simp only [Act.put, List.setIfInBounds_toArray, List.set_cons_zero, List.set_cons_succ]
    refine take_h (i := 7) (v := ?_) rfl rfl (by kernel_rfl) (by kernel_rfl) (by kernel_rfl) (fun _ _ _ h => h) (Or.inl ⟨by rfl, fun W hSw => ?_⟩) (by assumption) ?_
    rotate_left
    · (clear hSw; go_simp; try with_reducible rfl)
    simp only [Act.put, List.setIfInBounds_toArray, List.set_cons_zero, List.set_cons_succ]
    refine wpAnyH_done (by kernel_rfl) ?_ _
    clear hHeld hS8 hS9 hS10
    have k10 := Lib.hid (kB.out.to hx10.out)
    have e9 := k10.out.cell 9 _ rfl
    have hro10 := Lib.hid (hro.out _ hx10.out)
    try simp only [Act.put]
    go_wp2_with (first
      | (at_builtin; refine wpList_append_bytes _ rfl (.tmp 55) (.tmp 57) rfl rfl rfl ho10'.out hro10.out (by omega) hx10.out.size ?_; intro A11 c11 w11 ho11 hg11 _; have hx11 := Lib.hid (hx10.out.grown hg11 hx10.out.size (fun k hk => (ho10'.out.blk hk).1)); have ho11' := Lib.hid (ho11.mono hsz0.out); clear hg11 ho11)
      | fail)
    go_ret
    have hln2 : 2 + 2 + 2 + 2 + 2 + 2 + 4 + 4 + no = 20 + no := by omega
    have h9 := ho11'.out
    rw [← hbytes.out, hln2] at h9
    refine ⟨A11, c11, ?_, h9, hb0.out.trans (hx11.out.mono hb0.out.size)⟩
    first | rfl | rw [← hln2] | skip
def built4? (p : V4P) (no n : Nat) : List Int := if checkV4 p no n = 0 then bytes4 p else []
set_option maxRecDepth 100000 in
set_option maxHeartbeats 4000000 in
theorem RefBuild4_any (p : V4P) (ao : Option Addr) (no co : Nat) (a : Option Addr) (n c : Nat) (w : World) (hro : RB w ao no co p.opts) (hr : RB w a n c p.data) (hno : no ≤ 100000) (hn : n ≤ 100000) :
    Calls Try.prog 24 #[.agg (cells4 p ao no co a n c)] w (TwoOut w (built4? p no n) (checkV4 p no n)) := by
  obtain ⟨w0, hw0⟩ : ∃ w0, w.alloc (.cells (cells4 p ao no co a n c) 32) = w0 := ⟨_, rfl⟩
  have hb0 := Lib.hid (show Below w.heap.size w w0 by rw [← hw0]; exact (Below.refl _ w).alloc (Nat.le_refl _) _)
  have kB := Lib.hid (show Blk w0 w.heap.size (cells4 p ao no co a n c) 32 by rw [← hw0]; exact Blk.new w _ _)
  have hK := fun W => RefCheck4_any p ao no co a n c W hno hn
  replace hw0 := Lib.hid hw0
  by_cases hck : checkV4 p no n = 0
  rotate_left
  · have hb : built4? p no n = [] := by unfold built4?; rw [if_neg hck]
    rw [hb]
    have hcn : (checkV4 p no n != 0) = true := by simpa using hck
    generalize checkV4 p no n = k at *
    replace hK := Lib.hid hK
    clear hck hb hro hr
    go_enter Try.func24, Try.ntmps24
    go_upto_region 1 with fail
    rw [hw0.out]
    go_wp2_with (first
      | (refine wpList_load_4 rfl (.tmp 1) rfl w.heap.size rfl _ kB.out rfl ?_)
      | (go_at_call 41; refine (hK.out _).mono ?_; rintro e w1 ⟨rfl, hB1⟩; have hb1 := Lib.hid (hb0.out.trans (hB1.mono hb0.out.size)); replace hB1 := 0)
      | fail)
    go_ret2
    exact ⟨none, 0, 0, rfl, RB.nil _, hb1.out⟩
  have hb : built4? p no n = bytes4 p := by unfold built4?; rw [if_pos hck]
  rw [hb, hck]
  rw [hck] at hK
  obtain ⟨s0, s1⟩ := sum4_bd p
  obtain ⟨ht, htl, hpr, hid, hsr, hds, ⟨o1, o2, o3⟩, q1, q2, q3, q4⟩ := chk4_all hck
  have hsz4 : size4 p = 20 + (no : Int) + (n : Int) := by unfold size4; rw [hro.len, hr.len]
  have hby : bytes4 p = head4 p (20 + (no : Int) + (n : Int)) (sum4 p) ++ p.data := by unfold bytes4; rw [hsz4]
  have hsm : sum4 p = 65535 - foldI (totalI [head4 p (20 + (no : Int) + (n : Int)) 0]) := by unfold sum4; rw [hsz4]
  have hH := fun s (h : 0 ≤ s ∧ s < 65536) W (hW : Below w.heap.size w W) => RefHead05_any p (20 + (no : Int) + (n : Int)) s ao no co a n c W (hro.below hW) hck ⟨by omega, by omega⟩ h
  have hH0 := hH 0 ⟨by omega, by omega⟩
  have hH1 := hH (sum4 p) ⟨s0, by omega⟩
  have hsml := Lib.hid (show Small [head4 p (20 + (no : Int) + (n : Int)) 0] from ⟨by simp, fun bs hb => by
    rw [List.mem_singleton] at hb
    subst hb
    exact ⟨by rw [head4_length, hro.len]; omega, head4_byts hro.byt ht htl hpr (by rw [hro.len]; omega)⟩⟩)
  have hOf := fun A c W h => RefOf_any A 1 c [head4 p (20 + (no : Int) + (n : Int)) 0] W h hsml.out
  rw [← hsm] at hOf
  have hSz := Lib.hid (fun W => RefSize4_any p ao no co a n c W hno hn)
  have hrd := Lib.hid (fun W (hW : Below w.heap.size w W) => hr.below hW)
  have hlim := Lib.hid (show 20 + no + n ≤ 140737488355328 by omega)
  have hsz0 := Lib.hid (show w.heap.size ≤ w0.heap.size from hb0.out.size)
  have hi := Lib.hid (show (Try.prog.info? 32).map (·.size) = some (cells4 p ao no co a n c).toList.length from info_v4)
  have hF := Lib.hid (fun W (hW : Below w0.heap.size w0 W) => show (W.cell? ⟨w.heap.size, 10, none⟩ = some (.slice a n c) ∧ W.rangeAt w.heap.size 0 (cells4 p ao no co a n c).toList) from
    ⟨(kB.out.to hW).cell 10 _ rfl, fun j v hj => by rw [Nat.zero_add]; exact (kB.out.to hW).cell j v (by rw [← Array.getElem?_toList]; exact hj)⟩)
  unfold Fresh at hH0 hH1
  generalize head4 p (20 + (no : Int) + (n : Int)) 0 = bs0 at *
  generalize head4 p (20 + (no : Int) + (n : Int)) (sum4 p) = bs1 at *
  generalize sum4 p = sm at *
  generalize bytes4 p = bsF at *
  replace hK := Lib.hid hK
  replace hH0 := Lib.hid hH0
  replace hH1 := Lib.hid hH1
  replace hOf := Lib.hid hOf
  replace hby := Lib.hid hby
  clear hH hb hck hro hr ht htl hpr hid hsr hds o1 o2 o3 q1 q2 q3 q4 hsz4 hsm s0 s1 hno hn
  go_enter Try.func24, Try.ntmps24
  go_upto_region 1 with fail
  rw [hw0.out]
  go_upto_region 4 with (first
    | (refine wpList_load_4 rfl (.tmp 1) rfl w.heap.size rfl _ kB.out rfl ?_)
    | (go_at_call 41; refine (hK.out _).mono ?_; rintro e w1 ⟨rfl, hB1⟩; have hx1 := Lib.hid hB1; replace hB1 := 0)
    | fail)
  have hx1d := Lib.hid hx1.out.drew
  have hS1 := hF.out _ hx1d.out
  try simp only [Act.put]
  refine wp_region_held_drew (S := fun W => W.cell? ⟨w.heap.size, 10, none⟩ = some (.slice a n c) ∧ W.rangeAt w.heap.size 0 (cells4 p ao no co a n c).toList) (by kernel_rfl) hS1 (fun hHeld => ?_)
  refine take_h (i := 0) rfl rfl (by kernel_rfl) (by kernel_rfl) (by kernel_rfl) (fun _ _ _ h => h) (yieldsIf_load_mid (by rfl) 32 (.tmp 1) rfl _ _ rfl (cells4 p ao no co a n c).toList _ (fun W hW => hW.2) Try.underlying32 rfl hi.out) (by assumption) ?_
  simp only [Act.put, List.setIfInBounds_toArray, List.set_cons_zero, List.set_cons_succ]
  refine take_h (i := 1) rfl rfl (by kernel_rfl) (by kernel_rfl) (by kernel_rfl) (fun _ _ _ h => h) (yieldsIf_load_mid (by rfl) 32 (.tmp 1) rfl _ _ rfl (cells4 p ao no co a n c).toList _ (fun W hW => hW.2) Try.underlying32 rfl hi.out) (by assumption) ?_
  simp only [Act.put, List.setIfInBounds_toArray, List.set_cons_zero, List.set_cons_succ]
  refine step_h (i := 2) rfl rfl (by kernel_rfl) (fun K hK => ?_)
  go_simp
  refine Calls.mono (hSz.out _) ?_
  rintro e w2 ⟨rfl, hB2⟩
  have hx2 := Lib.hid (hx1d.out.trans (hB2.mono hx1d.out.size))
  have hS2 := hF.out _ hx2.out
  clear hHeld hB2
  go_wp2_with fail
  refine hK.out _ _ hS2 (fun hHeld => ?_)
  clear hK K
  try simp only [Act.put, List.setIfInBounds_toArray, List.set_cons_zero, List.set_cons_succ]
  refine step_h (i := 3) rfl rfl (by kernel_rfl) (fun K hK => ?_)
  go_simp
  refine Calls.mono (hH0.out _ (hb0.out.trans (hx2.out.mono hb0.out.size))) ?_
  rintro e w3 ⟨A3, c3, rfl, ho3, hB3⟩
  have hx3 := Lib.hid (hx2.out.trans (hB3.mono hx2.out.size))
  have hS3 := hF.out _ hx3.out
  have hr3 := Lib.hid (rbb_one ho3.rb)
  have hx4 := Lib.hid (hx3.out.alloc hx3.out.size (.cells #[.slice A3 (20 + no) c3] 24))
  have hS4 := hF.out _ hx4.out
  clear hHeld hB3 ho3
  go_wp2_with fail
  refine hK.out _ _ hS3 (fun hHeld => ?_)
  clear hK K
  try simp only [Act.put, List.setIfInBounds_toArray, List.set_cons_zero, List.set_cons_succ]
  refine step_h (i := 4) rfl rfl (by kernel_rfl) (fun K hK => ?_)
  go_simp
  refine hK.out _ _ hS4 (fun hHeld => ?_)
  clear hK K
  try simp only [Act.put, List.setIfInBounds_toArray, List.set_cons_zero, List.set_cons_succ]
  refine step_h (i := 5) rfl rfl (by kernel_rfl) (fun K hK => ?_)
  go_simp
  refine Calls.mono (hOf.out _ _ _ hr3.out) ?_
  rintro e w5 ⟨rfl, hB5⟩
  have hx5 := Lib.hid (hx4.out.trans (hB5.mono hx4.out.size))
  have hS5 := hF.out _ hx5.out
  clear hHeld hB5
  go_wp2_with fail
  refine hK.out _ _ hS5 (fun hHeld => ?_)
  clear hK K
  try simp only [Act.put, List.setIfInBounds_toArray, List.set_cons_zero, List.set_cons_succ]
  refine take_h (i := 6) (v := ?_) rfl rfl (by kernel_rfl) (by kernel_rfl) (by kernel_rfl) (fun _ _ _ h => h) (Or.inl ⟨by rfl, fun W hSw => ?_⟩) (by assumption) ?_
  rotate_left
  · (clear hSw; go_simp; try with_reducible rfl)
  simp only [Act.put, List.setIfInBounds_toArray, List.set_cons_zero, List.set_cons_succ]
  refine wpAnyH_done (by kernel_rfl) ?_ _
  clear hHeld hS1 hS2 hS3 hS4 hS5
  have hx5d := Lib.hid hx5.out.drew
  have hS6 := hF.out _ hx5d.out
  try simp only [Act.put]
  go_upto_region 5 with fail
  try simp only [Act.put]
  refine wp_region_held_drew (S := fun W => W.cell? ⟨w.heap.size, 10, none⟩ = some (.slice a n c) ∧ W.rangeAt w.heap.size 0 (cells4 p ao no co a n c).toList) (by kernel_rfl) hS6 (fun hHeld => ?_)
  refine take_h (i := 0) rfl rfl (by kernel_rfl) (by kernel_rfl) (by kernel_rfl) (fun _ _ _ h => h) (yieldsIf_load_mid (by rfl) 32 (.tmp 1) rfl _ _ rfl (cells4 p ao no co a n c).toList _ (fun W hW => hW.2) Try.underlying32 rfl hi.out) (by assumption) ?_
  simp only [Act.put, List.setIfInBounds_toArray, List.set_cons_zero, List.set_cons_succ]
  refine take_h (i := 1) rfl rfl (by kernel_rfl) (by kernel_rfl) (by kernel_rfl) (fun _ _ _ h => h) (yieldsIf_load_mid (by rfl) 32 (.tmp 1) rfl _ _ rfl (cells4 p ao no co a n c).toList _ (fun W hW => hW.2) Try.underlying32 rfl hi.out) (by assumption) ?_
  simp only [Act.put, List.setIfInBounds_toArray, List.set_cons_zero, List.set_cons_succ]
  refine take_h (i := 3) (v := ?_) rfl rfl (by kernel_rfl) (by kernel_rfl) (by kernel_rfl) (fun _ _ _ h => h) (Or.inl ⟨by rfl, fun W hSw => ?_⟩) (by assumption) ?_
  rotate_left
  · (clear hSw; go_simp; try with_reducible rfl)
  simp only [Act.put, List.setIfInBounds_toArray, List.set_cons_zero, List.set_cons_succ]
  refine take_h (i := 5) (v := ?_) rfl rfl (by kernel_rfl) (by kernel_rfl) (by kernel_rfl) (fun _ _ _ h => h) (Or.inl ⟨by rfl, fun W hSw => ?_⟩) (by assumption) ?_
  rotate_left
  · (clear hSw; go_simp; try with_reducible rfl)
  simp only [Act.put, List.setIfInBounds_toArray, List.set_cons_zero, List.set_cons_succ]
  refine take_h (i := 6) (v := ?_) rfl rfl (by kernel_rfl) (by kernel_rfl) (by kernel_rfl) (fun _ _ _ h => h) (Or.inl ⟨by rfl, fun W hSw => ?_⟩) (by assumption) ?_
  rotate_left
  · (obtain ⟨hs0, hs7⟩ := hSw; clear hs7; go_simp; try with_reducible rfl)
  simp only [Act.put, List.setIfInBounds_toArray, List.set_cons_zero, List.set_cons_succ]
  refine step_h (i := 2) rfl rfl (by kernel_rfl) (fun K hK => ?_)
  go_simp
  refine Calls.mono (hSz.out _) ?_
  rintro e w6 ⟨rfl, hB6⟩
  have hx6 := Lib.hid (hx5d.out.trans (hB6.mono hx5d.out.size))
  have hS7 := hF.out _ hx6.out
  clear hHeld hB6
  go_wp2_with fail
  refine hK.out _ _ hS7 (fun hHeld => ?_)
  clear hK K
  try simp only [Act.put, List.setIfInBounds_toArray, List.set_cons_zero, List.set_cons_succ]
  refine step_h (i := 4) rfl rfl (by kernel_rfl) (fun K hK => ?_)
  go_simp
  refine Calls.mono (hH1.out _ (hb0.out.trans (hx6.out.mono hb0.out.size))) ?_
  rintro e w7 ⟨A7, c7, rfl, ho7, hB7⟩
  have hx7 := Lib.hid (hx6.out.trans (hB7.mono hx6.out.size))
  have hS8 := hF.out _ hx7.out
  have ho7' := Lib.hid (ho7.mono hx6.out.size)
  have hrd7 := Lib.hid (hrd.out _ (hb0.out.trans (hx7.out.mono hb0.out.size)))
  clear hHeld hB7 ho7
  go_wp2_with fail
  refine hK.out _ _ hS8 (fun hHeld => ?_)
  clear hK K
  try simp only [Act.put, List.setIfInBounds_toArray, List.set_cons_zero, List.set_cons_succ]
  refine step_h (i := 7) rfl rfl (by kernel_rfl) (fun K hK => ?_)
  refine step_append_bytes (A := A7) (n := 20 + no) (c := c7) (A' := a) (m := n) (c' := c) (base := w0.heap.size) rfl _ _ rfl rfl rfl ho7'.out hrd7.out hlim.out hx7.out.size ?_
  intro A8 c8 w8 ho8 hg8 _
  have hx8 := Lib.hid (hx7.out.grown hg8 hx7.out.size (fun k hk => (ho7'.out.blk hk).1))
  have hS9 := hF.out _ hx8.out
  have ho8' := Lib.hid ho8.rb
  clear hHeld hg8 ho8
  refine hK.out _ _ hS9 (fun hHeld => ?_)
  clear hK K
  try simp only [Act.put, List.setIfInBounds_toArray, List.set_cons_zero, List.set_cons_succ]
  refine take_h (i := 8) (v := ?_) rfl rfl (by kernel_rfl) (by kernel_rfl) (by kernel_rfl) (fun _ _ _ h => h) (Or.inl ⟨by rfl, fun W hSw => ?_⟩) (by assumption) ?_
  rotate_left
  · (clear hSw; go_simp; try with_reducible rfl)
  simp only [Act.put, List.setIfInBounds_toArray, List.set_cons_zero, List.set_cons_succ]
  refine take_h (i := 9) (v := ?_) rfl rfl (by kernel_rfl) (by kernel_rfl) (by kernel_rfl) (fun _ _ _ h => h) (Or.inl ⟨by rfl, fun W hSw => ?_⟩) (by assumption) ?_
  rotate_left
  · (clear hSw; go_simp; try with_reducible rfl)
  simp only [Act.put, List.setIfInBounds_toArray, List.set_cons_zero, List.set_cons_succ]
  refine wpAnyH_done (by kernel_rfl) ?_ _
  clear hHeld hS6 hS7 hS8 hS9
  try simp only [Act.put]
  go_wp2_with fail
  go_ret2
  exact ⟨A8, _, c8, rfl, by rw [hby.out]; exact ho8'.out, hb0.out.trans (hx8.out.mono hb0.out.size)⟩
/-- The packet of a datagram. -/
def dgU (f t : Int) (data : List Int) : UdpP := ⟨f, t, false, data⟩
def dgP (src dst f t ttl : Int) (data : List Int) : V4P := ⟨0, 0, 0, ttl, 17, src, dst, false, false, [], builtU src dst (dgU f t data)⟩
theorem dg_ok {src dst f t ttl : Int} {data : List Int} (h1 : 0 ≤ src ∧ src < 4294967296) (h2 : 0 ≤ dst ∧ dst < 4294967296) (h3 : 0 ≤ f ∧ f < 65536) (h4 : 0 ≤ t ∧ t < 65536) (h5 : 0 ≤ ttl ∧ ttl < 256) (hn : data.length ≤ 60000) (hb : Byts data) :
    checkU (dgU f t data) data.length = 0 ∧ (builtU src dst (dgU f t data)).length = 8 + data.length ∧ Byts (builtU src dst (dgU f t data)) ∧ chk4 (dgP src dst f t ttl data) = 0 := by
  have hl : (builtU src dst (dgU f t data)).length = 8 + data.length := by unfold builtU; rw [if_neg (by simp [dgU])]; exact bytesU_length _ _
  have fB : ∀ (x : Int) (s : Nat), 1 ≤ s → s ≤ 4 → 0 ≤ x → x < 256 ^ s → fitsB x s = true := fun x s a b c d => fitsB_yes ⟨by omega, c, by simpa using d⟩
  refine ⟨?_, hl, by unfold builtU; rw [if_neg (by simp [dgU])]; exact bytesU_byts hb, ?_⟩
  · unfold checkU
    rw [show fitsB (dgU f t data).s 2 = true from fB f 2 (by omega) (by omega) h3.1 (by omega), show fitsB (dgU f t data).d 2 = true from fB t 2 (by omega) (by omega) h4.1 (by omega), if_neg (by decide), if_neg (by decide), if_neg (by omega)]
  · unfold chk4 checkV4
    have e : okV4 (dgP src dst f t ttl data) (dgP src dst f t ttl data).opts.length (dgP src dst f t ttl data).data.length = true := by
      unfold okV4 fitsA endsA placeA optsA dgP
      rw [show fitsB (0 : Int) 1 = true from fB 0 1 (by omega) (by omega) (by omega) (by omega), show fitsB ttl 1 = true from fB ttl 1 (by omega) (by omega) h5.1 (by omega), show fitsB (17 : Int) 1 = true from fB 17 1 (by omega) (by omega) (by omega) (by omega), show fitsB (0 : Int) 2 = true from fB 0 2 (by omega) (by omega) (by omega) (by omega), show rightB src = true from decide_eq_true h1, show rightB dst = true from decide_eq_true h2]
      rfl
    rw [if_pos e, if_neg]
    show ¬ ((65535 : Int) < 20 + (0 : Nat) + (builtU src dst (dgU f t data)).length ∨ (65535 : Int) - (builtU src dst (dgU f t data)).length < 0)
    rw [hl]; omega
set_option maxRecDepth 100000 in
set_option maxHeartbeats 2000000 in
theorem Datagram_any (src dst f t ttl : Int) (A : Option Addr) (n c : Nat) (data : List Int) (w : World) (h1 : 0 ≤ src ∧ src < 4294967296) (h2 : 0 ≤ dst ∧ dst < 4294967296) (h3 : 0 ≤ f ∧ f < 65536) (h4 : 0 ≤ t ∧ t < 65536) (h5 : 0 ≤ ttl ∧ ttl < 256) (hn : n ≤ 60000) (hr : RB w A n c data) :
    Calls Try.prog 8 #[.int .i64 src, .int .i64 dst, .int .i64 f, .int .i64 t, .int .i64 ttl, .slice A n c] w fun e w' => ∃ A2 n2 c2, e = .returned (.slice A2 n2 c2) ∧ RB w' A2 n2 c2 (bytes4 (dgP src dst f t ttl data)) ∧ Below w.heap.size w w' := by
  obtain ⟨k1, k2, k3, k4⟩ := dg_ok (src := src) (dst := dst) h1 h2 h3 h4 h5 (by rw [hr.len]; omega) hr.byt
  rw [hr.len] at k1 k2
  have hU := RefUdpBuild_any src dst (dgU f t data) A n c w hr
  have hbu : builtU? src dst (dgU f t data) n = builtU src dst (dgU f t data) := by unfold builtU?; rw [if_pos k1]
  rw [k1, hbu] at hU
  have hB := fun W A2 c2 (h : RB W A2 (8 + n) c2 (builtU src dst (dgU f t data))) => RefBuild4_any (dgP src dst f t ttl data) none 0 0 A2 (8 + n) c2 W (RB.nil W) h (by omega) (by omega)
  have hck : checkV4 (dgP src dst f t ttl data) 0 (8 + n) = 0 := by
    have := k4
    unfold chk4 at this
    rw [show (dgP src dst f t ttl data).data.length = 8 + n from k2, show (dgP src dst f t ttl data).opts.length = 0 from rfl] at this
    exact this
  have hb4 : built4? (dgP src dst f t ttl data) 0 (8 + n) = bytes4 (dgP src dst f t ttl data) := by unfold built4?; rw [if_pos hck]
  rw [hck, hb4] at hB
  unfold TwoOut at hU hB
  generalize bytes4 (dgP src dst f t ttl data) = bsF at *
  replace hU := Lib.hid hU
  replace hB := Lib.hid hB
  replace k2 := Lib.hid k2
  generalize builtU src dst (dgU f t data) = us at *
  clear h1 h2 h3 h4 h5 hr k1 k3 k4 hck hb4 hbu
  go_enter Try.func8, Try.ntmps8
  go_wp2_with (first
    | (go_at_call 23; refine hU.out.mono ?_; rintro e w1 ⟨A1, n1, c1, rfl, ho1, hB1⟩; obtain rfl : n1 = 8 + n := ho1.len.symm.trans k2.out; have hr1 := Lib.hid ho1; have hb1 := Lib.hid hB1; replace hB1 := 0; clear ho1)
    | (go_at_call 24; refine (hB.out _ A1 c1 hr1.out).mono ?_; rintro e w2 ⟨A2, n2, c2, rfl, ho2, hB2⟩; have hb2 := Lib.hid (hb1.out.trans (hB2.mono hb1.out.size)); have hr2 := Lib.hid ho2; replace hB2 := 0; clear ho2)
    | fail)
  go_ret
  exact ⟨A2, n2, c2, rfl, hr2.out, hb2.out⟩
end Go.Proofs.Ytmbmmpbfmakfbaa
