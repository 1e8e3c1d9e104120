/- The bytes of what is asked, and told (the reference of pcp): walks of Build, Answer. -/
import Derived.Test.YtldjecilmcnpiaaPcpVt
set_option linter.unusedVariables false
namespace Go.Proofs.Ytldjecilmcnpiaa
open Go Go.RowKit

set_option maxRecDepth 100000 in
set_option maxHeartbeats 2000000 in
theorem RefBuild43_any (a : AskP) (h : AskOk a) (w : World) : Calls Try.prog 35 #[.agg (rowA a).toArray] w (TwoOut w (builtAsk a) (codeAsk a)) := by
  have hk := Lib.hid (Blk.new w (rowA a).toArray 54)
  have hb := Lib.hid ((Below.refl _ w).alloc (Nat.le_refl _) (.cells (rowA a).toArray 54))
  have hsz := Lib.hid (rowA_size h)
  have hCk := Lib.hid (fun W => RefCheck43_any (rowA a).toArray a ⟨h, rfl⟩ W)
  cases hm : mayB a
  · have hbo := Lib.hid (show builtAsk a = [] by unfold builtAsk; rw [if_neg (by rw [hm]; decide)])
    have hco := show codeAsk a = 1 by unfold codeAsk; rw [if_neg (by rw [hm]; decide)]
    rw [hco] at hCk ⊢
    clear hco
    go_enter Try.func35, Try.ntmps35
    go_wp2_with (first
      | (refine wpList_load_RK rfl (.tmp 1) rfl w.heap.size rfl (rowA a).toArray hk.out hsz.out ?_)
      | (go_at_call 79; refine (hCk.out _).mono ?_; rintro e w1 ⟨rfl, hB1⟩; have hb1 := Lib.hid (hb.out.trans (hB1.mono hb.out.size)); clear hB1)
      | fail)
    go_ret2
    exact ⟨none, 0, 0, rfl, by rw [hbo.out]; exact RB.nil _, hb1.out⟩
  · have hT := Lib.hid (fun A n c bs W hr hn => RefTail_any (rowA a).toArray a ⟨h, rfl⟩ hm A n c bs W hr hn)
    have hbo := Lib.hid (show builtAsk a = bytesAsk a by unfold builtAsk; rw [if_pos hm])
    have hco := show codeAsk a = 0 by unfold codeAsk; rw [if_pos hm]
    rw [hco] at hCk ⊢
    clear hco
    have hfl := Lib.hid (mayB_iff hm).1
    have hba := Lib.hid (ask_form (a := a))
    have hcl := Lib.hid (fun W (k : Blk W w.heap.size (rowA a).toArray 54) => KA.rbc (W := W) (B := w.heap.size) (off := 0) (⟨h, rfl⟩ : KA (rowA a).toArray a) k.lt (fun j v hj => by rw [Nat.zero_add]; exact k.cell j v hj))
    have hcc := Lib.hid h.lc
    have c0 := hk.out.cell 0 _ (show (rowA a).toArray[0]? = some (.int .i64 a.life) from rfl)
    have hi := Lib.hid (show (Try.prog.info? 54).map (·.size) = some (rowA a).length by rw [rowA_len h]; exact info_ask43)
    have hlit := Lib.hid (fun (W : World) => RB.lit W 5 [2, 1, 0, 0] (fun z hz => by simp at hz; omega) (by simp))
    have hr0 := Lib.hid (show (rowA a).toArray[0]? = some (.int .i64 a.life) from rfl)
    clear h hm
    go_enter Try.func35, Try.ntmps35
    go_wp2_with (first
      | (refine wpList_load_RK rfl (.tmp 1) rfl w.heap.size rfl (rowA a).toArray hk.out hsz.out ?_)
      | (go_at_call 79; refine (hCk.out _).mono ?_; rintro e w1 ⟨rfl, hB1⟩; have hb1 := Lib.hid (hb.out.trans (hB1.mono hb.out.size)); have hk1 := Lib.hid (hk.out.to hB1); clear c0; have c0 := fun o => (hk1.out.alloc o).cell 0 _ hr0.out; clear hB1)
      | (go_at_call 80; refine Calls.mono (RefPut_yes (some ⟨w1.heap.size, 0, none⟩) 4 4 [2, 1, 0, 0] a.life 4 _ (hlit.out w1) (by decide) hfl.out) ?_; rintro e w2 ⟨A2, c2, rfl, ho2, hB2⟩; have hb2 := Lib.hid ((hb1.out.alloc hb1.out.size _).trans (hB2.mono (Nat.le_trans hb1.out.size (by simp)))); have hk2 := Lib.hid ((hk1.out.alloc _).to hB2); have ho3 := Lib.hid (ho2.mono (show w.heap.size + 1 ≤ _ from Nat.le_trans hk1.out.lt (by simp))); clear hB2 ho2 c0)
      | fail)
    have hN := Lib.hid (show w.heap.size + 1 ≤ w2.heap.size from hk2.out.lt)
    have hF := Lib.hid (fun W (h : Below (w.heap.size + 1) w2 W) => show W.rangeAt w.heap.size 0 (rowA a) ∧ Below (w.heap.size + 1) w2 W from ⟨fun j v hj => by rw [Nat.zero_add]; exact (hk2.out.below h (Nat.lt_succ_self _)).cell j v (by rw [List.getElem?_toArray]; exact hj), h⟩)
    refine wp_region_held_drew (S := fun W => W.rangeAt w.heap.size 0 (rowA a) ∧ Below (w.heap.size + 1) w2 W) (by kernel_rfl) (hF.out _ (Below.refl _ w2).drew) (fun hHeld => ?_)
    refine take_h (i := 0) (v := ?_) rfl rfl (by kernel_rfl) (by kernel_rfl) (by kernel_rfl) (fun _ _ _ h => h) (Or.inl ⟨by rfl, fun W hSw => ?_⟩) (by assumption) ?_
    rotate_left
    · (clear hSw; go_simp; try with_reducible rfl)
    simp only [Act.put, List.setIfInBounds_toArray, List.set_cons_zero, List.set_cons_succ]
    refine take_h (i := 1) (v := ?_) rfl rfl (by kernel_rfl) (by kernel_rfl) (by kernel_rfl) (fun _ _ _ h => h) (Or.inl ⟨by rfl, fun W hSw => ?_⟩) (by assumption) ?_
    rotate_left
    · (clear hSw; go_simp; try with_reducible rfl)
    simp only [Act.put, List.setIfInBounds_toArray, List.set_cons_zero, List.set_cons_succ]
    refine take_h (i := 2) (v := ?_) rfl rfl (by kernel_rfl) (by kernel_rfl) (by kernel_rfl) (fun _ _ _ h => h) (Or.inl ⟨by rfl, fun W hSw => ?_⟩) (by assumption) ?_
    rotate_left
    · (clear hSw; go_simp; try with_reducible rfl)
    simp only [Act.put, List.setIfInBounds_toArray, List.set_cons_zero, List.set_cons_succ]
    refine take_h (i := 4) rfl rfl (by kernel_rfl) (by kernel_rfl) (by kernel_rfl) (fun _ _ _ h => h) (yieldsIf_load_mid (by rfl) 54 (.tmp 1) rfl _ _ rfl (rowA a) _ (fun W hW => hW.1) Try.underlying54 rfl hi.out) (by assumption) ?_
    simp only [Act.put, List.setIfInBounds_toArray, List.set_cons_zero, List.set_cons_succ]
    refine step_h (i := 3) rfl rfl (by kernel_rfl) (fun K hK => ?_)
    refine step_append_bytes (A := A2) (n := 4 + 4) (c := c2) (A' := some ⟨w.heap.size, 0 + 1, none⟩) (m := 16) (c' := 16) (base := w.heap.size + 1) (bs := [2, 1, 0, 0] ++ digL a.life 4) (ys := a.cl) rfl (.tmp 15) (.tmp 17) rfl rfl rfl (ho3.out.below (Below.refl _ _).drew) (hcl.out _ (hk2.out.below hHeld.2 (Nat.lt_succ_self _))) (by decide) (Nat.le_trans hN.out hHeld.2.size) ?_
    intro A3 c3 w3 ho3' hg3 _
    have hS3 := hF.out w3 (hHeld.2.grown hg3 (Nat.le_trans hN.out hHeld.2.size) (fun k hk => (ho3.out.blk hk).1))
    have hr3 := Lib.hid ho3'.rb
    clear hg3 hHeld ho3'
    refine hK.out _ _ hS3 (fun hHeld => ?_)
    clear hK K
    try simp only [Act.put, List.setIfInBounds_toArray, List.set_cons_zero, List.set_cons_succ]
    refine step_h (i := 5) rfl rfl (by kernel_rfl) (fun K hK => ?_)
    go_simp
    refine Calls.mono (hT.out A3 (4 + 4 + 16) c3 _ w3 hr3.out (by decide)) ?_
    rintro e w4 ⟨A4, c4, rfl, ho4, hB4⟩
    have hS4 := hF.out _ (hS3.2.trans (hB4.mono (Nat.le_trans hN.out hS3.2.size)))
    have hB5 := Lib.hid hS4.2
    have hr4 := Lib.hid ho4.rb
    clear hB4 ho4 hHeld
    go_wp2_with fail
    refine hK.out _ _ hS4 (fun hHeld => ?_)
    clear hK K
    refine take_h (i := 6) (v := ?_) rfl rfl (by kernel_rfl) (by kernel_rfl) (by kernel_rfl) (fun _ _ _ h => h) (Or.inl ⟨by rfl, fun W hSw => ?_⟩) (by assumption) ?_
    rotate_left
    · (clear hSw; go_simp; try with_reducible rfl)
    simp only [Act.put, List.setIfInBounds_toArray, List.set_cons_zero, List.set_cons_succ]
    refine take_h (i := 7) (v := ?_) rfl rfl (by kernel_rfl) (by kernel_rfl) (by kernel_rfl) (fun _ _ _ h => h) (Or.inl ⟨by rfl, fun W hSw => ?_⟩) (by assumption) ?_
    rotate_left
    · (clear hSw; go_simp; try with_reducible rfl)
    simp only [Act.put, List.setIfInBounds_toArray, List.set_cons_zero, List.set_cons_succ]
    refine wpAnyH_done (by kernel_rfl) ?_ _
    clear hS4 hS3 hHeld hi
    go_wp2
    go_ret2
    refine ⟨A4, _, c4, rfl, ?_, hb2.out.trans (hB5.out.mono (Nat.le_succ _))⟩
    rw [hbo.out, hba.out]
    exact hr4.out
end Go.Proofs.Ytldjecilmcnpiaa
