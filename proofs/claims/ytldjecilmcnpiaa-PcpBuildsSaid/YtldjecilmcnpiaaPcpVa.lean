/- The bytes of what is told (the reference of pcp): walk of Answer. -/
import Derived.Test.YtldjecilmcnpiaaPcpVb
import Derived.Test.YtldjecilmcnpiaaAppZ
set_option linter.unusedVariables false
namespace Go.Proofs.Ytldjecilmcnpiaa
open Go Go.RowKit

theorem told_ref {t : ToldP} (h0 : 0 ≤ t.result) (h1 : t.result < 256) : bytesTold t = [2, 129, 0, t.result] ++ digL t.ask.life 4 ++ digL t.epoch 4 ++ zs12 ++ tailL t.ask := by
  have e1 : digL t.result 1 = [t.result] := by simp [digL, List.range_succ]; omega
  have e2 : digL 0 4 = [0, 0, 0, 0] := by decide
  rw [told_form]
  simp [told16, e1, e2, zs12]
set_option maxRecDepth 100000 in
set_option maxHeartbeats 2000000 in
theorem RefAnswer43_any (t : ToldP) (h : AskOk t.ask) (w : World) : Calls Try.prog 37 #[.agg (rowT t).toArray] w (TwoOut w (builtTold t) (codeTold t)) := by
  have hk := Lib.hid (Blk.new w (rowT t).toArray 62)
  have hb := Lib.hid ((Below.refl _ w).alloc (Nat.le_refl _) (.cells (rowT t).toArray 62))
  have hCk := Lib.hid (fun W => RefCheck43_any (rowA t.ask).toArray t.ask ⟨h, rfl⟩ W)
  have hr0 := Lib.hid (show (rowT t).toArray[0]? = some (.int .i64 t.result) from rfl)
  have hr1 := Lib.hid (show (rowT t).toArray[1]? = some (.int .i64 t.epoch) from rfl)
  have hr2 := Lib.hid (show (rowT t).toArray[2]? = some (.int .i64 t.ask.life) from rfl)
  have hmid := Lib.hid (rowT_mid hk.out)
  have hi := Lib.hid (show (Try.prog.info? 54).map (·.size) = some (rowA t.ask).length by rw [rowA_len h]; exact info_ask43)
  have c0 := hk.out.cell 0 _ hr0.out
  have c1 := hk.out.cell 1 _ hr1.out
  have F1 := Lib.hid (fun W => RefFits_any t.result 1 W)
  have F2 := Lib.hid (fun W => RefFits_any t.epoch 4 W)
  have hft : fitL (mayTF t) = (fitsB t.result 1 && fitsB t.epoch 4) := by
    unfold fitL mayTF
    simp only [List.all_cons, List.all_nil, Bool.and_true]
    rfl
  cases hm : mayB t.ask
  · have hmt : mayT t = false := by unfold mayT; rw [hm]; rfl
    have hc1 : codeAsk t.ask = 1 := by unfold codeAsk; rw [if_neg (by rw [hm]; decide)]
    rw [hc1] at hCk
    clear h hm hft hc1
    have hbo := Lib.hid (show builtTold t = [] by unfold builtTold; rw [if_neg (by rw [hmt]; decide)])
    have hco := show codeTold t = 1 by unfold codeTold; rw [if_neg (by rw [hmt]; decide)]
    rw [hco]
    clear hco hmt
    go_enter Try.func37, Try.ntmps37
    go_wp2_with (first
      | (refine wpList_load_mid rfl 54 (.tmp 5) rfl w.heap.size 2 rfl (rowA t.ask) _ hmid.out Try.underlying54 rfl hi.out ?_)
      | (go_at_call 79; refine (hCk.out _).mono ?_; rintro e w1 ⟨rfl, hB1⟩; have hb1 := Lib.hid (hb.out.trans (hB1.mono hb.out.size)); have hk1 := Lib.hid (hk.out.to hB1); clear c0 c1; have c0 := hk1.out.cell 0 _ hr0.out; have c1 := hk1.out.cell 1 _ hr1.out; have c2 := fun o => (hk1.out.alloc o).cell 2 _ hr2.out; clear hB1)
      | (go_at_call_of 83 (Value.int IntKind.i64 (1 : Int)); refine (F1.out _).mono ?_; rintro e w' ⟨rfl, rfl⟩)
      | (go_at_call_of 83 (Value.int IntKind.i64 (4 : Int)); refine (F2.out _).mono ?_; rintro e w' ⟨rfl, rfl⟩)
      | fail)
    go_ret2
    exact ⟨none, 0, 0, rfl, by rw [hbo.out]; exact RB.nil _, hb1.out⟩
  · have hc1 : codeAsk t.ask = 0 := by unfold codeAsk; rw [if_pos hm]
    rw [hc1] at hCk
    cases h1 : fitsB t.result 1
    · have hmt : mayT t = false := by unfold mayT; rw [hm, hft, h1]; rfl
      rw [h1] at F1
      clear h hm hft hc1 h1
      have hbo := Lib.hid (show builtTold t = [] by unfold builtTold; rw [if_neg (by rw [hmt]; decide)])
      have hco := show codeTold t = 1 by unfold codeTold; rw [if_neg (by rw [hmt]; decide)]
      rw [hco]
      clear hco hmt
      go_enter Try.func37, Try.ntmps37
      go_wp2_with (first
        | (refine wpList_load_mid rfl 54 (.tmp 5) rfl w.heap.size 2 rfl (rowA t.ask) _ hmid.out Try.underlying54 rfl hi.out ?_)
        | (go_at_call 79; refine (hCk.out _).mono ?_; rintro e w1 ⟨rfl, hB1⟩; have hb1 := Lib.hid (hb.out.trans (hB1.mono hb.out.size)); have hk1 := Lib.hid (hk.out.to hB1); clear c0 c1; have c0 := hk1.out.cell 0 _ hr0.out; have c1 := hk1.out.cell 1 _ hr1.out; have c2 := fun o => (hk1.out.alloc o).cell 2 _ hr2.out; clear hB1)
        | (go_at_call_of 83 (Value.int IntKind.i64 (1 : Int)); refine (F1.out _).mono ?_; rintro e w' ⟨rfl, rfl⟩)
        | (go_at_call_of 83 (Value.int IntKind.i64 (4 : Int)); refine (F2.out _).mono ?_; rintro e w' ⟨rfl, rfl⟩)
        | fail)
      go_ret2
      exact ⟨none, 0, 0, rfl, by rw [hbo.out]; exact RB.nil _, hb1.out⟩
    · cases h2 : fitsB t.epoch 4
      · have hmt : mayT t = false := by unfold mayT; rw [hm, hft, h1, h2]; rfl
        rw [h1] at F1
        rw [h2] at F2
        clear h hm hft hc1 h1 h2
        have hbo := Lib.hid (show builtTold t = [] by unfold builtTold; rw [if_neg (by rw [hmt]; decide)])
        have hco := show codeTold t = 1 by unfold codeTold; rw [if_neg (by rw [hmt]; decide)]
        rw [hco]
        clear hco hmt
        go_enter Try.func37, Try.ntmps37
        go_wp2_with (first
          | (refine wpList_load_mid rfl 54 (.tmp 5) rfl w.heap.size 2 rfl (rowA t.ask) _ hmid.out Try.underlying54 rfl hi.out ?_)
          | (go_at_call 79; refine (hCk.out _).mono ?_; rintro e w1 ⟨rfl, hB1⟩; have hb1 := Lib.hid (hb.out.trans (hB1.mono hb.out.size)); have hk1 := Lib.hid (hk.out.to hB1); clear c0 c1; have c0 := hk1.out.cell 0 _ hr0.out; have c1 := hk1.out.cell 1 _ hr1.out; have c2 := fun o => (hk1.out.alloc o).cell 2 _ hr2.out; clear hB1)
          | (go_at_call_of 83 (Value.int IntKind.i64 (1 : Int)); refine (F1.out _).mono ?_; rintro e w' ⟨rfl, rfl⟩)
          | (go_at_call_of 83 (Value.int IntKind.i64 (4 : Int)); refine (F2.out _).mono ?_; rintro e w' ⟨rfl, rfl⟩)
          | fail)
        go_ret2
        exact ⟨none, 0, 0, rfl, by rw [hbo.out]; exact RB.nil _, hb1.out⟩
      · have hmt : mayT t = true := by unfold mayT; rw [hm, hft, h1, h2]; rfl
        have hbo := Lib.hid (show builtTold t = bytesTold t by unfold builtTold; rw [if_pos hmt])
        have hco := show codeTold t = 0 by unfold codeTold; rw [if_pos hmt]
        rw [hco]
        have hfl := Lib.hid (mayB_iff hm).1
        have f1 : fitsP t.result 1 := of_decide_eq_true h1
        have hfe := Lib.hid (show fitsP t.epoch 4 from of_decide_eq_true h2)
        have p0 := f1.2.1
        have p1 : t.result < 256 := by simpa using f1.2.2
        have hpm : t.result % 256 = t.result := Int.emod_eq_of_lt p0 p1
        have hba := Lib.hid (told_ref p0 p1)
        have hT := Lib.hid (fun A n c bs W hr hn => RefTail_any (rowA t.ask).toArray t.ask ⟨h, rfl⟩ hm A n c bs W hr hn)
        rw [h1] at F1
        rw [h2] at F2
        have hlit := Lib.hid (fun (W : World) => RB.lit W 5 [2, 129, 0, t.result] (fun z hz => by simp at hz; omega) (by simp))
        clear h hm hft hc1 h1 h2 hmt hco f1
        go_enter Try.func37, Try.ntmps37
        go_wp2_with (first
          | (refine wpList_load_mid rfl 54 (.tmp 5) rfl w.heap.size 2 rfl (rowA t.ask) _ hmid.out Try.underlying54 rfl hi.out ?_)
          | (go_at_call 79; refine (hCk.out _).mono ?_; rintro e w1 ⟨rfl, hB1⟩; have hb1 := Lib.hid (hb.out.trans (hB1.mono hb.out.size)); have hk1 := Lib.hid (hk.out.to hB1); clear c0 c1; have c0 := hk1.out.cell 0 _ hr0.out; have c1 := hk1.out.cell 1 _ hr1.out; have c2 := fun o => (hk1.out.alloc o).cell 2 _ hr2.out; clear hB1)
          | (go_at_call_of 83 (Value.int IntKind.i64 (1 : Int)); refine (F1.out _).mono ?_; rintro e w' ⟨rfl, rfl⟩)
          | (go_at_call_of 83 (Value.int IntKind.i64 (4 : Int)); refine (F2.out _).mono ?_; rintro e w' ⟨rfl, rfl⟩)
          | (go_at_call_of 80 (Value.slice (some ⟨w1.heap.size, 0, none⟩) 4 4); refine Calls.mono (RefPut_yes (some ⟨w1.heap.size, 0, none⟩) 4 4 [2, 129, 0, t.result] t.ask.life 4 _ (hlit.out w1) (by decide) hfl.out) ?_; rintro e w2 ⟨A2, n2c, rfl, ho2, hB2⟩; have hb2 := Lib.hid ((hb1.out.alloc hb1.out.size _).trans (hB2.mono (Nat.le_trans hb1.out.size (by simp)))); have hk2 := Lib.hid ((hk1.out.alloc _).to hB2); have hr2' := Lib.hid ho2.rb; clear c0 c1 c2; have c1 := hk2.out.cell 1 _ hr1.out; clear hB2 ho2)
          | (go_at_call 80; refine Calls.mono (RefPut_yes A2 (4 + 4) n2c _ t.epoch 4 _ hr2'.out (by decide) hfe.out) ?_; rintro e w3 ⟨A3, n3c, rfl, ho3, hB3⟩; have hb3 := Lib.hid (hb2.out.trans (hB3.mono hb2.out.size)); have hk3 := Lib.hid (hk2.out.to hB3); have ho3' := Lib.hid (ho3.mono (show w.heap.size + 1 ≤ _ from hk2.out.lt)); clear c1 hB3 ho3)
          | fail)
        have hN := Lib.hid (show w.heap.size + 1 ≤ w3.heap.size from hk3.out.lt)
        have hF := Lib.hid (fun W (h : Below (w.heap.size + 1) w3 W) => show W.rangeAt w.heap.size 2 (rowA t.ask) ∧ Below (w.heap.size + 1) w3 W from ⟨rowT_mid (hk3.out.below h (Nat.lt_succ_self _)), h⟩)
        refine wp_region_held_drew (S := fun W => W.rangeAt w.heap.size 2 (rowA t.ask) ∧ Below (w.heap.size + 1) w3 W) (by kernel_rfl) (hF.out _ (Below.refl _ w3).drew) (fun hHeld => ?_)
        refine take_h (i := 0) (v := ?_) rfl rfl (by kernel_rfl) (by kernel_rfl) (by kernel_rfl) (fun _ _ _ h => h) (Or.inl ⟨by rfl, fun W hSw => ?_⟩) (by assumption) ?_
        rotate_left
        · (clear hSw; go_simp; try with_reducible rfl)
        simp only [Act.put, List.setIfInBounds_toArray, List.set_cons_zero, List.set_cons_succ]
        refine take_h (i := 2) (v := ?_) rfl rfl (by kernel_rfl) (by kernel_rfl) (by kernel_rfl) (fun _ _ _ h => h) (Or.inl ⟨by rfl, fun W hSw => ?_⟩) (by assumption) ?_
        rotate_left
        · (clear hSw; go_simp; try with_reducible rfl)
        simp only [Act.put, List.setIfInBounds_toArray, List.set_cons_zero, List.set_cons_succ]
        refine take_h (i := 3) rfl rfl (by kernel_rfl) (by kernel_rfl) (by kernel_rfl) (fun _ _ _ h => h) (yieldsIf_load_mid (by rfl) 54 (.tmp 35) rfl _ _ rfl (rowA t.ask) _ (fun W hW => hW.1) Try.underlying54 rfl hi.out) (by assumption) ?_
        simp only [Act.put, List.setIfInBounds_toArray, List.set_cons_zero, List.set_cons_succ]
        refine step_h (i := 1) rfl rfl (by kernel_rfl) (fun K hK => ?_)
        refine step_append_zeros12 (A := A3) (n := 4 + 4 + 4) (c := n3c) (base := w.heap.size + 1) rfl (.tmp 33) rfl rfl (ho3'.out.below (Below.refl _ _).drew) (by decide) (by decide) (Nat.le_trans hN.out hHeld.2.size) ?_
        intro A4 c4 w4 ho4 hg4 _
        have hS4 := hF.out w4 (hHeld.2.grown hg4 (Nat.le_trans hN.out hHeld.2.size) (fun k hk => (ho3'.out.blk hk).1))
        have hr4 := Lib.hid ho4.rb
        clear hg4 hHeld ho4
        refine hK.out _ _ hS4 (fun hHeld => ?_)
        clear hK K
        try simp only [Act.put, List.setIfInBounds_toArray, List.set_cons_zero, List.set_cons_succ]
        refine step_h (i := 4) rfl rfl (by kernel_rfl) (fun K hK => ?_)
        go_simp
        refine Calls.mono (hT.out A4 (4 + 4 + 4 + 12) c4 _ w4 hr4.out (by decide)) ?_
        rintro e w5 ⟨A5, c5, rfl, ho5, hB5⟩
        have hS5 := hF.out _ (hS4.2.trans (hB5.mono (Nat.le_trans hN.out hS4.2.size)))
        have hB6 := Lib.hid hS5.2
        have hr5 := Lib.hid ho5.rb
        clear hB5 ho5 hHeld
        go_wp2_with fail
        refine hK.out _ _ hS5 (fun hHeld => ?_)
        clear hK K
        refine take_h (i := 5) (v := ?_) rfl rfl (by kernel_rfl) (by kernel_rfl) (by kernel_rfl) (fun _ _ _ h => h) (Or.inl ⟨by rfl, fun W hSw => ?_⟩) (by assumption) ?_
        rotate_left
        · (clear hSw; go_simp; try with_reducible rfl)
        simp only [Act.put, List.setIfInBounds_toArray, List.set_cons_zero, List.set_cons_succ]
        refine take_h (i := 6) (v := ?_) rfl rfl (by kernel_rfl) (by kernel_rfl) (by kernel_rfl) (fun _ _ _ h => h) (Or.inl ⟨by rfl, fun W hSw => ?_⟩) (by assumption) ?_
        rotate_left
        · (clear hSw; go_simp; try with_reducible rfl)
        simp only [Act.put, List.setIfInBounds_toArray, List.set_cons_zero, List.set_cons_succ]
        refine wpAnyH_done (by kernel_rfl) ?_ _
        clear hS5 hS4 hHeld hi
        go_wp2
        go_ret2
        refine ⟨A5, _, c5, rfl, ?_, hb3.out.trans (hB6.out.mono (Nat.le_succ _))⟩
        rw [hbo.out, hba.out]
        exact hr5.out
end Go.Proofs.Ytldjecilmcnpiaa
