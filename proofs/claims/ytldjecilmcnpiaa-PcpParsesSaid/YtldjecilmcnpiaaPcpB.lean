/- The bytes of what is asked, and told (pcp): walks of Build, Answer. -/
import Derived.Test.YtldjecilmcnpiaaPcpA
import Derived.Test.YtldjecilmcnpiaaHand
set_option linter.unusedVariables false
namespace Go.Proofs.Ytldjecilmcnpiaa
open Go Go.RowKit

def headF (a : AskP) : List (Int × Nat) := [(2, 1), (1, 1), (0, 2), (a.life, 4)]
def bytesAsk (a : AskP) : List Int := putL (headF a) ++ a.cl ++ tailL a
theorem headF_fits {a : AskP} (h : mayB a = true) : ∀ p ∈ headF a, fitsP p.1 (p.2 : Int) := by
  obtain ⟨h1, h2, h3, h4, h5⟩ := mayB_iff h
  intro p hp
  simp only [headF, List.mem_cons, List.not_mem_nil, or_false] at hp
  rcases hp with rfl | rfl | rfl | rfl
  · exact ⟨by decide, by decide, by decide⟩
  · exact ⟨by decide, by decide, by decide⟩
  · exact ⟨by decide, by decide, by decide⟩
  · exact h1
theorem headF_len (a : AskP) : (putL (headF a)).length = 8 := by simp [headF, putL, digL_length]
def codeAsk (a : AskP) : Int := if mayB a = true then 0 else 1
def builtAsk (a : AskP) : List Int := if mayB a = true then bytesAsk a else []
set_option maxRecDepth 100000 in
set_option maxHeartbeats 2000000 in
theorem PcpBuild_any (a : AskP) (h : AskOk a) (w : World) : Calls Try.prog 34 #[.agg (rowA a).toArray] w (TwoOut w (builtAsk a) (codeAsk a)) := by
  have hk := Lib.hid (Blk.new w (rowA a).toArray 51)
  have hb := Lib.hid ((Below.refl _ w).alloc (Nat.le_refl _) (.cells (rowA a).toArray 51))
  have hsz := Lib.hid (rowA_size h)
  have hMay := Lib.hid (fun W => May_any (rowA a).toArray a ⟨h, rfl⟩ W)
  have hbo := Lib.hid (show builtAsk a = if mayB a = true then bytesAsk a else [] from rfl)
  have hco := Lib.hid (show codeAsk a = if mayB a = true then 0 else 1 from rfl)
  cases hm : mayB a
  · rw [hm] at hMay hbo hco
    go_enter Try.func34, Try.ntmps34
    go_wp2_with (first
      | (refine wpList_load_K rfl (.tmp 1) rfl w.heap.size rfl (rowA a).toArray hk.out hsz.out ?_)
      | (go_at_call 76; refine (hMay.out _).mono ?_; rintro e w1 ⟨rfl, hB1⟩; have hb1 := Lib.hid (hb.out.trans (hB1.mono hb.out.size)); clear hB1)
      | fail)
    go_ret2
    exact ⟨none, 0, 0, by rw [hco.out]; rfl, by rw [hbo.out]; exact RB.nil _, hb1.out⟩
  · have hfit := Lib.hid (headF_fits hm)
    have hT := Lib.hid (fun A n c bs base W ho hb hn => Tail_any (rowA a).toArray a ⟨h, rfl⟩ hm A n c bs base W ho hb hn)
    rw [hm] at hMay hbo hco
    have hhl := Lib.hid (headF_len a)
    have hcl := Lib.hid (fun W (k : Blk W w.heap.size (rowA a).toArray 51) => KA.rbc (W := W) (B := w.heap.size) (off := 0) (⟨h, rfl⟩ : KA (rowA a).toArray a) k.lt (fun j v hj => by rw [Nat.zero_add]; exact k.cell j v hj))
    have hcc := Lib.hid h.lc
    have hba := Lib.hid (show bytesAsk a = putL (headF a) ++ a.cl ++ tailL a from rfl)
    have hbal := Lib.hid (tailL_len h)
    have c0 := hk.out.cell 0 _ (show (rowA a).toArray[0]? = some (.int .i64 a.life) from rfl)
    have hFP := Lib.hid (fun (W : World) => show FR (W.alloc (.cells #[.int .i64 2, .int .i64 1, .int .i64 1, .int .i64 1, .int .i64 0, .int .i64 2, .int .i64 a.life, .int .i64 4] 116)) (some ⟨W.heap.size, 0, none⟩) 4 4 (headF a) from FR.at_ W 116 (headF a) _ rfl)
    have hu := Try.underlying51
    have hi : (Try.prog.info? 51).map (·.size) = some (rowA a).length := by rw [rowA_len h]; exact info_ask
    clear h hm
    replace hi := Lib.hid hi
    go_enter Try.func34, Try.ntmps34
    go_wp2_with (first
      | (refine wpList_load_K rfl (.tmp 1) rfl w.heap.size rfl (rowA a).toArray hk.out hsz.out ?_)
      | (go_at_call 76; refine (hMay.out _).mono ?_; rintro e w1 ⟨rfl, hB1⟩; have hb1 := Lib.hid (hb.out.trans (hB1.mono hb.out.size)); have hk1 := Lib.hid (hk.out.to hB1); clear c0; have c0 := hk1.out.cell 0 _ (show (rowA a).toArray[0]? = some (.int .i64 a.life) from rfl); clear hB1)
      | (go_at_call 77; refine Calls.mono (PutL_any none 0 0 [] (some ⟨w1.heap.size, 0, none⟩) 4 4 (headF a) _ (RB.nil _) (hFP.out w1) (by decide) (by decide) (by decide) hfit.out) ?_; rintro e w2 ⟨A2, c2, rfl, ho2, hB2⟩; have hb2 := Lib.hid ((hb1.out.alloc hb1.out.size _).trans (hB2.mono (Nat.le_trans hb1.out.size (by simp)))); have hk2 := Lib.hid ((hk1.out.alloc _).to hB2); have ho2' := Lib.hid (ho2.mono (show w.heap.size + 1 ≤ _ from Nat.le_trans hk1.out.lt (by simp))); clear hB2 ho2)
      | fail)
    have ho3 := ho2'.out
    simp only [hhl.out, Nat.zero_add, List.nil_append] at ho3 ⊢
    replace ho3 := Lib.hid ho3
    replace ho2' := 0
    have hN := Lib.hid (show w.heap.size + 1 ≤ w2.heap.size from hk2.out.lt)
    have hF := Lib.hid (fun W (h : Below (w.heap.size + 1) w2 W) => show W.rangeAt w.heap.size 0 (rowA a) ∧ Below (w.heap.size + 1) w2 W from ⟨fun j v hj => by rw [Nat.zero_add]; exact (hk2.out.below h (Nat.lt_succ_self _)).cell j v (by rw [List.getElem?_toArray]; exact hj), h⟩)
    have hS0 := Lib.hid (hF.out _ (Below.refl _ w2).drew)
    have hto := Lib.hid (fun W W' (h : W.rangeAt w.heap.size 0 (rowA a) ∧ Below (w.heap.size + 1) w2 W) (hb : Below (w.heap.size + 1) W W') => hF.out W' (h.2.trans hb))
    have hrc := Lib.hid (fun W (h : W.rangeAt w.heap.size 0 (rowA a) ∧ Below (w.heap.size + 1) w2 W) => hcl.out W (hk2.out.below h.2 (Nat.lt_succ_self _)))
    have hle := Lib.hid (fun W (h : W.rangeAt w.heap.size 0 (rowA a) ∧ Below (w.heap.size + 1) w2 W) => Nat.le_trans hN.out h.2.size)
    have hgb := Lib.hid (fun W' (hg : w2.drew.grownBy W' (ownBlk A2)) => (Below.refl (w.heap.size + 1) w2.drew).grown hg hN.out (fun k hk => (ho3.out.blk hk).1))
    refine wp_region_held_drew (S := fun W => W.rangeAt w.heap.size 0 (rowA a) ∧ Below (w.heap.size + 1) w2 W) (by kernel_rfl) hS0.out (fun hHeld => ?_)
    refine take_h (i := 0) rfl rfl (by kernel_rfl) (by kernel_rfl) (by kernel_rfl) (fun _ _ _ h => h) (yieldsIf_load_mid (by rfl) 51 (.tmp 1) rfl _ _ rfl (rowA a) _ (fun W hW => hW.1) Try.underlying51 rfl hi.out) (by assumption) ?_
    simp only [Act.put, List.setIfInBounds_toArray, List.set_cons_zero, List.set_cons_succ]
    refine take_h (i := 1) (v := ?_) rfl rfl (by kernel_rfl) (by kernel_rfl) (by kernel_rfl) (fun _ _ _ h => h) (Or.inl ⟨by rfl, fun W hSw => ?_⟩) (by assumption) ?_
    rotate_left
    · (clear hSw; go_simp; try with_reducible rfl)
    simp only [Act.put, List.setIfInBounds_toArray, List.set_cons_zero, List.set_cons_succ]
    refine take_h (i := 2) (v := ?_) rfl rfl (by kernel_rfl) (by kernel_rfl) (by kernel_rfl) (fun _ _ _ h => h) (Or.inl ⟨by rfl, fun W hSw => ?_⟩) (by assumption) ?_
    rotate_left
    · (clear hSw; go_simp; try with_reducible rfl)
    simp only [Act.put, List.setIfInBounds_toArray, List.set_cons_zero, List.set_cons_succ]
    refine take_h (i := 3) (v := ?_) rfl rfl (by kernel_rfl) (by kernel_rfl) (by kernel_rfl) (fun _ _ _ h => h) (Or.inl ⟨by rfl, fun W hSw => ?_⟩) (by assumption) ?_
    rotate_left
    · (clear hSw; go_simp; try with_reducible rfl)
    simp only [Act.put, List.setIfInBounds_toArray, List.set_cons_zero, List.set_cons_succ]
    refine step_h (i := 4) rfl rfl (by kernel_rfl) (fun K hK => ?_)
    refine step_append_bytes (A := A2) (n := 8) (c := c2) (A' := some ⟨w.heap.size, 0 + 1, none⟩) (m := 16) (c' := 16) (base := w.heap.size + 1) (bs := putL (headF a)) (ys := a.cl) rfl (.tmp 17) (.tmp 19) rfl rfl rfl ho3.out.drew (hrc.out _ hHeld) (by decide) (hle.out _ hHeld) ?_
    intro A3 c3 w3 ho3' hg3 hr3
    have hS3 := hto.out _ w3 hHeld (hgb.out _ hg3)
    replace ho3' := Lib.hid ho3'
    clear hg3 hr3 hHeld
    refine hK.out _ _ hS3 (fun hHeld => ?_)
    clear hK K
    try simp only [Act.put, List.setIfInBounds_toArray, List.set_cons_zero, List.set_cons_succ]
    refine step_h (i := 5) rfl rfl (by kernel_rfl) (fun K hK => ?_)
    go_simp
    refine Calls.mono (hT.out A3 (8 + 16) c3 _ (w.heap.size + 1) w3 ho3'.out (hle.out _ hS3) (by decide)) ?_
    rintro e w4 ⟨A4, c4, rfl, ho4, hB4⟩
    have hS4 := hto.out _ _ hS3 hB4
    have hB5 := Lib.hid hS4.2
    clear hB4
    go_wp2_with fail
    refine hK.out _ _ hS4 (fun hHeld => ?_)
    clear hK K
    try simp only [Act.put, List.setIfInBounds_toArray, List.set_cons_zero, List.set_cons_succ]
    refine take_h (i := 6) (v := ?_) rfl rfl (by kernel_rfl) (by kernel_rfl) (by kernel_rfl) (fun _ _ _ h => h) (Or.inl ⟨by rfl, fun W hSw => ?_⟩) (by assumption) ?_
    rotate_left
    · (clear hSw; go_simp; try with_reducible rfl)
    simp only [Act.put, List.setIfInBounds_toArray, List.set_cons_zero, List.set_cons_succ]
    refine take_h (i := 7) (v := ?_) rfl rfl (by kernel_rfl) (by kernel_rfl) (by kernel_rfl) (fun _ _ _ h => h) (Or.inl ⟨by rfl, fun W hSw => ?_⟩) (by assumption) ?_
    rotate_left
    · (clear hSw; go_simp; try with_reducible rfl)
    simp only [Act.put, List.setIfInBounds_toArray, List.set_cons_zero, List.set_cons_succ]
    refine wpAnyH_done (by kernel_rfl) ?_ _
    clear hS4 hS3 hHeld hi
    replace ho4 := Lib.hid ho4
    go_wp2
    go_ret2
    refine ⟨A4, _, c4, by rw [hco.out]; rfl, ?_, hb2.out.trans (hB5.out.mono (Nat.le_succ _))⟩
    rw [hbo.out]
    have := ho4.out.rb
    exact this
end Go.Proofs.Ytldjecilmcnpiaa
