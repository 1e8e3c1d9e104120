/- The laws of pcp: what is asked, and told, as the document has it (own, told): walks. -/
import Derived.Test.YtldjecilmcnpiaaPcpV
import Derived.Test.YtldjecilmcnpiaaPcpJ
set_option linter.unusedVariables false
namespace Go.Proofs.Ytldjecilmcnpiaa
open Go Go.RowKit

theorem built_own (life pr port outer addr : Int) (cl no : List Int) (h1 : cl.length = 16) (h2 : no.length = 12) : Try.prog.built 54 [(0, .int .i64 life), (1, .agg (u8s cl).toArray), (2, .agg (u8s no).toArray), (3, .int .i64 pr), (4, .int .i64 port), (5, .int .i64 outer), (6, .int .i64 addr)] = some (rowA ⟨life, cl, no, pr, port, outer, addr⟩).toArray := by
  revert no
  refine sixteen (P := fun cl => ∀ no : List Int, no.length = 12 → Try.prog.built 54 [(0, .int .i64 life), (1, .agg (u8s cl).toArray), (2, .agg (u8s no).toArray), (3, .int .i64 pr), (4, .int .i64 port), (5, .int .i64 outer), (6, .int .i64 addr)] = some (rowA ⟨life, cl, no, pr, port, outer, addr⟩).toArray) ?_ cl h1
  intro x0 x1 x2 x3 x4 x5 x6 x7 x8 x9 x10 x11 x12 x13 x14 x15
  refine twelve ?_
  intro y0 y1 y2 y3 y4 y5 y6 y7 y8 y9 y10 y11
  kernel_rfl
theorem built_rtold (x y life pr port outer addr : Int) (cl no : List Int) (h1 : cl.length = 16) (h2 : no.length = 12) : Try.prog.built 62 [(0, .int .i64 x), (1, .int .i64 y), (2, .agg (rowA ⟨life, cl, no, pr, port, outer, addr⟩).toArray)] = some (rowT ⟨x, y, ⟨life, cl, no, pr, port, outer, addr⟩⟩).toArray := by
  revert no
  refine sixteen (P := fun cl => ∀ no : List Int, no.length = 12 → Try.prog.built 62 [(0, .int .i64 x), (1, .int .i64 y), (2, .agg (rowA ⟨life, cl, no, pr, port, outer, addr⟩).toArray)] = some (rowT ⟨x, y, ⟨life, cl, no, pr, port, outer, addr⟩⟩).toArray) ?_ cl h1
  intro x0 x1 x2 x3 x4 x5 x6 x7 x8 x9 x10 x11 x12 x13 x14 x15
  refine twelve ?_
  intro y0 y1 y2 y3 y4 y5 y6 y7 y8 y9 y10 y11
  kernel_rfl
theorem info_12 : (Try.prog.info? 49).map (·.size) = some 12 := by kernel_rfl
set_option maxRecDepth 100000 in
set_option maxHeartbeats 2000000 in
theorem Own43_any (a : AskP) (h : AskOk a) (w : World) : Calls Try.prog 32 #[.agg (rowA a).toArray] w fun e w' => e = .returned (.agg (rowA a).toArray) ∧ Below w.heap.size w w' := by
  have hka : KA (rowA a).toArray a := ⟨h, rfl⟩
  have hk := (Blk.new w (rowA a).toArray 51).alloc (.cells zAc 54)
  have hz := Blk.new (w.alloc (.cells (rowA a).toArray 51)) zAc 54
  rw [World.size_alloc] at hz
  have hb := Lib.hid (((Below.refl _ w).alloc (Nat.le_refl _) (.cells (rowA a).toArray 51)).alloc (by simp) (.cells zAc 54))
  have c0 := hk.cell 0 _ hka.h0
  have c29 := hk.cell 29 _ hka.h29
  have c30 := hk.cell 30 _ hka.h30
  have c31 := hk.cell 31 _ hka.h31
  have c32 := hk.cell 32 _ hka.h32
  have hm1 := Lib.hid (show ((w.alloc (.cells (rowA a).toArray 51)).alloc (.cells zAc 54)).rangeAt w.heap.size 1 (u8s a.cl) from fun j v hj => by
    have hlt : j < 16 := by have := (List.getElem?_eq_some_iff.1 hj).1; rw [u8s_length, h.lc] at this; exact this
    rw [u8s_get a.cl j (by rw [h.lc]; exact hlt)] at hj
    rw [← hj]
    exact hk.cell _ _ (hka.hc j hlt))
  have hm2 := Lib.hid (show ((w.alloc (.cells (rowA a).toArray 51)).alloc (.cells zAc 54)).rangeAt w.heap.size 17 (u8s a.no) from fun j v hj => by
    have hlt : j < 12 := by have := (List.getElem?_eq_some_iff.1 hj).1; rw [u8s_length, h.ln] at this; exact this
    rw [u8s_get a.no j (by rw [h.ln]; exact hlt)] at hj
    rw [← hj]
    exact hk.cell _ _ (hka.hn j hlt))
  have hi1 := Lib.hid (show (Try.prog.info? 44).map (·.size) = some (u8s a.cl).length by rw [u8s_length, h.lc]; exact info_six)
  have hi2 := Lib.hid (show (Try.prog.info? 49).map (·.size) = some (u8s a.no).length by rw [u8s_length, h.ln]; exact info_12)
  have hsz := Lib.hid (rowA_size h)
  have hbt := Lib.hid (built_own a.life a.pr a.port a.outer a.addr a.cl a.no h.lc h.ln)
  replace hz := Lib.hid hz
  clear hk hka h
  obtain ⟨life, cl, no, pr, port, outer, addr⟩ := a
  dsimp only at *
  go_enter Try.func32, Try.ntmps32
  go_wp2_with (first
    | (refine wpList_load_mid rfl 44 (.tmp 5) rfl w.heap.size 1 rfl (u8s cl) _ hm1.out Try.underlying44 rfl hi1.out ?_)
    | (refine wpList_load_mid rfl 49 (.tmp 7) rfl w.heap.size 17 rfl (u8s no) _ hm2.out Try.underlying49 rfl hi2.out ?_)
    | (refine wpList_built (by rfl) 54 _ rfl [(0, .int .i64 life), (1, .agg (u8s cl).toArray), (2, .agg (u8s no).toArray), (3, .int .i64 pr), (4, .int .i64 port), (5, .int .i64 outer), (6, .int .i64 addr)] rfl (rowA ⟨life, cl, no, pr, port, outer, addr⟩).toArray hbt.out ?_)
    | (refine wpList_store_RK rfl (.tmp 2) (.tmp 17) rfl (w.heap.size + 1) (rowA ⟨life, cl, no, pr, port, outer, addr⟩).toArray rfl rfl zAc hz.out rfl hsz.out rowA_one ?_)
    | fail)
  exact bodyPost_ret (results_c Try.results32 rfl (run_load_RK ⟨setRow_heap _ _ _ _ _ _ hz.out.at_⟩ hsz.out)) rfl ⟨rfl, below_row hb.out (Nat.le_succ _) _⟩
set_option maxRecDepth 100000 in
set_option maxHeartbeats 2000000 in
theorem Told43_any (t : ToldP) (h : AskOk t.ask) (w : World) : Calls Try.prog 33 #[.agg (rowT t).toArray] w fun e w' => e = .returned (.agg (rowT t).toArray) ∧ Below w.heap.size w w' := by
  have hk := (Blk.new w (rowT t).toArray 58).alloc (.cells zTc 62)
  have hz := Blk.new (w.alloc (.cells (rowT t).toArray 58)) zTc 62
  rw [World.size_alloc] at hz
  have hb := ((Below.refl _ w).alloc (Nat.le_refl _) (.cells (rowT t).toArray 58)).alloc (by simp) (.cells zTc 62)
  obtain ⟨w0, hw0⟩ : ∃ w0, (w.alloc (.cells (rowT t).toArray 58)).alloc (.cells zTc 62) = w0 := ⟨_, rfl⟩
  rw [hw0] at hk hz hb
  have hO := Lib.hid (fun W => Own43_any t.ask h W)
  have hF := Lib.hid (fun W (hW : Below w0.heap.size w0 W) => show W.cell? ⟨w.heap.size, 0, none⟩ = some (.int .i64 t.result) ∧ W.cell? ⟨w.heap.size, 1, none⟩ = some (.int .i64 t.epoch) ∧ W.rangeAt w.heap.size 2 (rowA t.ask) from ⟨(hk.to hW).cell 0 _ rfl, (hk.to hW).cell 1 _ rfl, rowT_mid (hk.to hW)⟩)
  have hi := Lib.hid (show (Try.prog.info? 51).map (·.size) = some (rowA t.ask).length by rw [rowA_len h]; exact info_ask)
  have hsT := Lib.hid (rowT_size h)
  have hbt := Lib.hid (built_rtold t.result t.epoch t.ask.life t.ask.pr t.ask.port t.ask.outer t.ask.addr t.ask.cl t.ask.no h.lc h.ln)
  have hlt := Lib.hid (show w.heap.size < w0.heap.size from hk.lt)
  replace hk := Lib.hid hk
  replace hz := Lib.hid hz
  replace hb := Lib.hid hb
  replace hw0 := Lib.hid hw0
  clear h
  obtain ⟨result, epoch, a⟩ := t
  obtain ⟨life, cl, no, pr, port, outer, addr⟩ := a
  dsimp only at *
  go_enter Try.func33, Try.ntmps33
  go_wp2_with fail
  rw [hw0.out]
  refine wp_region_held_drew (S := fun W => W.cell? ⟨w.heap.size, 0, none⟩ = some (.int .i64 result) ∧ W.cell? ⟨w.heap.size, 1, none⟩ = some (.int .i64 epoch) ∧ W.rangeAt w.heap.size 2 (rowA ⟨life, cl, no, pr, port, outer, addr⟩)) (by kernel_rfl) (hF.out _ (Below.refl _ w0).drew) (fun hHeld => ?_)
  refine take_h (i := 0) (v := ?_) rfl rfl (by kernel_rfl) (by kernel_rfl) (by kernel_rfl) (fun _ _ _ h => h) (Or.inl ⟨by rfl, fun W hSw => ?_⟩) (by assumption) ?_
  rotate_left
  · (clear hSw; go_simp; try with_reducible rfl)
  simp only [Act.put, List.setIfInBounds_toArray, List.set_cons_zero, List.set_cons_succ]
  refine take_h (i := 1) (v := ?_) rfl rfl (by kernel_rfl) (by kernel_rfl) (by kernel_rfl) (fun _ _ _ h => h) (Or.inl ⟨by rfl, fun W hSw => ?_⟩) (by assumption) ?_
  rotate_left
  · (obtain ⟨hs0, _⟩ := hSw; go_simp; try with_reducible rfl)
  simp only [Act.put, List.setIfInBounds_toArray, List.set_cons_zero, List.set_cons_succ]
  refine take_h (i := 2) (v := ?_) rfl rfl (by kernel_rfl) (by kernel_rfl) (by kernel_rfl) (fun _ _ _ h => h) (Or.inl ⟨by rfl, fun W hSw => ?_⟩) (by assumption) ?_
  rotate_left
  · (clear hSw; go_simp; try with_reducible rfl)
  simp only [Act.put, List.setIfInBounds_toArray, List.set_cons_zero, List.set_cons_succ]
  refine take_h (i := 3) (v := ?_) rfl rfl (by kernel_rfl) (by kernel_rfl) (by kernel_rfl) (fun _ _ _ h => h) (Or.inl ⟨by rfl, fun W hSw => ?_⟩) (by assumption) ?_
  rotate_left
  · (obtain ⟨hs0, hs1⟩ := hSw; go_simp; try with_reducible rfl)
  simp only [Act.put, List.setIfInBounds_toArray, List.set_cons_zero, List.set_cons_succ]
  refine take_h (i := 4) (v := ?_) rfl rfl (by kernel_rfl) (by kernel_rfl) (by kernel_rfl) (fun _ _ _ h => h) (Or.inl ⟨by rfl, fun W hSw => ?_⟩) (by assumption) ?_
  rotate_left
  · (clear hSw; go_simp; try with_reducible rfl)
  simp only [Act.put, List.setIfInBounds_toArray, List.set_cons_zero, List.set_cons_succ]
  refine take_h (i := 5) rfl rfl (by kernel_rfl) (by kernel_rfl) (by kernel_rfl) (fun _ _ _ h => h) (yieldsIf_load_mid (by rfl) 51 (.tmp 7) rfl _ _ rfl (rowA ⟨life, cl, no, pr, port, outer, addr⟩) _ (fun W hW => hW.2.2) Try.underlying51 rfl hi.out) (by assumption) ?_
  simp only [Act.put, List.setIfInBounds_toArray, List.set_cons_zero, List.set_cons_succ]
  refine step_h (i := 6) rfl rfl (by kernel_rfl) (fun K hK => ?_)
  go_simp
  refine Calls.mono (hO.out _) ?_
  rintro e w2 ⟨rfl, hB2⟩
  have hB3 := Lib.hid ((Below.refl w0.heap.size w0).drew.trans hB2)
  have hS2 := hF.out _ hB3.out
  clear hB2 hHeld
  go_wp2_with fail
  refine hK.out _ _ hS2 (fun hHeld => ?_)
  clear hK K
  refine take_h (i := 7) rfl rfl (by kernel_rfl) (by kernel_rfl) (by kernel_rfl) (fun _ _ _ h => h) (yields_built (by rfl) 62 _ rfl ([(0, .int .i64 result), (1, .int .i64 epoch), (2, .agg (rowA ⟨life, cl, no, pr, port, outer, addr⟩).toArray)]) rfl _ (hbt.out)) (by assumption) ?_
  simp only [Act.put, List.setIfInBounds_toArray, List.set_cons_zero, List.set_cons_succ]
  refine step_h (i := 8) rfl rfl (by kernel_rfl) (fun K hK => ?_)
  rw [if_pos (by rfl)]
  refine wp_store_row 62 (.tmp 2) (.tmp 10) rfl (w.heap.size + 1) (rowT ⟨result, epoch, ⟨life, cl, no, pr, port, outer, addr⟩⟩).toArray rfl rfl 62 zTc (hz.out.to hB3.out).at_ (by rw [hsT.out]; exact info_told43) (by rw [hsT.out]; rfl) rowT_one ?_
  have hk3 : Blk (w2.setRow (w.heap.size + 1) (rowT ⟨result, epoch, ⟨life, cl, no, pr, port, outer, addr⟩⟩).toArray) w.heap.size (rowT ⟨result, epoch, ⟨life, cl, no, pr, port, outer, addr⟩⟩).toArray 58 := ⟨(row_ne _ _ _ _ (by omega)).trans (hk.out.to hB3.out).at_⟩
  have hS8 := Lib.hid (show (w2.setRow (w.heap.size + 1) (rowT ⟨result, epoch, ⟨life, cl, no, pr, port, outer, addr⟩⟩).toArray).cell? ⟨w.heap.size, 0, none⟩ = some (.int .i64 result) ∧ (w2.setRow (w.heap.size + 1) (rowT ⟨result, epoch, ⟨life, cl, no, pr, port, outer, addr⟩⟩).toArray).cell? ⟨w.heap.size, 1, none⟩ = some (.int .i64 epoch) ∧ (w2.setRow (w.heap.size + 1) (rowT ⟨result, epoch, ⟨life, cl, no, pr, port, outer, addr⟩⟩).toArray).rangeAt w.heap.size 2 (rowA ⟨life, cl, no, pr, port, outer, addr⟩) from ⟨hk3.cell 0 _ rfl, hk3.cell 1 _ rfl, rowT_mid hk3⟩)
  clear hk3 hHeld hS2
  refine hK.out _ _ hS8.out (fun hHeld => ?_)
  clear hK K
  simp only [Act.put]
  refine wpAnyH_done (by kernel_rfl) ?_ _
  clear hHeld
  go_wp2
  exact bodyPost_ret (results_c Try.results33 rfl (run_load_RT ⟨setRow_heap _ _ _ _ _ _ (hz.out.to hB3.out).at_⟩ hsT.out)) rfl ⟨rfl, below_row (hb.out.trans (hB3.out.mono (Nat.le_of_lt hlt.out))) (Nat.le_succ _) _⟩
end Go.Proofs.Ytldjecilmcnpiaa
