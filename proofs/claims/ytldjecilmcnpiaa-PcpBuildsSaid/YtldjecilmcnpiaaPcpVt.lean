/- The bytes of what is asked (the reference of pcp): walk of tail. -/
import Derived.Test.YtldjecilmcnpiaaPcpV
import Derived.Deep.DeepCutAuto
set_option linter.unusedVariables false
namespace Go.Proofs.Ytldjecilmcnpiaa
open Go Go.RowKit

theorem tail_form {a : AskP} (h0 : 0 ≤ a.pr) (h1 : a.pr < 256) : tailL a = a.no ++ [a.pr, 0, 0, 0] ++ digL a.port 2 ++ digL a.outer 2 ++ mapL a.addr := by
  have e1 : digL a.pr 1 = [a.pr] := by simp [digL, List.range_succ]; omega
  have e2 : digL 0 3 = [0, 0, 0] := by decide
  simp [tailL, putL, tailF, e1, e2]
set_option maxRecDepth 100000 in
set_option maxHeartbeats 2000000 in
theorem RefTail_any (P : Array Value) (a : AskP) (h : KA P a) (hmay : mayB a = true) (A : Option Addr) (n c : Nat) (bs : List Int) (w : World) (hr : RB w A n c bs) (hn : n ≤ 500) :
    Calls Try.prog 81 #[.slice A n c, .agg P] w (Fresh w (n + 36) (bs ++ tailL a)) := by
  obtain ⟨m1, m2, m3, m4, m5⟩ := mayB_iff hmay
  have p0 := m2.2.1
  have p1 : a.pr < 256 := by simpa using m2.2.2
  have hpm : a.pr % 256 = a.pr := Int.emod_eq_of_lt p0 p1
  have htl := Lib.hid (tail_form p0 p1)
  have hsix := Lib.hid (mapL_six a.addr)
  have hM := Lib.hid (fun W => RefMapped_any a.addr W)
  have hno := Lib.hid h.ok.ln
  have m3 := Lib.hid m3
  have m4 := Lib.hid m4
  have hlit := Lib.hid (fun (W : World) => RB.lit W 5 [a.pr, 0, 0, 0] (fun z hz => by simp at hz; omega) (by simp))
  have hk0 := Blk.new w P 54
  have hw1 : (w.alloc (.cells P 54)).heap.size = w.heap.size + 1 := by simp
  obtain ⟨w0, hw0⟩ : ∃ w0, w.alloc (.cells P 54) = w0 := ⟨_, rfl⟩
  have hb0 : Below w.heap.size w w0 := by rw [← hw0]; exact (Below.refl _ w).alloc (Nat.le_refl _) _
  rw [hw0] at hk0 hw1
  have hlt := Lib.hid (show w.heap.size < w0.heap.size by omega)
  clear hw1
  have hcell := Lib.hid (fun W (hW : Below w0.heap.size w0 W) => show (W.cell? ⟨w.heap.size, 29, none⟩ = some (.int .i64 a.pr) ∧ W.cell? ⟨w.heap.size, 32, none⟩ = some (.int .i64 a.addr)) ∧ (W.cell? ⟨w.heap.size, 30, none⟩ = some (.int .i64 a.port) ∧ W.cell? ⟨w.heap.size, 31, none⟩ = some (.int .i64 a.outer)) from
    have k := hk0.to hW
    ⟨⟨k.cell 29 _ h.h29, k.cell 32 _ h.h32⟩, k.cell 30 _ h.h30, k.cell 31 _ h.h31⟩)
  have hnon := Lib.hid (fun W (hW : Below w0.heap.size w0 W) => h.rbn (off := 0) (hk0.to hW).lt (fun j v hj => by rw [Nat.zero_add]; exact (hk0.to hW).cell j v hj))
  have hr0 := Lib.hid (hr.below hb0)
  have hnc := Lib.hid hr.len
  replace hb0 := Lib.hid hb0
  clear h hmay hk0 m1 m2 m5 hr
  obtain ⟨life, cl, no, pr, port, outer, addr⟩ := a
  dsimp only at *
  generalize mapL addr = M at *
  go_enter Try.func81, Try.ntmps81
  go_wp2_with fail
  clear hw0
  refine wp_region_held_drew (S := fun W => Below w0.heap.size w0 W) (by kernel_rfl) (Below.refl _ _).drew (fun hHeld => ?_)
  refine take_h (i := 0) (v := ?_) rfl rfl (by kernel_rfl) (by kernel_rfl) (by kernel_rfl) (fun _ _ _ h => h) (Or.inl ⟨by rfl, fun W hSw => ?_⟩) (by assumption) ?_
  rotate_left
  · (clear hSw; go_simp; try with_reducible rfl)
  simp only [Act.put, List.setIfInBounds_toArray, List.set_cons_zero, List.set_cons_succ]
  refine take_h (i := 2) (v := ?_) rfl rfl (by kernel_rfl) (by kernel_rfl) (by kernel_rfl) (fun _ _ _ h => h) (Or.inl ⟨by rfl, fun W hSw => ?_⟩) (by assumption) ?_
  rotate_left
  · (clear hSw; go_simp; try with_reducible rfl)
  simp only [Act.put, List.setIfInBounds_toArray, List.set_cons_zero, List.set_cons_succ]
  refine take_h (i := 3) (v := ?_) rfl rfl (by kernel_rfl) (by kernel_rfl) (by kernel_rfl) (fun _ _ _ h => h) (Or.inl ⟨by rfl, fun W hSw => ?_⟩) (by assumption) ?_
  rotate_left
  · (clear hSw; go_simp; try with_reducible rfl)
  simp only [Act.put, List.setIfInBounds_toArray, List.set_cons_zero, List.set_cons_succ]
  refine step_h (i := 1) rfl rfl (by kernel_rfl) (fun K hK => ?_)
  refine step_append_bytes (A := none) (n := 0) (c := 0) (A' := A) (m := n) (c' := c) (base := w0.heap.size) (bs := []) (ys := bs) rfl (.const (.slice none 0 0)) (.tmp 6) rfl rfl rfl (OB.nil _ _) (hr0.out.below hHeld) (by omega) hHeld.size ?_
  intro A1 c1 w1 ho1 hg1 _
  have hS1 := hHeld.grown hg1 hHeld.size (fun k hk => by simp [ownBlk] at hk)
  simp only [List.nil_append, Nat.zero_add] at ho1 ⊢
  replace ho1 := Lib.hid ho1
  clear hg1 hHeld
  refine hK.out _ _ hS1 (fun hHeld => ?_)
  clear hK K
  try simp only [Act.put, List.setIfInBounds_toArray, List.set_cons_zero, List.set_cons_succ]
  refine step_h (i := 4) rfl rfl (by kernel_rfl) (fun K hK => ?_)
  refine step_append_bytes (A := A1) (n := n) (c := c1) (A' := some ⟨w.heap.size, 0 + 17, none⟩) (m := 12) (c' := 12) (base := w0.heap.size) (bs := bs) (ys := no) rfl (.tmp 7) (.tmp 9) rfl rfl rfl ho1.out (hnon.out _ hHeld) (by omega) hHeld.size ?_
  intro A2 c2 w2 ho2 hg2 _
  have hS2 := hHeld.grown hg2 hHeld.size (fun k hk => (ho1.out.blk hk).1)
  replace ho2 := Lib.hid ho2
  clear hg2 hHeld
  replace ho1 := 0
  refine hK.out _ _ hS2 (fun hHeld => ?_)
  clear hK K
  try simp only [Act.put, List.setIfInBounds_toArray, List.set_cons_zero, List.set_cons_succ]
  refine take_h (i := 5) (v := ?_) rfl rfl (by kernel_rfl) (by kernel_rfl) (by kernel_rfl) (fun _ _ _ h => h) (Or.inl ⟨by rfl, fun W hSw => ?_⟩) (by assumption) ?_
  rotate_left
  · (clear hSw; go_simp; try with_reducible rfl)
  simp only [Act.put, List.setIfInBounds_toArray, List.set_cons_zero]
  refine wpAnyH_done (by kernel_rfl) ?_ _
  clear hHeld hS1
  have hS2' := Lib.hid hS2
  obtain ⟨⟨c29, c32⟩, c30, c31⟩ := hcell.out _ hS2
  clear hS2
  have hoL := Lib.hid (fun o => ho2.out.alloc o)
  go_wp2_with (first
    | (at_builtin; refine wpList_append_bytes _ rfl (.tmp 11) (.tmp 15) rfl rfl rfl (hoL.out _) (hlit.out _) (by simp; omega) (Nat.le_trans hS2'.out.size (by simp)) ?_; intro A3 c3 w3 ho3 hg3 _; have hS3 := Lib.hid ((hS2'.out.alloc hS2'.out.size _).grown hg3 (Nat.le_trans hS2'.out.size (by simp)) (fun k hk => (ho2.out.blk hk).1)); replace ho3 := Lib.hid ho3; clear hg3 c29 c30 c31 c32)
    | fail)
  have hc3 := Lib.hid (fun W (hW : Below w0.heap.size w0 W) => show W.cell? ⟨w.heap.size, 30, none⟩ = some (.int .i64 port) ∧ W.cell? ⟨w.heap.size, 31, none⟩ = some (.int .i64 outer) ∧ Below w0.heap.size w0 W from ⟨(hcell.out W hW).2.1, (hcell.out W hW).2.2, hW⟩)
  have hr3 := Lib.hid (ho3.out.rb.below (Below.refl _ w3).drew)
  replace hoL := 0
  replace hS2' := 0
  replace ho3 := 0
  refine wp_region_held_drew (S := fun W => W.cell? ⟨w.heap.size, 30, none⟩ = some (.int .i64 port) ∧ W.cell? ⟨w.heap.size, 31, none⟩ = some (.int .i64 outer) ∧ Below w0.heap.size w0 W) (by kernel_rfl) (hc3.out _ hS3.out.drew) (fun hHeld => ?_)
  refine take_h (i := 0) (v := ?_) rfl rfl (by kernel_rfl) (by kernel_rfl) (by kernel_rfl) (fun _ _ _ h => h) (Or.inl ⟨by rfl, fun W hSw => ?_⟩) (by assumption) ?_
  rotate_left
  · (clear hSw; go_simp; try with_reducible rfl)
  simp only [Act.put, List.setIfInBounds_toArray, List.set_cons_zero, List.set_cons_succ]
  refine take_h (i := 1) (v := ?_) rfl rfl (by kernel_rfl) (by kernel_rfl) (by kernel_rfl) (fun _ _ _ h => h) (Or.inl ⟨by rfl, fun W hSw => ?_⟩) (by assumption) ?_
  rotate_left
  · (clear hSw; go_simp; try with_reducible rfl)
  simp only [Act.put, List.setIfInBounds_toArray, List.set_cons_zero, List.set_cons_succ]
  refine take_h (i := 2) (v := ?_) rfl rfl (by kernel_rfl) (by kernel_rfl) (by kernel_rfl) (fun _ _ _ h => h) (Or.inl ⟨by rfl, fun W hSw => ?_⟩) (by assumption) ?_
  rotate_left
  · (obtain ⟨hs0, hs1⟩ := hSw; go_simp; try with_reducible rfl)
  simp only [Act.put, List.setIfInBounds_toArray, List.set_cons_zero, List.set_cons_succ]
  refine take_h (i := 4) (v := ?_) rfl rfl (by kernel_rfl) (by kernel_rfl) (by kernel_rfl) (fun _ _ _ h => h) (Or.inl ⟨by rfl, fun W hSw => ?_⟩) (by assumption) ?_
  rotate_left
  · (clear hSw; go_simp; try with_reducible rfl)
  simp only [Act.put, List.setIfInBounds_toArray, List.set_cons_zero, List.set_cons_succ]
  refine take_h (i := 5) (v := ?_) rfl rfl (by kernel_rfl) (by kernel_rfl) (by kernel_rfl) (fun _ _ _ h => h) (Or.inl ⟨by rfl, fun W hSw => ?_⟩) (by assumption) ?_
  rotate_left
  · (obtain ⟨hs0, hs1⟩ := hSw; go_simp; try with_reducible rfl)
  simp only [Act.put, List.setIfInBounds_toArray, List.set_cons_zero, List.set_cons_succ]
  refine step_h (i := 3) rfl rfl (by kernel_rfl) (fun K hK => ?_)
  go_simp
  refine Calls.mono (RefPut_yes A3 (n + 12 + 4) c3 _ port 2 _ hr3.out (by omega) m3.out) ?_
  rintro e w4 ⟨A4, c4, rfl, ho4, hB4⟩
  have hS4 := hc3.out _ (hHeld.2.2.trans (hB4.mono hHeld.2.2.size))
  have hr4 := Lib.hid ho4.rb
  clear hB4 ho4 hHeld
  go_wp2_with fail
  refine hK.out _ _ hS4 (fun hHeld => ?_)
  clear hK K
  try simp only [Act.put, List.setIfInBounds_toArray, List.set_cons_zero, List.set_cons_succ]
  refine step_h (i := 6) rfl rfl (by kernel_rfl) (fun K hK => ?_)
  go_simp
  refine Calls.mono (RefPut_yes A4 (n + 12 + 4 + 2) c4 _ outer 2 _ hr4.out (by omega) m4.out) ?_
  rintro e w5 ⟨A5, c5, rfl, ho5, hB5⟩
  have hS5 := hc3.out _ (hS4.2.2.trans (hB5.mono hS4.2.2.size))
  have ho5' := Lib.hid (ho5.mono (base' := w0.heap.size) hS4.2.2.size)
  clear hB5 ho5 hHeld
  go_wp2_with fail
  refine hK.out _ _ hS5 (fun hHeld => ?_)
  clear hK K
  try simp only [Act.put, List.setIfInBounds_toArray, List.set_cons_zero, List.set_cons_succ]
  refine take_h (i := 7) (v := ?_) rfl rfl (by kernel_rfl) (by kernel_rfl) (by kernel_rfl) (fun _ _ _ h => h) (Or.inl ⟨by rfl, fun W hSw => ?_⟩) (by assumption) ?_
  rotate_left
  · (clear hSw; go_simp; try with_reducible rfl)
  simp only [Act.put, List.setIfInBounds_toArray, List.set_cons_zero]
  refine wpAnyH_done (by kernel_rfl) ?_ _
  clear hHeld hS4
  have hS6 := Lib.hid hS5.2.2
  have c32 := (hcell.out _ hS6.out).1.2
  clear hS5
  go_upto_region 5 with (first
    | (go_at_call 39; refine (hM.out _).mono ?_; rintro e w6 ⟨rfl, hB6⟩; have ho6 := Lib.hid (ho5'.out.below hB6); have hS7 := Lib.hid (hS6.out.trans (hB6.mono hS6.out.size)); clear hB6)
    | (refine wpList_store_S6 rfl (.tmp 5) (.tmp 26) rfl w6.heap.size (cells6 M) rfl rfl z6c (Blk.new w6 z6c 44) rfl (by simp [u8s_length, hsix.out.len]) (u8s_all M) ?_)
    | fail)
  obtain ⟨w7, hw7⟩ : ∃ w7, (w6.alloc (.cells z6c 44)).setRow w6.heap.size (cells6 M) = w7 := ⟨_, rfl⟩
  have k7 : Blk w7 w6.heap.size (cells6 M) 44 := by rw [← hw7]; exact ⟨setRow_heap _ _ _ _ _ _ (Blk.new w6 z6c 44).at_⟩
  have hb67 : Below w6.heap.size w6 w7 := by rw [← hw7]; exact below_row ((Below.refl _ w6).alloc (Nat.le_refl _) _) (Nat.le_refl _) _
  have ho7 := Lib.hid (ho6.out.below hb67)
  have hM7 := Lib.hid (rb_box k7 hsix.out)
  have hS8 := Lib.hid (hS7.out.trans (hb67.mono hS7.out.size))
  rw [hw7]
  clear hw7 k7 hb67 c32
  go_wp2_with (first
    | (at_builtin; refine wpList_append_bytes _ rfl (.tmp 27) (.tmp 28) rfl rfl rfl ho7.out hM7.out (by omega) hS8.out.size ?_; intro A9 c9 w9 ho9 hg9 _; have hS9 := Lib.hid (hS8.out.grown hg9 hS8.out.size (fun k hk => (ho7.out.blk hk).1)); replace ho9 := Lib.hid ho9; clear hg9)
    | fail)
  go_ret
  refine ⟨A9, c9, by first | rfl | simp, ?_, hb0.out.trans (hS9.out.mono (Nat.le_of_lt hlt.out))⟩
  rw [htl.out]
  have := ho9.out.mono (base' := w.heap.size) (Nat.le_of_lt hlt.out)
  simpa using this
end Go.Proofs.Ytldjecilmcnpiaa
