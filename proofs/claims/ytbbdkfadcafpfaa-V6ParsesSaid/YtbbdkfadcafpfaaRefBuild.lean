/- Packets of IPv6 (the reference): walk of Build. -/
import Derived.Test.YtbbdkfadcafpfaaV6B
import Derived.Test.YtbbdkfadcafpfaaHeld
set_option linter.unusedVariables false
namespace Go.Proofs.Ytbbdkfadcafpfaa
open Go.RowKit

theorem enters_RefPut (args : Array Value) (w : World) : (callFunc 51 args).run Try.prog w = .ok (.enter 51 args) w :=
  enters Try.func51 (by kernel_rfl) (by kernel_rfl) args w

set_option maxRecDepth 100000 in
set_option maxHeartbeats 2000000 in
theorem RefV6Build_any (P : Array Value) (p : V6P) (A : Option Addr) (n c : Nat) (w : World) (h : V6V P p A n c) (hd : RB w A n c p.data) :
    Calls Try.prog 15 #[.agg P] w (TwoOut w (if checkV p n = 0 then bytesV p else []) (checkV p n)) := by
  have hck := RefV6Check_any P p A n c
  have hsz := h.size
  have hg1 : (w.alloc (.cells P 26)).heap[w.heap.size]? = some (.cells P 26) := World.alloc_heap_new w _
  have hiv : (Try.prog.info? 26).map (·.size) = some P.size := by rw [hsz]; exact info_v6
  replace hg1 := Lib.hid hg1
  replace hiv := Lib.hid hiv
  have hvb := Lib.hid (VBox.new w P 26)
  have hb0 := Lib.hid ((Below.refl _ w).alloc (Nat.le_refl _) (.cells P 26))
  by_cases hok : checkV p n = 0
  · rw [if_pos hok]
    obtain ⟨⟨ht0, ht1⟩, ⟨hn0, hn1⟩, ⟨hp0, hp1⟩, ⟨hf0, hf1⟩, hn⟩ := checkV_ok hok
    rw [hok]
    rw [hok] at hck
    have hV := Lib.hid h
    clear h hsz
    go_enter Try.func15, Try.ntmps15
    go_wp2_with (first
      | (go_at_call 20; refine (hck _ hV.out).mono ?_; rintro e w1 ⟨rfl, hB1⟩; have hv1 := hvb.out.below hB1 (by simp); have c0 := hv1.at_ _ _ hV.out.h0; have c1 := hv1.at_ _ _ hV.out.h1; replace hv1 := Lib.hid hv1)
      | (refine wpList_load_row rfl 26 (.tmp 1) rfl w.heap.size rfl _ P _ _ hg1.out Try.underlying26 rfl hiv.out ?_)
      | (go_at_call_of 51 (Value.int IntKind.i64 (4 : Int)); refine (RefPut_yes none 0 0 [] _ 4 _ (RB.nil _) (by omega) (firstV_fits ht0 ht1 hf0 hf1)).mono ?_; rintro e w2 ⟨A2, c2, rfl, ho2, hB2⟩; have hBt2 := (hb0.out.trans (hB1.mono (by simp))).trans (hB2.mono (by have := hB1.size; simp at this; omega)); have hs21 := hB2.size; have hv2 := hv1.out.below hB2 hv1.out.lt; replace hv2 := Lib.hid hv2; clear hB1 hB2))
    have hF : ∀ W, Below w2.heap.size w2 W → W.cell? ⟨w.heap.size, 36, none⟩ = some (.slice A n c) ∧ W.cell? ⟨w.heap.size, 2, none⟩ = some (.int .i64 p.nx) ∧ W.cell? ⟨w.heap.size, 3, none⟩ = some (.int .i64 p.hp) := fun W hW => by
      have := hv2.out.below hW hv2.out.lt
      exact ⟨this.at_ _ _ hV.out.h36, this.at_ _ _ hV.out.h2, this.at_ _ _ hV.out.h3⟩
    have hR2 : ∀ W, Below w2.heap.size w2 W → RB W (some ⟨w.heap.size, 4, none⟩) 16 16 p.src := fun W hW => by
      have hv := hv2.out.below hW hv2.out.lt
      exact rb_cells (off := 4) hv.lt hV.out.ls (by decide) hV.out.bs (fun j hj => hv.at_ _ _ (hV.out.hs j hj))
    have hR3 : ∀ W, Below w2.heap.size w2 W → RB W (some ⟨w.heap.size, 20, none⟩) 16 16 p.dst := fun W hW => by
      have hv := hv2.out.below hW hv2.out.lt
      exact rb_cells (off := 20) hv.lt hV.out.ld (by decide) hV.out.bd (fun j hj => hv.at_ _ _ (hV.out.hd j hj))
    have hT : ∀ W, Below w2.heap.size w2 W → Below w.heap.size w W := fun W hW => hBt2.trans (hW.mono hBt2.size)
    have hR4 : ∀ W, Below w2.heap.size w2 W → RB W A n c p.data := fun W hW => hd.below (hT W hW)
    have hlen := Lib.hid hd.len
    replace hR2 := Lib.hid hR2
    replace hR3 := Lib.hid hR3
    replace hR4 := Lib.hid hR4
    replace hT := Lib.hid hT
    clear hd hck hBt2
    have hwn : IntKind.u8.wrap p.nx = p.nx := by rw [IntKind.wrap_u8]; omega
    have hwh : IntKind.u8.wrap p.hp = p.hp := by rw [IntKind.wrap_u8]; omega
    have hg2 := Lib.hid ho2.rb
    -- what Put leaves, from whatever world of the region's
    have hPut : ∀ W, (W.cell? ⟨w.heap.size, 36, none⟩ = some (.slice A n c) ∧ W.cell? ⟨w.heap.size, 2, none⟩ = some (.int .i64 p.nx) ∧ W.cell? ⟨w.heap.size, 3, none⟩ = some (.int .i64 p.hp)) ∧ Below w2.heap.size w2 W → Calls Try.prog 51 #[.slice A2 (0 + 4) c2, .int .i64 n, .int .i64 2] W (fun e w' => ∃ A3 c3, e = .returned (.slice A3 (0 + 4 + 2) c3) ∧ OB w' w2.heap.size A3 (0 + 4 + 2) c3 (([] ++ digL (1610612736 + p.t * 1048576 + p.fl) 4) ++ digL n 2) ∧ Below W.heap.size W w' ∧ ((w'.cell? ⟨w.heap.size, 36, none⟩ = some (.slice A n c) ∧ w'.cell? ⟨w.heap.size, 2, none⟩ = some (.int .i64 p.nx) ∧ w'.cell? ⟨w.heap.size, 3, none⟩ = some (.int .i64 p.hp)) ∧ Below w2.heap.size w2 w')) := fun W hW =>
      (RefPut_yes A2 (0 + 4) c2 _ n 2 W (hg2.out.below hW.2) (by omega) (len_fits hn)).mono fun e w' ⟨A3, c3, he, ho, hb⟩ => ⟨A3, c3, he, ho.mono hW.2.size, hb, heldTo hF hW hb⟩
    have hlitW : ∀ W : World, RB (W.alloc (.cells #[.int .u8 p.nx, .int .u8 p.hp] 5)) (some ⟨W.heap.size, 0, none⟩) 2 2 [p.nx, p.hp] := fun W => by
      have := (RB.lit W 5 [p.nx, p.hp] (Byts.two hn0 hn1 hp0 hp1) (by simp))
      simpa [u8s] using this
    have hlit2 := (hlitW w2).below (Below.refl _ _).drew
    have hs3 : 0 + 4 + 2 + 2 ≤ 140737488355328 := by decide
    replace hPut := Lib.hid hPut
    replace hF := Lib.hid hF
    replace hlitW := Lib.hid hlitW
    replace hs21 := Lib.hid hs21
    replace ho2 := 0
    go_region_held3 (fun W => (W.cell? ⟨w.heap.size, 36, none⟩ = some (.slice A n c) ∧ W.cell? ⟨w.heap.size, 2, none⟩ = some (.int .i64 p.nx) ∧ W.cell? ⟨w.heap.size, 3, none⟩ = some (.int .i64 p.hp)) ∧ Below w2.heap.size w2 W)
      (first | assumption | exact held0 hF.out | exact heldAl hF.out _ (by assumption) | exact heldAlDr hF.out _)
      (first
      | (go_at_call 51; refine Calls.mono (hPut.out _ ?_) ?_; assumption; rintro e w3 ⟨A3, c3, rfl, ho3, hb, hS3⟩; try (have hlit3 := hlit2.below hb); clear hb)
      | (refine step_append_bytes (A := A3) (n := 0 + 4 + 2) (c := c3) (A' := some ⟨w3.heap.size, 0, none⟩) (m := 2) (c' := 2) rfl (.tmp 23) (.tmp 30) rfl rfl rfl (ho3.alloc _) (hlitW.out w3) hs3 ?_ ?_; exact (And.right ‹_ ∧ Below w2.heap.size w2 (w3.alloc _)›).size; intro A4 c4 w4 ho4 hg hr; have hS4 := heldGr hF.out (by assumption) (ho3.alloc _) hg; clear hg hr)
      | (refine step_append_bytes (A := A3) (n := 0 + 4 + 2) (c := c3) (A' := some ⟨w2.heap.size, 0, none⟩) (m := 2) (c' := 2) rfl (.tmp 23) (.tmp 30) rfl rfl rfl ho3 hlit3 hs3 hS3.2.size ?_; intro A4 c4 w4 ho4 hg hr; have hS4 := heldGr hF.out hS3 ho3 hg; clear hg hr)
      | fail)
    all_goals
      clear hPut hlitW hlit2 hg2 hwn hwh
      go_wp2
      go_region_held3 (fun W => (W.cell? ⟨w.heap.size, 36, none⟩ = some (.slice A n c) ∧ W.cell? ⟨w.heap.size, 2, none⟩ = some (.int .i64 p.nx) ∧ W.cell? ⟨w.heap.size, 3, none⟩ = some (.int .i64 p.hp)) ∧ Below w2.heap.size w2 W)
        (first | assumption | exact heldDr hF.out hS4)
        (first
        | (refine step_append_bytes (A := A4) (n := 0 + 4 + 2 + 2) (c := c4) (A' := some ⟨w.heap.size, 4, none⟩) (m := 16) (c' := 16) rfl (.tmp 32) (.tmp 34) rfl rfl rfl ho4.drew (hR2.out _ (heldDr hF.out hS4).2) (by decide) hS4.2.drew.size ?_; intro A5 c5 w5 ho5 hg hr; have hS5 := heldGr hF.out (heldDr hF.out hS4) ho4.drew hg; clear hg hr)
        | (refine step_append_bytes (A := A5) (n := 0 + 4 + 2 + 2 + 16) (c := c5) (A' := some ⟨w.heap.size, 20, none⟩) (m := 16) (c' := 16) rfl (.tmp 35) (.tmp 37) rfl rfl rfl ho5 (hR3.out _ hS5.2) (by decide) hS5.2.size ?_; intro A6 c6 w6 ho6 hg hr; have hS6 := heldGr hF.out hS5 ho5 hg; clear hg hr)
        | fail)
      have e36 := hS6.1.1
      have r4 := Lib.hid (hR4.out _ hS6.2)
      have hs6 := hS6.2.size
      go_wp2_with (at_builtin; refine wpList_append_bytes _ rfl (.tmp 39) (.tmp 41) rfl rfl rfl ho6 r4.out (by omega) hs6 ?_; intro A7 c7 w7 ho7 hg hr; have hS7 := heldGr hF.out hS6 ho6 hg; clear hg hr)
      go_ret2
      have ho8 := ho7.rb
      refine ⟨A7, _, c7, rfl, ?_, hT.out _ hS7.2⟩
      have e : [] ++ digL (1610612736 + p.t * 1048576 + p.fl) 4 ++ digL (n : Int) 2 ++ [p.nx, p.hp] ++ p.src ++ p.dst ++ p.data = bytesV p := by
        unfold bytesV firstV; rw [hlen.out]; simp
      rw [e] at ho8
      exact ho8.relen (by have := ho8.len; omega)
  · rw [if_neg hok]
    have hc := checkV_code p n
    have hV := Lib.hid h
    clear h hsz
    generalize checkV p n = e0 at *
    go_enter Try.func15, Try.ntmps15
    rcases hc with rfl | rfl | rfl
    · exact absurd rfl hok
    all_goals
      clear hok
      go_wp2_with (first
        | (go_at_call 20; refine (hck _ hV.out).mono ?_; rintro e w1 ⟨rfl, hB1⟩)
        | (refine wpList_load_row rfl 26 (.tmp 1) rfl w.heap.size rfl _ P _ _ hg1.out Try.underlying26 rfl hiv.out ?_))
      go_ret2
      exact ⟨none, 0, 0, rfl, RB.nil _, hb0.out.trans (hB1.mono (by simp))⟩
end Go.Proofs.Ytbbdkfadcafpfaa
