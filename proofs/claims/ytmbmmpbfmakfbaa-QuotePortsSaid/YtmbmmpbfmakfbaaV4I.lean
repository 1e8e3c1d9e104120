/- Packets of IPv4 (the reference): Parse, Quoted; Whole. -/
import Derived.Test.YtmbmmpbfmakfbaaV4H
set_option linter.unusedVariables false
namespace Go.Proofs.Ytmbmmpbfmakfbaa
open Go Go.RowKit

set_option maxRecDepth 100000 in
set_option maxHeartbeats 1000000 in
theorem RefParse4_any (A : Option Addr) (n c : Nat) (bs : List Int) (w : World) (hr : RB w A n c bs) (hn : n ≤ 100000) :
    Calls Try.prog 11 #[.slice A n c] w (V4Out w (readV4 false bs) (codeV4 false bs)) := by
  have hb0 := Lib.hid ((Below.refl _ w).alloc (Nat.le_refl _) (.cells zero4c 32))
  have kZ := Lib.hid (Blk.new w zero4c 32)
  have hO := fun W (hW : Below w.heap.size w W) => RefRead4_any A n c bs false W (hr.below hW) hn
  unfold V4Out at hO
  obtain ⟨P, hP⟩ : ∃ P, readV4 false bs = P := ⟨_, rfl⟩
  obtain ⟨k, hk⟩ : ∃ k, codeV4 false bs = k := ⟨_, rfl⟩
  rw [hP, hk] at hO ⊢
  replace hO := Lib.hid hO
  clear hr hP hk
  go_enter Try.func11, Try.ntmps11
  go_wp2_with (first
    | (refine wpList_store_4 rfl (.tmp 2) (.tmp 6) rfl w.heap.size (cells4 P Ao no co A' m c') rfl rfl _ kZ1.out rfl rfl (one4 _ _ _ _ _ _ _) ?_)
    | (go_at_call 27; refine (hO.out _ hb0.out).mono ?_; rintro e w1 ⟨Ao, no, co, A', m, c', rfl, ho, hd, hB1⟩; have hz := hb0.out.size; have hb1 := Lib.hid (hb0.out.trans (hB1.mono hz)); have kZ1 := Lib.hid (kZ.out.to hB1); replace ho := Lib.hid (ho.mono hz); replace hd := Lib.hid (hd.mono hz); replace hB1 := 0; clear hz)
    | fail)
  refine bodyPost_ret (results_ct Try.results11 rfl (run_load_4 (Blk.mk (setRow_heap _ _ _ _ _ _ kZ1.out.at_)) rfl)) rfl ?_
  exact ⟨Ao, no, co, A', m, c', rfl, ho.out.farRow kZ1.out (show 5 ≠ 32 from by decide) _, hd.out.farRow kZ1.out (show 5 ≠ 32 from by decide) _, below_setRow hb1.out (Nat.le_refl _) _⟩
set_option maxRecDepth 100000 in
set_option maxHeartbeats 1000000 in
theorem RefQuoted4_any (A : Option Addr) (n c : Nat) (bs : List Int) (w : World) (hr : RB w A n c bs) (hn : n ≤ 100000) :
    Calls Try.prog 33 #[.slice A n c] w (V4Out w (readV4 true bs) (codeV4 true bs)) := by
  have hb0 := Lib.hid ((Below.refl _ w).alloc (Nat.le_refl _) (.cells zero4c 32))
  have kZ := Lib.hid (Blk.new w zero4c 32)
  have hO := fun W (hW : Below w.heap.size w W) => RefRead4_any A n c bs true W (hr.below hW) hn
  unfold V4Out at hO
  obtain ⟨P, hP⟩ : ∃ P, readV4 true bs = P := ⟨_, rfl⟩
  obtain ⟨k, hk⟩ : ∃ k, codeV4 true bs = k := ⟨_, rfl⟩
  rw [hP, hk] at hO ⊢
  replace hO := Lib.hid hO
  clear hr hP hk
  go_enter Try.func33, Try.ntmps33
  go_wp2_with (first
    | (refine wpList_store_4 rfl (.tmp 2) (.tmp 6) rfl w.heap.size (cells4 P Ao no co A' m c') rfl rfl _ kZ1.out rfl rfl (one4 _ _ _ _ _ _ _) ?_)
    | (go_at_call 27; refine (hO.out _ hb0.out).mono ?_; rintro e w1 ⟨Ao, no, co, A', m, c', rfl, ho, hd, hB1⟩; have hz := hb0.out.size; have hb1 := Lib.hid (hb0.out.trans (hB1.mono hz)); have kZ1 := Lib.hid (kZ.out.to hB1); replace ho := Lib.hid (ho.mono hz); replace hd := Lib.hid (hd.mono hz); replace hB1 := 0; clear hz)
    | fail)
  refine bodyPost_ret (results_ct Try.results33 rfl (run_load_4 (Blk.mk (setRow_heap _ _ _ _ _ _ kZ1.out.at_)) rfl)) rfl ?_
  exact ⟨Ao, no, co, A', m, c', rfl, ho.out.farRow kZ1.out (show 5 ≠ 32 from by decide) _, hd.out.farRow kZ1.out (show 5 ≠ 32 from by decide) _, below_setRow hb1.out (Nat.le_refl _) _⟩
end Go.Proofs.Ytmbmmpbfmakfbaa
