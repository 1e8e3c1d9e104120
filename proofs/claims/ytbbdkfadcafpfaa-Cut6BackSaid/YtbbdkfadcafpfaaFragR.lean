/- Fragment headers (the reference): walk of BuildFrag. -/
import Derived.Test.YtbbdkfadcafpfaaFrag
set_option linter.unusedVariables false
namespace Go.Proofs.Ytbbdkfadcafpfaa
open Go.RowKit

set_option maxHeartbeats 2000000 in
theorem RefBuildFrag_any (nx off id : Int) (m : Bool) (w : World) :
    Calls Try.prog 24 #[.agg #[.int .i64 nx, .int .i64 off, .int .i64 id, .bool m]] w (TwoOut w (bytesF? nx off id m) (codeF nx off id)) := by
  have hb0 := fun o => (Below.refl _ w).alloc (Nat.le_refl _) o
  replace hb0 := Lib.hid hb0
  cases f0 : fitsB nx 1
  · have hno := Lib.hid (fun h : okF nx off id => (of_decide_eq_false f0) h.1)
    go_enter Try.func24, Try.ntmps24
    go_wp2_with (go_at_call 53; refine (RefFits_any _ _ _).mono ?_; rintro e w' ⟨rfl, rfl⟩)
    go_ret2
    exact TwoOut.no w _ (hb0.out _) hno.out
  · by_cases g1 : off < 0
    · have hno := Lib.hid (fun h : okF nx off id => (show False from absurd h.2.2.1 (by omega)))
      go_enter Try.func24, Try.ntmps24
      go_wp2_with (go_at_call 53; refine (RefFits_any _ _ _).mono ?_; rintro e w' ⟨rfl, rfl⟩)
      go_ret2
      exact TwoOut.no w _ (hb0.out _) hno.out
    · by_cases g2 : 65528 < off
      · have hno := Lib.hid (fun h : okF nx off id => (show False from absurd h.2.2.2.1 (by omega)))
        go_enter Try.func24, Try.ntmps24
        go_wp2_with (go_at_call 53; refine (RefFits_any _ _ _).mono ?_; rintro e w' ⟨rfl, rfl⟩)
        go_ret2
        exact TwoOut.no w _ (hb0.out _) hno.out
      · have ho0 : 0 ≤ off := by omega
        have ho1 : off ≤ 65528 := by omega
        obtain ⟨hx0, hx1⟩ := fits1 f0
        have htm : Int.tmod off 8 = off % 8 := Int.tmod_eq_emod_of_nonneg ho0
        by_cases h8 : off % 8 = 0
        · cases f1 : fitsB id 4
          · have hno := Lib.hid (fun h : okF nx off id => (of_decide_eq_false f1) h.2.1)
            go_enter Try.func24, Try.ntmps24
            go_wp2_with (go_at_call 53; refine (RefFits_any _ _ _).mono ?_; rintro e w' ⟨rfl, rfl⟩)
            go_ret2
            exact TwoOut.no w _ (hb0.out _) hno.out
          · have hid4 := fits4 f1
            have hok : okF nx off id := ⟨of_decide_eq_true f0, of_decide_eq_true f1, ho0, ho1, h8⟩
            unfold bytesF? codeF
            rw [if_pos hok, if_pos hok]
            unfold bytesF
            clear hok
            have hvb := fun m => Lib.hid (VBox.new w #[.int .i64 nx, .int .i64 off, .int .i64 id, .bool m] 36)
            have hwr : IntKind.u8.wrap nx = nx := by rw [IntKind.wrap_u8]; omega
            cases m
            · have hm : off + moreI false = off := by simp [moreI]
              rw [hm]
              have hvb := hvb false
              go_enter Try.func24, Try.ntmps24
              go_wp2_with (go_at_call 53; refine (RefFits_any _ _ _).mono ?_; rintro e w' ⟨rfl, rfl⟩)
              have hb1 := hb0.out (.cells #[.int .i64 nx, .int .i64 off, .int .i64 id, .bool false] 36)
              have hv1 := hvb.out
              have hsz : w.heap.size + 1 = (w.alloc (.cells #[.int .i64 nx, .int .i64 off, .int .i64 id, .bool false] 36)).heap.size := by simp
              replace hvb := 0
              replace hb0 := 0
              generalize hw0 : w.alloc (.cells #[.int .i64 nx, .int .i64 off, .int .i64 id, .bool false] 36) = w0 at *
              replace hw0 := Lib.hid hw0
              have d0 := hv1.at_ 0 _ rfl
              have d2 := hv1.at_ 2 _ rfl
              have hl : RB (w0.alloc (.cells #[.int .u8 nx, .int .u8 0] 5)).drew (some ⟨w0.heap.size, 0, none⟩) 2 2 [nx, 0] := by
                have := (RB.lit w0 5 [nx, 0] (Byts.two hx0 hx1 (by omega) (by omega)) (by simp)).drew
                simpa [u8s] using this
              replace hl := Lib.hid hl
              have hX : ∀ o W', Below (w0.alloc o).drew.heap.size (w0.alloc o).drew W' → Below w0.heap.size w0 W' ∧ W'.cell? ⟨w.heap.size, 2, none⟩ = some (.int .i64 id) := fun o W' h =>
                have h0 := ((Below.refl _ w0).alloc (Nat.le_refl _) o).drew
                have h1 := h0.trans (h.mono h0.size)
                ⟨h1, (h1.cell (p := ⟨w.heap.size, 2, none⟩) hv1.lt).trans d2⟩
              replace hX := Lib.hid hX
              have hne := hv1.lt
              replace hv1 := Lib.hid hv1
              replace hsz := Lib.hid hsz
              replace hb1 := Lib.hid hb1
              go_region_with (first
                | (go_at_call_of 51 (Value.int IntKind.i64 (2 : Int)); refine (RefPut_yes _ 2 2 [nx, 0] _ 2 _ ?_ (by omega) (fits2 (by omega) (by omega))).mono ?_; exact hl.out; rintro e w2 ⟨A2, c2, rfl, ho2, hB2⟩; obtain ⟨k1, k2⟩ := hX.out _ _ hB2; clear hB2)
                | (go_at_call_of 51 (Value.int IntKind.i64 (4 : Int)); refine (RefPut_yes A2 (2 + 2) c2 ([nx, 0] ++ digL (off) 2) _ 4 _ ho2.rb (by omega) hid4).mono ?_; rintro e w3 ⟨A3, c3, rfl, ho3, hB4⟩))
              all_goals
                go_wp2
                go_ret2
                exact ⟨A3, _, c3, rfl, ho3.rb, (hb1.out.trans (k1.mono (by have := hsz.out; omega))).trans (hB4.mono (by have := hsz.out; have := k1.size; omega))⟩
            · have hm : off + moreI true = off + 1 := by simp [moreI]
              rw [hm]
              have hvb := hvb true
              go_enter Try.func24, Try.ntmps24
              go_wp2_with (go_at_call 53; refine (RefFits_any _ _ _).mono ?_; rintro e w' ⟨rfl, rfl⟩)
              have hb1 := hb0.out (.cells #[.int .i64 nx, .int .i64 off, .int .i64 id, .bool true] 36)
              have hv1 := hvb.out
              have hsz : w.heap.size + 1 = (w.alloc (.cells #[.int .i64 nx, .int .i64 off, .int .i64 id, .bool true] 36)).heap.size := by simp
              replace hvb := 0
              replace hb0 := 0
              generalize hw0 : w.alloc (.cells #[.int .i64 nx, .int .i64 off, .int .i64 id, .bool true] 36) = w0 at *
              replace hw0 := Lib.hid hw0
              have d0 := hv1.at_ 0 _ rfl
              have d2 := hv1.at_ 2 _ rfl
              have hl : RB (w0.alloc (.cells #[.int .u8 nx, .int .u8 0] 5)).drew (some ⟨w0.heap.size, 0, none⟩) 2 2 [nx, 0] := by
                have := (RB.lit w0 5 [nx, 0] (Byts.two hx0 hx1 (by omega) (by omega)) (by simp)).drew
                simpa [u8s] using this
              replace hl := Lib.hid hl
              have hX : ∀ o W', Below (w0.alloc o).drew.heap.size (w0.alloc o).drew W' → Below w0.heap.size w0 W' ∧ W'.cell? ⟨w.heap.size, 2, none⟩ = some (.int .i64 id) := fun o W' h =>
                have h0 := ((Below.refl _ w0).alloc (Nat.le_refl _) o).drew
                have h1 := h0.trans (h.mono h0.size)
                ⟨h1, (h1.cell (p := ⟨w.heap.size, 2, none⟩) hv1.lt).trans d2⟩
              replace hX := Lib.hid hX
              have hne := hv1.lt
              replace hv1 := Lib.hid hv1
              replace hsz := Lib.hid hsz
              replace hb1 := Lib.hid hb1
              go_region_with (first
                | (go_at_call_of 51 (Value.int IntKind.i64 (2 : Int)); refine (RefPut_yes _ 2 2 [nx, 0] _ 2 _ ?_ (by omega) (fits2 (by omega) (by omega))).mono ?_; exact hl.out; rintro e w2 ⟨A2, c2, rfl, ho2, hB2⟩; obtain ⟨k1, k2⟩ := hX.out _ _ hB2; clear hB2)
                | (go_at_call_of 51 (Value.int IntKind.i64 (4 : Int)); refine (RefPut_yes A2 (2 + 2) c2 ([nx, 0] ++ digL (off + 1) 2) _ 4 _ ho2.rb (by omega) hid4).mono ?_; rintro e w3 ⟨A3, c3, rfl, ho3, hB4⟩))
              all_goals
                go_wp2
                go_ret2
                exact ⟨A3, _, c3, rfl, ho3.rb, (hb1.out.trans (k1.mono (by have := hsz.out; omega))).trans (hB4.mono (by have := hsz.out; have := k1.size; omega))⟩
        · have hno := Lib.hid (fun h : okF nx off id => h8 h.2.2.2.2)
          go_enter Try.func24, Try.ntmps24
          go_wp2_with (go_at_call 53; refine (RefFits_any _ _ _).mono ?_; rintro e w' ⟨rfl, rfl⟩)
          go_ret2
          exact TwoOut.no w _ (hb0.out _) hno.out
end Go.Proofs.Ytbbdkfadcafpfaa
