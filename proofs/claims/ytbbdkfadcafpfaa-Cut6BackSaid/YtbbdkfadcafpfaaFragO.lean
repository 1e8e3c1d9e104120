/- Fragment headers: BuildFrag answers a slice of its own. -/
import Derived.Test.YtbbdkfadcafpfaaFrag
import Derived.Test.YtbbdkfadcafpfaaFragR
set_option linter.unusedVariables false
namespace Go.Proofs.Ytbbdkfadcafpfaa
open Go.RowKit

def FragOwn (w : World) (nx off id : Int) (m : Bool) (e : Ending) (w' : World) : Prop :=
  ∃ A2 c2, e = .returned (.tuple #[.slice A2 8 c2, .int .i64 0]) ∧ OB w' w.heap.size A2 8 c2 (bytesF nx off id m) ∧ Below w.heap.size w w'
set_option maxHeartbeats 2000000 in
theorem BuildFragO_any (nx off id : Int) (m : Bool) (w : World) (hok : okF nx off id) :
    Calls Try.prog 23 #[.agg #[.int .i64 nx, .int .i64 off, .int .i64 id, .bool m]] w (FragOwn w nx off id m) := by
  have hb0 := fun o => (Below.refl _ w).alloc (Nat.le_refl _) o
  replace hb0 := Lib.hid hb0
  have f0 : fitsB nx 1 = true := decide_eq_true hok.1
  have f1 : fitsB id 4 = true := decide_eq_true hok.2.1
  obtain ⟨_, _, ho0, ho9, h8⟩ := hok
  have ho1 : off < 65536 := by omega
  have f2 : fitsB off 2 = true := decide_eq_true (fits2 ho0 ho1)
  have hid4 := fits4 f1
  obtain ⟨hx0, hx1⟩ := fits1 f0
  have htm : Int.tmod off 8 = off % 8 := Int.tmod_eq_emod_of_nonneg ho0
  unfold FragOwn
  have hor : bits .or .i64 off 1 = off + 1 := i64_join 3 _ _ (by omega) (by omega) (by omega) (by omega) (by omega) (by omega)
  unfold bytesF
  have hl := fun m => litF w nx off id m hx0 hx1
  replace hl := Lib.hid hl
  have hvb := fun m => Lib.hid (VBox.new w #[.int .i64 nx, .int .i64 off, .int .i64 id, .bool m] 36)
  cases m
  · have hm : off + moreI false = off := by simp [moreI]
    rw [hm]
    have hvb := hvb false
    go_enter Try.func23, Try.ntmps23
    go_wp2_with (first
      | (go_at_call 52; refine (Fits_any _ _ _).mono ?_; rintro e w' ⟨rfl, rfl⟩)
      | (go_at_call_of 49 (Value.int IntKind.i64 (2 : Int)); refine (Put_yes _ 2 2 [nx, 0] _ 2 _ (hl.out false) (by omega) (fits2 (by omega) (by omega))).mono ?_; rintro e w2 ⟨A2, c2, rfl, ho2, hB2⟩; have hv2 := (hvb.out.alloc _).below hB2 (by simp; omega); have d2 := hv2.at_ 2 _ rfl; have hB3 := ((hb0.out _).alloc (by simp) _).trans (hB2.mono (by simp; omega)))
      | (go_at_call_of 49 (Value.int IntKind.i64 (4 : Int)); refine (Put_yes A2 (2 + 2) c2 ([nx, 0] ++ digL off 2) _ 4 _ ho2.rb (by omega) hid4).mono ?_; rintro e w3 ⟨A3, c3, rfl, ho3, hB4⟩))
    go_ret2
    exact ⟨A3, c3, rfl, ho3.mono hB3.size, hB3.trans (hB4.mono hB3.size)⟩
  · have hm : off + moreI true = off + 1 := by simp [moreI]
    rw [hm]
    have hvb := hvb true
    go_enter Try.func23, Try.ntmps23
    go_wp2_with (first
      | (go_at_call 52; refine (Fits_any _ _ _).mono ?_; rintro e w' ⟨rfl, rfl⟩)
      | (go_at_call_of 49 (Value.int IntKind.i64 (2 : Int)); refine (Put_yes _ 2 2 [nx, 0] _ 2 _ (hl.out true) (by omega) (fits2 (by omega) (by omega))).mono ?_; rintro e w2 ⟨A2, c2, rfl, ho2, hB2⟩; have hv2 := (hvb.out.alloc _).below hB2 (by simp; omega); have d2 := hv2.at_ 2 _ rfl; have hB3 := ((hb0.out _).alloc (by simp) _).trans (hB2.mono (by simp; omega)))
      | (go_at_call_of 49 (Value.int IntKind.i64 (4 : Int)); refine (Put_yes A2 (2 + 2) c2 ([nx, 0] ++ digL (off + 1) 2) _ 4 _ ho2.rb (by omega) hid4).mono ?_; rintro e w3 ⟨A3, c3, rfl, ho3, hB4⟩))
    go_ret2
    exact ⟨A3, c3, rfl, ho3.mono hB3.size, hB3.trans (hB4.mono hB3.size)⟩

set_option maxHeartbeats 2000000 in
theorem RefBuildFragO_any (nx off id : Int) (m : Bool) (w : World) (hok : okF nx off id) :
    Calls Try.prog 24 #[.agg #[.int .i64 nx, .int .i64 off, .int .i64 id, .bool m]] w (FragOwn w nx off id m) := by
  have hb0 := fun o => (Below.refl _ w).alloc (Nat.le_refl _) o
  replace hb0 := Lib.hid hb0
  have f0 : fitsB nx 1 = true := decide_eq_true hok.1
  have f1 : fitsB id 4 = true := decide_eq_true hok.2.1
  obtain ⟨_, _, ho0, ho1, h8⟩ := hok
  have g1 : ¬ off < 0 := by omega
  have g2 : ¬ 65528 < off := by omega
  have hid4 := fits4 f1
  obtain ⟨hx0, hx1⟩ := fits1 f0
  have htm : Int.tmod off 8 = off % 8 := Int.tmod_eq_emod_of_nonneg ho0
  unfold FragOwn
  unfold bytesF
  have hvb := fun m => Lib.hid (VBox.new w #[.int .i64 nx, .int .i64 off, .int .i64 id, .bool m] 36)
  have hwr : IntKind.u8.wrap nx = nx := by rw [IntKind.wrap_u8]; omega
  cases m
  · have hm : off + moreI false = off := by simp [moreI]
    rw [hm]
    have hvb := hvb false
    go_enter Try.func24, Try.ntmps24
    go_wp2_with (go_at_call 53; refine (RefFits_any _ _ _).mono ?_; rintro e w' ⟨rfl, rfl⟩)
    have hb1 := hb0.out (.cells #[.int .i64 nx, .int .i64 off, .int .i64 id, .bool false] 36)
    have hv1 := hvb.out
    have hsz : w.heap.size + 1 = (w.alloc (.cells #[.int .i64 nx, .int .i64 off, .int .i64 id, .bool false] 36)).heap.size := by simp
    replace hvb := 0
    replace hb0 := 0
    generalize hw0 : w.alloc (.cells #[.int .i64 nx, .int .i64 off, .int .i64 id, .bool false] 36) = w0 at *
    replace hw0 := Lib.hid hw0
    have d0 := hv1.at_ 0 _ rfl
    have d2 := hv1.at_ 2 _ rfl
    have hl : RB (w0.alloc (.cells #[.int .u8 nx, .int .u8 0] 5)).drew (some ⟨w0.heap.size, 0, none⟩) 2 2 [nx, 0] := by
      have := (RB.lit w0 5 [nx, 0] (Byts.two hx0 hx1 (by omega) (by omega)) (by simp)).drew
      simpa [u8s] using this
    replace hl := Lib.hid hl
    have hX : ∀ o W', Below (w0.alloc o).drew.heap.size (w0.alloc o).drew W' → Below w0.heap.size w0 W' ∧ W'.cell? ⟨w.heap.size, 2, none⟩ = some (.int .i64 id) := fun o W' h =>
      have h0 := ((Below.refl _ w0).alloc (Nat.le_refl _) o).drew
      have h1 := h0.trans (h.mono h0.size)
      ⟨h1, (h1.cell (p := ⟨w.heap.size, 2, none⟩) hv1.lt).trans d2⟩
    replace hX := Lib.hid hX
    have hne := hv1.lt
    replace hv1 := Lib.hid hv1
    replace hsz := Lib.hid hsz
    replace hb1 := Lib.hid hb1
    go_region_with (first
      | (go_at_call_of 51 (Value.int IntKind.i64 (2 : Int)); refine (RefPut_yes _ 2 2 [nx, 0] _ 2 _ ?_ (by omega) (fits2 (by omega) (by omega))).mono ?_; exact hl.out; rintro e w2 ⟨A2, c2, rfl, ho2, hB2⟩; obtain ⟨k1, k2⟩ := hX.out _ _ hB2; clear hB2)
      | (go_at_call_of 51 (Value.int IntKind.i64 (4 : Int)); refine (RefPut_yes A2 (2 + 2) c2 ([nx, 0] ++ digL (off) 2) _ 4 _ ho2.rb (by omega) hid4).mono ?_; rintro e w3 ⟨A3, c3, rfl, ho3, hB4⟩))
    all_goals
      go_wp2
      go_ret2
      exact ⟨A3, c3, rfl, ho3.mono (by have := hsz.out; have := k1.size; omega), (hb1.out.trans (k1.mono (by have := hsz.out; omega))).trans (hB4.mono (by have := hsz.out; have := k1.size; omega))⟩
  · have hm : off + moreI true = off + 1 := by simp [moreI]
    rw [hm]
    have hvb := hvb true
    go_enter Try.func24, Try.ntmps24
    go_wp2_with (go_at_call 53; refine (RefFits_any _ _ _).mono ?_; rintro e w' ⟨rfl, rfl⟩)
    have hb1 := hb0.out (.cells #[.int .i64 nx, .int .i64 off, .int .i64 id, .bool true] 36)
    have hv1 := hvb.out
    have hsz : w.heap.size + 1 = (w.alloc (.cells #[.int .i64 nx, .int .i64 off, .int .i64 id, .bool true] 36)).heap.size := by simp
    replace hvb := 0
    replace hb0 := 0
    generalize hw0 : w.alloc (.cells #[.int .i64 nx, .int .i64 off, .int .i64 id, .bool true] 36) = w0 at *
    replace hw0 := Lib.hid hw0
    have d0 := hv1.at_ 0 _ rfl
    have d2 := hv1.at_ 2 _ rfl
    have hl : RB (w0.alloc (.cells #[.int .u8 nx, .int .u8 0] 5)).drew (some ⟨w0.heap.size, 0, none⟩) 2 2 [nx, 0] := by
      have := (RB.lit w0 5 [nx, 0] (Byts.two hx0 hx1 (by omega) (by omega)) (by simp)).drew
      simpa [u8s] using this
    replace hl := Lib.hid hl
    have hX : ∀ o W', Below (w0.alloc o).drew.heap.size (w0.alloc o).drew W' → Below w0.heap.size w0 W' ∧ W'.cell? ⟨w.heap.size, 2, none⟩ = some (.int .i64 id) := fun o W' h =>
      have h0 := ((Below.refl _ w0).alloc (Nat.le_refl _) o).drew
      have h1 := h0.trans (h.mono h0.size)
      ⟨h1, (h1.cell (p := ⟨w.heap.size, 2, none⟩) hv1.lt).trans d2⟩
    replace hX := Lib.hid hX
    have hne := hv1.lt
    replace hv1 := Lib.hid hv1
    replace hsz := Lib.hid hsz
    replace hb1 := Lib.hid hb1
    go_region_with (first
      | (go_at_call_of 51 (Value.int IntKind.i64 (2 : Int)); refine (RefPut_yes _ 2 2 [nx, 0] _ 2 _ ?_ (by omega) (fits2 (by omega) (by omega))).mono ?_; exact hl.out; rintro e w2 ⟨A2, c2, rfl, ho2, hB2⟩; obtain ⟨k1, k2⟩ := hX.out _ _ hB2; clear hB2)
      | (go_at_call_of 51 (Value.int IntKind.i64 (4 : Int)); refine (RefPut_yes A2 (2 + 2) c2 ([nx, 0] ++ digL (off + 1) 2) _ 4 _ ho2.rb (by omega) hid4).mono ?_; rintro e w3 ⟨A3, c3, rfl, ho3, hB4⟩))
    all_goals
      go_wp2
      go_ret2
      exact ⟨A3, c3, rfl, ho3.mono (by have := hsz.out; have := k1.size; omega), (hb1.out.trans (k1.mono (by have := hsz.out; omega))).trans (hB4.mono (by have := hsz.out; have := k1.size; omega))⟩
end Go.Proofs.Ytbbdkfadcafpfaa
