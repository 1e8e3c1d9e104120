/- Fragment headers (v6, and the reference): walks of BuildFrag. -/
import Derived.Test.YtbbdkfadcafpfaaV6B
set_option linter.unusedVariables false
namespace Go.Proofs.Ytbbdkfadcafpfaa
open Go.RowKit

/-- Whether a fragment header may be. -/
def okF (nx off id : Int) : Prop := fitsP nx 1 ∧ fitsP id 4 ∧ 0 ≤ off ∧ off ≤ 65528 ∧ off % 8 = 0
instance (nx off id : Int) : Decidable (okF nx off id) := by unfold okF; exact inferInstance
def moreI (m : Bool) : Int := if m then 1 else 0
/-- A fragment header's bytes. -/
def bytesF (nx off id : Int) (m : Bool) : List Int := [nx, 0] ++ digL (off + moreI m) 2 ++ digL id 4
def bytesF? (nx off id : Int) (m : Bool) : List Int := if okF nx off id then bytesF nx off id m else []
def codeF (nx off id : Int) : Int := if okF nx off id then 0 else 1

theorem fits2 {x : Int} (h0 : 0 ≤ x) (h1 : x < 65536) : fitsP x ((2 : Nat) : Int) := ⟨by omega, by omega, by show _ < (256 : Int) ^ 2; omega⟩
theorem fits4 {x : Int} (h : fitsB x 4 = true) : fitsP x ((4 : Nat) : Int) := of_decide_eq_true h
theorem fits2b {x : Int} (h : fitsB x 2 = true) : 0 ≤ x ∧ x < 65536 := by
  have := of_decide_eq_true h
  exact ⟨this.2.1, by simpa using this.2.2⟩
theorem fits2n {x : Int} (h : fitsB x 2 = false) : ¬ (0 ≤ x ∧ x < 65536) := fun hx => by
  have := of_decide_eq_false h
  exact this ⟨by omega, hx.1, by show _ < (256 : Int) ^ 2; omega⟩

theorem litF (w : World) (nx off id : Int) (m : Bool) (hx0 : 0 ≤ nx) (hx1 : nx < 256) :
    RB ((w.alloc (.cells #[.int .i64 nx, .int .i64 off, .int .i64 id, .bool m] 36)).alloc (.cells #[.int .u8 nx, .int .u8 0] 5)) (some ⟨w.heap.size + 1, 0, none⟩) 2 2 [nx, 0] := by
  have := RB.lit (w.alloc (.cells #[.int .i64 nx, .int .i64 off, .int .i64 id, .bool m] 36)) 5 [nx, 0] (Byts.two hx0 hx1 (by omega) (by omega)) (by simp)
  simpa [u8s] using this
theorem TwoOut.no (w w' : World) (hb : Below w.heap.size w w') {nx off id : Int} {m : Bool} (h : ¬ okF nx off id) : TwoOut w (bytesF? nx off id m) (codeF nx off id) (.returned (.tuple #[.slice none 0 0, .int .i64 1])) w' := by
  unfold bytesF? codeF
  rw [if_neg h, if_neg h]
  exact ⟨none, 0, 0, rfl, RB.nil _, hb⟩

set_option maxHeartbeats 2000000 in
theorem BuildFrag_any (nx off id : Int) (m : Bool) (w : World) :
    Calls Try.prog 23 #[.agg #[.int .i64 nx, .int .i64 off, .int .i64 id, .bool m]] w (TwoOut w (bytesF? nx off id m) (codeF nx off id)) := by
  have hb0 := fun o => (Below.refl _ w).alloc (Nat.le_refl _) o
  replace hb0 := Lib.hid hb0
  cases f0 : fitsB nx 1
  · have hno := Lib.hid (fun h : okF nx off id => (of_decide_eq_false f0) h.1)
    go_enter Try.func23, Try.ntmps23
    go_wp2_with (go_at_call 52; refine (Fits_any _ _ _).mono ?_; rintro e w' ⟨rfl, rfl⟩)
    go_ret2
    exact TwoOut.no w _ (hb0.out _) hno.out
  · cases f1 : fitsB id 4
    · have hno := Lib.hid (fun h : okF nx off id => (of_decide_eq_false f1) h.2.1)
      go_enter Try.func23, Try.ntmps23
      go_wp2_with (go_at_call 52; refine (Fits_any _ _ _).mono ?_; rintro e w' ⟨rfl, rfl⟩)
      go_ret2
      exact TwoOut.no w _ (hb0.out _) hno.out
    · cases f2 : fitsB off 2
      · have hno := Lib.hid (fun h : okF nx off id => (fits2n f2) ⟨h.2.2.1, by have := h.2.2.2.1; omega⟩)
        go_enter Try.func23, Try.ntmps23
        go_wp2_with (go_at_call 52; refine (Fits_any _ _ _).mono ?_; rintro e w' ⟨rfl, rfl⟩)
        go_ret2
        exact TwoOut.no w _ (hb0.out _) hno.out
      · obtain ⟨ho0, ho1⟩ := fits2b f2
        have hid4 := fits4 f1
        obtain ⟨hx0, hx1⟩ := fits1 f0
        have htm : Int.tmod off 8 = off % 8 := Int.tmod_eq_emod_of_nonneg ho0
        by_cases h8 : off % 8 = 0
        · have hok : okF nx off id := ⟨of_decide_eq_true f0, of_decide_eq_true f1, ho0, by omega, h8⟩
          have hor : bits .or .i64 off 1 = off + 1 := i64_join 3 _ _ (by omega) (by omega) (by omega) (by omega) (by omega) (by omega)
          unfold bytesF? codeF
          rw [if_pos hok, if_pos hok]
          unfold bytesF
          have hl := fun m => litF w nx off id m hx0 hx1
          replace hl := Lib.hid hl
          clear hok
          have hvb := fun m => Lib.hid (VBox.new w #[.int .i64 nx, .int .i64 off, .int .i64 id, .bool m] 36)
          cases m
          · have hm : off + moreI false = off := by simp [moreI]
            rw [hm]
            have hvb := hvb false
            go_enter Try.func23, Try.ntmps23
            go_wp2_with (first
              | (go_at_call 52; refine (Fits_any _ _ _).mono ?_; rintro e w' ⟨rfl, rfl⟩)
              | (go_at_call_of 49 (Value.int IntKind.i64 (2 : Int)); refine (Put_yes _ 2 2 [nx, 0] _ 2 _ (hl.out false) (by omega) (fits2 (by omega) (by omega))).mono ?_; rintro e w2 ⟨A2, c2, rfl, ho2, hB2⟩; have hv2 := (hvb.out.alloc _).below hB2 (by simp; omega); have d2 := hv2.at_ 2 _ rfl; have hB3 := ((hb0.out _).alloc (by simp) _).trans (hB2.mono (by simp; omega)))
              | (go_at_call_of 49 (Value.int IntKind.i64 (4 : Int)); refine (Put_yes A2 (2 + 2) c2 ([nx, 0] ++ digL off 2) _ 4 _ ho2.rb (by omega) hid4).mono ?_; rintro e w3 ⟨A3, c3, rfl, ho3, hB4⟩))
            go_ret2
            exact ⟨A3, _, c3, rfl, ho3.rb, hB3.trans (hB4.mono hB3.size)⟩
          · have hm : off + moreI true = off + 1 := by simp [moreI]
            rw [hm]
            have hvb := hvb true
            go_enter Try.func23, Try.ntmps23
            go_wp2_with (first
              | (go_at_call 52; refine (Fits_any _ _ _).mono ?_; rintro e w' ⟨rfl, rfl⟩)
              | (go_at_call_of 49 (Value.int IntKind.i64 (2 : Int)); refine (Put_yes _ 2 2 [nx, 0] _ 2 _ (hl.out true) (by omega) (fits2 (by omega) (by omega))).mono ?_; rintro e w2 ⟨A2, c2, rfl, ho2, hB2⟩; have hv2 := (hvb.out.alloc _).below hB2 (by simp; omega); have d2 := hv2.at_ 2 _ rfl; have hB3 := ((hb0.out _).alloc (by simp) _).trans (hB2.mono (by simp; omega)))
              | (go_at_call_of 49 (Value.int IntKind.i64 (4 : Int)); refine (Put_yes A2 (2 + 2) c2 ([nx, 0] ++ digL (off + 1) 2) _ 4 _ ho2.rb (by omega) hid4).mono ?_; rintro e w3 ⟨A3, c3, rfl, ho3, hB4⟩))
            go_ret2
            exact ⟨A3, _, c3, rfl, ho3.rb, hB3.trans (hB4.mono hB3.size)⟩
        · have hno := Lib.hid (fun h : okF nx off id => h8 h.2.2.2.2)
          go_enter Try.func23, Try.ntmps23
          go_wp2_with (go_at_call 52; refine (Fits_any _ _ _).mono ?_; rintro e w' ⟨rfl, rfl⟩)
          go_ret2
          exact TwoOut.no w _ (hb0.out _) hno.out
end Go.Proofs.Ytbbdkfadcafpfaa
