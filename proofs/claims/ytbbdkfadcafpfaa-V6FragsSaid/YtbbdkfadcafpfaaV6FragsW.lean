/- The law V6Frags: its walk. -/
import Derived.Test.YtbbdkfadcafpfaaAwake06
set_option linter.unusedVariables false
namespace Go.Proofs.Ytbbdkfadcafpfaa
open Go.RowKit

/-- What ParseFrag answers, in one word for both: some answer that is alike. -/
theorem ParseFrag_both (A : Option Addr) (n c : Nat) (bs : List Int) (w : World) (h : RB w A n c bs) (hn : n ≤ 100000) :
    ∃ nx off id m r e0, (∀ w', Below w.heap.size w w' → Calls Try.prog 25 #[.slice A n c] w' (FragOut w' nx off id m r e0)) ∧ (∀ w', Below w.heap.size w w' → Calls Try.prog 26 #[.slice A n c] w' (FragOut w' nx off id m r e0)) := by
  by_cases h8 : n < 8
  · exact ⟨0, 0, 0, false, [], 3, fun w' _ => ParseFrag_short A n c w' h8, fun w' _ => RefParseFrag_short A n c w' h8⟩
  · obtain ⟨b, off, rfl, _⟩ := h.at_ (by omega)
    have hnc := h.nc
    by_cases h9 : 8 < c
    · exact ⟨_, _, _, _, _, _, fun w' hb => ParseFrag_long b off n c bs w' (h.below hb) hn (by omega) h9, fun w' hb => RefParseFrag_long b off n c bs w' (h.below hb) hn (by omega) h9⟩
    · obtain rfl : c = 8 := by omega
      obtain rfl : n = 8 := by omega
      exact ⟨_, _, _, _, _, _, fun w' hb => ParseFrag_eight b off bs w' (h.below hb), fun w' hb => RefParseFrag_eight b off bs w' (h.below hb)⟩

set_option maxHeartbeats 2000000 in
theorem V6Frags_walk (nx off id : Int) (m : Bool) (A : Option Addr) (n c : Nat) (bs : List Int) (w : World) (h : RB w A n c bs) :
    Calls Try.prog 4 #[.agg #[.int .i64 nx, .int .i64 off, .int .i64 id, .bool m], .slice A n c] w fun e w' => e = .returned (.bool true) ∧ Below w.heap.size w w' := by
  have hb0 := fun o => (Below.refl w.heap.size w).alloc (Nat.le_refl _) o
  replace hb0 := Lib.hid hb0
  by_cases hn : 2000 < n
  · go_enter Try.func4, Try.ntmps4
    go_wp2_with (go_at_call 13; refine (awake06 _).mono ?_; rintro e w' ⟨rfl, hb1⟩)
    go_ret
    exact ⟨rfl, (hb0.out _).trans (hb1.mono (hb0.out _).size)⟩
  · obtain ⟨nx2, off2, id2, m2, r2, e2, hP, hRP⟩ := ParseFrag_both A n c bs w h (by omega)
    have hB := Lib.hid (fun w1 => BuildFrag_any nx off id m w1)
    have hRB := Lib.hid (fun w1 => RefBuildFrag_any nx off id m w1)
    replace hP := Lib.hid hP
    replace hRP := Lib.hid hRP
    generalize bytesF? nx off id m = q at *
    generalize codeF nx off id = e1 at *
    have hvb := Lib.hid (VBox.new w #[.int .i64 nx, .int .i64 off, .int .i64 id, .bool m] 36)
    replace h := Lib.hid h
    go_enter Try.func4, Try.ntmps4
    go_wp2_with fail
    refine (hB.out _).mono ?_
    rintro e w1 ⟨A1, n1, c1, rfl, r1, hb⟩
    have hB1 := (hb0.out _).trans (hb.mono (hb0.out _).size)
    have hv := hvb.out.below hb hvb.out.lt
    have z0 := hv.at_ 0 _ rfl
    have z1 := hv.at_ 1 _ rfl
    have z2 := hv.at_ 2 _ rfl
    have z3 := hv.at_ 3 _ rfl
    clear hb hvb hB
    go_wp2_with fail
    refine (hRB.out _).mono ?_
    rintro e w2 ⟨A2, n2, c2, rfl, r3, hb⟩
    replace r1 := r1.below hb
    have hB2 := hB1.trans (hb.mono hB1.size)
    clear hb hB1 hRB z0 z1 z2 z3 hv
    go_wp2_with fail
    refine (hP.out _ hB2).mono ?_
    rintro e w3 ⟨A3, n3, c3, rfl, r4, hb⟩
    replace r1 := r1.below hb
    replace r3 := r3.below hb
    have hB3 := hB2.trans (hb.mono hB2.size)
    clear hb hB2 hP
    go_wp2_with fail
    have hv9 := VBox.new w3 #[.int .i64 nx2, .int .i64 off2, .int .i64 id2, .bool m2] 36
    replace hB3 := hB3.alloc hB3.size (.cells #[.int .i64 nx2, .int .i64 off2, .int .i64 id2, .bool m2] 36)
    replace r1 := r1.alloc (.cells #[.int .i64 nx2, .int .i64 off2, .int .i64 id2, .bool m2] 36)
    replace r3 := r3.alloc (.cells #[.int .i64 nx2, .int .i64 off2, .int .i64 id2, .bool m2] 36)
    replace r4 := r4.alloc (.cells #[.int .i64 nx2, .int .i64 off2, .int .i64 id2, .bool m2] 36)
    refine (hRP.out _ hB3).mono ?_
    rintro e w4 ⟨A4, n4, c4, rfl, r5, hb⟩
    replace r1 := r1.below hb
    replace r3 := r3.below hb
    replace r4 := r4.below hb
    have hv := hv9.below hb hv9.lt
    have hB4 := hB3.trans (hb.mono hB3.size)
    have z0 := hv.at_ 0 _ rfl
    have z1 := hv.at_ 1 _ rfl
    have z2 := hv.at_ 2 _ rfl
    have z3 := hv.at_ 3 _ rfl
    have hlt := hv.lt
    generalize w3.heap.size = B9 at *
    clear hb hB3 hRP hv9 hv
    replace r1 := Lib.hid (r1.alloc (.cells #[.int .i64 nx2, .int .i64 off2, .int .i64 id2, .bool m2] 36))
    replace r3 := Lib.hid (r3.alloc (.cells #[.int .i64 nx2, .int .i64 off2, .int .i64 id2, .bool m2] 36))
    replace r4 := Lib.hid (r4.alloc (.cells #[.int .i64 nx2, .int .i64 off2, .int .i64 id2, .bool m2] 36))
    replace r5 := Lib.hid (r5.alloc (.cells #[.int .i64 nx2, .int .i64 off2, .int .i64 id2, .bool m2] 36))
    have hB5 := Lib.hid (hB4.alloc hB4.size (.cells #[.int .i64 nx2, .int .i64 off2, .int .i64 id2, .bool m2] 36))
    clear hB4
    go_wp2_with (first
      | (go_at_call 16; refine (Equal_same _ _ _ _ _ _ _ _ r1.out r3.out).mono ?_; rintro e w' ⟨rfl, rfl⟩)
      | (go_at_call 16; refine (Equal_same _ _ _ _ _ _ _ _ r4.out r5.out).mono ?_; rintro e w' ⟨rfl, rfl⟩)
      | (go_at_call 13; refine (awake06 _).mono ?_; rintro e w' ⟨rfl, hb1⟩))
    go_ret
    exact ⟨rfl, hB5.out.trans (hb1.mono hB5.out.size)⟩
end Go.Proofs.Ytbbdkfadcafpfaa
