/- The laws of filter: walks. -/
import Derived.Test.YtmoiodkehchjiaaFilter4
import Derived.Deep.RegionHeld3
set_option linter.unusedVariables false
namespace Go.Proofs.Ytmoiodkehchjiaa
open Go.RowKit

def nameS (mode : Int) : ByteArray := if mode = 0 then ⟨#[110, 111, 110, 101]⟩ else if mode = 1 then ⟨#[97, 100, 100, 114, 101, 115, 115]⟩ else if mode = 2 then ⟨#[112, 111, 114, 116]⟩ else ⟨#[]⟩

set_option maxHeartbeats 1000000 in
theorem Name_any (mode : Int) (w : World) : Calls Try.prog 27 #[.int .i64 mode] w fun e w' => e = .returned (.string (nameS mode)) ∧ Below w.heap.size w w' := by
  by_cases h0 : mode = 0
  · subst h0
    go_enter Try.func27, Try.ntmps27
    go_wp2
    go_ret
    exact ⟨rfl, (Below.refl _ w).alloc (Nat.le_refl _) _⟩
  · by_cases h1 : mode = 1
    · subst h1
      go_enter Try.func27, Try.ntmps27
      go_wp2
      go_ret
      exact ⟨rfl, (Below.refl _ w).alloc (Nat.le_refl _) _⟩
    · by_cases h2 : mode = 2
      · subst h2
        go_enter Try.func27, Try.ntmps27
        go_wp2
        go_ret
        exact ⟨rfl, (Below.refl _ w).alloc (Nat.le_refl _) _⟩
      · have hN : nameS mode = ⟨#[]⟩ := by simp [nameS, h0, h1, h2]
        rw [hN]
        by_cases h3 : mode < 0
        · clear h0 h1 h2 hN
          go_enter Try.func27, Try.ntmps27
          go_wp2
          go_ret
          exact ⟨rfl, (Below.refl _ w).alloc (Nat.le_refl _) _⟩
        · have h4 : 3 ≤ mode := by omega
          clear h0 h1 h2 hN
          go_enter Try.func27, Try.ntmps27
          go_wp2
          go_ret
          exact ⟨rfl, (Below.refl _ w).alloc (Nat.le_refl _) _⟩

set_option maxHeartbeats 1000000 in
theorem RefName_any (mode : Int) (w : World) : Calls Try.prog 28 #[.int .i64 mode] w fun e w' => e = .returned (.string (nameS mode)) ∧ w = w' := by
  by_cases h0 : mode = 0
  · subst h0
    go_enter Try.func28, Try.ntmps28
    go_wp2
    go_ret
    exact ⟨rfl, rfl⟩
  · by_cases h1 : mode = 1
    · subst h1
      go_enter Try.func28, Try.ntmps28
      go_wp2
      go_ret
      exact ⟨rfl, rfl⟩
    · by_cases h2 : mode = 2
      · subst h2
        go_enter Try.func28, Try.ntmps28
        go_wp2
        go_ret
        exact ⟨rfl, rfl⟩
      · have hN : nameS mode = ⟨#[]⟩ := by simp [nameS, h0, h1, h2]
        rw [hN]
        have e0 : (mode == 0) = false := by simpa using h0
        have e1 : (mode == 1) = false := by simpa using h1
        have e2 : (mode == 2) = false := by simpa using h2
        clear h0 h1 h2 hN
        go_enter Try.func28, Try.ntmps28
        go_wp2
        go_ret
        exact ⟨rfl, rfl⟩

theorem RS.one (w : World) (x y : Int) : RS (w.alloc (.cells #[.int .i64 x, .int .i64 y] 34)) (some ⟨w.heap.size, 0, none⟩) 1 1 [(x, y)] :=
  ⟨rfl, fun _ => ⟨w.heap.size, 0, rfl, by simp, fun j hj => by
    obtain rfl : j = 0 := by omega
    exact ⟨by simp, by simp⟩⟩⟩

set_option maxHeartbeats 1000000 in
theorem awake25 (w : World) : Calls Try.prog 24 #[] w fun e w' => e = .returned (.bool true) ∧ Below w.heap.size w w' := by
  go_enter Try.func24, Try.ntmps24
  have hb0 : Below w.heap.size w (w.alloc (.cells #[.int .i64 1, .int .i64 2] 34)) := (Below.refl _ w).alloc (Nat.le_refl _) _
  go_wp2_with fail
  refine (Allow_any 2 1 2 _ _ _ [(1, 2)] _ (by have := RS.one (w.alloc (.cells #[.int .i64 1, .int .i64 2] 34)) 1 2; rwa [World.size_alloc] at this) (by omega)).mono ?_
  rintro e w1 ⟨rfl, hb1⟩
  have e1 : allowB 2 1 2 [(1, 2)] = true := by decide
  have e2 : allowB 2 1 2 [(1, 3)] = false := by decide
  have e3 : allowB 1 1 2 [(1, 3)] = true := by decide
  rw [e1]
  have hB1 : Below w.heap.size w w1 := (hb0.alloc (by simp) _).trans (hb1.mono (by simp; omega))
  have hc10 : w1.cell? ⟨w.heap.size, 0, none⟩ = some (.int .i64 1) := (hb1.cell (p := ⟨w.heap.size, 0, none⟩) (by simp; omega)).trans (by simp)
  have hc11 : w1.cell? ⟨w.heap.size, 1, none⟩ = some (.int .i64 2) := (hb1.cell (p := ⟨w.heap.size, 1, none⟩) (by simp; omega)).trans (by simp)
  have hs1 : w.heap.size < w1.heap.size := by have := hb1.size; simp at this; omega
  clear hb1
  go_wp2_with fail
  refine (Allow_any 2 1 2 _ _ _ [(1, 3)] _ (RS.one w1 1 3) (by omega)).mono ?_
  rintro e w2 ⟨rfl, hb2⟩
  rw [e2]
  have hB2 : Below w.heap.size w w2 := (hB1.alloc hB1.size _).trans (hb2.mono (by have := hB1.size; simp; omega))
  have hc20 : w2.cell? ⟨w.heap.size, 0, none⟩ = some (.int .i64 1) := (hb2.cell (p := ⟨w.heap.size, 0, none⟩) (by simp; omega)).trans ((World.cell?_alloc_past _ _ _ hs1).trans hc10)
  have hc21 : w2.cell? ⟨w.heap.size, 1, none⟩ = some (.int .i64 2) := (hb2.cell (p := ⟨w.heap.size, 1, none⟩) (by simp; omega)).trans ((World.cell?_alloc_past _ _ _ hs1).trans hc11)
  have hs2 : w.heap.size < w2.heap.size := by have := hb2.size; simp at this; omega
  clear hc10 hc11 hb2
  go_wp2_with fail
  refine (Allow_any 1 1 2 _ _ _ [(1, 3)] _ (RS.one w2 1 3) (by omega)).mono ?_
  rintro e w3 ⟨rfl, hb3⟩
  rw [e3]
  have hB3 : Below w.heap.size w w3 := (hB2.alloc hB2.size _).trans (hb3.mono (by have := hB2.size; simp; omega))
  clear hc20 hc21 hb3
  go_wp2_with fail
  refine (Name_any 2 _).mono ?_
  rintro e w4 ⟨rfl, hb4⟩
  have e4 : nameS 2 = ⟨#[112, 111, 114, 116]⟩ := by decide
  rw [e4]
  go_wp2
  go_ret
  exact ⟨rfl, hB3.trans (hb4.mono hB3.size)⟩

set_option maxHeartbeats 1000000 in
theorem FilterTells_walk (mode : Int) (x y : Int) (A : Option Addr) (n c : Nat) (l : List (Int × Int)) (w : World) (_m0 : -9223372036854775808 ≤ mode) (_m1 : mode ≤ 9223372036854775807) (h : RS w A n c l) :
    Calls Try.prog 5 #[.int .i64 mode, .agg #[.int .i64 x, .int .i64 y], .slice A n c] w fun e w' => e = .returned (.bool true) ∧ Below w.heap.size w w' := by
  clear _m0 _m1
  have hb0 : Below w.heap.size w (w.alloc (.cells #[.int .i64 x, .int .i64 y] 34)) := (Below.refl _ w).alloc (Nat.le_refl _) _
  by_cases hn : 300 < n
  · go_enter Try.func5, Try.ntmps5
    go_wp2_with (go_at_call 24; refine (awake25 _).mono ?_; rintro e w' ⟨rfl, hb1⟩)
    go_ret
    exact ⟨rfl, hb0.trans (hb1.mono (by simp))⟩
  · have hh := h.below hb0
    obtain ⟨w0, hw0⟩ : ∃ w0, w.alloc (.cells #[.int .i64 x, .int .i64 y] 34) = w0 := ⟨_, rfl⟩
    have hsz : w0.heap.size = w.heap.size + 1 := by rw [← hw0]; simp
    have hc0 : w0.cell? ⟨w.heap.size, 0, none⟩ = some (.int .i64 x) := by rw [← hw0]; simp
    have hc1 : w0.cell? ⟨w.heap.size, 1, none⟩ = some (.int .i64 y) := by rw [← hw0]; simp
    rw [hw0] at hh hb0
    have hA := Lib.hid (fun W (hb : Below w0.heap.size w0 W) => Allow_any mode x y A n c l W (hh.below hb) (by omega))
    have hR := Lib.hid (fun W (hb : Below w0.heap.size w0 W) => RefAllow_any mode x y A n c l W (hh.below hb) (by omega))
    have hN := Lib.hid (fun w => Name_any mode w)
    have hRN := Lib.hid (fun w => RefName_any mode w)
    have hK : ∀ W W' : World, Below w0.heap.size w0 W → Below W.heap.size W W' → W'.cell? ⟨w.heap.size, 0, none⟩ = some (.int .i64 x) ∧ W'.cell? ⟨w.heap.size, 1, none⟩ = some (.int .i64 y) ∧ Below w0.heap.size w0 W' := fun W W' h1 h2 => by
      have h3 := h1.trans (h2.mono h1.size)
      exact ⟨(h3.cell (p := ⟨w.heap.size, 0, none⟩) (by simp; omega)).trans hc0, (h3.cell (p := ⟨w.heap.size, 1, none⟩) (by simp; omega)).trans hc1, h3⟩
    replace hK := Lib.hid hK
    have hB0 := Below.refl w0.heap.size w0
    clear h hh
    generalize allowB mode x y l = b at *
    generalize nameS mode = s at *
    replace hsz := Lib.hid hsz
    go_enter Try.func5, Try.ntmps5
    go_wp2
    replace hw0 := Lib.hid hw0
    go_region_held3 (fun W => W.cell? ⟨w.heap.size, 0, none⟩ = some (.int .i64 x) ∧ W.cell? ⟨w.heap.size, 1, none⟩ = some (.int .i64 y) ∧ Below w0.heap.size w0 W) (first | exact ⟨hc0, hc1, Below.drew hB0⟩ | exact ⟨by assumption, by assumption, by assumption⟩)
      (first
        | (go_at_call 25; refine (hA.out _ (by first | exact Below.drew hB0 | assumption)).mono ?_; rintro e W' ⟨rfl, hb⟩; obtain ⟨k1, k2, k3⟩ := hK.out _ _ (by first | exact Below.drew hB0 | assumption) hb; clear hb)
        | (go_at_call 26; refine (hR.out _ (by first | exact Below.drew hB0 | assumption)).mono ?_; rintro e W' ⟨rfl, hb⟩; obtain ⟨k1, k2, k3⟩ := hK.out _ _ (by first | exact Below.drew hB0 | assumption) hb; clear hb)
        | (go_at_call 27; refine (hN.out _).mono ?_; rintro e W' ⟨rfl, hb⟩; obtain ⟨k1, k2, k3⟩ := hK.out _ _ (by first | exact Below.drew hB0 | assumption) hb; clear hb)
        | (go_at_call 28; refine (hRN.out _).mono ?_; rintro e W' ⟨rfl, rfl⟩)
        | (go_at_call 24; refine (awake25 _).mono ?_; rintro e W' ⟨rfl, hb⟩; obtain ⟨k1, k2, k3⟩ := hK.out _ _ (by first | exact Below.drew hB0 | assumption) hb; clear hb))
    go_wp2
    go_ret
    refine ⟨rfl, hb0.trans (Below.mono (B := w0.heap.size) ?_ (by have := hsz.out; omega))⟩
    assumption

theorem orders (x y : Int) (l : List (Int × Int)) : (allowB 0 x y l && (allowB 1 x y l || !allowB 2 x y l) && (allowB 2 x y l || !l.any (byBoth x y))) = true := by
  have h0 : allowB 0 x y l = true := by simp [allowB]
  have h1 : allowB 1 x y l = l.any (byAddr x) := by simp [allowB]
  have h2 : allowB 2 x y l = l.any (byBoth x y) := by simp [allowB]
  rw [h0, h1, h2]
  cases hb : l.any (byBoth x y) with
  | false => simp
  | true =>
    obtain ⟨p, hp, hq⟩ := List.any_eq_true.1 hb
    have : l.any (byAddr x) = true := List.any_eq_true.2 ⟨p, hp, by unfold byBoth at hq; unfold byAddr; simp at hq ⊢; exact hq.1.symm⟩
    rw [this]; rfl

set_option maxHeartbeats 2000000 in
theorem FilterOrders_walk (x y : Int) (A : Option Addr) (n c : Nat) (l : List (Int × Int)) (w : World) (h : RS w A n c l) :
    Calls Try.prog 6 #[.agg #[.int .i64 x, .int .i64 y], .slice A n c] w fun e w' => e = .returned (.bool true) ∧ Below w.heap.size w w' := by
  have hb0 : Below w.heap.size w (w.alloc (.cells #[.int .i64 x, .int .i64 y] 34)) := (Below.refl _ w).alloc (Nat.le_refl _) _
  by_cases hn : 300 < n
  · go_enter Try.func6, Try.ntmps6
    go_wp2_with (go_at_call 24; refine (awake25 _).mono ?_; rintro e w' ⟨rfl, hb1⟩)
    go_ret
    exact ⟨rfl, hb0.trans (hb1.mono (by simp))⟩
  · have hh := h.below hb0
    obtain ⟨w0, hw0⟩ : ∃ w0, w.alloc (.cells #[.int .i64 x, .int .i64 y] 34) = w0 := ⟨_, rfl⟩
    have hsz : w0.heap.size = w.heap.size + 1 := by rw [← hw0]; simp
    have hc0 : w0.cell? ⟨w.heap.size, 0, none⟩ = some (.int .i64 x) := by rw [← hw0]; simp
    have hc1 : w0.cell? ⟨w.heap.size, 1, none⟩ = some (.int .i64 y) := by rw [← hw0]; simp
    rw [hw0] at hh hb0
    have hA0 := fun W (hb : Below w0.heap.size w0 W) => Allow_any 0 x y A n c l W (hh.below hb) (by omega)
    have hA1 := fun W (hb : Below w0.heap.size w0 W) => Allow_any 1 x y A n c l W (hh.below hb) (by omega)
    have hA2 := fun W (hb : Below w0.heap.size w0 W) => Allow_any 2 x y A n c l W (hh.below hb) (by omega)
    have h2 : l.any (byBoth x y) = allowB 2 x y l := by simp [allowB]
    have hC := fun W (hb : Below w0.heap.size w0 W) => Contains_any A n c l x y W (hh.below hb) (by omega)
    rw [h2] at hC
    have hK : ∀ W W' : World, Below w0.heap.size w0 W → Below W.heap.size W W' → W'.cell? ⟨w.heap.size, 0, none⟩ = some (.int .i64 x) ∧ W'.cell? ⟨w.heap.size, 1, none⟩ = some (.int .i64 y) ∧ Below w0.heap.size w0 W' := fun W W' h1 h2 => by
      have h3 := h1.trans (h2.mono h1.size)
      exact ⟨(h3.cell (p := ⟨w.heap.size, 0, none⟩) (by simp; omega)).trans hc0, (h3.cell (p := ⟨w.heap.size, 1, none⟩) (by simp; omega)).trans hc1, h3⟩
    replace hK := Lib.hid hK
    have hB0 := Below.refl w0.heap.size w0
    have ho := orders x y l
    rw [h2] at ho
    clear h hh h2
    generalize allowB 0 x y l = b0 at *
    generalize allowB 1 x y l = b1 at *
    generalize allowB 2 x y l = b2 at *
    replace hA0 := Lib.hid hA0
    replace hA1 := Lib.hid hA1
    replace hA2 := Lib.hid hA2
    replace hC := Lib.hid hC
    replace hsz := Lib.hid hsz
    cases b0 <;> cases b1 <;> cases b2 <;> first | (exfalso; revert ho; decide) | skip
    all_goals
      clear ho
      go_enter Try.func6, Try.ntmps6
      go_wp2
      replace hw0 := Lib.hid hw0
      go_region_held3 (fun W => W.cell? ⟨w.heap.size, 0, none⟩ = some (.int .i64 x) ∧ W.cell? ⟨w.heap.size, 1, none⟩ = some (.int .i64 y) ∧ Below w0.heap.size w0 W) (first | exact ⟨hc0, hc1, Below.drew hB0⟩ | exact ⟨by assumption, by assumption, by assumption⟩)
        (first
          | (go_at_call_of 25 (Value.int IntKind.i64 (0 : Int)); refine (hA0.out _ (by first | exact Below.drew hB0 | assumption)).mono ?_; rintro e W' ⟨rfl, hb⟩; obtain ⟨k1, k2, k3⟩ := hK.out _ _ (by first | exact Below.drew hB0 | assumption) hb; clear hb)
          | (go_at_call_of 25 (Value.int IntKind.i64 (1 : Int)); refine (hA1.out _ (by first | exact Below.drew hB0 | assumption)).mono ?_; rintro e W' ⟨rfl, hb⟩; obtain ⟨k1, k2, k3⟩ := hK.out _ _ (by first | exact Below.drew hB0 | assumption) hb; clear hb)
          | (go_at_call_of 25 (Value.int IntKind.i64 (2 : Int)); refine (hA2.out _ (by first | exact Below.drew hB0 | assumption)).mono ?_; rintro e W' ⟨rfl, hb⟩; obtain ⟨k1, k2, k3⟩ := hK.out _ _ (by first | exact Below.drew hB0 | assumption) hb; clear hb))
      go_wp2_with (first
        | (go_at_call 29; refine (hC.out _ (by assumption)).mono ?_; rintro e W' ⟨rfl, hb⟩; obtain ⟨k1, k2, k3⟩ := hK.out _ _ (by assumption) hb; clear hb)
        | (go_at_call 24; refine (awake25 _).mono ?_; rintro e W' ⟨rfl, hb⟩; obtain ⟨k1, k2, k3⟩ := hK.out _ _ (by assumption) hb; clear hb))
      go_ret
      refine ⟨rfl, hb0.trans (Below.mono (B := w0.heap.size) ?_ (by have := hsz.out; omega))⟩
      assumption
end Go.Proofs.Ytmoiodkehchjiaa
