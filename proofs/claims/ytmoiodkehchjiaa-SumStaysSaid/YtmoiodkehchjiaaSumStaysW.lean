/- The law SumStays: its walk. -/
import Derived.Test.YtmoiodkehchjiaaRefChange
import Derived.BigQuiet
import Derived.Deep.QuietTactic
set_option linter.unusedVariables false
namespace Go.Proofs.Ytmoiodkehchjiaa
open Go.RowKit

def ZeroPost (l : List (List Int)) (w : World) (e : Ending) (w' : World) : Prop := ∃ b : Bool, e = .returned (.bool b) ∧ (b = false → ∃ bs ∈ l, ∃ x ∈ bs, x ≠ 0) ∧ w = w'

set_option maxHeartbeats 400000 in
theorem zero_any (A : Option Addr) (n c : Nat) (l : List (List Int)) (w : World) (h : RBB w A n c l) (hs : Small l) :
    Calls Try.prog 32 #[.slice A n c] w (ZeroPost l w) := by
  have hn : n ≤ 100000 := by have := h.len; have := hs.1; omega
  go_enter Try.func32, Try.ntmps32
  go_wp2
  go_loop [9] (fun i => ∃ k : Nat, k ≤ n ∧ i = .int .i64 k) (fun i => n - (intOf i).toNat)
  case atStart => exact ⟨0, by omega, rfl⟩
  case round =>
    obtain ⟨k, hk, rfl⟩ := hrel
    by_cases hlt : k < n
    · obtain ⟨b, off, rfl, hb, hc⟩ := h.mem (by omega)
      obtain ⟨A', n', c', hcell, hrb⟩ := hc k hlt
      have hsm := hs.get k
      have hrl := hrb.len
      have hn' : n' ≤ 100000 := by omega
      have hmem : l[k]?.getD [] ∈ l := by
        have : k < l.length := by have := h.len; omega
        rw [List.getElem?_eq_getElem this]; exact List.getElem_mem this
      generalize l[k]?.getD [] = bs at *
      replace hrl := Lib.hid hrl
      replace hmem := Lib.hid hmem
      clear hc h
      go_wp2
      go_loop [15] (fun i => ∃ j : Nat, j ≤ n' ∧ i = .int .i64 j) (fun i => n' - (intOf i).toNat)
      case atStart => exact ⟨0, by omega, rfl⟩
      case round =>
        obtain ⟨j, hj, rfl⟩ := hrel
        by_cases hlt2 : j < n'
        · obtain ⟨b', off', rfl, hc⟩ := hrb.at_ (by omega)
          replace hc := hc j hlt2
          have hby := hrb.byt.get j
          have hmx : bs[j]?.getD 0 ∈ bs := by
            have : j < bs.length := by have := hrl.out; omega
            rw [List.getElem?_eq_getElem this]; exact List.getElem_mem this
          generalize bs[j]?.getD 0 = x at *
          replace hmx := Lib.hid hmx
          clear hrb
          by_cases hx : x = 0
          · subst hx
            go_wp2
            go_round
            case rel => exact ⟨j + 1, by omega, by go_num⟩
            case measure => simp [intOf]; omega
          · have hx1 : (x != 0) = true := by simpa using hx
            have hx2 : (x == 0) = false := by simpa using hx
            replace hx := Lib.hid hx
            go_wp2
            go_ret
            exact ⟨false, rfl, (fun _ => ⟨bs, hmem.out, x, hmx.out, hx.out⟩), rfl⟩
        · go_wp2
          go_round
          case rel => exact ⟨k + 1, by omega, by go_num⟩
          case measure => simp [intOf]; omega
    · go_wp2
      go_ret
      exact ⟨true, rfl, (fun e => by cases e), rfl⟩

set_option maxRecDepth 100000 in
set_option maxHeartbeats 1000000 in
theorem SumStays_big (A : Option Addr) (n c : Nat) (A1 : Option Addr) (n1 c1 : Nat) (A2 : Option Addr) (n2 c2 : Nat) (A3 : Option Addr) (n3 c3 : Nat) (w : World) (h : 500 < n ∨ 500 < n1 ∨ 500 < n2 ∨ 500 < n3) :
    Calls Try.prog 8 #[.slice A n c, .slice A1 n1 c1, .slice A2 n2 c2, .slice A3 n3 c3] w fun e w' => e = .returned (.bool true) ∧ Below w.heap.size w w' := by
  by_cases h0 : 500 < n
  · clear h
    go_enter Try.func8, Try.ntmps8
    go_wp2_with (go_at_call 14; refine (awake02 _).mono ?_; rintro e w' ⟨rfl, hb1⟩)
    go_ret
    exact ⟨rfl, hb1⟩
  · by_cases h1 : 500 < n1
    · clear h
      go_enter Try.func8, Try.ntmps8
      go_wp2_with (go_at_call 14; refine (awake02 _).mono ?_; rintro e w' ⟨rfl, hb1⟩)
      go_ret
      exact ⟨rfl, hb1⟩
    · by_cases h2 : 500 < n2
      · clear h
        go_enter Try.func8, Try.ntmps8
        go_wp2_with (go_at_call 14; refine (awake02 _).mono ?_; rintro e w' ⟨rfl, hb1⟩)
        go_ret
        exact ⟨rfl, hb1⟩
      · have h3 : 500 < n3 := by omega
        clear h
        go_enter Try.func8, Try.ntmps8
        go_wp2_with (go_at_call 14; refine (awake02 _).mono ?_; rintro e w' ⟨rfl, hb1⟩)
        go_ret
        exact ⟨rfl, hb1⟩

theorem foldI_mod (t : Int) (h : 0 ≤ t) : (foldI t - t) % 65535 = 0 := by unfold foldI; split <;> omega
theorem fold_stays (X C : Int) (hX : 0 < X) (hC : 0 ≤ C) (h : (X - C) % 65535 = 0) : foldI (X + (65535 - foldI C)) = 65535 := by
  have h1 := foldI_mod C hC
  have h2 := foldI_lo C
  have h3 := foldI_hi C
  have h4 : 0 < X + (65535 - foldI C) := by omega
  generalize foldI C = D at *
  unfold foldI; rw [if_neg (by omega)]; omega
theorem total3 (a b c : List Int) : totalI [a, b, c] = sumB a + (sumB b + sumB c) := by rw [totalI_cons, totalI_cons, totalI_cons, totalI_nil, Int.add_zero]
theorem total4 (a b c d : List Int) : totalI [a, b, c, d] = sumB a + (sumB b + (sumB c + sumB d)) := by rw [totalI_cons, totalI_cons, totalI_cons, totalI_cons, totalI_nil, Int.add_zero]
theorem stays (a b old now : List Int) (ha : Byts a) (hb : Byts b) (ho : Byts old) (hn : Byts now) (hlo : old.length ≤ 1000) (hz : ∃ bs ∈ [a, now, b], ∃ x ∈ bs, x ≠ 0) :
    0 ≤ changeI (65535 - foldI (totalI [a, old, b])) old now ∧ changeI (65535 - foldI (totalI [a, old, b])) old now ≤ 65535 ∧
    ∀ x y, x * 256 + y = changeI (65535 - foldI (totalI [a, old, b])) old now → foldI (totalI [a, now, b, [x, y]]) = 65535 := by
  have pa := sumB_lo ha
  have pb := sumB_lo hb
  have po := sumW_bd ho ((old.length + 1) / 2)
  have pn := sumB_lo hn
  have f1 := foldI_lo (totalI [a, old, b])
  have f2 := foldI_hi (totalI [a, old, b])
  have f3 := foldI_mod (totalI [a, old, b]) (by rw [total3]; unfold sumB at *; omega)
  have hX : 0 < sumB a + sumB now + sumB b := by
    obtain ⟨bs, hbs, hx⟩ := hz
    simp only [List.mem_cons, List.not_mem_nil, or_false] at hbs
    rcases hbs with rfl | rfl | rfl
    · have := sumB_pos ha hx; omega
    · have := sumB_pos hn hx; omega
    · have := sumB_pos hb hx; omega
  have eo : sumB old = sumW old ((old.length + 1) / 2) := rfl
  rw [total3] at *
  generalize hF : foldI (sumB a + (sumB old + sumB b)) = F at *
  unfold changeI
  rw [if_neg (by omega)]
  have g1 := foldI_lo (chgT (65535 - F) old now)
  have g2 := foldI_hi (chgT (65535 - F) old now)
  refine ⟨by omega, by omega, fun x y hxy => ?_⟩
  rw [total4, sumB_two, hxy, show sumB a + (sumB now + (sumB b + (65535 - foldI (chgT (65535 - F) old now)))) = sumB a + sumB now + sumB b + (65535 - foldI (chgT (65535 - F) old now)) from by omega]
  refine fold_stays _ _ hX ?_ ?_
  · unfold chgT; omega
  · unfold chgT; omega

theorem small3 {a b c : List Int} (ha : Byts a) (hb : Byts b) (hc : Byts c) (la : a.length ≤ 1000) (lb : b.length ≤ 1000) (lc : c.length ≤ 1000) : Small [a, b, c] :=
  ⟨by simp, fun x hx => by
    simp only [List.mem_cons, List.not_mem_nil, or_false] at hx
    rcases hx with rfl | rfl | rfl
    · exact ⟨by omega, ha⟩
    · exact ⟨by omega, hb⟩
    · exact ⟨by omega, hc⟩⟩
theorem small4 {a b c d : List Int} (ha : Byts a) (hb : Byts b) (hc : Byts c) (hd : Byts d) (la : a.length ≤ 1000) (lb : b.length ≤ 1000) (lc : c.length ≤ 1000) (ld : d.length ≤ 1000) : Small [a, b, c, d] :=
  ⟨by simp, fun x hx => by
    simp only [List.mem_cons, List.not_mem_nil, or_false] at hx
    rcases hx with rfl | rfl | rfl | rfl
    · exact ⟨by omega, ha⟩
    · exact ⟨by omega, hb⟩
    · exact ⟨by omega, hc⟩
    · exact ⟨by omega, hd⟩⟩
theorem rbb_three {w : World} {A1 A2 A3 : Option Addr} {n1 c1 n2 c2 n3 c3 : Nat} {b1 b2 b3 : List Int} (h1 : RB w A1 n1 c1 b1) (h2 : RB w A2 n2 c2 b2) (h3 : RB w A3 n3 c3 b3) :
    RBB (w.alloc (.cells #[.slice A1 n1 c1, .slice A2 n2 c2, .slice A3 n3 c3] 30)) (some ⟨w.heap.size, 0, none⟩) 3 3 [b1, b2, b3] :=
  RBB.lit w 30 [(A1, n1, c1, b1), (A2, n2, c2, b2), (A3, n3, c3, b3)] (fun p hp => by
    simp only [List.mem_cons, List.not_mem_nil, or_false] at hp
    rcases hp with rfl | rfl | rfl
    · exact h1
    · exact h2
    · exact h3) (by simp)
theorem rbb_four {w : World} {A1 A2 A3 A4 : Option Addr} {n1 c1 n2 c2 n3 c3 n4 c4 : Nat} {b1 b2 b3 b4 : List Int} (h1 : RB w A1 n1 c1 b1) (h2 : RB w A2 n2 c2 b2) (h3 : RB w A3 n3 c3 b3) (h4 : RB w A4 n4 c4 b4) :
    RBB (w.alloc (.cells #[.slice A1 n1 c1, .slice A2 n2 c2, .slice A3 n3 c3, .slice A4 n4 c4] 30)) (some ⟨w.heap.size, 0, none⟩) 4 4 [b1, b2, b3, b4] :=
  RBB.lit w 30 [(A1, n1, c1, b1), (A2, n2, c2, b2), (A3, n3, c3, b3), (A4, n4, c4, b4)] (fun p hp => by
    simp only [List.mem_cons, List.not_mem_nil, or_false] at hp
    rcases hp with rfl | rfl | rfl | rfl
    · exact h1
    · exact h2
    · exact h3
    · exact h4) (by simp)

set_option maxRecDepth 100000 in
set_option maxHeartbeats 1000000 in
theorem SumStays_main (A : Option Addr) (n c : Nat) (A1 : Option Addr) (n1 c1 : Nat) (A2 : Option Addr) (n2 c2 : Nat) (A3 : Option Addr) (n3 c3 : Nat) (w : World) (a b old now : List Int)
    (h : RB w A n c a) (h1 : RB w A1 n1 c1 b) (h2 : RB w A2 n2 c2 old) (h3 : RB w A3 n3 c3 now) (k0 : n ≤ 500) (k1 : n1 ≤ 500) (k2 : n2 ≤ 500) (k3 : n3 ≤ 500) :
    Calls Try.prog 8 #[.slice A n c, .slice A1 n1 c1, .slice A2 n2 c2, .slice A3 n3 c3] w fun e w' => e = .returned (.bool true) ∧ Below w.heap.size w w' := by
  have z0 : ¬ 500 < n := by omega
  have z1 : ¬ 500 < n1 := by omega
  have z2 : ¬ 500 < n2 := by omega
  have z3 : ¬ 500 < n3 := by omega
  have c0 := h.nc
  have c2' := h2.nc
  have c3' := h3.nc
  replace h := h.first_ (k := n / 2 * 2) (by omega)
  replace h2 := h2.first_ (k := n2 / 2 * 2) (by omega)
  replace h3 := h3.first_ (k := n3 / 2 * 2) (by omega)
  generalize a.take (n / 2 * 2) = a at *
  generalize old.take (n2 / 2 * 2) = old at *
  generalize now.take (n3 / 2 * 2) = now at *
  go_enter Try.func8, Try.ntmps8
  go_wp2
  go_quiet (fail)
  have hB0 : Below w.heap.size w (w.drewN nq) := below_drewN (Below.refl _ _) _
  generalize w.drewN nq = W at *
  replace h := h.below hB0
  replace h1 := h1.below hB0
  replace h2 := h2.below hB0
  replace h3 := h3.below hB0
  have e0 : n / 2 * 2 ≤ 500 := by omega
  have e2 : n2 / 2 * 2 ≤ 500 := by omega
  have e3 : n3 / 2 * 2 ≤ 500 := by omega
  clear c0 c2' c3'
  generalize n / 2 * 2 = m at *
  generalize n2 / 2 * 2 = m2 at *
  generalize n3 / 2 * 2 = m3 at *
  have la := h.len
  have lb := h1.len
  have lo := h2.len
  have ln := h3.len
  have hZ := Lib.hid (zero_any _ _ _ _ _ (rbb_three h h3 h1) (small3 h.byt h3.byt h1.byt (by omega) (by omega) (by omega)))
  have hsO := small3 h.byt h2.byt h1.byt (by omega) (by omega) (by omega)
  have hst := Lib.hid (fun hz => stays a b old now h.byt h1.byt h2.byt h3.byt (by omega) hz)
  replace la := Lib.hid la
  replace lb := Lib.hid lb
  replace lo := Lib.hid lo
  replace ln := Lib.hid ln
  go_wp2_with fail
  refine hZ.out.mono ?_
  rintro e w1 ⟨z, rfl, hz, rfl⟩
  have hB1 : Below W.heap.size W (W.alloc (.cells #[.slice A m c, .slice A3 m3 c3, .slice A1 n1 c1] 30)) := (Below.refl _ _).alloc (Nat.le_refl _) _
  generalize W.alloc (.cells #[.slice A m c, .slice A3 m3 c3, .slice A1 n1 c1] 30) = w1 at *
  have hW1 := hB0.trans (hB1.mono hB0.size)
  have hB1' := hB1
  clear hB0 hB1 hZ
  cases z with
  | true =>
    go_wp2_with (go_at_call 14; refine (awake02 _).mono ?_; rintro e w' ⟨rfl, hb5⟩)
    go_ret
    exact ⟨rfl, hW1.trans (hb5.mono hW1.size)⟩
  | false =>
    obtain ⟨s0, s1, sR⟩ := hst.out (hz rfl)
    replace h := h.below hB1'
    replace h1 := h1.below hB1'
    replace h2 := h2.below hB1'
    replace h3 := h3.below hB1'
    have hO := Lib.hid (Of_any _ _ _ _ _ (rbb_three h h2 h1) hsO)
    have f1 := foldI_lo (totalI [a, old, b])
    have f2 := foldI_hi (totalI [a, old, b])
    clear hz hst hsO hB1'
    obtain ⟨v, hv⟩ : ∃ v, v = 65535 - foldI (totalI [a, old, b]) := ⟨_, rfl⟩
    rw [← hv] at s0 s1 sR hO
    have v0 : 0 ≤ v := by omega
    have v1 : v ≤ 65535 := by omega
    clear hv f1 f2
    replace sR := Lib.hid sR
    go_wp2_with fail
    refine hO.out.mono ?_
    rintro e w2 ⟨rfl, hb2⟩
    have hb2' := ((Below.refl w1.heap.size w1).alloc (Nat.le_refl _) (.cells #[.slice A m c, .slice A2 m2 c2, .slice A1 n1 c1] 30)).trans (hb2.mono (by simp))
    have hW2 := hW1.trans (hb2'.mono hW1.size)
    replace h := h.below hb2'
    replace h1 := h1.below hb2'
    replace h2 := h2.below hb2'
    replace h3 := h3.below hb2'
    have hC := Lib.hid (Change_any A2 A3 m2 c2 m3 c3 old now v w2 h2 h3 (by omega) (by omega))
    clear hO hb2 hb2' hW1
    generalize changeI v old now = u at *
    go_wp2_with fail
    refine hC.out.mono ?_
    rintro e w3 ⟨rfl, hb3⟩
    have hW3 := hW2.trans (hb3.mono hW2.size)
    replace h := h.below hb3
    replace h1 := h1.below hb3
    replace h3 := h3.below hb3
    have hby : Byts [u / 256, u % 256] := fun x hx => by simp at hx; omega
    have hlit := RB.lit w3 5 [u / 256, u % 256] hby (by simp)
    have hR := Right_any _ _ _ _ _ (rbb_four (h.alloc _) (h3.alloc _) (h1.alloc _) hlit) (small4 h.byt h3.byt h1.byt hby (by have := la.out; omega) (by have := ln.out; omega) (by have := lb.out; omega) (by simp))
    rw [sR.out _ _ (by omega)] at hR
    rw [World.size_alloc] at hR
    replace hR := Lib.hid hR
    clear hC hb3 hW2 h2 hlit hby h h1 h3
    go_wp2_with fail
    refine hR.out.mono ?_
    rintro e w4 ⟨rfl, hb4⟩
    have hW4 : Below w.heap.size w w4 := ((hW3.alloc hW3.size _).alloc (by have := hW3.size; simp; omega) _).trans (hb4.mono (by have := hW3.size; simp; omega))
    clear hR hb4 hW3
    go_wp2_with (go_at_call 14; refine (awake02 _).mono ?_; rintro e w' ⟨rfl, hb5⟩)
    go_ret
    exact ⟨by simp, hW4.trans (hb5.mono hW4.size)⟩

theorem SumStays_walk (A : Option Addr) (n c : Nat) (a : List Int) (A1 : Option Addr) (n1 c1 : Nat) (b : List Int) (A2 : Option Addr) (n2 c2 : Nat) (old : List Int) (A3 : Option Addr) (n3 c3 : Nat) (now : List Int) (w : World)
    (h : RB w A n c a) (h1 : RB w A1 n1 c1 b) (h2 : RB w A2 n2 c2 old) (h3 : RB w A3 n3 c3 now) :
    Calls Try.prog 8 #[.slice A n c, .slice A1 n1 c1, .slice A2 n2 c2, .slice A3 n3 c3] w fun e w' => e = .returned (.bool true) ∧ Below w.heap.size w w' := by
  by_cases hb : 500 < n ∨ 500 < n1 ∨ 500 < n2 ∨ 500 < n3
  · exact SumStays_big A n c A1 n1 c1 A2 n2 c2 A3 n3 c3 w hb
  · exact SumStays_main A n c A1 n1 c1 A2 n2 c2 A3 n3 c3 w a b old now h h1 h2 h3 (by omega) (by omega) (by omega) (by omega)
end Go.Proofs.Ytmoiodkehchjiaa
