/- Fragments of IPv4 (the reference): walk of Copied. -/
import Derived.Test.YtipigcpenmcaoaaCut4C
import Derived.Test.YtipigcpenmcaoaaTcpOP
import Derived.Test.YtipigcpenmcaoaaHand
set_option linter.unusedVariables false
namespace Go.Proofs.Ytipigcpenmcaoaa
open Go Go.RowKit

set_option maxRecDepth 100000 in
set_option maxHeartbeats 4000000 in
theorem RefCopied_any (A : Option Addr) (n c : Nat) (bs : List Int) (w : World) (h : RB w A n c bs) (hn : n ≤ 1000) :
    Calls Try.prog 19 #[.slice A n c] w (CopOut w bs) := by
  have hlen := h.len
  have hpl := Lib.hid (fun p (hp : p ∈ places bs) => places_lt hp)
  have hpn := places_len bs
  rw [hlen] at hpn
  have hP := Lib.hid (RefPlaces_any A n c bs w h (by omega))
  have hOp := Lib.hid (fun a W (hW : Below w.heap.size w W) (ha : a ≤ 100000) => RefOption_any A n c bs a W (h.below hW) (by omega) ha)
  have hcop := Lib.hid (show pad4 (optsOf bs (places bs)) = copiedV bs from rfl)
  replace h := Lib.hid h
  go_enter Try.func19, Try.ntmps19
  go_wp2_with (first
    | (go_at_call 60; refine (hP.out).mono ?_; rintro e w1 ⟨A2, m, c2, rfl, hm, hl, hB1⟩; have hm1 : m ≤ 1001 := (by omega); replace hl := Lib.hid hl; replace hm := Lib.hid hm; replace hB1 := Lib.hid hB1; replace hP := 0)
    | fail)
  have hsz1 := hB1.out.size
  go_loopw [3, 5] (fun vo vi wr => ∃ (i : Nat) (A3 : Option Addr) (n3 c3 : Nat), vi = .int .i64 (i : Int) ∧ i ≤ m ∧ vo = .slice A3 n3 c3 ∧ OB wr w1.heap.size A3 n3 c3 (optsOf bs ((places bs).take i)) ∧ n3 ≤ i * 1000 ∧ Below w1.heap.size w1 wr) (fun _ vi _ => m - (intOf vi).toNat)
  case atStart => exact ⟨0, none, 0, 0, rfl, Nat.zero_le _, rfl, OB.nil _ _, by omega, Below.refl _ _⟩
  case round =>
    obtain ⟨i, A3, n3, c3, rfl, him, rfl, ho3, hn3, hB3⟩ := hrel
    have hB3' := Lib.hid (hB1.out.trans (hB3.mono hsz1))
    by_cases hi : i < m
    · have hm := hm.out
      obtain ⟨a, ha⟩ : ∃ a, (places bs)[i]? = some a := ⟨_, List.getElem?_eq_getElem (by omega)⟩
      obtain ⟨hp1, hp2, hp3⟩ := hpl.out a (List.mem_of_getElem? ha)
      rw [hlen] at hp1 hp3
      obtain ⟨b, off, rfl, hlb, hc⟩ := h.out.mem (by omega)
      obtain ⟨g, rfl, hg1, hg2, hg3, hg4, hcl⟩ := hl.out.cells (by omega) (by decide)
      have hci : ∀ W, Below w1.heap.size w1 W → W.cell? ⟨g, i, none⟩ = some (.int .i64 (a : Int)) := fun W hW => (hW.cell (p := ⟨g, i, none⟩) hg2).trans ((hcl i (by omega)).trans (by simp [placeV, ha]))
      have c1 := hci wr hB3
      have hci := Lib.hid hci
      have hrr := h.out.below hB3'.out
      have hc0 := (hB3'.out.cell (p := ⟨b, off + a, none⟩) hlb).trans (hc a hp3)
      have hx0 := hrr.byt.get a
      have hcut := (hrr.drop a (by omega)).first_ (k := optL bs a) (by omega)
      have htk := optsOf_take (bs := bs) ha
      unfold optAt at htk
      have hO := Lib.hid (hOp.out a wr.drew hB3'.out.drew (by omega))
      have hii : (i : Int) < m := by omega
      have hai : (a : Int) < n := by omega
      have hnc := h.out.nc
      generalize bs[a]?.getD 0 = x at *
      generalize optL bs a = s at *
      have hs0 : (0 : Int) < s := by omega
      have k1 : (a : Int) + s ≤ n := by omega
      have k2 : (a : Int) + s ≤ c := by omega
      have k3 : ¬ c = a := by omega
      have k4 : IntKind.i64.wrap ((a : Int) + s) = (a : Int) + s := by rw [IntKind.wrap_i64]; omega
      have k5 : ((a : Int) + s).toNat = a + s := by omega
      have k6 : (0 : Int) ≤ (a : Int) + s := by omega
      have k7 : a ≤ a + s := by omega
      generalize (bs.drop a).take s = dt at *
      replace hcut := Lib.hid hcut
      replace ho3 := Lib.hid ho3
      replace ha := 0
      clear hc hcl hrr hm
      by_cases hx : 128 ≤ x
      · rw [if_pos hx] at htk
        replace htk := Lib.hid htk
        go_wp2
        have hS0 := Lib.hid (show wr.drew.cell? ⟨g, i, none⟩ = some (.int .i64 (a : Int)) ∧ Below w1.heap.size w1 wr.drew from ⟨c1, hB3.drew⟩)
        refine wp_region_held_drew (S := fun W => W.cell? ⟨g, i, none⟩ = some (.int .i64 (a : Int)) ∧ Below w1.heap.size w1 W) (by kernel_rfl) hS0.out (fun hHeld => ?_)
        refine take_h (i := 0) (v := ?_) rfl rfl (by kernel_rfl) (by kernel_rfl) (by kernel_rfl) (fun _ _ _ h => h) (Or.inl ⟨by rfl, fun W hSw => ?_⟩) (by assumption) ?_
        rotate_left
        · (clear hSw; go_simp; try with_reducible rfl)
        simp only [Act.put, List.setIfInBounds_toArray, List.set_cons_zero, List.set_cons_succ]
        refine take_h (i := 1) (v := ?_) rfl rfl (by kernel_rfl) (by kernel_rfl) (by kernel_rfl) (fun _ _ _ h => h) (Or.inl ⟨by rfl, fun W hSw => ?_⟩) (by assumption) ?_
        rotate_left
        · (clear hSw; go_simp; try with_reducible rfl)
        simp only [Act.put, List.setIfInBounds_toArray, List.set_cons_zero, List.set_cons_succ]
        refine take_h (i := 2) (v := ?_) rfl rfl (by kernel_rfl) (by kernel_rfl) (by kernel_rfl) (fun _ _ _ h => h) (Or.inl ⟨by rfl, fun W hSw => ?_⟩) (by assumption) ?_
        rotate_left
        · (clear hSw; go_simp; try with_reducible rfl)
        simp only [Act.put, List.setIfInBounds_toArray, List.set_cons_zero, List.set_cons_succ]
        refine take_h (i := 3) (v := ?_) rfl rfl (by kernel_rfl) (by kernel_rfl) (by kernel_rfl) (fun _ _ _ h => h) (Or.inl ⟨by rfl, fun W hSw => ?_⟩) (by assumption) ?_
        rotate_left
        · (clear hSw; go_simp; try with_reducible rfl)
        simp only [Act.put, List.setIfInBounds_toArray, List.set_cons_zero, List.set_cons_succ]
        refine take_h (i := 4) (v := ?_) rfl rfl (by kernel_rfl) (by kernel_rfl) (by kernel_rfl) (fun _ _ _ h => h) (Or.inl ⟨by rfl, fun W hSw => ?_⟩) (by assumption) ?_
        rotate_left
        · (clear hSw; go_simp; try with_reducible rfl)
        simp only [Act.put, List.setIfInBounds_toArray, List.set_cons_zero, List.set_cons_succ]
        refine take_h (i := 5) (v := ?_) rfl rfl (by kernel_rfl) (by kernel_rfl) (by kernel_rfl) (fun _ _ _ h => h) (Or.inl ⟨by rfl, fun W hSw => ?_⟩) (by assumption) ?_
        rotate_left
        · (obtain ⟨hs0, _⟩ := hSw; go_simp; try with_reducible rfl)
        simp only [Act.put, List.setIfInBounds_toArray, List.set_cons_zero, List.set_cons_succ]
        refine take_h (i := 6) (v := ?_) rfl rfl (by kernel_rfl) (by kernel_rfl) (by kernel_rfl) (fun _ _ _ h => h) (Or.inl ⟨by rfl, fun W hSw => ?_⟩) (by assumption) ?_
        rotate_left
        · (clear hSw; go_simp; try with_reducible rfl)
        simp only [Act.put, List.setIfInBounds_toArray, List.set_cons_zero, List.set_cons_succ]
        refine take_h (i := 7) (v := ?_) rfl rfl (by kernel_rfl) (by kernel_rfl) (by kernel_rfl) (fun _ _ _ h => h) (Or.inl ⟨by rfl, fun W hSw => ?_⟩) (by assumption) ?_
        rotate_left
        · (clear hSw; go_simp; try with_reducible rfl)
        simp only [Act.put, List.setIfInBounds_toArray, List.set_cons_zero, List.set_cons_succ]
        refine take_h (i := 8) (v := ?_) rfl rfl (by kernel_rfl) (by kernel_rfl) (by kernel_rfl) (fun _ _ _ h => h) (Or.inl ⟨by rfl, fun W hSw => ?_⟩) (by assumption) ?_
        rotate_left
        · (clear hSw; go_simp; try with_reducible rfl)
        simp only [Act.put, List.setIfInBounds_toArray, List.set_cons_zero, List.set_cons_succ]
        refine take_h (i := 9) (v := ?_) rfl rfl (by kernel_rfl) (by kernel_rfl) (by kernel_rfl) (fun _ _ _ h => h) (Or.inl ⟨by rfl, fun W hSw => ?_⟩) (by assumption) ?_
        rotate_left
        · (obtain ⟨hs0, _⟩ := hSw; go_simp; try with_reducible rfl)
        simp only [Act.put, List.setIfInBounds_toArray, List.set_cons_zero, List.set_cons_succ]
        refine take_h (i := 10) (v := ?_) rfl rfl (by kernel_rfl) (by kernel_rfl) (by kernel_rfl) (fun _ _ _ h => h) (Or.inl ⟨by rfl, fun W hSw => ?_⟩) (by assumption) ?_
        rotate_left
        · (clear hSw; go_simp; try with_reducible rfl)
        simp only [Act.put, List.setIfInBounds_toArray, List.set_cons_zero, List.set_cons_succ]
        refine take_h (i := 11) (v := ?_) rfl rfl (by kernel_rfl) (by kernel_rfl) (by kernel_rfl) (fun _ _ _ h => h) (Or.inl ⟨by rfl, fun W hSw => ?_⟩) (by assumption) ?_
        rotate_left
        · (clear hSw; go_simp; try with_reducible rfl)
        simp only [Act.put, List.setIfInBounds_toArray, List.set_cons_zero, List.set_cons_succ]
        refine take_h (i := 12) (v := ?_) rfl rfl (by kernel_rfl) (by kernel_rfl) (by kernel_rfl) (fun _ _ _ h => h) (Or.inl ⟨by rfl, fun W hSw => ?_⟩) (by assumption) ?_
        rotate_left
        · (clear hSw; go_simp; try with_reducible rfl)
        simp only [Act.put, List.setIfInBounds_toArray, List.set_cons_zero, List.set_cons_succ]
        refine take_h (i := 13) (v := ?_) rfl rfl (by kernel_rfl) (by kernel_rfl) (by kernel_rfl) (fun _ _ _ h => h) (Or.inl ⟨by rfl, fun W hSw => ?_⟩) (by assumption) ?_
        rotate_left
        · (clear hSw; go_simp; try with_reducible rfl)
        simp only [Act.put, List.setIfInBounds_toArray, List.set_cons_zero, List.set_cons_succ]
        refine take_h (i := 14) (v := ?_) rfl rfl (by kernel_rfl) (by kernel_rfl) (by kernel_rfl) (fun _ _ _ h => h) (Or.inl ⟨by rfl, fun W hSw => ?_⟩) (by assumption) ?_
        rotate_left
        · (obtain ⟨hs0, _⟩ := hSw; go_simp; try with_reducible rfl)
        simp only [Act.put, List.setIfInBounds_toArray, List.set_cons_zero, List.set_cons_succ]
        refine step_h (i := 15) rfl rfl (by kernel_rfl) (fun K hK => ?_)
        go_simp
        refine Calls.mono (hO.out) ?_
        rintro e w' ⟨rfl, rfl⟩
        go_wp2_with fail
        refine hK.out _ _ hHeld (fun hHeld => ?_)
        clear hK K
        try simp only [Act.put, List.setIfInBounds_toArray, List.set_cons_zero, List.set_cons_succ]
        refine take_h (i := 16) (v := ?_) rfl rfl (by kernel_rfl) (by kernel_rfl) (by kernel_rfl) (fun _ _ _ h => h) (Or.inl ⟨by rfl, fun W hSw => ?_⟩) (by assumption) ?_
        rotate_left
        · (clear hSw; go_simp; try with_reducible rfl)
        simp only [Act.put, List.setIfInBounds_toArray, List.set_cons_zero, List.set_cons_succ]
        refine take_h (i := 17) (v := ?_) rfl rfl (by kernel_rfl) (by kernel_rfl) (by kernel_rfl) (fun _ _ _ h => h) (Or.inl ⟨by rfl, fun W hSw => ?_⟩) (by assumption) ?_
        rotate_left
        · (clear hSw; go_simp; try with_reducible rfl)
        simp only [Act.put, List.setIfInBounds_toArray, List.set_cons_zero, List.set_cons_succ]
        refine step_h (i := 18) rfl rfl (by kernel_rfl) (fun K hK => ?_)
        refine step_append_bytes (A := A3) (n := n3) (c := c3) (A' := some ⟨b, off + a, none⟩) (m := s) (c' := c - a) (base := w1.heap.size) (bs := optsOf bs ((places bs).take i)) (ys := dt) rfl (.tmp 22) (.tmp 39) rfl rfl rfl ho3.out.drew hcut.out.drew (by omega) hHeld.2.size ?_
        intro A4 c4 w4 ho4 hg4 hr4
        have hB4 := Lib.hid (hHeld.2.grown hg4 hHeld.2.size (fun k hk => (ho3.out.blk hk).1))
        have hS4 : w4.cell? ⟨g, i, none⟩ = some (.int .i64 (a : Int)) ∧ Below w1.heap.size w1 w4 := ⟨hci.out _ hB4.out, hB4.out⟩
        replace ho4 := Lib.hid ho4
        clear hg4 hr4 hHeld
        refine hK.out _ _ hS4 (fun hHeld => ?_)
        clear hK K
        try simp only [Act.put, List.setIfInBounds_toArray, List.set_cons_zero, List.set_cons_succ]
        refine take_h (i := 19) (v := ?_) rfl rfl (by kernel_rfl) (by kernel_rfl) (by kernel_rfl) (fun _ _ _ h => h) (Or.inl ⟨by rfl, fun W hSw => ?_⟩) (by assumption) ?_
        rotate_left
        · (clear hSw; go_simp; try with_reducible rfl)
        simp only [Act.put, List.setIfInBounds_toArray, List.set_cons_zero, List.set_cons_succ]
        refine wpAnyH_done (by kernel_rfl) ?_ _
        clear hS4 hHeld
        go_wp2
        go_roundw
        case rel => exact ⟨i + 1, A4, n3 + s, c4, by go_num, by omega, rfl, by rw [htk.out]; exact ho4.out, by omega, hB4.out⟩
        case measure => simp [intOf]; omega
      · rw [if_neg hx, List.append_nil] at htk
        replace hO := 0
        replace htk := Lib.hid htk
        go_wp2
        go_roundw
        case rel => exact ⟨i + 1, A3, n3, c3, by go_num, by omega, rfl, by rw [htk.out]; exact ho3.out, by omega, hB3⟩
        case measure => simp [intOf]; omega
    · have him' : i = m := by omega
      rw [him', hm.out, List.take_length] at ho3
      replace hn3 : n3 ≤ 1001000 := by have := hm.out; omega
      have hii : ¬ (i : Int) < m := by omega
      replace ho3 := Lib.hid ho3
      replace hm := 0
      go_wp2
      go_loopw [3] (fun vo wr => ∃ (A4 : Option Addr) (n4 c4 : Nat) (xs : List Int), vo = .slice A4 n4 c4 ∧ OB wr w1.heap.size A4 n4 c4 xs ∧ pad4 xs = copiedV bs ∧ n4 ≤ 1100000 + 4 - (4 - n4 % 4) % 4 ∧ Below w1.heap.size w1 wr) (fun vo _ => match vo with | .slice _ n _ => (4 - n % 4) % 4 | _ => 0)
      case atStart => exact ⟨A3, n3, c3, _, rfl, ho3.out, hcop.out, by omega, hB3⟩
      case round =>
        obtain ⟨A4, n4, c4, xs, rfl, ho4, hpd, hn4, hB4⟩ := hrel
        have hl4 := ho4.len
        by_cases h0 : n4 % 4 = 0
        · have ht : ((n4 : Int) % 4 != 0) = false := by simp; omega
          rw [pad4_done (by omega)] at hpd
          subst hpd
          replace ho4 := Lib.hid ho4
          replace hB4 := Lib.hid hB4
          go_wp2
          go_ret
          exact ⟨A4, n4, c4, rfl, ho4.out.mono hsz1, hB1.out.trans (hB4.out.mono hsz1)⟩
        · have ht : ((n4 : Int) % 4 != 0) = true := by simp; omega
          have hli := Lib.hid (RB.lit wr 5 [0] (Byts.one (by omega) (by omega)) (by simp))
          have hoA := Lib.hid (ho4.alloc (.cells #[.int .u8 0] 5))
          have hBA := Lib.hid (hB4.alloc hB4.size (.cells #[.int .u8 0] 5))
          replace hpd := Lib.hid hpd
          clear ho4 hB4
          go_wp2_with (first
            | (at_builtin; refine wpList_append_bytes _ rfl (.tmp 45) (.tmp 46) rfl rfl rfl hoA.out hli.out (by simp; omega) hBA.out.size ?_; intro A5 c5 w5 ho5 hg5 hr5; have hB5 := Lib.hid (hBA.out.grown hg5 hBA.out.size (fun k hk => (hoA.out.blk hk).1)); replace ho5 := Lib.hid ho5; clear hr5 hg5)
            | fail)
          go_roundw
          case rel => exact ⟨A5, n4 + 1, c5, _, rfl, ho5.out, by rw [pad4_more (by omega)]; exact hpd.out, by omega, hB5.out⟩
          case measure =>
            show (4 - (n4 + 1) % 4) % 4 < (4 - n4 % 4) % 4
            omega
end Go.Proofs.Ytipigcpenmcaoaa
