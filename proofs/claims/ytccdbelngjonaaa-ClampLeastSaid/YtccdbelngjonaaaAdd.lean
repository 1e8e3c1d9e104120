/- Add, Of, Right of parts: walks, in the program and in the reference. -/
import Derived.Test.YtccdbelngjonaaaTotal
set_option linter.unusedVariables false
namespace Go.Proofs.Ytccdbelngjonaaa
open Go.RowKit

theorem totalI_bd {l : List (List Int)} (h : Small l) : 0 ≤ totalI l ∧ totalI l ≤ 330000000000000 := by
  have := sumP_bd h l.length
  have := h.1
  unfold totalI; omega

set_option maxHeartbeats 400000 in
theorem Add_any (A : Option Addr) (n c : Nat) (l : List (List Int)) (w : World) (h : RBB w A n c l) (hs : Small l) :
    Calls Try.prog 105 #[.slice A n c] w fun e w' => e = .returned (.int .i64 (foldI (totalI l))) ∧ Below w.heap.size w w' := by
  have hbd := totalI_bd hs
  go_enter Try.func105, Try.ntmps105
  go_wp2_with (first
    | (go_at_call 112; refine (total_any A n c l _ h hs).mono ?_; rintro e w' ⟨rfl, hb⟩)
    | (go_at_call 111; refine (Fold_any _ _ (by omega)).mono ?_; rintro e w' ⟨rfl, rfl⟩))
  go_ret
  exact ⟨rfl, hb⟩

set_option maxHeartbeats 400000 in
theorem Of_any (A : Option Addr) (n c : Nat) (l : List (List Int)) (w : World) (h : RBB w A n c l) (hs : Small l) :
    Calls Try.prog 83 #[.slice A n c] w fun e w' => e = .returned (.int .i64 (65535 - foldI (totalI l))) ∧ Below w.heap.size w w' := by
  have h1 := foldI_lo (totalI l)
  have h2 := foldI_hi (totalI l)
  go_enter Try.func83, Try.ntmps83
  go_wp2_with (go_at_call 105; refine (Add_any A n c l _ h hs).mono ?_; rintro e w' ⟨rfl, hb⟩)
  go_ret
  exact ⟨rfl, hb⟩

set_option maxHeartbeats 400000 in
theorem Right_any (A : Option Addr) (n c : Nat) (l : List (List Int)) (w : World) (h : RBB w A n c l) (hs : Small l) :
    Calls Try.prog 88 #[.slice A n c] w fun e w' => e = .returned (.bool (foldI (totalI l) == 65535)) ∧ Below w.heap.size w w' := by
  go_enter Try.func88, Try.ntmps88
  go_wp2_with (go_at_call 105; refine (Add_any A n c l _ h hs).mono ?_; rintro e w' ⟨rfl, hb⟩)
  go_ret
  exact ⟨rfl, hb⟩

set_option maxHeartbeats 1000000 in
theorem RefAdd_any (A : Option Addr) (n c : Nat) (l : List (List Int)) (w : World) (h : RBB w A n c l) (hs : Small l) :
    Calls Try.prog 107 #[.slice A n c] w fun e w' => e = .returned (.int .i64 (foldI (totalI l))) ∧ Below w.heap.size w w' := by
  have hbd := totalI_bd hs
  have hn : n ≤ 100000 := by have := h.len; have := hs.1; omega
  go_enter Try.func107, Try.ntmps107
  go_wp2
  go_loopw [3, 4] (fun t i wr => ∃ k : Nat, k ≤ n ∧ i = .int .i64 k ∧ t = .int .i64 (sumP l k) ∧ Below w.heap.size w wr) (fun _ i _ => n - (intOf i).toNat)
  case atStart => exact ⟨0, Nat.zero_le _, rfl, rfl, Below.refl _ _⟩
  case round =>
    obtain ⟨k, hk, rfl, rfl, hB⟩ := hrel
    by_cases hlt : k < n
    · obtain ⟨b, off, rfl, hb, hc⟩ := h.mem (by omega)
      obtain ⟨A', n', c', hcell0, hrb0⟩ := hc k hlt
      clear hc
      have hsm := hs.get k
      have hrl := hrb0.len
      have hn' : n' ≤ 100000 := by omega
      have hp := sumP_bd hs k
      have hpn : sumP l (k + 1) = sumP l k + sumW (l[k]?.getD []) ((n' + 1) / 2) := by simp only [sumP]; unfold sumB; rw [hrl]
      replace hpn := Lib.hid hpn
      replace hrl := Lib.hid hrl
      generalize l[k]?.getD [] = bs at *
      have hcell := (hB.cell (p := ⟨b, off + k, none⟩) hb).trans hcell0
      go_wp2
      obtain ⟨wo, hwo⟩ : ∃ wo : World, wo = wr := ⟨_, rfl⟩
      subst hwo
      go_loopw [3, 5] (fun t i wr => ∃ j : Nat, 2 * j ≤ n' + 1 ∧ i = .int .i64 (2 * (j : Int)) ∧ t = .int .i64 (sumP l k + sumW bs j) ∧ Below w.heap.size w wr) (fun _ i _ => n' + 2 - (intOf i).toNat)
      case atStart => exact ⟨0, by omega, rfl, by simp [sumW], hB⟩
      case round =>
        obtain ⟨j, hj, rfl, rfl, hB2⟩ := hrel
        clear hcell
        have hcell := (hB2.cell (p := ⟨b, off + k, none⟩) hb).trans hcell0
        by_cases hlt2 : 2 * j < n'
        · have hw1 := wordI_bd hsm.2 (2 * j)
          have hw2 := sumW_bd hsm.2 j
          have hrb := hrb0.below hB2
          go_wp2_with (refine (RefWord_at A' n' c' bs (2 * (j : Int)) (2 * j) (by omega) _ hrb hn' hlt2).mono ?_; rintro e w' ⟨rfl, hb'⟩)
          go_roundw
          case rel => exact ⟨j + 1, by omega, by go_num, by simp only [sumW]; go_num, hB2.trans (hb'.mono hB2.size)⟩
          case measure => simp [intOf]; omega
        · have hpj := hpn.out
          rw [show (n' + 1) / 2 = j from by omega] at hpj
          replace hpj := Lib.hid hpj
          go_wp2
          go_roundw
          case rel => exact ⟨k + 1, by omega, by go_num, by rw [hpj.out], hB2⟩
          case measure => simp [intOf]; omega
    · obtain rfl : k = n := by omega
      have ht : totalI l = sumP l k := by unfold totalI; rw [h.len]
      rw [ht] at hbd
      have hT := Lib.hid ht
      clear ht h
      go_wp2_with (go_at_call 114; refine (RefFold_any _ _ (by omega)).mono ?_; rintro e w' ⟨rfl, rfl⟩)
      go_ret
      exact ⟨ret_int (by rw [hT.out]), hB⟩

set_option maxHeartbeats 400000 in
theorem RefOf_any (A : Option Addr) (n c : Nat) (l : List (List Int)) (w : World) (h : RBB w A n c l) (hs : Small l) :
    Calls Try.prog 86 #[.slice A n c] w fun e w' => e = .returned (.int .i64 (65535 - foldI (totalI l))) ∧ Below w.heap.size w w' := by
  have h1 := foldI_lo (totalI l)
  have h2 := foldI_hi (totalI l)
  go_enter Try.func86, Try.ntmps86
  go_wp2_with (go_at_call 107; refine (RefAdd_any A n c l _ h hs).mono ?_; rintro e w' ⟨rfl, hb⟩)
  go_ret
  exact ⟨rfl, hb⟩

set_option maxHeartbeats 400000 in
theorem RefRight_any (A : Option Addr) (n c : Nat) (l : List (List Int)) (w : World) (h : RBB w A n c l) (hs : Small l) :
    Calls Try.prog 90 #[.slice A n c] w fun e w' => e = .returned (.bool (foldI (totalI l) == 65535)) ∧ Below w.heap.size w w' := by
  go_enter Try.func90, Try.ntmps90
  go_wp2_with (go_at_call 107; refine (RefAdd_any A n c l _ h hs).mono ?_; rintro e w' ⟨rfl, hb⟩)
  go_ret
  exact ⟨rfl, hb⟩
end Go.Proofs.Ytccdbelngjonaaa
