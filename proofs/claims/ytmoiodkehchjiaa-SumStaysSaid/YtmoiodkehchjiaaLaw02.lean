/- What the laws of sum call: few, awake. -/
import Derived.Test.YtmoiodkehchjiaaAdd
set_option linter.unusedVariables false
namespace Go.Proofs.Ytmoiodkehchjiaa
open Go.RowKit

def FewPost (l : List (List Int)) (w : World) (e : Ending) (w' : World) : Prop := ∃ b : Bool, e = .returned (.bool b) ∧ (b = true → l.length ≤ 40 ∧ ∀ bs ∈ l, bs.length ≤ 2000) ∧ w = w'

set_option maxHeartbeats 400000 in
theorem few_any (A : Option Addr) (n c : Nat) (l : List (List Int)) (w : World) (h : RBB w A n c l) :
    Calls Try.prog 13 #[.slice A n c] w (FewPost l w) := by
  go_enter Try.func13, Try.ntmps13
  go_wp2
  go_loop [3, 8] (fun t i => ∃ k m : Nat, k ≤ n ∧ k ≤ 40 ∧ (∀ j, j < k → (l[j]?.getD []).length ≤ 2000) ∧ i = .int .i64 k ∧ t = .int .i64 m ∧ m ≤ 2000 * k) (fun _ i => n - (intOf i).toNat)
  case atStart => exact ⟨0, 0, by omega, by omega, fun j hj => by omega, rfl, rfl, by omega⟩
  case round =>
    obtain ⟨k, m, hk, hk40, hall, rfl, rfl, hm⟩ := hrel
    by_cases hlt : k < n
    · obtain ⟨b, off, rfl, hb, hc⟩ := h.mem (by omega)
      obtain ⟨A', n', c', hcell, hrb⟩ := hc k hlt
      have hrl := Lib.hid hrb.len
      clear hc hrb h
      replace hall := Lib.hid hall
      by_cases h40 : 40 ≤ k
      · go_wp2
        go_ret
        exact ⟨false, rfl, (fun e => by cases e), rfl⟩
      · by_cases h2 : 2000 < n'
        · go_wp2
          go_ret
          exact ⟨false, rfl, (fun e => by cases e), rfl⟩
        · go_wp2
          go_round
          case rel =>
            refine ⟨k + 1, m + n', by omega, by omega, fun j hj => ?_, by go_num, by go_num, by omega⟩
            rcases Nat.lt_or_ge j k with h | h
            · exact hall.out j h
            · obtain rfl : j = k := by omega
              rw [hrl.out]; omega
          case measure => simp [intOf]; omega
    · obtain rfl : k = n := by omega
      have hlen := Lib.hid h.len
      clear h
      replace hall := Lib.hid hall
      go_wp2
      go_ret
      refine ⟨_, rfl, fun _ => ⟨by have := hlen.out; omega, fun bs hbs => ?_⟩, rfl⟩
      obtain ⟨j, hj⟩ := List.getElem?_of_mem hbs
      have hlt' := (List.getElem?_eq_some_iff.1 hj).1
      have := hall.out j (by have := hlen.out; omega)
      rw [hj] at this
      exact this

def awB : List Int := [0, 1, 242, 3, 244, 245, 246, 247]
theorem awB_byts : Byts awB := by unfold awB Byts; decide
theorem awB_sum : (65535 : Int) - foldI (totalI [awB]) = 8717 := by decide +kernel
theorem awB_small : Small [awB] := ⟨by decide, fun bs h => by simp at h; subst h; exact ⟨by decide, awB_byts⟩⟩

set_option maxHeartbeats 400000 in
theorem awake02 (w : World) : Calls Try.prog 14 #[] w fun e w' => e = .returned (.bool true) ∧ Below w.heap.size w w' := by
  have hr := RB.lit w 5 awB awB_byts (by decide)
  have hrr := RBB.lit _ 30 [(some ⟨w.heap.size, 0, none⟩, 8, 8, awB)] (fun p hp => by simp at hp; subst hp; exact hr) (by simp)
  rw [World.size_alloc] at hrr
  have hs := Lib.hid awB_sum
  have hf : foldI 65536 = 1 := by decide
  go_enter Try.func14, Try.ntmps14
  go_wp2_with fail
  refine (Of_any _ _ _ [awB] _ hrr awB_small).mono ?_
  rintro e w' ⟨rfl, hb⟩
  rw [hs.out]
  go_wp2_with (go_at_call 21; refine (Fold_any 65536 _ (by omega)).mono ?_; rintro e w' ⟨rfl, rfl⟩)
  go_ret
  exact ⟨rfl, (((Below.refl _ w).alloc (Nat.le_refl _) _).alloc (by simp) _).trans (hb.mono (by simp; omega))⟩

theorem small_of {w : World} {A : Option Addr} {n c : Nat} {l : List (List Int)} (h : RBB w A n c l) (hf : l.length ≤ 40 ∧ ∀ bs ∈ l, bs.length ≤ 2000) : Small l :=
  ⟨by omega, fun bs hb => ⟨by have := hf.2 bs hb; omega, h.byts bs hb⟩⟩

set_option maxHeartbeats 1000000 in
theorem SumTells_walk (A : Option Addr) (n c : Nat) (l : List (List Int)) (m : Int) (w : World) (h : RBB w A n c l) (_hm0 : -9223372036854775808 ≤ m) (hm : m ≤ 9223372036854775807) :
    Calls Try.prog 3 #[.slice A n c, .int .i64 m] w fun e w' => e = .returned (.bool true) ∧ Below w.heap.size w w' := by
  go_enter Try.func3, Try.ntmps3
  go_wp2_with fail
  refine (few_any A n c l _ h).mono ?_
  rintro e w' ⟨b, rfl, hb, rfl⟩
  cases b with
  | false =>
    go_wp2_with (go_at_call 14; refine (awake02 _).mono ?_; rintro e w' ⟨rfl, hb1⟩)
    go_ret
    exact ⟨rfl, hb1⟩
  | true =>
    have hs := small_of h (hb rfl)
    clear hb
    go_wp2_with fail
    refine (Add_any A n c l _ h hs).mono ?_
    rintro e w1 ⟨rfl, hb1⟩
    go_wp2_with fail
    refine (RefAdd_any A n c l _ (h.below hb1) hs).mono ?_
    rintro e w2 ⟨rfl, hb2⟩
    replace hb2 := hb1.trans (hb2.mono hb1.size)
    go_wp2_with fail
    refine (Of_any A n c l _ (h.below hb2) hs).mono ?_
    rintro e w3 ⟨rfl, hb3⟩
    replace hb3 := hb2.trans (hb3.mono hb2.size)
    go_wp2_with fail
    refine (RefOf_any A n c l _ (h.below hb3) hs).mono ?_
    rintro e w4 ⟨rfl, hb4⟩
    replace hb4 := hb3.trans (hb4.mono hb3.size)
    go_wp2_with fail
    refine (Right_any A n c l _ (h.below hb4) hs).mono ?_
    rintro e w5 ⟨rfl, hb5⟩
    replace hb5 := hb4.trans (hb5.mono hb4.size)
    go_wp2_with fail
    refine (RefRight_any A n c l _ (h.below hb5) hs).mono ?_
    rintro e w6 ⟨rfl, hb6⟩
    replace hb6 := hb5.trans (hb6.mono hb5.size)
    go_wp2_with fail
    refine (Fold_any m _ hm).mono ?_
    rintro e w7 ⟨rfl, rfl⟩
    go_wp2_with fail
    refine (RefFold_any m _ hm).mono ?_
    rintro e w7 ⟨rfl, rfl⟩
    go_wp2_with (go_at_call 14; refine (awake02 _).mono ?_; rintro e w8 ⟨rfl, hb8⟩)
    go_ret
    exact ⟨rfl, hb6.trans (hb8.mono hb6.size)⟩
end Go.Proofs.Ytmoiodkehchjiaa
