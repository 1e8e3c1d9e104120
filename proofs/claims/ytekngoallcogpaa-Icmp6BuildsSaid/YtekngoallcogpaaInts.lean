/- Slices of ints: slices.Index, slices.Contains; low bits of any int. -/
import Derived.Test.YtekngoallcogpaaMem
set_option linter.unusedVariables false
namespace Go.Proofs.Ytekngoallcogpaa
open Go.RowKit

/-- The slice holds the ints zs. -/
structure RI (w : World) (A : Option Addr) (n c : Nat) (zs : List Int) : Prop where
  len : zs.length = n
  nc : n ≤ c
  mem : 0 < n → ∃ b off, A = some ⟨b, off, none⟩ ∧ b < w.heap.size ∧ ∀ j, j < n → w.cell? ⟨b, off + j, none⟩ = some (.int .i64 (zs[j]?.getD 0))
theorem RI.below {w w' : World} {A : Option Addr} {n c : Nat} {zs : List Int} (h : RI w A n c zs) (hb : Below w.heap.size w w') : RI w' A n c zs :=
  ⟨h.len, h.nc, fun hn => by
    obtain ⟨b, off, e, hlt, hc⟩ := h.mem hn
    exact ⟨b, off, e, by have := hb.size; omega, fun j hj => (hb.cell (p := ⟨b, off + j, none⟩) hlt).trans (hc j hj)⟩⟩
theorem RI.lit (w : World) (T : TypeId) (zs : List Int) : RI (w.alloc (.cells (zs.map (Value.int .i64)).toArray T)) (some ⟨w.heap.size, 0, none⟩) zs.length zs.length zs :=
  ⟨rfl, Nat.le_refl _, fun hn => ⟨w.heap.size, 0, rfl, by simp, fun j hj => by
    rw [World.cell?_alloc_at _ _ _ _ rfl, Nat.zero_add, List.getElem?_toArray, List.getElem?_map, List.getElem?_eq_getElem hj]; rfl⟩⟩

def IdxPost (zs : List Int) (v : Int) (w : World) (e : Ending) (w' : World) : Prop := ∃ i : Int, e = .returned (.int .i64 i) ∧ (0 ≤ i ↔ v ∈ zs) ∧ -1 ≤ i ∧ i ≤ 100000 ∧ w = w'

set_option maxHeartbeats 400000 in
theorem Index_any (A : Option Addr) (n c : Nat) (zs : List Int) (v : Int) (w : World) (h : RI w A n c zs) (hn : n ≤ 100000) :
    Calls Try.prog 91 #[.slice A n c, .int .i64 v] w (IdxPost zs v w) := by
  go_enter Try.func91, Try.ntmps91
  go_wp2
  go_loop [8] (fun i => ∃ k : Nat, k ≤ n ∧ i = .int .i64 k ∧ ∀ j, j < k → zs[j]?.getD 0 ≠ v) (fun i => n - (intOf i).toNat)
  case atStart => exact ⟨0, by omega, rfl, fun j hj => by omega⟩
  case round =>
    obtain ⟨k, hk, rfl, hall⟩ := hrel
    by_cases hlt : k < n
    · obtain ⟨b, off, rfl, hb, hc⟩ := h.mem (by omega)
      have hcell := hc k hlt
      have hl := Lib.hid h.len
      clear hc h
      replace hall := Lib.hid hall
      cases hv : (v == zs[k]?.getD 0)
      · have hne := Lib.hid (ne_of_beq_false hv)
        obtain ⟨z, hz⟩ : ∃ z, zs[k]?.getD 0 = z := ⟨_, rfl⟩
        rw [hz] at hcell hv
        replace hz := Lib.hid hz
        go_wp2
        go_round
        case rel =>
          refine ⟨k + 1, by omega, by go_num, fun j hj => ?_⟩
          rcases Nat.lt_or_ge j k with h | h
          · exact hall.out j h
          · obtain rfl : j = k := by omega
            exact fun e => hne.out e.symm
        case measure => simp [intOf]; omega
      · have he := Lib.hid (eq_of_beq hv)
        obtain ⟨z, hz⟩ : ∃ z, zs[k]?.getD 0 = z := ⟨_, rfl⟩
        rw [hz] at hcell hv
        replace hz := Lib.hid hz
        go_wp2
        go_ret
        refine ⟨k, rfl, ⟨fun _ => ?_, fun _ => by omega⟩, by omega, by omega, rfl⟩
        rw [he.out, List.getElem?_eq_getElem (by rw [hl.out]; exact hlt)]
        exact List.getElem_mem _
    · obtain rfl : k = n := by omega
      have hl := Lib.hid h.len
      clear h
      replace hall := Lib.hid hall
      go_wp2
      go_ret
      refine ⟨-1, rfl, ⟨fun h => by omega, fun hm => ?_⟩, by omega, by omega, rfl⟩
      obtain ⟨j, hj⟩ := List.getElem?_of_mem hm
      have hlt' := (List.getElem?_eq_some_iff.1 hj).1
      have := hall.out j (by rw [← hl.out]; exact hlt')
      rw [hj] at this
      exact absurd rfl this

theorem Contains_any (A : Option Addr) (n c : Nat) (zs : List Int) (v : Int) (w : World) (h : RI w A n c zs) (hn : n ≤ 100000) :
    Calls Try.prog 83 #[.slice A n c, .int .i64 v] w fun e w' => e = .returned (.bool (decide (v ∈ zs))) ∧ w = w' := by
  have hI := Lib.hid (Index_any A n c zs v w h hn)
  clear h
  go_enter Try.func83, Try.ntmps83
  go_wp2_with (go_at_call 91; refine hI.out.mono ?_; rintro e w' ⟨i, rfl, hi, h1, h2, rfl⟩; replace hi := Lib.hid hi)
  go_ret
  exact ⟨ret_bool (by rw [Bool.eq_iff_iff]; simp [hi.out]), rfl⟩

/-! ### Low bits of any int -/
theorem bits_low (x : Int) : bits .and .i64 x 65535 = x % 65536 := by
  have h1 : bits .and .i64 x 65535 = IntKind.i64.wrap ((BitVec.ofInt 64 x &&& BitVec.ofInt 64 65535).toNat : Int) := rfl
  rw [h1, BitVec.toNat_and, BitVec.toNat_ofInt]
  have h2 : (BitVec.ofInt 64 65535).toNat = 2 ^ 16 - 1 := by decide
  rw [h2, Nat.and_two_pow_sub_one_eq_mod, IntKind.wrap_i64]
  omega
theorem mod_low0 (x : Int) : -65535 ≤ x.tmod 65536 ∧ x.tmod 65536 ≤ 65535 ∧ (x.tmod 65536) % 65536 = x % 65536 := by
  rcases Int.le_total 0 x with h | h
  · rw [Int.tmod_eq_emod_of_nonneg h]; omega
  · have h1 : x.tmod 65536 = -((-x) % 65536) := by
      rw [← Int.tmod_eq_emod_of_nonneg (by omega : 0 ≤ -x), Int.neg_tmod, Int.neg_neg]
    rw [h1]; omega
theorem mod_low (x : Int) : (x.tmod 65536 + 65536).tmod 65536 = x % 65536 := by
  have := mod_low0 x
  rw [Int.tmod_eq_emod_of_nonneg (by omega)]; omega
end Go.Proofs.Ytekngoallcogpaa
