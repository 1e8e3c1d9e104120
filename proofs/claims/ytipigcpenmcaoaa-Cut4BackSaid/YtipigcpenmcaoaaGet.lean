/- Walks of Get (be), in the program and in the reference. -/
import Derived.Test.YtipigcpenmcaoaaBe
set_option linter.unusedVariables false
namespace Go.Proofs.Ytipigcpenmcaoaa
open Go.RowKit

/-- What Get answers: a number, an error. -/
def getV (bs : List Int) (a s : Int) : Int × Int :=
  if ¬ (1 ≤ s ∧ s ≤ 4) ∨ a < 0 then (0, 1) else if (bs.length : Int) < a + s then (0, 3) else (beNum (cutI bs a.toNat s.toNat), 0)

theorem beNum_mul (bs : List Int) (x : Int) (h : Byts bs) (hl : bs.length ≤ 4) (h0 : 0 ≤ x) (h1 : x ≤ 255) : bits .or .i64 (beNum bs * 256) x = beNum bs * 256 + x := by
  have := beNum_lo bs h
  have := beNum_hi bs h 4 hl
  refine i64_or8 _ _ ?_ ?_ ?_ h0 (by omega) <;> omega

set_option maxHeartbeats 400000 in
theorem Get_bad (A : Option Addr) (n c : Nat) (a s e0 : Int) (w : World)
    (hw : Calls Try.prog 123 #[.slice A n c, .int .i64 a, .int .i64 s] w fun e w' => e = .returned (.tuple #[.slice none 0 0, .int .i64 e0]) ∧ w = w') :
    Calls Try.prog 109 #[.slice A n c, .int .i64 a, .int .i64 s] w fun e w' => e = .returned (.tuple #[.int .i64 0, .int .i64 e0]) ∧ w = w' := by
  have hw := Lib.hid hw
  go_enter Try.func109, Try.ntmps109
  go_wp2_with (go_at_call 123; refine hw.out.mono ?_; rintro e w' ⟨rfl, rfl⟩)
  go_rounds 1
  go_ret2
  exact ⟨rfl, rfl⟩

theorem beNum_take (ds : List Int) (k : Nat) (h : k < ds.length) : beNum (ds.take (k + 1)) = beNum (ds.take k) * 256 + ds[k]?.getD 0 := by
  rw [List.take_add_one, List.getElem?_eq_getElem h]; exact beNum_snoc _ _
theorem beNum_bd (ds : List Int) (k : Nat) (hb : Byts ds) (h : ds.length ≤ 4) : 0 ≤ beNum (ds.take k) ∧ beNum (ds.take k) < 4294967296 := by
  have hl : (ds.take k).length ≤ 4 := by rw [List.length_take]; omega
  have h1 := beNum_hi _ (hb.take k) 4 hl
  exact ⟨beNum_lo _ (hb.take k), by simpa using h1⟩

set_option maxHeartbeats 400000 in
theorem Get_ok (b off n c a s : Nat) (bs : List Int) (w : World) (h : RB w (some ⟨b, off, none⟩) n c bs) (h1 : 1 ≤ s) (h2 : s ≤ 4) (hn : n ≤ 100000) (hs : a + s ≤ n) :
    Calls Try.prog 109 #[.slice (some ⟨b, off, none⟩) n c, .int .i64 a, .int .i64 s] w fun e w' => e = .returned (.tuple #[.int .i64 (beNum (cutI bs a s)), .int .i64 0]) ∧ w = w' := by
  have hw := Lib.hid (window_ok b off n c a s w h1 h2 hn h.nc h.cm hs)
  have hx := h.cut (a := a) (s := s) (c' := s) hs (Nat.le_refl _) (by unfold maxLen; omega)
  clear h
  generalize cutI bs a s = ds at *
  go_enter Try.func109, Try.ntmps109
  go_wp2_with (go_at_call 123; refine hw.out.mono ?_; rintro e w' ⟨rfl, rfl⟩)
  go_loop [10, 22] (fun t i => ∃ k : Nat, k ≤ s ∧ i = .int .i64 k ∧ t = .int .i64 (beNum (ds.take k))) (fun _ i => s - (intOf i).toNat)
  case atStart => exact ⟨0, Nat.zero_le _, rfl, rfl⟩
  case round =>
    obtain ⟨k, hk, rfl, rfl⟩ := hrel
    by_cases hlt : k < s
    · obtain ⟨b', off', e, hc⟩ := hx.at_ (by omega)
      cases e
      replace hc := hc k hlt
      have hb := hx.byt.get k
      have hbd := beNum_bd ds k hx.byt (by have := hx.len; omega)
      have hor := beNum_mul (ds.take k) (ds[k]?.getD 0) (hx.byt.take k) (by rw [List.length_take]; have := hx.len; omega) hb.1 hb.2
      have hsn := Lib.hid (beNum_take ds k (by have := hx.len; omega))
      clear hx
      go_wp2
      go_round
      case rel => exact ⟨k + 1, by omega, by go_num, by rw [hsn.out]⟩
      case measure => simp [intOf]; omega
    · obtain rfl : k = s := by omega
      have hsn := Lib.hid (List.take_of_length_le (l := ds) (i := k) (by have := hx.len; omega))
      clear hx
      go_wp2
      go_ret2
      exact ⟨ret2_int (by first | rfl | rw [hsn.out]) rfl, rfl⟩

theorem Get_any (A : Option Addr) (n c : Nat) (bs : List Int) (a s : Int) (w : World) (h : RB w A n c bs) (hn : n ≤ 100000) :
    Calls Try.prog 109 #[.slice A n c, .int .i64 a, .int .i64 s] w fun e w' => e = .returned (.tuple #[.int .i64 (getV bs a s).1, .int .i64 (getV bs a s).2]) ∧ w = w' := by
  unfold getV
  rw [h.len]
  by_cases h1 : ¬ (1 ≤ s ∧ s ≤ 4) ∨ a < 0
  · rw [if_pos h1]
    exact Get_bad A n c a s 1 w (window_arg A n c a s w h1)
  · rw [if_neg h1]
    by_cases h2 : (n : Int) < a + s
    · rw [if_pos h2]
      exact Get_bad A n c a s 3 w (window_short A n c a s w (by omega) (by omega) (by omega) hn h2)
    · rw [if_neg h2]
      obtain ⟨a, rfl⟩ := Int.eq_ofNat_of_zero_le (show 0 ≤ a by omega)
      obtain ⟨s, rfl⟩ := Int.eq_ofNat_of_zero_le (show 0 ≤ s by omega)
      obtain ⟨b, off, rfl, _⟩ := h.at_ (by omega)
      exact Get_ok b off n c a s bs w h (by omega) (by omega) hn (by omega)

set_option maxHeartbeats 400000 in
theorem RefGet_arg (A : Option Addr) (n c : Nat) (a s : Int) (w : World) (h : ¬ (1 ≤ s ∧ s ≤ 4) ∨ a < 0) :
    Calls Try.prog 90 #[.slice A n c, .int .i64 a, .int .i64 s] w fun e w' => e = .returned (.tuple #[.int .i64 0, .int .i64 1]) ∧ w = w' := by
  by_cases h1 : s < 1 <;> by_cases h2 : 4 < s <;> by_cases h3 : a < 0
  all_goals first | (exfalso; omega) | skip
  all_goals
    clear h
    go_enter Try.func90, Try.ntmps90
    go_wp2
    go_ret2
    exact ⟨rfl, rfl⟩

set_option maxHeartbeats 400000 in
theorem RefGet_short (A : Option Addr) (n c : Nat) (a s : Int) (w : World) (h1 : 1 ≤ s) (h2 : s ≤ 4) (h3 : 0 ≤ a) (hn : n ≤ 100000) (h : (n : Int) < a + s) :
    Calls Try.prog 90 #[.slice A n c, .int .i64 a, .int .i64 s] w fun e w' => e = .returned (.tuple #[.int .i64 0, .int .i64 3]) ∧ w = w' := by
  have h5 : (n : Int) - s < a := by omega
  clear h
  go_enter Try.func90, Try.ntmps90
  go_wp2
  go_ret2
  exact ⟨rfl, rfl⟩

set_option maxHeartbeats 400000 in
theorem RefGet_ok (b off n c a s : Nat) (bs : List Int) (w : World) (h : RB w (some ⟨b, off, none⟩) n c bs) (h1 : 1 ≤ s) (h2 : s ≤ 4) (hn : n ≤ 100000) (hs : a + s ≤ n) :
    Calls Try.prog 90 #[.slice (some ⟨b, off, none⟩) n c, .int .i64 a, .int .i64 s] w fun e w' => e = .returned (.tuple #[.int .i64 (beNum (cutI bs a s)), .int .i64 0]) ∧ w = w' := by
  have hx := h.cut (a := a) (s := s) (c' := s) hs (Nat.le_refl _) (by unfold maxLen; omega)
  clear h
  generalize cutI bs a s = ds at *
  have h5 : ¬ (n : Int) - s < a := by omega
  go_enter Try.func90, Try.ntmps90
  go_wp2
  go_loop [8, 9] (fun t i => ∃ k : Nat, k ≤ s ∧ i = .int .i64 k ∧ t = .int .i64 (beNum (ds.take k))) (fun _ i => s - (intOf i).toNat)
  case atStart => exact ⟨0, Nat.zero_le _, rfl, rfl⟩
  case round =>
    obtain ⟨k, hk, rfl, rfl⟩ := hrel
    by_cases hlt : k < s
    · obtain ⟨b', off', e, hc⟩ := hx.at_ (by omega)
      cases e
      replace hc : w.cell? ⟨b, off + (a + k), none⟩ = some (.int .u8 (ds[k]?.getD 0)) := by rw [← Nat.add_assoc]; exact hc k hlt
      have hb := hx.byt.get k
      have hbd := beNum_bd ds k hx.byt (by have := hx.len; omega)
      have hsn := Lib.hid (beNum_take ds k (by have := hx.len; omega))
      have h6 : (a : Int) + k < n := by omega
      clear hx
      go_wp2
      go_round
      case rel => exact ⟨k + 1, by omega, by go_num, by rw [hsn.out]⟩
      case measure => simp [intOf]; omega
    · obtain rfl : k = s := by omega
      have hsn := Lib.hid (List.take_of_length_le (l := ds) (i := k) (by have := hx.len; omega))
      clear hx
      go_wp2
      go_ret2
      exact ⟨ret2_int (by first | rfl | rw [hsn.out]) rfl, rfl⟩

theorem RefGet_any (A : Option Addr) (n c : Nat) (bs : List Int) (a s : Int) (w : World) (h : RB w A n c bs) (hn : n ≤ 100000) :
    Calls Try.prog 90 #[.slice A n c, .int .i64 a, .int .i64 s] w fun e w' => e = .returned (.tuple #[.int .i64 (getV bs a s).1, .int .i64 (getV bs a s).2]) ∧ w = w' := by
  unfold getV
  rw [h.len]
  by_cases h1 : ¬ (1 ≤ s ∧ s ≤ 4) ∨ a < 0
  · rw [if_pos h1]
    exact RefGet_arg A n c a s w h1
  · rw [if_neg h1]
    by_cases h2 : (n : Int) < a + s
    · rw [if_pos h2]
      exact RefGet_short A n c a s w (by omega) (by omega) (by omega) hn h2
    · rw [if_neg h2]
      obtain ⟨a, rfl⟩ := Int.eq_ofNat_of_zero_le (show 0 ≤ a by omega)
      obtain ⟨s, rfl⟩ := Int.eq_ofNat_of_zero_le (show 0 ≤ s by omega)
      obtain ⟨b, off, rfl, _⟩ := h.at_ (by omega)
      exact RefGet_ok b off n c a s bs w h (by omega) (by omega) hn (by omega)
end Go.Proofs.Ytipigcpenmcaoaa
