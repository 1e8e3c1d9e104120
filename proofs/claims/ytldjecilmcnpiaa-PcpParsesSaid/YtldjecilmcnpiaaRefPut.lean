/- Put of the reference; Put of both, in one word each. -/
import Derived.Test.YtldjecilmcnpiaaPut
set_option linter.unusedVariables false
namespace Go.Proofs.Ytldjecilmcnpiaa
open Go.RowKit Go.Shelf

theorem pow_le (s : Nat) (h : s ≤ 4) : (256 : Int) ^ s ≤ 4294967296 := by
  have hc : s = 0 ∨ s = 1 ∨ s = 2 ∨ s = 3 ∨ s = 4 := by omega
  rcases hc with rfl | rfl | rfl | rfl | rfl <;> decide
theorem pow_pos (s : Nat) : (1 : Int) ≤ 256 ^ s := by have := Int.pow_pos (n := 256) (m := s) (by decide); omega
theorem digL_succ (x : Int) (s k : Nat) (h : k < s) : (digL x s).take (k + 1) = (digL x s).take k ++ [x / 256 ^ (s - 1 - k) % 256] := by
  rw [List.take_add_one, digL_get x s k h]; rfl

set_option maxHeartbeats 1000000 in
theorem RefPut_yes (A : Option Addr) (n c : Nat) (bs : List Int) (x : Int) (s : Nat) (w : World) (h : RB w A n c bs) (hn : n ≤ 100000) (hf : fitsP x s) :
    Calls Try.prog 80 #[.slice A n c, .int .i64 x, .int .i64 s] w (Fresh w (n + s) (bs ++ digL x s)) := by
  have hfb := Lib.hid (fitsB_yes hf)
  obtain ⟨⟨h1, h2⟩, h3, h4⟩ := hf
  have hs4 : s ≤ 4 := by omega
  have hx : x ≤ 4294967295 := by have := pow_le s hs4; rw [Int.toNat_natCast] at h4; omega
  clear h4
  go_enter Try.func80, Try.ntmps80
  go_wp2_with (at_builtin; refine wpList_append_bytes _ rfl (.const (.slice none 0 0)) (.tmp 9) rfl rfl rfl (OB.nil w w.heap.size) h (by omega) (Nat.le_refl _) ?_; intro A2 c2 w2 ho2 hg2 hr2)
  simp only [List.nil_append, Nat.zero_add] at ho2
  have hb2 : Below w.heap.size w w2 := (Below.refl _ w).grown hg2 (Nat.le_refl _) (fun k hk => by simp [ownBlk] at hk)
  clear hg2 hr2 h
  refine (RefFits_any x s _).mono ?_
  rintro e w3 ⟨rfl, rfl⟩
  rw [hfb.out]
  go_wp2
  go_loopw [7, 8] (fun v i wr => ∃ (k : Nat) (A3 : Option Addr) (c3 : Nat), k ≤ s ∧ i = .int .i64 ((s : Int) - 1 - k) ∧ v = .slice A3 (n + k) c3 ∧ OB wr w.heap.size A3 (n + k) c3 (bs ++ (digL x s).take k) ∧ Below w.heap.size w wr) (fun _ i _ => (intOf i + 1).toNat)
  case atStart => exact ⟨0, A2, c2, by omega, by simp, by simp, by simpa using ho2, hb2⟩
  case round =>
    obtain ⟨k, A3, c3, hk, rfl, rfl, ho3, hB⟩ := hrel
    clear ho2 hb2
    by_cases hlt : k < s
    · have hdt := digL_succ x s k hlt
      obtain ⟨i, hi⟩ : ∃ i : Nat, i = s - 1 - k := ⟨_, rfl⟩
      rw [← hi] at hdt
      have hik : (s : Int) - 1 - k = i := by omega
      rw [hik]
      have hp1 := pow_pos i
      have hp2 := pow_le i (by omega)
      have hi4 : i ≤ 3 := by omega
      have hpw := Lib.hid (fun w => pow_at i (by omega) w)
      replace hdt := Lib.hid hdt
      replace hik := Lib.hid hik
      clear hi
      generalize (256 : Int) ^ i = p at *
      have hd0 : 0 ≤ x / p := Int.ediv_nonneg h3 (by omega)
      have hd1 : x / p ≤ x := Int.ediv_le_self _ h3
      have hlit : ∀ W : World, RB (W.alloc (.cells #[.int .u8 (x / p % 256)] 5)) (some ⟨W.heap.size, 0, none⟩) 1 1 [x / p % 256] := fun W => RB.lit W 5 [x / p % 256] (Byts.one (by omega) (by omega)) (by simp)
      replace hlit := Lib.hid hlit
      go_wp2_with (first
        | (go_at_call 108; refine (hpw.out _).mono ?_; rintro e w4 ⟨rfl, rfl⟩)
        | (at_builtin; refine wpList_append_bytes _ rfl (.tmp 22) (.tmp 29) rfl rfl rfl (ho3.alloc _) (hlit.out _) (by omega) (by have := hB.size; simp; omega) ?_; intro A4 c4 w5 ho5 hg5 hr5))
      go_roundw
      case rel => exact ⟨k + 1, A4, c4, by omega, by have := hik.out; congr 1; omega, rfl, by rw [hdt.out, ← List.append_assoc]; exact ho5, (hB.alloc hB.size _).grown hg5 (by have := hB.size; simp; omega) (fun j hj => (ho3.blk hj).1)⟩
      case measure => first | (simp [intOf]; done) | (simp [intOf]; omega)
    · have hz : ((s : Int) - 1 - k) < 0 := by omega
      have hT := Lib.hid (List.take_of_length_le (l := digL x s) (i := k) (by rw [digL_length]; omega))
      obtain rfl : k = s := by omega
      go_wp2
      go_ret
      rw [hT.out] at ho3
      exact ⟨A3, c3, rfl, ho3, hB⟩

set_option maxHeartbeats 1000000 in
theorem RefPut_no (A : Option Addr) (n c : Nat) (bs : List Int) (x s : Int) (w : World) (h : RB w A n c bs) (hn : n ≤ 100000) (hf : ¬ fitsP x s) :
    Calls Try.prog 80 #[.slice A n c, .int .i64 x, .int .i64 s] w (Fresh w n bs) := by
  have hfb := Lib.hid (fitsB_no hf)
  clear hf
  go_enter Try.func80, Try.ntmps80
  go_wp2_with (at_builtin; refine wpList_append_bytes _ rfl (.const (.slice none 0 0)) (.tmp 9) rfl rfl rfl (OB.nil w w.heap.size) h (by omega) (Nat.le_refl _) ?_; intro A2 c2 w2 ho2 hg2 hr2)
  simp only [List.nil_append, Nat.zero_add] at ho2
  have hb2 : Below w.heap.size w w2 := (Below.refl _ w).grown hg2 (Nat.le_refl _) (fun k hk => by simp [ownBlk] at hk)
  clear hg2 hr2 h
  refine (RefFits_any x s _).mono ?_
  rintro e w3 ⟨rfl, rfl⟩
  rw [hfb.out]
  go_wp2
  go_ret
  exact ⟨A2, c2, rfl, ho2, hb2⟩

/-- What Put answers. -/
def putRes (bs : List Int) (x s : Int) : List Int := if fitsP x s then bs ++ digL x s.toNat else bs
def PutOut (w : World) (r : List Int) (e : Ending) (w' : World) : Prop := ∃ A2 n2 c2, e = .returned (.slice A2 n2 c2) ∧ RB w' A2 n2 c2 r ∧ Below w.heap.size w w'

theorem Put_any (A : Option Addr) (n c : Nat) (bs : List Int) (x s : Int) (w : World) (h : RB w A n c bs) (hn : n ≤ 100000) :
    Calls Try.prog 72 #[.slice A n c, .int .i64 x, .int .i64 s] w (PutOut w (putRes bs x s)) := by
  unfold putRes
  by_cases hf : fitsP x s
  · rw [if_pos hf]
    obtain ⟨s, rfl⟩ := Int.eq_ofNat_of_zero_le (show 0 ≤ s by have := hf.1; omega)
    exact (Put_yes A n c bs x s w h hn hf).mono fun e w' ⟨A2, c2, he, ho, hb⟩ => ⟨A2, _, c2, he, ho.rb, hb⟩
  · rw [if_neg hf]
    exact (Put_no A n c bs x s w h hn hf).mono fun e w' ⟨A2, c2, he, ho, hb⟩ => ⟨A2, _, c2, he, ho.rb, hb⟩
theorem RefPut_any (A : Option Addr) (n c : Nat) (bs : List Int) (x s : Int) (w : World) (h : RB w A n c bs) (hn : n ≤ 100000) :
    Calls Try.prog 80 #[.slice A n c, .int .i64 x, .int .i64 s] w (PutOut w (putRes bs x s)) := by
  unfold putRes
  by_cases hf : fitsP x s
  · rw [if_pos hf]
    obtain ⟨s, rfl⟩ := Int.eq_ofNat_of_zero_le (show 0 ≤ s by have := hf.1; omega)
    exact (RefPut_yes A n c bs x s w h hn hf).mono fun e w' ⟨A2, c2, he, ho, hb⟩ => ⟨A2, _, c2, he, ho.rb, hb⟩
  · rw [if_neg hf]
    exact (RefPut_no A n c bs x s w h hn hf).mono fun e w' ⟨A2, c2, he, ho, hb⟩ => ⟨A2, _, c2, he, ho.rb, hb⟩

end Go.Proofs.Ytldjecilmcnpiaa
