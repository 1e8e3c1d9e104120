/- Set of the reference, and the law BePuts: walks. -/
import Derived.Test.YtmbmmpbfmakfbaaSeq
import Derived.Test.YtmbmmpbfmakfbaaLaw01
set_option linter.unusedVariables false
namespace Go.Proofs.Ytmbmmpbfmakfbaa
open Go.RowKit Go.Shelf

theorem pow_as (y : Int) (i : Nat) (hy : y = i) (hi : i ≤ 4) (w : World) :
    Calls Try.prog 75 #[.int .i64 y] w fun e w' => e = .returned (.int .i64 (256 ^ i)) ∧ w = w' := by
  subst hy; exact pow_at i hi w

set_option maxHeartbeats 1000000 in
theorem RefSet_arg (A : Option Addr) (n c : Nat) (a x s : Int) (w : World) (h : ¬ fitsP x s ∨ a < 0) :
    Calls Try.prog 63 #[.slice A n c, .int .i64 a, .int .i64 x, .int .i64 s] w fun e w' => e = .returned (.tuple #[.slice none 0 0, .int .i64 1]) ∧ w = w' := by
  by_cases hf : fitsP x s
  · have ha : a < 0 := by rcases h with h | h; exact absurd hf h; exact h
    have hfb := Lib.hid (fitsB_yes hf)
    clear h hf
    go_enter Try.func63, Try.ntmps63
    go_wp2_with fail
    refine (RefFits_any x s _).mono ?_
    rintro e w3 ⟨rfl, rfl⟩
    rw [hfb.out]
    go_wp2
    go_ret2
    exact ⟨rfl, rfl⟩
  · have hfb := Lib.hid (fitsB_no hf)
    clear h hf
    go_enter Try.func63, Try.ntmps63
    go_wp2_with fail
    refine (RefFits_any x s _).mono ?_
    rintro e w3 ⟨rfl, rfl⟩
    rw [hfb.out]
    go_wp2
    go_ret2
    exact ⟨rfl, rfl⟩

set_option maxHeartbeats 1000000 in
theorem RefSet_short (A : Option Addr) (n c : Nat) (a x s : Int) (w : World) (hf : fitsP x s) (ha : 0 ≤ a) (hn : n ≤ 100000) (h : (n : Int) < a + s) :
    Calls Try.prog 63 #[.slice A n c, .int .i64 a, .int .i64 x, .int .i64 s] w fun e w' => e = .returned (.tuple #[.slice none 0 0, .int .i64 3]) ∧ w = w' := by
  have hs := hf.1
  have hfb := Lib.hid (fitsB_yes hf)
  have h5 : (n : Int) - s < a := by omega
  have hs1 := hs.1
  have hs2 := hs.2
  have ha' : ¬ a < 0 := by omega
  clear h hf hs
  go_enter Try.func63, Try.ntmps63
  go_wp2_with fail
  refine (RefFits_any x s _).mono ?_
  rintro e w3 ⟨rfl, rfl⟩
  rw [hfb.out]
  go_wp2
  go_ret2
  exact ⟨rfl, rfl⟩

set_option maxHeartbeats 1000000 in
theorem RefSet_ok (A : Option Addr) (n c : Nat) (bs : List Int) (a : Nat) (x : Int) (s : Nat) (w : World) (h : RB w A n c bs) (hn : n ≤ 100000) (hf : fitsP x s) (has : a + s ≤ n) :
    Calls Try.prog 63 #[.slice A n c, .int .i64 a, .int .i64 x, .int .i64 s] w fun e w' => ∃ A2 c2, e = .returned (.tuple #[.slice A2 n c2, .int .i64 0]) ∧ OB w' w.heap.size A2 n c2 (setN bs a (digL x s) s) ∧ Below w.heap.size w w' := by
  have hfb := Lib.hid (fitsB_yes hf)
  obtain ⟨⟨hs1, hs4⟩, hx0, hx4⟩ := hf
  have hx1 : x ≤ 4294967295 := by have := pow_le s (by omega); rw [Int.toNat_natCast] at hx4; omega
  have h5 : ¬ (n : Int) - s < a := by omega
  have h6 : ¬ (a : Int) < 0 := by omega
  clear hx4
  go_enter Try.func63, Try.ntmps63
  go_wp2_with fail
  refine (RefFits_any x s _).mono ?_
  rintro e w3 ⟨rfl, rfl⟩
  rw [hfb.out]
  go_wp2_with (at_builtin; refine wpList_append_bytes _ rfl (.const (.slice none 0 0)) (.tmp 26) rfl rfl rfl (OB.nil w w.heap.size) h (by omega) (Nat.le_refl _) ?_; intro A2 c2 w2 ho2 hg2 hr2)
  simp only [List.nil_append, Nat.zero_add] at ho2
  have hb2 : Below w.heap.size w w2 := (Below.refl _ w).grown hg2 (Nat.le_refl _) (fun k hk => by simp [ownBlk] at hk)
  obtain ⟨g, rfl, hg0, hg1, _⟩ := ho2.form (by omega)
  have hl := Lib.hid h.len
  clear hg2 hr2 h
  go_loopw [11] (fun i wr => ∃ k : Nat, k ≤ s ∧ i = .int .i64 k ∧ OB wr w.heap.size (some ⟨g, 0, none⟩) n c2 (setN bs a (digL x s) k) ∧ Below w.heap.size w wr) (fun i _ => s - (intOf i).toNat)
  case atStart => exact ⟨0, by omega, rfl, ho2, hb2⟩
  case round =>
    obtain ⟨k, hk, rfl, hob, hB⟩ := hrel
    clear ho2 hb2
    by_cases hlt : k < s
    · have hor := hob.rb
      obtain ⟨b', off', e', hc'⟩ := hor.at_ (by omega)
      cases e'
      have hcg := hc' (a + k) (by omega)
      obtain ⟨_, e', _, _, hfr⟩ := hob.form (by omega)
      cases e'
      have hfg := hfr (a + k)
      rw [Nat.zero_add] at hcg
      have hst : setN bs a (digL x s) (k + 1) = (setN bs a (digL x s) k).set (a + k) ((digL x s)[k]?.getD 0) := rfl
      rw [digL_get x s k hlt, Option.getD_some] at hst
      obtain ⟨i, hi⟩ : ∃ i : Nat, i = s - 1 - k := ⟨_, rfl⟩
      rw [← hi] at hst
      have hp1 := pow_pos i
      have hp2 := pow_le i (by omega)
      have hpw := Lib.hid (fun w => pow_as ((s : Int) - 1 - k) i (by omega) (by omega) w)
      replace hst := Lib.hid hst
      have hak : (a : Int) + k < n := by omega
      clear hi hor
      replace hc' := Lib.hid hc'
      replace hfr := Lib.hid hfr
      generalize (256 : Int) ^ i = p at *
      have hd0 : 0 ≤ x / p := Int.ediv_nonneg hx0 (by omega)
      have hd1 : x / p ≤ x := Int.ediv_le_self _ hx0
      generalize (setN bs a (digL x s) k)[a + k]?.getD 0 = z at *
      go_wp2_with (go_at_call 75; refine (hpw.out _).mono ?_; rintro e w4 ⟨rfl, rfl⟩)
      go_roundw
      case rel => exact ⟨k + 1, by omega, by go_num, by rw [hst.out]; exact hob.set_ (by omega) (by omega), hB.setCell hg0 _⟩
      case measure => simp [intOf]; omega
    · obtain rfl : k = s := by omega
      go_wp2
      go_ret2
      exact ⟨_, _, rfl, hob, hB⟩

/-- What Set answers: bytes, an error. -/
def setRes (bs : List Int) (a x s : Int) : List Int × Int :=
  if ¬ fitsP x s ∨ a < 0 then ([], 1) else if (bs.length : Int) < a + s then ([], 3) else (setN bs a.toNat (digL x s.toNat) s.toNat, 0)
def SetOut (w : World) (r : List Int × Int) (e : Ending) (w' : World) : Prop := ∃ A2 n2 c2, e = .returned (.tuple #[.slice A2 n2 c2, .int .i64 r.2]) ∧ RB w' A2 n2 c2 r.1 ∧ Below w.heap.size w w'
theorem Set_any (A : Option Addr) (n c : Nat) (bs : List Int) (a x s : Int) (w : World) (h : RB w A n c bs) (hn : n ≤ 100000) :
    Calls Try.prog 50 #[.slice A n c, .int .i64 a, .int .i64 x, .int .i64 s] w (SetOut w (setRes bs a x s)) := by
  unfold setRes
  rw [h.len]
  by_cases hf : fitsP x s
  · by_cases ha : a < 0
    · rw [if_pos (.inr ha)]
      refine (Set_bad A n c bs a x s 1 w h hn hf (by decide) (by decide) (fun A c w => window_arg A n c a s w (.inr ha))).mono ?_
      rintro e w' ⟨rfl, hb⟩
      exact ⟨none, 0, 0, rfl, RB.nil _, hb⟩
    · rw [if_neg (by rintro (h | h); exact h hf; exact ha h)]
      have hs := hf.1
      by_cases h2 : (n : Int) < a + s
      · rw [if_pos h2]
        refine (Set_bad A n c bs a x s 3 w h hn hf (by decide) (by decide) (fun A c w => window_short A n c a s w hs.1 hs.2 (by omega) hn h2)).mono ?_
        rintro e w' ⟨rfl, hb⟩
        exact ⟨none, 0, 0, rfl, RB.nil _, hb⟩
      · rw [if_neg h2]
        obtain ⟨a, rfl⟩ := Int.eq_ofNat_of_zero_le (show 0 ≤ a by omega)
        obtain ⟨s, rfl⟩ := Int.eq_ofNat_of_zero_le (show 0 ≤ s by omega)
        refine (Set_ok A n c bs a x s w h hn hf (by omega)).mono ?_
        rintro e w' ⟨A2, c2, rfl, ho, hb⟩
        exact ⟨A2, n, c2, rfl, ho.rb, hb⟩
  · rw [if_pos (.inl hf)]
    refine (Set_nofit A n c bs a x s w hf).mono ?_
    rintro e w' ⟨rfl, rfl⟩
    exact ⟨none, 0, 0, rfl, RB.nil _, Below.refl _ _⟩
theorem RefSet_any (A : Option Addr) (n c : Nat) (bs : List Int) (a x s : Int) (w : World) (h : RB w A n c bs) (hn : n ≤ 100000) :
    Calls Try.prog 63 #[.slice A n c, .int .i64 a, .int .i64 x, .int .i64 s] w (SetOut w (setRes bs a x s)) := by
  unfold setRes
  rw [h.len]
  by_cases hb : ¬ fitsP x s ∨ a < 0
  · rw [if_pos hb]
    refine (RefSet_arg A n c a x s w hb).mono ?_
    rintro e w' ⟨rfl, rfl⟩
    exact ⟨none, 0, 0, rfl, RB.nil _, Below.refl _ _⟩
  · rw [if_neg hb]
    have hf : fitsP x s := Decidable.byContradiction fun h => hb (.inl h)
    have ha : ¬ a < 0 := fun h => hb (.inr h)
    have hs := hf.1
    by_cases h2 : (n : Int) < a + s
    · rw [if_pos h2]
      refine (RefSet_short A n c a x s w hf (by omega) hn h2).mono ?_
      rintro e w' ⟨rfl, rfl⟩
      exact ⟨none, 0, 0, rfl, RB.nil _, Below.refl _ _⟩
    · rw [if_neg h2]
      obtain ⟨a, rfl⟩ := Int.eq_ofNat_of_zero_le (show 0 ≤ a by omega)
      obtain ⟨s, rfl⟩ := Int.eq_ofNat_of_zero_le (show 0 ≤ s by omega)
      refine (RefSet_ok A n c bs a x s w h hn hf (by omega)).mono ?_
      rintro e w' ⟨A2, c2, rfl, ho, hb⟩
      exact ⟨A2, n, c2, rfl, ho.rb, hb⟩
end Go.Proofs.Ytmbmmpbfmakfbaa
