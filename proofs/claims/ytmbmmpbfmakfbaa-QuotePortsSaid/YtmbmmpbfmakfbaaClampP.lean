/- What clamp's Packet answers; that it answers it twice; that its bytes may be built. No program in sight. -/
import Derived.Test.YtmbmmpbfmakfbaaV4
import Derived.Test.YtmbmmpbfmakfbaaPorts
set_option linter.unusedVariables false
namespace Go.Proofs.Ytmbmmpbfmakfbaa
open Go Go.RowKit

theorem segT_data (m : TcpP) (b : Int) : (segT m b).data = m.data := by unfold segT; split <;> rfl
theorem segT_len (m : TcpP) (b : Int) : (segT m b).opts.length = m.opts.length := by
  unfold segT
  split
  · exact setN_length _ _ _ _
  · rfl
theorem segT_check (m : TcpP) (b : Int) (no n : Nat) : checkT (segT m b) no n = checkT m no n := by unfold segT; split <;> rfl
theorem setN_byts {bs ys : List Int} (h : Byts bs) (k : Byts ys) (a : Nat) : ∀ i, Byts (setN bs a ys i)
  | 0 => h
  | i + 1 => (setN_byts h k a i).set _ (k.get i).1 (k.get i).2
theorem segT_byts {m : TcpP} (h : Byts m.opts) (b : Int) : Byts (segT m b).opts := by
  unfold segT
  split
  · exact setN_byts h (digL_byts _ _) _ _
  · exact h
/-- Held twice it is held once. -/
theorem segT_twice {m : TcpP} (h : Byts m.opts) (b : Int) : segT (segT m b) b = segT m b := by
  cases hh : (heldT m b).2
  · have e : segT m b = m := by unfold segT; rw [hh]; rfl
    rw [e, e]
  · have hb : fitsP b ((2 : Nat) : Int) := by
      obtain ⟨_, _, _, _, _, _, _, h7, _⟩ := heldT_true hh
      exact h7
    have hf : (bits .and .i64 m.f 2 == 0) = false := by
      obtain ⟨_, _, _, _, _, _, _, _, h8⟩ := heldT_true hh
      exact h8
    obtain ⟨_, h2⟩ := seg_mss (m := m) (bound := b) hb h
    rw [hf, if_neg (by decide)] at h2
    have hfl : (segT m b).f = m.f := by unfold segT; split <;> rfl
    have : (heldT (segT m b) b).2 = false := by
      unfold heldT
      rw [hfl, hf, show fitsB b 2 = true from fitsB_yes hb]
      simp only [Bool.false_eq_true, if_false, Bool.true_eq_false, Bool.and_eq_false_iff]
      exact .inr (by rw [h2]; simp; omega)
    generalize segT m b = q at *
    unfold segT
    rw [this]; rfl

theorem getV_fits {bs : List Int} (h : Byts bs) (a : Int) (s : Nat) (h1 : 1 ≤ s) (h4 : s ≤ 4) : fitsP (getV bs a (s : Int)).1 (s : Int) := by
  refine ⟨⟨by omega, by omega⟩, ?_⟩
  have hp : (0 : Int) < 256 ^ (s : Int).toNat := Int.pow_pos (by decide)
  unfold getV
  split
  · exact ⟨Int.le_refl _, hp⟩
  · split
    · exact ⟨Int.le_refl _, hp⟩
    · have hb := cutI_byts h a.toNat (s : Int).toNat
      refine ⟨beNum_lo _ hb, ?_⟩
      have hl : (cutI bs a.toNat (s : Int).toNat).length ≤ s := by unfold cutI; rw [List.length_take]; simp; omega
      have := beNum_hi _ hb s hl
      simpa using this
/-- A segment that bytes are may be. -/
theorem read_check {src dst : Int} {bs : List Int} (h : Byts bs) (hk : codeT src dst bs = 0) :
    checkT (readT src dst bs) (readT src dst bs).opts.length (readT src dst bs).data.length = 0 ∧ Byts (readT src dst bs).opts ∧ Byts (readT src dst bs).data ∧ 20 + (readT src dst bs).opts.length + (readT src dst bs).data.length = bs.length := by
  have e : readT src dst bs = parsedT bs := by unfold readT; rw [if_pos hk]
  rw [e]
  have hb := h.get 12
  have hhd : headL bs = bs[12]?.getD 0 / 16 * 4 := rfl
  unfold codeT at hk
  by_cases h1 : bs.length < 20
  · rw [if_pos h1] at hk; cases hk
  rw [if_neg h1] at hk
  by_cases h2 : headL bs < 20
  · rw [if_pos h2] at hk; cases hk
  rw [if_neg h2] at hk
  by_cases h3 : (bs.length : Int) < headL bs
  · rw [if_pos h3] at hk; cases hk
  rw [if_neg h3] at hk
  by_cases h4 : 65535 < bs.length
  · rw [if_pos h4] at hk; cases hk
  clear hk e
  obtain ⟨k, hk⟩ : ∃ k : Nat, headL bs = k := ⟨(headL bs).toNat, by omega⟩
  have ht : (headL bs).toNat = k := by omega
  have ho : (parsedT bs).opts = (bs.drop 20).take (k - 20) := by unfold parsedT; rw [ht]
  have hd : (parsedT bs).data = bs.drop k := by unfold parsedT; rw [ht]
  have lo : (parsedT bs).opts.length = k - 20 := by rw [ho, List.length_take, List.length_drop]; omega
  have ld : (parsedT bs).data.length = bs.length - k := by rw [hd, List.length_drop]
  refine ⟨?_, by rw [ho]; exact (h.drop _).take _, by rw [hd]; exact h.drop _, by rw [lo, ld]; omega⟩
  rw [lo, ld]
  have hr : (parsedT bs).r = bs[12]?.getD 0 % 16 := rfl
  have hH : headT (parsedT bs) (k - 20) := ⟨by omega, by omega, by rw [hr]; omega, by rw [hr]; omega⟩
  have hF : fitT (zsT (parsedT bs) (k - 20)) := by
    unfold fitT zsT
    simp only [List.mem_cons, List.not_mem_nil, or_false, forall_eq_or_imp, forall_eq]
    have f1 : ∀ x : Int, 0 ≤ x → x < 256 → fitsP x ((1 : Nat) : Int) := fun x h0 h1 => ⟨by omega, h0, by simpa using h1⟩
    have b13 := h.get 13
    refine ⟨getV_fits h 0 2 (by omega) (by omega), getV_fits h 2 2 (by omega) (by omega), getV_fits h 4 4 (by omega) (by omega), getV_fits h 8 4 (by omega) (by omega), f1 _ ?_ ?_, f1 _ ?_ ?_, getV_fits h 14 2 (by omega) (by omega), ⟨by omega, by omega, by decide⟩, getV_fits h 18 2 (by omega) (by omega)⟩
    · rw [hr]; omega
    · rw [hr]; omega
    · show 0 ≤ bs[13]?.getD 0; omega
    · show bs[13]?.getD 0 < 256; omega
  unfold checkT
  rw [if_pos hH, if_pos hF, if_neg (by omega)]

/-- The packet whose segment's greatest size is held. -/
def clampD (p : V4P) (b : Int) : List Int := builtT p.src p.dst (segT (readT p.src p.dst p.data) b)
def packC (p : V4P) (b : Int) : V4P := if codeP p = 0 ∧ p.pr = 6 then { p with data := clampD p b } else p
theorem codeP_six {p : V4P} (hk : codeP p = 0) (h6 : p.pr = 6) : chk4 p = 0 ∧ wholeB p = true ∧ codeT p.src p.dst p.data = 0 := by
  unfold codeP at hk
  by_cases h1 : chk4 p = 0
  · rw [if_neg (by simpa using h1)] at hk
    cases h2 : wholeB p
    · rw [h2] at hk; simp at hk
    · rw [h2, if_neg (by decide), if_neg (by rw [h6]; decide), if_pos h6] at hk
      exact ⟨h1, rfl, hk⟩
  · rw [if_pos h1] at hk; exact absurd hk h1
theorem codeP_of {p : V4P} (h6 : p.pr = 6) (h1 : chk4 p = 0) (h2 : wholeB p = true) (h3 : codeT p.src p.dst p.data = 0) : codeP p = 0 := by
  unfold codeP
  rw [if_neg (by simpa using h1), if_neg (by rw [h2]; decide), if_neg (by rw [h6]; decide), if_pos h6, h3]
/-- What is held, of a packet whose segment may be. -/
theorem clampD_ok {p : V4P} (b : Int) (hd : Byts p.data) (hk : codeT p.src p.dst p.data = 0) :
    checkT (segT (readT p.src p.dst p.data) b) (readT p.src p.dst p.data).opts.length (readT p.src p.dst p.data).data.length = 0 ∧ (clampD p b).length = p.data.length ∧ Byts (clampD p b) ∧ codeT p.src p.dst (clampD p b) = 0 ∧ readT p.src p.dst (clampD p b) = segT (readT p.src p.dst p.data) b := by
  obtain ⟨h1, h2, h3, h4⟩ := read_check hd hk
  have hc := (segT_check (readT p.src p.dst p.data) b _ _).trans h1
  have ho := segT_byts h2 b
  have hdd : Byts (segT (readT p.src p.dst p.data) b).data := by rw [segT_data]; exact h3
  refine ⟨hc, ?_, bytesT_byts ho hdd, back8_code (segT_len _ _) (by rw [segT_data]) hc ho hdd, back8_read (segT_len _ _) (by rw [segT_data]) hc ho hdd⟩
  unfold clampD builtT
  rw [bytesT_length, segT_len, segT_data, h4]
theorem chk4_data {p : V4P} {ds : List Int} (h : ds.length = p.data.length) : chk4 { p with data := ds } = chk4 p := by
  unfold chk4
  rw [show ({ p with data := ds } : V4P).data.length = p.data.length from h]
  rfl
/-- Held twice it is held once; the ports stay. -/
theorem packC_twice {p : V4P} (b : Int) (hd : Byts p.data) : packC (packC p b) b = packC p b ∧ codeP (packC p b) = codeP p ∧ (packC p b).data.length = p.data.length ∧ Byts (packC p b).data ∧ { packC p b with data := p.data } = p := by
  by_cases hc : codeP p = 0 ∧ p.pr = 6
  · obtain ⟨hk, h6⟩ := hc
    obtain ⟨h1, h2, h3⟩ := codeP_six hk h6
    obtain ⟨g1, g2, g3, g4, g5⟩ := clampD_ok b hd h3
    have e : packC p b = { p with data := clampD p b } := by unfold packC; rw [if_pos ⟨hk, h6⟩]
    have hk2 : codeP { p with data := clampD p b } = 0 := codeP_of h6 (by rw [chk4_data g2]; exact h1) h2 g4
    have hmb : Byts (readT p.src p.dst p.data).opts := (read_check hd h3).2.1
    have e2 : clampD { p with data := clampD p b } b = clampD p b := by
      show builtT p.src p.dst (segT (readT p.src p.dst (clampD p b)) b) = _
      rw [g5, segT_twice hmb]
      rfl
    rw [e]
    refine ⟨?_, by rw [hk2, hk], g2, g3, rfl⟩
    have : packC { p with data := clampD p b } b = { p with data := clampD { p with data := clampD p b } b } := by
      unfold packC
      rw [if_pos ⟨hk2, h6⟩]
    rw [this, e2]
  · have e : packC p b = p := by unfold packC; rw [if_neg hc]
    rw [e]
    exact ⟨e, rfl, rfl, hd, rfl⟩
end Go.Proofs.Ytmbmmpbfmakfbaa
