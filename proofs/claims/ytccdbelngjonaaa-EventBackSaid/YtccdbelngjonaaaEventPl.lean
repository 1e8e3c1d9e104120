/- Plain facts: events are read from their bytes. No program in sight. -/
import Derived.Test.YtccdbelngjonaaaEventPR
import Derived.Test.YtccdbelngjonaaaPlain02
set_option linter.unusedVariables false
namespace Go.Proofs.Ytccdbelngjonaaa
open Go.RowKit

theorem ebeNum_dig (x : Int) (s : Nat) (h : fitsP x s) : beNum (digL x s) = x := by
  obtain ⟨⟨h1, h2⟩, h3, h4⟩ := h
  have hc : s = 1 ∨ s = 2 ∨ s = 3 ∨ s = 4 := by omega
  rw [Int.toNat_natCast] at h4
  rcases hc with rfl | rfl | rfl | rfl <;> simp [digL, beNum, List.range_succ] at h4 ⊢ <;> omega
theorem egetV_mid (xs ys : List Int) (x : Int) (s : Nat) (hf : fitsP x s) (a : Nat) (ha : xs.length = a) : (getV (xs ++ digL x s ++ ys) a s).1 = x := by
  have h1 := hf.1
  unfold getV
  rw [if_neg (by omega), if_neg (by simp only [List.length_append, digL_length]; omega)]
  simp only [Int.toNat_natCast]
  have : cutI (xs ++ digL x s ++ ys) a s = digL x s := by
    unfold cutI
    rw [List.append_assoc, List.drop_append_of_le_length (by omega), ← ha, List.drop_length, List.nil_append, List.take_append_of_le_length (by rw [digL_length]; omega), List.take_of_length_le (by rw [digL_length]; omega)]
  rw [this, ebeNum_dig x s hf]
def codesE (l : List QP) : List Int := (l.map fun q => codeE q q.data.length).flatten
def goodE (q : QP) : Bool := checkE q q.data.length
theorem codeE_bad {q : QP} (h : goodE q = false) : codeE q q.data.length = [] := by
  unfold codeE; unfold goodE at h; rw [h]; rfl
theorem codeE_good {q : QP} (h : goodE q = true) : codeE q q.data.length = [q.x, q.y] ++ digL q.z 4 ++ digL (q.data.length : Int) 2 ++ q.data := by
  unfold codeE; unfold goodE at h; rw [h]; rfl
theorem code_len {q : QP} (h : goodE q = true) : (codeE q q.data.length).length = 8 + q.data.length := by
  rw [codeE_good h]; simp [digL_length]; omega
theorem one_code {q : QP} (h : goodE q = true) (rest : List Int) :
    oneB (codeE q q.data.length ++ rest) = true ∧ evAt (codeE q q.data.length ++ rest) = q ∧ oneN (codeE q q.data.length ++ rest) = 8 + (q.data.length : Int) := by
  have hl := code_len h
  obtain ⟨hx0, hx1, ⟨hy0, hy1⟩, hz0, hz1, hn1⟩ := checkE_ok h
  have e := codeE_good h
  have e6 : (getV (codeE q q.data.length ++ rest) 6 2).1 = (q.data.length : Int) := by
    have := egetV_mid ([q.x, q.y] ++ digL q.z 4) (q.data ++ rest) (q.data.length : Int) 2 (fits2 (by omega) (by omega)) 6 (by simp [digL_length])
    rw [e]
    simpa using this
  have e2 : (getV (codeE q q.data.length ++ rest) 2 4).1 = q.z := by
    have := egetV_mid [q.x, q.y] (digL (q.data.length : Int) 2 ++ q.data ++ rest) q.z 4 (fits4 hz0 (by omega)) 2 rfl
    rw [e]
    simpa using this
  have ev : evAt (codeE q q.data.length ++ rest) = q := by
    unfold evAt
    rw [e6, e2, Int.toNat_natCast]
    have h0 : (codeE q q.data.length ++ rest)[0]?.getD 0 = q.x := by rw [e]; rfl
    have h1 : (codeE q q.data.length ++ rest)[1]?.getD 0 = q.y := by rw [e]; rfl
    have h8 : ((codeE q q.data.length ++ rest).drop 8).take q.data.length = q.data := by
      rw [e, List.append_assoc _ q.data rest, List.drop_append_of_le_length (by simp [digL_length]), List.drop_of_length_le (by simp [digL_length]), List.nil_append, List.take_append_of_le_length (Nat.le_refl _), List.take_of_length_le (Nat.le_refl _)]
    rw [h0, h1, h8]
  have hb : oneB (codeE q q.data.length ++ rest) = true := by
    unfold oneB
    rw [ev, e6, Int.toNat_natCast]
    unfold goodE at h
    rw [h, List.length_append, hl, decide_eq_true (by omega), decide_eq_true (by omega)]; rfl
  refine ⟨hb, ev, ?_⟩
  unfold oneN
  rw [if_pos hb, e6]
theorem oneB_nil : oneB [] = false := by decide
theorem parse_codes : ∀ (l : List QP) (f : Nat), (codesE l).length < f → parseF f (codesE l) = l.filter goodE
  | [], 0, h => absurd h (by omega)
  | [], f + 1, h => by
    show (if oneB [] = true then _ else []) = _
    rw [oneB_nil]; rfl
  | q :: l, f, h => by
    have hc : codesE (q :: l) = codeE q q.data.length ++ codesE l := by simp [codesE]
    cases hq : goodE q
    · rw [codeE_bad hq, List.nil_append] at hc
      rw [hc] at h ⊢
      rw [parse_codes l f h, List.filter_cons, hq]; rfl
    · have hl := code_len hq
      obtain ⟨h1, h2, h3⟩ := one_code hq (codesE l)
      rw [hc, List.length_append, hl] at h
      obtain ⟨g, rfl⟩ : ∃ g, f = g + 1 := ⟨f - 1, by omega⟩
      rw [hc]
      show (if oneB (codeE q q.data.length ++ codesE l) = true then evAt (codeE q q.data.length ++ codesE l) :: parseF g ((codeE q q.data.length ++ codesE l).drop (oneN (codeE q q.data.length ++ codesE l)).toNat) else []) = _
      rw [if_pos h1, h2, h3]
      have hd : (codeE q q.data.length ++ codesE l).drop (8 + (q.data.length : Int)).toNat = codesE l := by
        have : (8 + (q.data.length : Int)).toNat = (codeE q q.data.length).length := by rw [hl]; omega
        rw [this, List.drop_append_of_le_length (Nat.le_refl _), List.drop_length, List.nil_append]
      rw [hd, parse_codes l g (by omega), List.filter_cons, hq]; rfl
theorem back_codes (l : List QP) : parseE (codesE l) = l.filter goodE := parse_codes l _ (Nat.lt_succ_self _)
def fewL (l : List QP) : Bool := decide (l.length ≤ 60 ∧ ∀ q ∈ l, q.data.length ≤ 1000)
theorem codesE_len : ∀ (l : List QP), (∀ q ∈ l, q.data.length ≤ 1000) → (codesE l).length ≤ l.length * 1008
  | [], _ => Nat.le_refl _
  | q :: l, h => by
    have hc : codesE (q :: l) = codeE q q.data.length ++ codesE l := by simp [codesE]
    have h1 := codesE_len l (fun p hp => h p (List.mem_cons_of_mem _ hp))
    have h2 := h q (List.mem_cons_self ..)
    rw [hc, List.length_append, List.length_cons]
    cases hq : goodE q
    · rw [codeE_bad hq, List.length_nil]; omega
    · rw [code_len hq]; omega
theorem codesE_snoc (l : List QP) (q : QP) : codesE (l ++ [q]) = codesE l ++ codeE q q.data.length := by simp [codesE]
end Go.Proofs.Ytccdbelngjonaaa
