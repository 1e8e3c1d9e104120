/- Plain facts on the sum of the words of bytes. No program in sight. -/
import Derived.Test.YtmbmmpbfmakfbaaSeq
import Derived.Test.YtmbmmpbfmakfbaaWrit
import Derived.Test.YtmbmmpbfmakfbaaSeg
import Derived.Test.YtmbmmpbfmakfbaaAppend
import Derived.Test.YtmbmmpbfmakfbaaTame
set_option linter.unusedVariables false
namespace Go.Proofs.Ytmbmmpbfmakfbaa
open Go.RowKit

/-- The words of bytes together, along the list. -/
def sumL : List Int → Int
  | [] => 0
  | [x] => x * 256
  | x :: y :: r => x * 256 + y + sumL r
theorem wordI_cons (x y : Int) (r : List Int) (k : Nat) : wordI (x :: y :: r) (k + 2) = wordI r k := by simp [wordI]
theorem sumW_cons (x y : Int) (r : List Int) (k : Nat) : sumW (x :: y :: r) (k + 1) = x * 256 + y + sumW r k := by
  induction k with
  | zero => simp [sumW, wordI]
  | succ k ih =>
    have h1 : sumW (x :: y :: r) (k + 1 + 1) = sumW (x :: y :: r) (k + 1) + wordI (x :: y :: r) (2 * (k + 1)) := rfl
    have h2 : sumW r (k + 1) = sumW r k + wordI r (2 * k) := rfl
    rw [h1, ih, h2, show 2 * (k + 1) = 2 * k + 2 from by omega, wordI_cons]
    omega
theorem sumB_cons (x y : Int) (r : List Int) : sumB (x :: y :: r) = x * 256 + y + sumB r := by
  unfold sumB
  rw [show ((x :: y :: r).length + 1) / 2 = (r.length + 1) / 2 + 1 from by simp; omega]
  exact sumW_cons x y r _
theorem sumB_eq (bs : List Int) : sumB bs = sumL bs := by
  match bs with
  | [] => rfl
  | [x] => simp [sumB, sumW, sumL, wordI]
  | x :: y :: r => rw [sumB_cons, sumL, sumB_eq r]
theorem sumL_append (a b : List Int) (h : a.length % 2 = 0) : sumL (a ++ b) = sumL a + sumL b := by
  match a with
  | [] => simp [sumL]
  | [x] => simp at h
  | x :: y :: r =>
    have := sumL_append r b (by simp at h; omega)
    simp only [List.cons_append, sumL, this]; omega
theorem sumB_append (a b : List Int) (h : a.length % 2 = 0) : sumB (a ++ b) = sumB a + sumB b := by
  rw [sumB_eq, sumB_eq, sumB_eq, sumL_append a b h]
theorem sumB_two (x y : Int) : sumB [x, y] = x * 256 + y := by rw [sumB_eq]; simp [sumL]
theorem sumP_cons (x : List Int) (l : List (List Int)) (k : Nat) : sumP (x :: l) (k + 1) = sumB x + sumP l k := by
  induction k with
  | zero => simp [sumP]
  | succ k ih =>
    have h1 : sumP (x :: l) (k + 1 + 1) = sumP (x :: l) (k + 1) + sumB ((x :: l)[k + 1]?.getD []) := rfl
    have h2 : sumP l (k + 1) = sumP l k + sumB (l[k]?.getD []) := rfl
    rw [h1, ih, h2, List.getElem?_cons_succ]; omega
theorem totalI_cons (x : List Int) (l : List (List Int)) : totalI (x :: l) = sumB x + totalI l := sumP_cons x l l.length
theorem totalI_nil : totalI [] = 0 := rfl
theorem sumB_lo {bs : List Int} (h : Byts bs) : 0 ≤ sumB bs := (sumW_bd h _).1
theorem sumL_pos {bs : List Int} (h : Byts bs) (hx : ∃ x ∈ bs, x ≠ 0) : 0 < sumL bs := by
  match bs with
  | [] => obtain ⟨x, hx, _⟩ := hx; cases hx
  | [x] => obtain ⟨y, hy, h0⟩ := hx; simp at hy; subst hy; have := h y (by simp); simp [sumL]; omega
  | x :: y :: r =>
    have hX := h x (by simp)
    have hY := h y (by simp)
    have hr : Byts r := fun z hz => h z (by simp [hz])
    have hr0 : 0 ≤ sumL r := by rw [← sumB_eq]; exact sumB_lo hr
    obtain ⟨z, hz, h0⟩ := hx
    simp only [sumL]
    rcases List.mem_cons.1 hz with rfl | hz
    · omega
    · rcases List.mem_cons.1 hz with rfl | hz
      · omega
      · have := sumL_pos hr ⟨z, hz, h0⟩; omega
theorem sumB_pos {bs : List Int} (h : Byts bs) (hx : ∃ x ∈ bs, x ≠ 0) : 0 < sumB bs := by rw [sumB_eq]; exact sumL_pos h hx

/-- The sum behind bytes makes them right. -/
theorem fold_right (t : Int) (h : 0 ≤ t) : foldI (t + (65535 - foldI t)) = 65535 := by
  unfold foldI
  split <;> split <;> omega
end Go.Proofs.Ytmbmmpbfmakfbaa
/- Plain facts: a segment that may be is read from its bytes. No program in sight. -/
set_option linter.unusedVariables false
namespace Go.Proofs.Ytmbmmpbfmakfbaa
open Go.RowKit

theorem tbeNum_dig (x : Int) (s : Nat) (h : fitsP x s) : beNum (digL x s) = x := by
  obtain ⟨⟨h1, h2⟩, h3, h4⟩ := h
  have hc : s = 1 ∨ s = 2 ∨ s = 3 ∨ s = 4 := by omega
  rw [Int.toNat_natCast] at h4
  rcases hc with rfl | rfl | rfl | rfl <;> simp [digL, beNum, List.range_succ] at h4 ⊢ <;> omega
theorem tsumB_dig2 (s : Int) (h0 : 0 ≤ s) (h1 : s ≤ 65535) : sumB (digL s 2) = s := by
  have : digL s 2 = [s / 256 % 256, s % 256] := by simp [digL, List.range_succ]
  rw [this, sumB_two]; omega
theorem tsumB_mid (xs ys : List Int) (s : Int) (h0 : 0 ≤ s) (h1 : s ≤ 65535) (hx : xs.length % 2 = 0) : sumB (xs ++ digL s 2 ++ ys) = sumB (xs ++ digL 0 2 ++ ys) + s := by
  rw [List.append_assoc, List.append_assoc, sumB_append _ _ hx, sumB_append _ _ hx, sumB_append (digL s 2) ys (by rw [digL_length]), sumB_append (digL 0 2) ys (by rw [digL_length]), tsumB_dig2 s h0 h1, tsumB_dig2 0 (by omega) (by omega)]
  omega
theorem tgetV_mid (xs ys : List Int) (x : Int) (s : Nat) (hf : fitsP x s) (a : Nat) (ha : xs.length = a) : (getV (xs ++ digL x s ++ ys) a s).1 = x := by
  have h1 := hf.1
  unfold getV
  rw [if_neg (by omega), if_neg (by simp only [List.length_append, digL_length]; omega)]
  simp only [Int.toNat_natCast]
  have : cutI (xs ++ digL x s ++ ys) a s = digL x s := by
    unfold cutI
    rw [List.append_assoc, List.drop_append_of_le_length (by omega), ← ha, List.drop_length, List.nil_append, List.take_append_of_le_length (by rw [digL_length]; omega), List.take_of_length_le (by rw [digL_length]; omega)]
  rw [this, tbeNum_dig x s hf]
theorem total8_two (a b : List Int) : totalI [a, b] = sumB a + sumB b := by rw [totalI_cons, totalI_cons, totalI_nil]; omega
theorem fit1_bd {x : Int} (h : fitsP x ((1 : Nat) : Int)) : 0 ≤ x ∧ x < 256 := ⟨h.2.1, by have := h.2.2; simpa using this⟩
theorem dig_one (x : Int) (h0 : 0 ≤ x) (h1 : x < 256) : digL x 1 = [x] := by simp [digL, List.range_succ]; omega

theorem bytesT_sum (p : List Int) (m : TcpP) (s : Int) (h0 : 0 ≤ s) (h1 : s ≤ 65535) : totalI [p, bytesT m s] = totalI [p, bytesT m 0] + s := by
  rw [total8_two, total8_two]
  have := tsumB_mid (digL m.s 2 ++ digL m.d 2 ++ digL m.q 4 ++ digL m.a 4 ++ digL ((20 + (m.opts.length : Int)) / 4 * 16 + m.r) 1 ++ digL m.f 1 ++ digL m.w 2) (digL m.u 2 ++ m.opts ++ m.data) s h0 h1 (by simp [digL_length])
  have e : ∀ t, bytesT m t = digL m.s 2 ++ digL m.d 2 ++ digL m.q 4 ++ digL m.a 4 ++ digL ((20 + (m.opts.length : Int)) / 4 * 16 + m.r) 1 ++ digL m.f 1 ++ digL m.w 2 ++ digL t 2 ++ (digL m.u 2 ++ m.opts ++ m.data) := fun t => by simp [bytesT]
  rw [e s, e 0]
  omega
/-- The head of a segment's bytes. -/
theorem bytesT_12 {m : TcpP} {s : Int} (hf : fitsP ((20 + (m.opts.length : Int)) / 4 * 16 + m.r) ((1 : Nat) : Int)) (hg : fitsP m.f ((1 : Nat) : Int)) :
    (bytesT m s)[12]?.getD 0 = (20 + (m.opts.length : Int)) / 4 * 16 + m.r ∧ (bytesT m s)[13]?.getD 0 = m.f := by
  have b1 := fit1_bd hf
  have b2 := fit1_bd hg
  have e : bytesT m s = (digL m.s 2 ++ digL m.d 2 ++ digL m.q 4 ++ digL m.a 4) ++ ((20 + (m.opts.length : Int)) / 4 * 16 + m.r) :: m.f :: (digL m.w 2 ++ digL s 2 ++ digL m.u 2 ++ m.opts ++ m.data) := by
    unfold bytesT
    rw [dig_one _ b1.1 b1.2, dig_one _ b2.1 b2.2]
    simp
  have hl : (digL m.s 2 ++ digL m.d 2 ++ digL m.q 4 ++ digL m.a 4).length = 12 := by simp [digL_length]
  rw [e, List.getElem?_append_right (by omega), List.getElem?_append_right (by omega), hl]
  simp
theorem fitsT {m : TcpP} {no : Nat} (hfit : fitT (zsT m no)) : fitsP m.s ((2 : Nat) : Int) ∧ fitsP m.d ((2 : Nat) : Int) ∧ fitsP m.q ((4 : Nat) : Int) ∧ fitsP m.a ((4 : Nat) : Int) ∧ fitsP ((20 + (no : Int)) / 4 * 16 + m.r) ((1 : Nat) : Int) ∧ fitsP m.f ((1 : Nat) : Int) ∧ fitsP m.w ((2 : Nat) : Int) ∧ fitsP m.u ((2 : Nat) : Int) := by
  unfold fitT zsT at hfit
  simp only [List.mem_cons, List.not_mem_nil, or_false, forall_eq_or_imp, forall_eq] at hfit
  obtain ⟨f0, f1, f2, f3, f4, f5, f6, f7, f8⟩ := hfit
  exact ⟨f0, f1, f2, f3, f4, f5, f6, f8⟩
theorem parsedT_bytes {m : TcpP} {no n : Nat} (ho : m.opts.length = no) (hok : checkT m no n = 0) {s : Int} : headL (bytesT m s) = 20 + (no : Int) ∧ parsedT (bytesT m s) = m := by
  obtain ⟨⟨hn1, hn2, hr0, hr1⟩, hfit, htot⟩ := checkT_ok hok
  obtain ⟨f0, f1, f2, f3, f4, f5, f6, f8⟩ := fitsT hfit
  subst ho
  obtain ⟨e12, e13⟩ := bytesT_12 (s := s) f4 f5
  have hh : headL (bytesT m s) = 20 + (m.opts.length : Int) := by
    unfold headL
    rw [e12]; omega
  refine ⟨hh, ?_⟩
  have g0 : (getV (bytesT m s) 0 2).1 = m.s := by
    have := tgetV_mid [] (digL m.d 2 ++ digL m.q 4 ++ digL m.a 4 ++ digL ((20 + (m.opts.length : Int)) / 4 * 16 + m.r) 1 ++ digL m.f 1 ++ digL m.w 2 ++ digL s 2 ++ digL m.u 2 ++ m.opts ++ m.data) m.s 2 f0 0 rfl
    simpa [bytesT] using this
  have g1 : (getV (bytesT m s) 2 2).1 = m.d := by
    have := tgetV_mid (digL m.s 2) (digL m.q 4 ++ digL m.a 4 ++ digL ((20 + (m.opts.length : Int)) / 4 * 16 + m.r) 1 ++ digL m.f 1 ++ digL m.w 2 ++ digL s 2 ++ digL m.u 2 ++ m.opts ++ m.data) m.d 2 f1 2 (digL_length _ _)
    simpa [bytesT] using this
  have g2 : (getV (bytesT m s) 4 4).1 = m.q := by
    have := tgetV_mid (digL m.s 2 ++ digL m.d 2) (digL m.a 4 ++ digL ((20 + (m.opts.length : Int)) / 4 * 16 + m.r) 1 ++ digL m.f 1 ++ digL m.w 2 ++ digL s 2 ++ digL m.u 2 ++ m.opts ++ m.data) m.q 4 f2 4 (by simp [digL_length])
    simpa [bytesT] using this
  have g3 : (getV (bytesT m s) 8 4).1 = m.a := by
    have := tgetV_mid (digL m.s 2 ++ digL m.d 2 ++ digL m.q 4) (digL ((20 + (m.opts.length : Int)) / 4 * 16 + m.r) 1 ++ digL m.f 1 ++ digL m.w 2 ++ digL s 2 ++ digL m.u 2 ++ m.opts ++ m.data) m.a 4 f3 8 (by simp [digL_length])
    simpa [bytesT] using this
  have g6 : (getV (bytesT m s) 14 2).1 = m.w := by
    have := tgetV_mid (digL m.s 2 ++ digL m.d 2 ++ digL m.q 4 ++ digL m.a 4 ++ digL ((20 + (m.opts.length : Int)) / 4 * 16 + m.r) 1 ++ digL m.f 1) (digL s 2 ++ digL m.u 2 ++ m.opts ++ m.data) m.w 2 f6 14 (by simp [digL_length])
    simpa [bytesT] using this
  have g7 : (getV (bytesT m s) 18 2).1 = m.u := by
    have := tgetV_mid (digL m.s 2 ++ digL m.d 2 ++ digL m.q 4 ++ digL m.a 4 ++ digL ((20 + (m.opts.length : Int)) / 4 * 16 + m.r) 1 ++ digL m.f 1 ++ digL m.w 2 ++ digL s 2) (m.opts ++ m.data) m.u 2 f8 18 (by simp [digL_length])
    simpa [bytesT] using this
  have hd20 : (bytesT m s).drop 20 = m.opts ++ m.data := by
    have e : bytesT m s = (digL m.s 2 ++ digL m.d 2 ++ digL m.q 4 ++ digL m.a 4 ++ digL ((20 + (m.opts.length : Int)) / 4 * 16 + m.r) 1 ++ digL m.f 1 ++ digL m.w 2 ++ digL s 2 ++ digL m.u 2) ++ (m.opts ++ m.data) := by simp [bytesT]
    rw [e, List.drop_append_of_le_length (by simp [digL_length]), List.drop_of_length_le (by simp [digL_length]), List.nil_append]
  have hdk : (bytesT m s).drop (20 + m.opts.length) = m.data := by rw [← List.drop_drop, hd20]; simp
  unfold parsedT
  rw [g0, g1, g2, g3, g6, g7, e12, e13, hh]
  have ht : (20 + (m.opts.length : Int)).toNat = 20 + m.opts.length := by omega
  rw [ht, hdk, hd20]
  have hr : ((20 + (m.opts.length : Int)) / 4 * 16 + m.r) % 16 = m.r := by omega
  rw [hr]
  obtain ⟨a1, a2, a3, a4, a5, a6, a7, a8, o, d⟩ := m
  simp
theorem back8_code {src dst : Int} {m : TcpP} {no n : Nat} (ho : m.opts.length = no) (hd : m.data.length = n) (hok : checkT m no n = 0) (bo : Byts m.opts) (bd : Byts m.data) : codeT src dst (builtT src dst m) = 0 := by
  have hh := (parsedT_bytes ho hok (s := sumT src dst m)).1
  obtain ⟨⟨hn1, hn2, hr0, hr1⟩, hfit, htot⟩ := checkT_ok hok
  obtain ⟨s0, s1⟩ := sumT_bd src dst m
  have hlen := bytesT_length m (sumT src dst m)
  have hlen0 := bytesT_length m 0
  unfold codeT builtT
  rw [hh, hlen, if_neg (by omega), if_neg (by omega), if_neg (by omega), if_neg (by omega), bytesT_sum _ m _ s0 s1]
  have h0 : 0 ≤ totalI [pseudoB src dst 6 (((bytesT m 0).length : Nat) : Int), bytesT m 0] := by
    rw [total8_two]
    have h1 := sumB_lo (pseudoB_byts src dst 6 (((bytesT m 0).length : Nat) : Int))
    have h2 := sumB_lo (bytesT_byts (m := m) (s := 0) bo bd)
    omega
  have := fold_right _ h0
  have e : totalI [pseudoB src dst 6 (((bytesT m 0).length : Nat) : Int), bytesT m 0] + sumT src dst m = totalI [pseudoB src dst 6 (((bytesT m 0).length : Nat) : Int), bytesT m 0] + (65535 - foldI (totalI [pseudoB src dst 6 (((bytesT m 0).length : Nat) : Int), bytesT m 0])) := rfl
  rw [← hlen0, e, this]; rfl
theorem back8_read {src dst : Int} {m : TcpP} {no n : Nat} (ho : m.opts.length = no) (hd : m.data.length = n) (hok : checkT m no n = 0) (bo : Byts m.opts) (bd : Byts m.data) : readT src dst (builtT src dst m) = m := by
  unfold readT
  rw [if_pos (back8_code ho hd hok bo bd)]
  exact (parsedT_bytes ho hok).2
theorem built8_pos (src dst : Int) (m : TcpP) : 0 < (builtT src dst m).length := by unfold builtT; rw [bytesT_length]; omega
end Go.Proofs.Ytmbmmpbfmakfbaa
/- Plain facts: the greatest size of a segment that is held. No program in sight. -/
set_option linter.unusedVariables false
namespace Go.Proofs.Ytmbmmpbfmakfbaa
open Go.RowKit

theorem placesF_ge (bs : List Int) : ∀ (f a p : Nat), p ∈ placesF bs f a → a ≤ p
  | 0, a, p, h => by simp [placesF] at h
  | f + 1, a, p, h => by
    unfold placesF at h
    split at h
    · simp at h
    · split at h
      · simp at h; omega
      · rcases List.mem_cons.1 h with h | h
        · omega
        · have := placesF_ge bs f _ p h; omega
theorem optL_same {xs ys : List Int} {p : Nat} (hl : ys.length = xs.length) (h0 : ys[p]?.getD 0 = xs[p]?.getD 0) (h1 : xs[p]?.getD 0 ≤ 1 ∨ ys[p + 1]?.getD 0 = xs[p + 1]?.getD 0) : optL ys p = optL xs p := by
  unfold optL
  rw [hl, h0]
  rcases h1 with h1 | h1
  · rw [if_pos h1, if_pos h1]
  · rw [h1]
theorem optL_at {xs ys : List Int} {a : Nat} (hl : ys.length = xs.length) (hs : ∀ i, i ≠ a + 2 → i ≠ a + 3 → ys[i]?.getD 0 = xs[i]?.getD 0) (ha4 : optL xs a = 4) : optL ys a = 4 := by rw [optL_same hl (hs a (by omega) (by omega)) (.inr (hs (a + 1) (by omega) (by omega))), ha4]
theorem optL_far {xs ys : List Int} {a : Nat} (hl : ys.length = xs.length) (hs : ∀ i, i ≠ a + 2 → i ≠ a + 3 → ys[i]?.getD 0 = xs[i]?.getD 0) {p : Nat} (hp : a + 4 ≤ p ∨ (p < a ∧ (optL xs p = 0 ∨ p + optL xs p ≤ a))) : optL ys p = optL xs p := by
  refine optL_same hl (hs p (by omega) (by omega)) ?_
  rcases hp with hp | ⟨hp, h2⟩
  · exact .inr (hs (p + 1) (by omega) (by omega))
  · exact .inr (hs (p + 1) (by omega) (by omega))
theorem placesF_same {xs ys : List Int} {a : Nat} (hl : ys.length = xs.length) (hs : ∀ i, i ≠ a + 2 → i ≠ a + 3 → ys[i]?.getD 0 = xs[i]?.getD 0) (ha0 : xs[a]?.getD 0 = 2) (ha4 : optL xs a = 4) : ∀ (f p : Nat), (p ≤ a → a ∈ placesF xs f p) → (p ≤ a ∨ a + 4 ≤ p) → placesF ys f p = placesF xs f p
  | 0, p, _, _ => rfl
  | f + 1, p, h1, h2 => by
    by_cases hpa : p = a
    · subst hpa
      unfold placesF
      rw [optL_at hl hs ha4, ha4, hs p (by omega) (by omega), ha0, placesF_same hl hs ha0 ha4 f (p + 4) (by omega) (by omega)]
    · by_cases hlt : p < a
      · have hm := h1 (by omega)
        unfold placesF at hm
        by_cases h0 : optL xs p = 0
        · rw [if_pos h0] at hm; simp at hm
        · rw [if_neg h0] at hm
          by_cases hz : xs[p]?.getD 0 = 0
          · rw [if_pos hz] at hm; simp at hm; omega
          · rw [if_neg hz] at hm
            have hm2 : a ∈ placesF xs f (p + optL xs p) := by rcases List.mem_cons.1 hm with h | h; omega; exact h
            have hge := placesF_ge xs f _ a hm2
            have ho := optL_far hl hs (p := p) (.inr ⟨hlt, .inr hge⟩)
            unfold placesF
            rw [ho, hs p (by omega) (by omega), placesF_same hl hs ha0 ha4 f (p + optL xs p) (fun _ => hm2) (by omega)]
      · have ho := optL_far hl hs (p := p) (.inl (by omega))
        unfold placesF
        rw [ho, hs p (by omega) (by omega), placesF_same hl hs ha0 ha4 f (p + optL xs p) (by omega) (by omega)]
theorem mssF_same {xs ys : List Int} {a : Nat} (hl : ys.length = xs.length) (hs : ∀ i, i ≠ a + 2 → i ≠ a + 3 → ys[i]?.getD 0 = xs[i]?.getD 0) (ha0 : xs[a]?.getD 0 = 2) (ha4 : optL xs a = 4) : ∀ (f p : Nat) (v : Int), p ≤ a → a ∈ placesF xs f p → mssF xs (placesF xs f p) = (v, (a : Int), true) → mssF ys (placesF xs f p) = ((getV ys ((a : Int) + 2) 2).1, (a : Int), true)
  | 0, p, v, _, hm, _ => by simp [placesF] at hm
  | f + 1, p, v, hpa, hm, hv => by
    by_cases he : p = a
    · subst he
      have hcons : placesF xs (f + 1) p = p :: placesF xs f (p + 4) := by
        show (if optL xs p = 0 then [] else if xs[p]?.getD 0 = 0 then [p] else p :: placesF xs f (p + optL xs p)) = _
        rw [ha4, if_neg (by omega), if_neg (by rw [ha0]; decide)]
      rw [hcons]
      unfold mssF
      rw [if_pos ⟨by rw [hs p (by omega) (by omega), ha0], optL_at hl hs ha4⟩]
    · unfold placesF at hm hv ⊢
      by_cases h0 : optL xs p = 0
      · rw [if_pos h0] at hm; simp at hm
      · rw [if_neg h0] at hm hv ⊢
        by_cases hz : xs[p]?.getD 0 = 0
        · rw [if_pos hz] at hm; simp at hm; omega
        · rw [if_neg hz] at hm hv ⊢
          have hm2 : a ∈ placesF xs f (p + optL xs p) := by rcases List.mem_cons.1 hm with h | h; omega; exact h
          have hge := placesF_ge xs f _ a hm2
          have ho := optL_far hl hs (p := p) (.inr ⟨by omega, .inr hge⟩)
          unfold mssF at hv ⊢
          by_cases hc : xs[p]?.getD 0 = 2 ∧ optL xs p = 4
          · rw [if_pos hc] at hv
            have : (p : Int) = (a : Int) := by have := congrArg (fun r => r.2.1) hv; simpa using this
            omega
          · rw [if_neg hc] at hv
            rw [if_neg (by rw [ho, hs p (by omega) (by omega)]; exact hc)]
            exact mssF_same hl hs ha0 ha4 f _ v hge hm2 hv
theorem split_two {xs : List Int} {a : Nat} (h : a + 4 ≤ xs.length) : ∃ x y, xs = xs.take (a + 2) ++ [x, y] ++ xs.drop (a + 4) := by
  refine ⟨xs[a + 2], xs[a + 3], ?_⟩
  have e1 : xs.drop (a + 2) = xs[a + 2] :: xs.drop (a + 3) := List.drop_eq_getElem_cons (by omega)
  have e2 : xs.drop (a + 3) = xs[a + 3] :: xs.drop (a + 4) := List.drop_eq_getElem_cons (by omega)
  have e3 := List.take_append_drop (a + 2) xs
  rw [e1, e2] at e3
  exact e3.symm.trans (by simp)
/-- The greatest size that a segment tells once it is held. -/
theorem seg_mss {m : TcpP} {bound : Int} (hf : fitsP bound ((2 : Nat) : Int)) (hb : Byts m.opts) :
    (mssT (segT m bound).opts).2 = (mssT m.opts).2 ∧ (mssT (segT m bound).opts).1 = if (bits .and .i64 m.f 2 == 0) = true then (mssT m.opts).1 else min (mssT m.opts).1 bound := by
  cases hh : (heldT m bound).2
  · have e : segT m bound = m := by unfold segT; rw [hh]; rfl
    rw [e]
    refine ⟨rfl, ?_⟩
    unfold heldT at hh
    cases hs : (bits .and .i64 m.f 2 == 0)
    · rw [hs, show fitsB bound 2 = true from fitsB_yes hf] at hh
      simp only [Bool.false_eq_true, if_false, Bool.true_eq_false] at hh ⊢
      cases ho : (mssT m.opts).2.2
      · have hz : ∀ l, (mssF m.opts l).2.2 = false → (mssF m.opts l).1 = 0 := by
          intro l
          induction l with
          | nil => intro _; rfl
          | cons x l ih =>
            unfold mssF
            split
            · intro h; cases h
            · exact ih
        have hz0 : (mssT m.opts).1 = 0 := hz _ ho
        rw [hz0]
        have := hf.2.1
        omega
      · rw [ho] at hh
        simp at hh
        omega
    · simp
  · obtain ⟨a, h1, h2, h3, h4, h5, h6, h7, h8⟩ := heldT_true hh
    have hxo := optL_le m.opts a
    rw [h4] at hxo
    have h9 : a + 4 ≤ m.opts.length := by omega
    have hat : ((a : Int) + 2).toNat = a + 2 := by omega
    have e : (segT m bound).opts = setN m.opts (a + 2) (digL bound 2) 2 := by unfold segT; rw [hh, if_pos rfl, h5, hat]
    obtain ⟨x, y, hxy⟩ := split_two h9
    have hlt : (m.opts.take (a + 2)).length = a + 2 := by simp; omega
    have e2 : setN m.opts (a + 2) (digL bound 2) 2 = m.opts.take (a + 2) ++ digL bound 2 ++ m.opts.drop (a + 4) := by
      have := setN_two2 (m.opts.take (a + 2)) (m.opts.drop (a + 4)) x y (digL bound 2) (a + 2) hlt (digL_length _ _)
      rw [← hxy] at this
      exact this
    rw [e, e2]
    obtain ⟨ys, hys⟩ : ∃ ys, m.opts.take (a + 2) ++ digL bound 2 ++ m.opts.drop (a + 4) = ys := ⟨_, rfl⟩
    have hl : ys.length = m.opts.length := by rw [← hys]; simp [digL_length]; omega
    have hs : ∀ i, i ≠ a + 2 → i ≠ a + 3 → ys[i]?.getD 0 = m.opts[i]?.getD 0 := by
      intro i hi1 hi2
      rw [← hys]
      by_cases hi : i < a + 2
      · rw [List.append_assoc, List.getElem?_append_left (by omega), List.getElem?_take, if_pos hi]
      · rw [List.getElem?_append_right (by simp [digL_length]; omega), List.length_append, hlt, digL_length, List.getElem?_drop, show a + 4 + (i - (a + 2 + 2)) = i by omega]
    have hg : (getV ys ((a : Int) + 2) 2).1 = bound := by
      have := tgetV_mid (m.opts.take (a + 2)) (m.opts.drop (a + 4)) bound 2 hf (a + 2) hlt
      rw [hys, Int.natCast_add] at this
      exact this
    have hpl : places ys = places m.opts := by
      unfold places
      rw [hl]
      exact placesF_same hl hs h3 h4 _ 0 (fun _ => h1) (by omega)
    have hm : mssT ys = (bound, (a : Int), true) := by
      unfold mssT
      rw [hpl, ← hg]
      exact mssF_same hl hs h3 h4 _ 0 _ (by omega) h1 h2
    rw [hys, hm, h2, h8]
    refine ⟨rfl, ?_⟩
    simp
    omega
end Go.Proofs.Ytmbmmpbfmakfbaa
/- Slices of bools: slices.Index, slices.Contains, v4's all. A literal in a drawn region. -/
set_option linter.unusedVariables false
namespace Go.Proofs.Ytmbmmpbfmakfbaa
open Go Go.RowKit

/-- The slice holds the bools zs. -/
structure RBo (w : World) (A : Option Addr) (n c : Nat) (zs : List Bool) : Prop where
  len : zs.length = n
  nc : n ≤ c
  mem : 0 < n → ∃ b off, A = some ⟨b, off, none⟩ ∧ b < w.heap.size ∧ ∀ j, j < n → w.cell? ⟨b, off + j, none⟩ = some (.bool (zs[j]?.getD false))
theorem RBo.below {w w' : World} {A : Option Addr} {n c : Nat} {zs : List Bool} (h : RBo w A n c zs) (hb : Below w.heap.size w w') : RBo w' A n c zs :=
  ⟨h.len, h.nc, fun hn => by
    obtain ⟨b, off, e, hlt, hc⟩ := h.mem hn
    exact ⟨b, off, e, by have := hb.size; omega, fun j hj => (hb.cell (p := ⟨b, off + j, none⟩) hlt).trans (hc j hj)⟩⟩
theorem RBo.lit (w : World) (T : TypeId) (zs : List Bool) : RBo (w.alloc (.cells (zs.map (Value.bool)).toArray T)) (some ⟨w.heap.size, 0, none⟩) zs.length zs.length zs :=
  ⟨rfl, Nat.le_refl _, fun hn => ⟨w.heap.size, 0, rfl, by simp, fun j hj => by
    rw [World.cell?_alloc_at _ _ _ _ rfl, Nat.zero_add, List.getElem?_toArray, List.getElem?_map, List.getElem?_eq_getElem hj]; rfl⟩⟩

def IdxPostB (zs : List Bool) (v : Bool) (w : World) (e : Ending) (w' : World) : Prop := ∃ i : Int, e = .returned (.int .i64 i) ∧ (0 ≤ i ↔ v ∈ zs) ∧ -1 ≤ i ∧ i ≤ 100000 ∧ w = w'

/-! ### Low bits of any int -/

theorem slots_lse {T : Array Value} : ∀ (ls : List Nat) (V : Array Value), V.size = T.size → (∀ i, i < T.size → i ∉ ls → T[i]? = V[i]?) → T = ls.foldl (fun v d => v.setIfInBounds d (T.getD d undef)) V
  | [], V, hV, h => by
    show T = V
    apply Array.ext_getElem?
    intro i
    by_cases hi : i < T.size
    · exact h i hi (by simp)
    · rw [Array.getElem?_eq_none (by omega), Array.getElem?_eq_none (by omega)]
  | d :: ls, V, hV, h => by
    refine slots_lse ls (V.setIfInBounds d (T.getD d undef)) (by simp [hV]) fun i hi hn => ?_
    by_cases e : i = d
    · subst e
      have : i < V.size := by omega
      simp [hi, this]
    · rw [Array.getElem?_setIfInBounds_ne (Ne.symm e)]
      exact h i hi (by simp [e, hn])
theorem tmps_lse {T V : Array Value} {En : Env} {W : World} {N : Nat} (ls : List Nat) (hN : T.size = N) (hV : V.size = T.size) (hEn : (List.range T.size).all (fun t => ls.contains t || (look En t).isNone) = true) (hR : ∀ t, t < N → Rt V En t (T.getD t undef) W) : T = ls.foldl (fun v d => v.setIfInBounds d (T.getD d undef)) V :=
  slots_lse ls V hV fun i hi hn => by
    have h3 := List.all_eq_true.1 hEn i (List.mem_range.2 hi)
    simp only [Bool.or_eq_true] at h3
    have h4 : (look En i).isNone = true := by rcases h3 with h | h; exact absurd (by simpa using h) hn; exact h
    have h5 := Rt_none h4 (hR i (by omega))
    have hi' : i < V.size := by omega
    rw [Array.getElem?_eq_getElem hi, Array.getElem?_eq_getElem hi']
    simp only [Array.getD_eq_getD_getElem?, Array.getElem?_eq_getElem hi, Array.getElem?_eq_getElem hi', Option.getD_some] at h5
    rw [h5]
theorem all_dec (l : List Bool) : (!decide (false ∈ l)) = l.all id := by
  rw [Bool.eq_iff_iff]; simp
theorem RBo.blk {W : World} {g : Nat} {T : TypeId} (zs : List Bool) (h : Blk W g (zs.map Value.bool).toArray T) : RBo W (some ⟨g, 0, none⟩) zs.length zs.length zs :=
  ⟨rfl, Nat.le_refl _, fun hn => ⟨g, 0, rfl, h.lt, fun j hj => by
    rw [Nat.zero_add]
    exact h.cell j _ (by rw [List.getElem?_toArray, List.getElem?_map, List.getElem?_eq_getElem hj]; rfl)⟩⟩
/-- A slice literal in a drawn region. -/
def LitP (k : Nat) (C : Array Value) (T : TypeId) : Rl := fun u W => ∃ g, u = .slice (some ⟨g, 0, none⟩) k k ∧ Blk W g C T
theorem LitP.stable (k : Nat) (C : Array Value) (T : TypeId) : StableR (LitP k C T) := fun u w w' ⟨g, e, h⟩ hb => ⟨g, e, h.to hb⟩
section
variable {P : Program} {ops : Array Oper} {Q : Exit → Act → World → Prop} {S : World → Prop} {N : Nat} {ds : List Deferred} {V : Array Value} {E : Env} {o : Oper} {rest : List Oper}
theorem looseL_lit {d : Tmp} {k : Nat} {C : Array Value} {T : TypeId} (hlk : (o.looksAt ops).all (fun t => (look E t).isNone) = true) (hs : notSel o = true) (hw : Region.wanted o (yielded ops V) = true) (hd : o.dst = some d) (hS : ∀ w o', S w → S (World.alloc w o'))
    (hrun : ∀ w, S w → (execOp (⟨V, []⟩ : Act).eval o).run P w = .ok (.value (.slice (some ⟨w.heap.size, 0, none⟩) k k)) (w.alloc (.cells C T))) (h : looseL P ops Q S N ds rest V ((d, LitP k C T) :: E)) : looseL P ops Q S N ds (o :: rest) V E :=
  .inr ⟨d, LitP k C T, hd, LitP.stable k C T, fun a w hSw hk => by
    have hag : ∀ t ∈ o.looksAt ops, a.tmps.getD t undef = V.getD t undef := fun t ht => by
      have hn := List.all_eq_true.1 hlk t ht
      exact Rt_none hn (hk t ht)
    refine .inl ⟨?_, ?_⟩
    · refine (wanted_agree ?_ hk).trans hw
      exact List.all_eq_true.2 fun t ht => List.all_eq_true.1 hlk t (gslots_in ht)
    · rw [exec_agree hs hag, hrun w hSw]
      exact ⟨⟨w.heap.size, rfl, Blk.new w C T⟩, hS w _ hSw, (Below.refl _ w).alloc (Nat.le_refl _) _⟩, h⟩
/-- An assignment of a slot that is known by a relation. -/
theorem looseL_mv {d e : Tmp} (p : Rl) (hop : o.op = .assign (.tmp e)) (hg : (gslots ops o).all (fun t => (look E t).isNone) = true) (he : look E e = some p) (hw : Region.wanted o (yielded ops V) = true) (hin : e ∈ o.looksAt ops) (hd : o.dst = some d) (hst : StableR p)
    (h : looseL P ops Q S N ds rest V ((d, p) :: E)) : looseL P ops Q S N ds (o :: rest) V E :=
  .inr ⟨d, p, hd, hst, fun a w hS hk => .inl ⟨(wanted_agree hg hk).trans hw, by
    have hp : p (a.tmps.getD e undef) w := by
      have := hk e hin
      unfold Rt at this
      rw [he] at this; exact this
    unfold execOp
    simp only [hop, Sem.run_pure]
    exact ⟨hp, hS, Below.refl _ _⟩⟩, h⟩
end
end Go.Proofs.Ytmbmmpbfmakfbaa
/- Packets of IPv4: their cells; v4.Head, Size, Whole; four.Right; the references. -/
set_option linter.unusedVariables false
namespace Go.Proofs.Ytmbmmpbfmakfbaa
open Go Go.RowKit

structure V4P where
  tos : Int
  id : Int
  off : Int
  ttl : Int
  pr : Int
  src : Int
  dst : Int
  df : Bool
  mf : Bool
  opts : List Int
  data : List Int
abbrev cells4 (p : V4P) (Ao : Option Addr) (no co : Nat) (A : Option Addr) (n c : Nat) : Array Value :=
  #[.int .i64 p.tos, .int .i64 p.id, .int .i64 p.off, .int .i64 p.ttl, .int .i64 p.pr, .int .i64 p.src, .int .i64 p.dst, .bool p.df, .bool p.mf, .slice Ao no co, .slice A n c]
abbrev zero4c : Array Value := #[.int .i64 0, .int .i64 0, .int .i64 0, .int .i64 0, .int .i64 0, .int .i64 0, .int .i64 0, .bool false, .bool false, .slice none 0 0, .slice none 0 0]
def zero4 : V4P := ⟨0, 0, 0, 0, 0, 0, 0, false, false, [], []⟩
theorem info_v4 : (Try.prog.info? 32).map (·.size) = some 11 := by kernel_rfl
theorem info_v4z : (Try.prog.info? 32).map (fun i => (i.zero, i.size, i.bytes)) = some (some (.agg zero4c), 11, 112) := by kernel_rfl
def rightB (x : Int) : Bool := decide (0 ≤ x ∧ x < 4294967296)

section
variable (p : V4P) (Ao : Option Addr) (no co : Nat) (A : Option Addr) (n c : Nat) (w : World)
set_option maxHeartbeats 1000000 in
theorem Right4_any (x : Int) : Calls Try.prog 44 #[.int .i64 x] w fun e w' => e = .returned (.bool (rightB x)) ∧ w = w' := by
  by_cases h0 : 0 ≤ x
  · by_cases h1 : x < 4294967296
    · have he := Lib.hid (show rightB x = true from decide_eq_true ⟨h0, h1⟩)
      go_enter Try.func44, Try.ntmps44
      go_wp2
      go_ret
      exact ⟨ret_bool he.out.symm, rfl⟩
    · have he := Lib.hid (show rightB x = false from decide_eq_false (fun h => h1 h.2))
      go_enter Try.func44, Try.ntmps44
      go_wp2
      go_ret
      exact ⟨ret_bool he.out.symm, rfl⟩
  · have he := Lib.hid (show rightB x = false from decide_eq_false (fun h => h0 h.1))
    have h0' : decide (0 ≤ x) = false := decide_eq_false h0
    go_enter Try.func44, Try.ntmps44
    go_wp2
    go_ret
    exact ⟨ret_bool he.out.symm, rfl⟩
set_option maxHeartbeats 1000000 in
theorem RefRight4_any (x : Int) : Calls Try.prog 60 #[.int .i64 x] w fun e w' => e = .returned (.bool (rightB x)) ∧ w = w' := by
  by_cases h0 : 0 ≤ x
  · by_cases h1 : x < 4294967296
    · have he := Lib.hid (show rightB x = true from decide_eq_true ⟨h0, h1⟩)
      go_enter Try.func60, Try.ntmps60
      go_wp2
      go_ret
      exact ⟨ret_bool he.out.symm, rfl⟩
    · have he := Lib.hid (show rightB x = false from decide_eq_false (fun h => h1 h.2))
      go_enter Try.func60, Try.ntmps60
      go_wp2
      go_ret
      exact ⟨ret_bool he.out.symm, rfl⟩
  · have he := Lib.hid (show rightB x = false from decide_eq_false (fun h => h0 h.1))
    have h0' : decide (0 ≤ x) = false := decide_eq_false h0
    go_enter Try.func60, Try.ntmps60
    go_wp2
    go_ret
    exact ⟨ret_bool he.out.symm, rfl⟩
theorem Head4_any (hno : no ≤ 100000) : Calls Try.prog 57 #[.agg (cells4 p Ao no co A n c)] w fun e w' => e = .returned (.int .i64 (20 + no)) ∧ Below w.heap.size w w' := by
  have hb := Lib.hid ((Below.refl _ w).alloc (Nat.le_refl _) (.cells (cells4 p Ao no co A n c) 32))
  go_enter Try.func57, Try.ntmps57
  go_wp2
  go_ret
  exact ⟨by first | rfl | simp, hb.out⟩
theorem RefHead4_any (hno : no ≤ 100000) : Calls Try.prog 62 #[.agg (cells4 p Ao no co A n c)] w fun e w' => e = .returned (.int .i64 (20 + no)) ∧ Below w.heap.size w w' := by
  have hb := Lib.hid ((Below.refl _ w).alloc (Nat.le_refl _) (.cells (cells4 p Ao no co A n c) 32))
  go_enter Try.func62, Try.ntmps62
  go_wp2
  go_ret
  exact ⟨by first | rfl | simp, hb.out⟩
theorem en_V4Head (args : Array Value) (w : World) : (callFunc 57 args).run Try.prog w = .ok (.enter 57 args) w := enters Try.func57 (by kernel_rfl) (by kernel_rfl) args w
theorem en_RV4Head (args : Array Value) (w : World) : (callFunc 62 args).run Try.prog w = .ok (.enter 62 args) w := enters Try.func62 (by kernel_rfl) (by kernel_rfl) args w
set_option maxHeartbeats 1000000 in
theorem RefSize4_any (hno : no ≤ 100000) (hn : n ≤ 100000) : Calls Try.prog 43 #[.agg (cells4 p Ao no co A n c)] w fun e w' => e = .returned (.int .i64 (20 + no + n)) ∧ Below w.heap.size w w' := by
  have hb := Lib.hid ((Below.refl _ w).alloc (Nat.le_refl _) (.cells (cells4 p Ao no co A n c) 32))
  have kB := Lib.hid (Blk.new w (cells4 p Ao no co A n c) 32)
  have hwr : IntKind.i64.wrap (20 + (no : Int) + n) = 20 + no + n := by rw [IntKind.wrap_i64]; omega
  obtain ⟨w0, hw0⟩ : ∃ w0, w.alloc (.cells (cells4 p Ao no co A n c) 32) = w0 := ⟨_, rfl⟩
  rw [hw0] at hb kB
  have hK := Lib.hid (show ∀ W W', (fun W => Below w0.heap.size w0 W) W → Below W.heap.size W W' → (fun W => Below w0.heap.size w0 W) W' from fun W W' h1 h2 => h1.trans (h2.mono h1.size))
  have hC1 := Lib.hid (show ∀ W, (fun W => Below w0.heap.size w0 W) W → W.cell? ⟨w.heap.size, 10, none⟩ = some (.slice A n c) ∧ True ∧ True from fun W hW => ⟨(kB.out.to hW).cell 10 _ rfl, trivial, trivial⟩)
  have hA := Lib.hid (fun W (hW : Below w0.heap.size w0 W) => (kB.out.to hW).at_)
  have hV := Lib.hid (show (Try.prog.info? 32).map (·.size) = some (cells4 p Ao no co A n c).size from info_v4)
  go_enter Try.func43, Try.ntmps43
  go_wp2
  refine wp_region_tame (fun W => Below w0.heap.size w0 W) (by kernel_rfl) (by kernel_rfl) (Below.refl _ _).drew ?_
  repeat (first
    | (refine tameL_skip rfl ?_; simp only [Act.put, List.setIfInBounds_toArray, List.set_cons_zero, List.set_cons_succ])
    | (refine tameL_row rfl 32 (.tmp 1) rfl w.heap.size rfl _ (cells4 p Ao no co A n c) _ _ (fun W hS => hA.out W hS) Try.underlying32 rfl hV.out ?_; simp only [Act.put, List.setIfInBounds_toArray, List.set_cons_zero, List.set_cons_succ])
    | (refine tameL_call1 (v := .int .i64 (20 + no)) rfl 62 (.tmp 3) _ rfl en_RV4Head rfl ?_ ?_; exact fun W hS => (RefHead4_any p Ao no co A n c W hno).mono fun e W' ⟨he, hb⟩ => ⟨he, hK.out W W' hS hb⟩; simp only [Act.put, List.setIfInBounds_toArray, List.set_cons_zero, List.set_cons_succ])
    | (refine tameL_val (v := ?_) rfl (fun W hS => ?_) ?_; rotate_left; (· (obtain ⟨g0, g1, g2⟩ := hC1.out W hS; clear hS; go_simp; try with_reducible rfl)); simp only [Act.put, List.setIfInBounds_toArray, List.set_cons_zero, List.set_cons_succ]))
  refine tameL_nil fun W hS => ?_
  go_wp2
  go_ret
  exact ⟨by first | rfl | simp [hwr], hb.out.trans (hS.mono hb.out.size)⟩
end
end Go.Proofs.Ytmbmmpbfmakfbaa
