/- Plain facts: a segment that may be is read from its bytes. No program in sight. -/
import Derived.Test.YtccdbelngjonaaaTcpP
import Derived.Test.YtccdbelngjonaaaPlain02
set_option linter.unusedVariables false
namespace Go.Proofs.Ytccdbelngjonaaa
open Go.RowKit

theorem tbeNum_dig (x : Int) (s : Nat) (h : fitsP x s) : beNum (digL x s) = x := by
  obtain ⟨⟨h1, h2⟩, h3, h4⟩ := h
  have hc : s = 1 ∨ s = 2 ∨ s = 3 ∨ s = 4 := by omega
  rw [Int.toNat_natCast] at h4
  rcases hc with rfl | rfl | rfl | rfl <;> simp [digL, beNum, List.range_succ] at h4 ⊢ <;> omega
theorem tsumB_dig2 (s : Int) (h0 : 0 ≤ s) (h1 : s ≤ 65535) : sumB (digL s 2) = s := by
  have : digL s 2 = [s / 256 % 256, s % 256] := by simp [digL, List.range_succ]
  rw [this, sumB_two]; omega
theorem tsumB_mid (xs ys : List Int) (s : Int) (h0 : 0 ≤ s) (h1 : s ≤ 65535) (hx : xs.length % 2 = 0) : sumB (xs ++ digL s 2 ++ ys) = sumB (xs ++ digL 0 2 ++ ys) + s := by
  rw [List.append_assoc, List.append_assoc, sumB_append _ _ hx, sumB_append _ _ hx, sumB_append (digL s 2) ys (by rw [digL_length]), sumB_append (digL 0 2) ys (by rw [digL_length]), tsumB_dig2 s h0 h1, tsumB_dig2 0 (by omega) (by omega)]
  omega
theorem tgetV_mid (xs ys : List Int) (x : Int) (s : Nat) (hf : fitsP x s) (a : Nat) (ha : xs.length = a) : (getV (xs ++ digL x s ++ ys) a s).1 = x := by
  have h1 := hf.1
  unfold getV
  rw [if_neg (by omega), if_neg (by simp only [List.length_append, digL_length]; omega)]
  simp only [Int.toNat_natCast]
  have : cutI (xs ++ digL x s ++ ys) a s = digL x s := by
    unfold cutI
    rw [List.append_assoc, List.drop_append_of_le_length (by omega), ← ha, List.drop_length, List.nil_append, List.take_append_of_le_length (by rw [digL_length]; omega), List.take_of_length_le (by rw [digL_length]; omega)]
  rw [this, tbeNum_dig x s hf]
theorem total8_two (a b : List Int) : totalI [a, b] = sumB a + sumB b := by rw [totalI_cons, totalI_cons, totalI_nil]; omega
theorem fit1_bd {x : Int} (h : fitsP x ((1 : Nat) : Int)) : 0 ≤ x ∧ x < 256 := ⟨h.2.1, by have := h.2.2; simpa using this⟩
theorem dig_one (x : Int) (h0 : 0 ≤ x) (h1 : x < 256) : digL x 1 = [x] := by simp [digL, List.range_succ]; omega

theorem bytesT_sum (p : List Int) (m : TcpP) (s : Int) (h0 : 0 ≤ s) (h1 : s ≤ 65535) : totalI [p, bytesT m s] = totalI [p, bytesT m 0] + s := by
  rw [total8_two, total8_two]
  have := tsumB_mid (digL m.s 2 ++ digL m.d 2 ++ digL m.q 4 ++ digL m.a 4 ++ digL ((20 + (m.opts.length : Int)) / 4 * 16 + m.r) 1 ++ digL m.f 1 ++ digL m.w 2) (digL m.u 2 ++ m.opts ++ m.data) s h0 h1 (by simp [digL_length])
  have e : ∀ t, bytesT m t = digL m.s 2 ++ digL m.d 2 ++ digL m.q 4 ++ digL m.a 4 ++ digL ((20 + (m.opts.length : Int)) / 4 * 16 + m.r) 1 ++ digL m.f 1 ++ digL m.w 2 ++ digL t 2 ++ (digL m.u 2 ++ m.opts ++ m.data) := fun t => by simp [bytesT]
  rw [e s, e 0]
  omega
/-- The head of a segment's bytes. -/
theorem bytesT_12 {m : TcpP} {s : Int} (hf : fitsP ((20 + (m.opts.length : Int)) / 4 * 16 + m.r) ((1 : Nat) : Int)) (hg : fitsP m.f ((1 : Nat) : Int)) :
    (bytesT m s)[12]?.getD 0 = (20 + (m.opts.length : Int)) / 4 * 16 + m.r ∧ (bytesT m s)[13]?.getD 0 = m.f := by
  have b1 := fit1_bd hf
  have b2 := fit1_bd hg
  have e : bytesT m s = (digL m.s 2 ++ digL m.d 2 ++ digL m.q 4 ++ digL m.a 4) ++ ((20 + (m.opts.length : Int)) / 4 * 16 + m.r) :: m.f :: (digL m.w 2 ++ digL s 2 ++ digL m.u 2 ++ m.opts ++ m.data) := by
    unfold bytesT
    rw [dig_one _ b1.1 b1.2, dig_one _ b2.1 b2.2]
    simp
  have hl : (digL m.s 2 ++ digL m.d 2 ++ digL m.q 4 ++ digL m.a 4).length = 12 := by simp [digL_length]
  rw [e, List.getElem?_append_right (by omega), List.getElem?_append_right (by omega), hl]
  simp
theorem fitsT {m : TcpP} {no : Nat} (hfit : fitT (zsT m no)) : fitsP m.s ((2 : Nat) : Int) ∧ fitsP m.d ((2 : Nat) : Int) ∧ fitsP m.q ((4 : Nat) : Int) ∧ fitsP m.a ((4 : Nat) : Int) ∧ fitsP ((20 + (no : Int)) / 4 * 16 + m.r) ((1 : Nat) : Int) ∧ fitsP m.f ((1 : Nat) : Int) ∧ fitsP m.w ((2 : Nat) : Int) ∧ fitsP m.u ((2 : Nat) : Int) := by
  unfold fitT zsT at hfit
  simp only [List.mem_cons, List.not_mem_nil, or_false, forall_eq_or_imp, forall_eq] at hfit
  obtain ⟨f0, f1, f2, f3, f4, f5, f6, f7, f8⟩ := hfit
  exact ⟨f0, f1, f2, f3, f4, f5, f6, f8⟩
theorem parsedT_bytes {m : TcpP} {no n : Nat} (ho : m.opts.length = no) (hok : checkT m no n = 0) {s : Int} : headL (bytesT m s) = 20 + (no : Int) ∧ parsedT (bytesT m s) = m := by
  obtain ⟨⟨hn1, hn2, hr0, hr1⟩, hfit, htot⟩ := checkT_ok hok
  obtain ⟨f0, f1, f2, f3, f4, f5, f6, f8⟩ := fitsT hfit
  subst ho
  obtain ⟨e12, e13⟩ := bytesT_12 (s := s) f4 f5
  have hh : headL (bytesT m s) = 20 + (m.opts.length : Int) := by
    unfold headL
    rw [e12]; omega
  refine ⟨hh, ?_⟩
  have g0 : (getV (bytesT m s) 0 2).1 = m.s := by
    have := tgetV_mid [] (digL m.d 2 ++ digL m.q 4 ++ digL m.a 4 ++ digL ((20 + (m.opts.length : Int)) / 4 * 16 + m.r) 1 ++ digL m.f 1 ++ digL m.w 2 ++ digL s 2 ++ digL m.u 2 ++ m.opts ++ m.data) m.s 2 f0 0 rfl
    simpa [bytesT] using this
  have g1 : (getV (bytesT m s) 2 2).1 = m.d := by
    have := tgetV_mid (digL m.s 2) (digL m.q 4 ++ digL m.a 4 ++ digL ((20 + (m.opts.length : Int)) / 4 * 16 + m.r) 1 ++ digL m.f 1 ++ digL m.w 2 ++ digL s 2 ++ digL m.u 2 ++ m.opts ++ m.data) m.d 2 f1 2 (digL_length _ _)
    simpa [bytesT] using this
  have g2 : (getV (bytesT m s) 4 4).1 = m.q := by
    have := tgetV_mid (digL m.s 2 ++ digL m.d 2) (digL m.a 4 ++ digL ((20 + (m.opts.length : Int)) / 4 * 16 + m.r) 1 ++ digL m.f 1 ++ digL m.w 2 ++ digL s 2 ++ digL m.u 2 ++ m.opts ++ m.data) m.q 4 f2 4 (by simp [digL_length])
    simpa [bytesT] using this
  have g3 : (getV (bytesT m s) 8 4).1 = m.a := by
    have := tgetV_mid (digL m.s 2 ++ digL m.d 2 ++ digL m.q 4) (digL ((20 + (m.opts.length : Int)) / 4 * 16 + m.r) 1 ++ digL m.f 1 ++ digL m.w 2 ++ digL s 2 ++ digL m.u 2 ++ m.opts ++ m.data) m.a 4 f3 8 (by simp [digL_length])
    simpa [bytesT] using this
  have g6 : (getV (bytesT m s) 14 2).1 = m.w := by
    have := tgetV_mid (digL m.s 2 ++ digL m.d 2 ++ digL m.q 4 ++ digL m.a 4 ++ digL ((20 + (m.opts.length : Int)) / 4 * 16 + m.r) 1 ++ digL m.f 1) (digL s 2 ++ digL m.u 2 ++ m.opts ++ m.data) m.w 2 f6 14 (by simp [digL_length])
    simpa [bytesT] using this
  have g7 : (getV (bytesT m s) 18 2).1 = m.u := by
    have := tgetV_mid (digL m.s 2 ++ digL m.d 2 ++ digL m.q 4 ++ digL m.a 4 ++ digL ((20 + (m.opts.length : Int)) / 4 * 16 + m.r) 1 ++ digL m.f 1 ++ digL m.w 2 ++ digL s 2) (m.opts ++ m.data) m.u 2 f8 18 (by simp [digL_length])
    simpa [bytesT] using this
  have hd20 : (bytesT m s).drop 20 = m.opts ++ m.data := by
    have e : bytesT m s = (digL m.s 2 ++ digL m.d 2 ++ digL m.q 4 ++ digL m.a 4 ++ digL ((20 + (m.opts.length : Int)) / 4 * 16 + m.r) 1 ++ digL m.f 1 ++ digL m.w 2 ++ digL s 2 ++ digL m.u 2) ++ (m.opts ++ m.data) := by simp [bytesT]
    rw [e, List.drop_append_of_le_length (by simp [digL_length]), List.drop_of_length_le (by simp [digL_length]), List.nil_append]
  have hdk : (bytesT m s).drop (20 + m.opts.length) = m.data := by rw [← List.drop_drop, hd20]; simp
  unfold parsedT
  rw [g0, g1, g2, g3, g6, g7, e12, e13, hh]
  have ht : (20 + (m.opts.length : Int)).toNat = 20 + m.opts.length := by omega
  rw [ht, hdk, hd20]
  have hr : ((20 + (m.opts.length : Int)) / 4 * 16 + m.r) % 16 = m.r := by omega
  rw [hr]
  obtain ⟨a1, a2, a3, a4, a5, a6, a7, a8, o, d⟩ := m
  simp
theorem back8_code {src dst : Int} {m : TcpP} {no n : Nat} (ho : m.opts.length = no) (hd : m.data.length = n) (hok : checkT m no n = 0) (bo : Byts m.opts) (bd : Byts m.data) : codeT src dst (builtT src dst m) = 0 := by
  have hh := (parsedT_bytes ho hok (s := sumT src dst m)).1
  obtain ⟨⟨hn1, hn2, hr0, hr1⟩, hfit, htot⟩ := checkT_ok hok
  obtain ⟨s0, s1⟩ := sumT_bd src dst m
  have hlen := bytesT_length m (sumT src dst m)
  have hlen0 := bytesT_length m 0
  unfold codeT builtT
  rw [hh, hlen, if_neg (by omega), if_neg (by omega), if_neg (by omega), if_neg (by omega), bytesT_sum _ m _ s0 s1]
  have h0 : 0 ≤ totalI [pseudoB src dst 6 (((bytesT m 0).length : Nat) : Int), bytesT m 0] := by
    rw [total8_two]
    have h1 := sumB_lo (pseudoB_byts src dst 6 (((bytesT m 0).length : Nat) : Int))
    have h2 := sumB_lo (bytesT_byts (m := m) (s := 0) bo bd)
    omega
  have := fold_right _ h0
  have e : totalI [pseudoB src dst 6 (((bytesT m 0).length : Nat) : Int), bytesT m 0] + sumT src dst m = totalI [pseudoB src dst 6 (((bytesT m 0).length : Nat) : Int), bytesT m 0] + (65535 - foldI (totalI [pseudoB src dst 6 (((bytesT m 0).length : Nat) : Int), bytesT m 0])) := rfl
  rw [← hlen0, e, this]; rfl
theorem back8_read {src dst : Int} {m : TcpP} {no n : Nat} (ho : m.opts.length = no) (hd : m.data.length = n) (hok : checkT m no n = 0) (bo : Byts m.opts) (bd : Byts m.data) : readT src dst (builtT src dst m) = m := by
  unfold readT
  rw [if_pos (back8_code ho hd hok bo bd)]
  exact (parsedT_bytes ho hok).2
theorem built8_pos (src dst : Int) (m : TcpP) : 0 < (builtT src dst m).length := by unfold builtT; rw [bytesT_length]; omega
end Go.Proofs.Ytccdbelngjonaaa
