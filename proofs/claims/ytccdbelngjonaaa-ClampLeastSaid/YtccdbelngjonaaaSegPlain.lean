/- Plain facts: the greatest size of a segment that is held. No program in sight. -/
import Derived.Test.YtccdbelngjonaaaSeg
import Derived.Test.YtccdbelngjonaaaTcpPlain
set_option linter.unusedVariables false
namespace Go.Proofs.Ytccdbelngjonaaa
open Go.RowKit

theorem placesF_ge (bs : List Int) : ∀ (f a p : Nat), p ∈ placesF bs f a → a ≤ p
  | 0, a, p, h => by simp [placesF] at h
  | f + 1, a, p, h => by
    unfold placesF at h
    split at h
    · simp at h
    · split at h
      · simp at h; omega
      · rcases List.mem_cons.1 h with h | h
        · omega
        · have := placesF_ge bs f _ p h; omega
theorem optL_same {xs ys : List Int} {p : Nat} (hl : ys.length = xs.length) (h0 : ys[p]?.getD 0 = xs[p]?.getD 0) (h1 : xs[p]?.getD 0 ≤ 1 ∨ ys[p + 1]?.getD 0 = xs[p + 1]?.getD 0) : optL ys p = optL xs p := by
  unfold optL
  rw [hl, h0]
  rcases h1 with h1 | h1
  · rw [if_pos h1, if_pos h1]
  · rw [h1]
theorem optL_at {xs ys : List Int} {a : Nat} (hl : ys.length = xs.length) (hs : ∀ i, i ≠ a + 2 → i ≠ a + 3 → ys[i]?.getD 0 = xs[i]?.getD 0) (ha4 : optL xs a = 4) : optL ys a = 4 := by rw [optL_same hl (hs a (by omega) (by omega)) (.inr (hs (a + 1) (by omega) (by omega))), ha4]
theorem optL_far {xs ys : List Int} {a : Nat} (hl : ys.length = xs.length) (hs : ∀ i, i ≠ a + 2 → i ≠ a + 3 → ys[i]?.getD 0 = xs[i]?.getD 0) {p : Nat} (hp : a + 4 ≤ p ∨ (p < a ∧ (optL xs p = 0 ∨ p + optL xs p ≤ a))) : optL ys p = optL xs p := by
  refine optL_same hl (hs p (by omega) (by omega)) ?_
  rcases hp with hp | ⟨hp, h2⟩
  · exact .inr (hs (p + 1) (by omega) (by omega))
  · exact .inr (hs (p + 1) (by omega) (by omega))
theorem placesF_same {xs ys : List Int} {a : Nat} (hl : ys.length = xs.length) (hs : ∀ i, i ≠ a + 2 → i ≠ a + 3 → ys[i]?.getD 0 = xs[i]?.getD 0) (ha0 : xs[a]?.getD 0 = 2) (ha4 : optL xs a = 4) : ∀ (f p : Nat), (p ≤ a → a ∈ placesF xs f p) → (p ≤ a ∨ a + 4 ≤ p) → placesF ys f p = placesF xs f p
  | 0, p, _, _ => rfl
  | f + 1, p, h1, h2 => by
    by_cases hpa : p = a
    · subst hpa
      unfold placesF
      rw [optL_at hl hs ha4, ha4, hs p (by omega) (by omega), ha0, placesF_same hl hs ha0 ha4 f (p + 4) (by omega) (by omega)]
    · by_cases hlt : p < a
      · have hm := h1 (by omega)
        unfold placesF at hm
        by_cases h0 : optL xs p = 0
        · rw [if_pos h0] at hm; simp at hm
        · rw [if_neg h0] at hm
          by_cases hz : xs[p]?.getD 0 = 0
          · rw [if_pos hz] at hm; simp at hm; omega
          · rw [if_neg hz] at hm
            have hm2 : a ∈ placesF xs f (p + optL xs p) := by rcases List.mem_cons.1 hm with h | h; omega; exact h
            have hge := placesF_ge xs f _ a hm2
            have ho := optL_far hl hs (p := p) (.inr ⟨hlt, .inr hge⟩)
            unfold placesF
            rw [ho, hs p (by omega) (by omega), placesF_same hl hs ha0 ha4 f (p + optL xs p) (fun _ => hm2) (by omega)]
      · have ho := optL_far hl hs (p := p) (.inl (by omega))
        unfold placesF
        rw [ho, hs p (by omega) (by omega), placesF_same hl hs ha0 ha4 f (p + optL xs p) (by omega) (by omega)]
theorem mssF_same {xs ys : List Int} {a : Nat} (hl : ys.length = xs.length) (hs : ∀ i, i ≠ a + 2 → i ≠ a + 3 → ys[i]?.getD 0 = xs[i]?.getD 0) (ha0 : xs[a]?.getD 0 = 2) (ha4 : optL xs a = 4) : ∀ (f p : Nat) (v : Int), p ≤ a → a ∈ placesF xs f p → mssF xs (placesF xs f p) = (v, (a : Int), true) → mssF ys (placesF xs f p) = ((getV ys ((a : Int) + 2) 2).1, (a : Int), true)
  | 0, p, v, _, hm, _ => by simp [placesF] at hm
  | f + 1, p, v, hpa, hm, hv => by
    by_cases he : p = a
    · subst he
      have hcons : placesF xs (f + 1) p = p :: placesF xs f (p + 4) := by
        show (if optL xs p = 0 then [] else if xs[p]?.getD 0 = 0 then [p] else p :: placesF xs f (p + optL xs p)) = _
        rw [ha4, if_neg (by omega), if_neg (by rw [ha0]; decide)]
      rw [hcons]
      unfold mssF
      rw [if_pos ⟨by rw [hs p (by omega) (by omega), ha0], optL_at hl hs ha4⟩]
    · unfold placesF at hm hv ⊢
      by_cases h0 : optL xs p = 0
      · rw [if_pos h0] at hm; simp at hm
      · rw [if_neg h0] at hm hv ⊢
        by_cases hz : xs[p]?.getD 0 = 0
        · rw [if_pos hz] at hm; simp at hm; omega
        · rw [if_neg hz] at hm hv ⊢
          have hm2 : a ∈ placesF xs f (p + optL xs p) := by rcases List.mem_cons.1 hm with h | h; omega; exact h
          have hge := placesF_ge xs f _ a hm2
          have ho := optL_far hl hs (p := p) (.inr ⟨by omega, .inr hge⟩)
          unfold mssF at hv ⊢
          by_cases hc : xs[p]?.getD 0 = 2 ∧ optL xs p = 4
          · rw [if_pos hc] at hv
            have : (p : Int) = (a : Int) := by have := congrArg (fun r => r.2.1) hv; simpa using this
            omega
          · rw [if_neg hc] at hv
            rw [if_neg (by rw [ho, hs p (by omega) (by omega)]; exact hc)]
            exact mssF_same hl hs ha0 ha4 f _ v hge hm2 hv
theorem split_two {xs : List Int} {a : Nat} (h : a + 4 ≤ xs.length) : ∃ x y, xs = xs.take (a + 2) ++ [x, y] ++ xs.drop (a + 4) := by
  refine ⟨xs[a + 2], xs[a + 3], ?_⟩
  have e1 : xs.drop (a + 2) = xs[a + 2] :: xs.drop (a + 3) := List.drop_eq_getElem_cons (by omega)
  have e2 : xs.drop (a + 3) = xs[a + 3] :: xs.drop (a + 4) := List.drop_eq_getElem_cons (by omega)
  have e3 := List.take_append_drop (a + 2) xs
  rw [e1, e2] at e3
  exact e3.symm.trans (by simp)
/-- The greatest size that a segment tells once it is held. -/
theorem seg_mss {m : TcpP} {bound : Int} (hf : fitsP bound ((2 : Nat) : Int)) (hb : Byts m.opts) :
    (mssT (segT m bound).opts).2 = (mssT m.opts).2 ∧ (mssT (segT m bound).opts).1 = if (bits .and .i64 m.f 2 == 0) = true then (mssT m.opts).1 else min (mssT m.opts).1 bound := by
  cases hh : (heldT m bound).2
  · have e : segT m bound = m := by unfold segT; rw [hh]; rfl
    rw [e]
    refine ⟨rfl, ?_⟩
    unfold heldT at hh
    cases hs : (bits .and .i64 m.f 2 == 0)
    · rw [hs, show fitsB bound 2 = true from fitsB_yes hf] at hh
      simp only [Bool.false_eq_true, if_false, Bool.true_eq_false] at hh ⊢
      cases ho : (mssT m.opts).2.2
      · have hz : ∀ l, (mssF m.opts l).2.2 = false → (mssF m.opts l).1 = 0 := by
          intro l
          induction l with
          | nil => intro _; rfl
          | cons x l ih =>
            unfold mssF
            split
            · intro h; cases h
            · exact ih
        have hz0 : (mssT m.opts).1 = 0 := hz _ ho
        rw [hz0]
        have := hf.2.1
        omega
      · rw [ho] at hh
        simp at hh
        omega
    · simp
  · obtain ⟨a, h1, h2, h3, h4, h5, h6, h7, h8⟩ := heldT_true hh
    have hxo := optL_le m.opts a
    rw [h4] at hxo
    have h9 : a + 4 ≤ m.opts.length := by omega
    have hat : ((a : Int) + 2).toNat = a + 2 := by omega
    have e : (segT m bound).opts = setN m.opts (a + 2) (digL bound 2) 2 := by unfold segT; rw [hh, if_pos rfl, h5, hat]
    obtain ⟨x, y, hxy⟩ := split_two h9
    have hlt : (m.opts.take (a + 2)).length = a + 2 := by simp; omega
    have e2 : setN m.opts (a + 2) (digL bound 2) 2 = m.opts.take (a + 2) ++ digL bound 2 ++ m.opts.drop (a + 4) := by
      have := setN_two2 (m.opts.take (a + 2)) (m.opts.drop (a + 4)) x y (digL bound 2) (a + 2) hlt (digL_length _ _)
      rw [← hxy] at this
      exact this
    rw [e, e2]
    obtain ⟨ys, hys⟩ : ∃ ys, m.opts.take (a + 2) ++ digL bound 2 ++ m.opts.drop (a + 4) = ys := ⟨_, rfl⟩
    have hl : ys.length = m.opts.length := by rw [← hys]; simp [digL_length]; omega
    have hs : ∀ i, i ≠ a + 2 → i ≠ a + 3 → ys[i]?.getD 0 = m.opts[i]?.getD 0 := by
      intro i hi1 hi2
      rw [← hys]
      by_cases hi : i < a + 2
      · rw [List.append_assoc, List.getElem?_append_left (by omega), List.getElem?_take, if_pos hi]
      · rw [List.getElem?_append_right (by simp [digL_length]; omega), List.length_append, hlt, digL_length, List.getElem?_drop, show a + 4 + (i - (a + 2 + 2)) = i by omega]
    have hg : (getV ys ((a : Int) + 2) 2).1 = bound := by
      have := tgetV_mid (m.opts.take (a + 2)) (m.opts.drop (a + 4)) bound 2 hf (a + 2) hlt
      rw [hys, Int.natCast_add] at this
      exact this
    have hpl : places ys = places m.opts := by
      unfold places
      rw [hl]
      exact placesF_same hl hs h3 h4 _ 0 (fun _ => h1) (by omega)
    have hm : mssT ys = (bound, (a : Int), true) := by
      unfold mssT
      rw [hpl, ← hg]
      exact mssF_same hl hs h3 h4 _ 0 _ (by omega) h1 h2
    rw [hys, hm, h2, h8]
    refine ⟨rfl, ?_⟩
    simp
    omega
end Go.Proofs.Ytccdbelngjonaaa
