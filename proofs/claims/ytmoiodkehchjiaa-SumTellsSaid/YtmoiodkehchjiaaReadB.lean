/- From an argument's reading to words of this claim: slices of slices of bytes. No condition. -/
import Derived.Test.YtmoiodkehchjiaaRead
set_option linter.unusedVariables false
namespace Go.Proofs.Ytmoiodkehchjiaa
open Go.ChangeShapes Go.WideShapes Go.ChangeAt Go.RowKit Go.Deep
section
variable {H : Type} {enc : TypeId × Value → H} {W : World} {base : Nat}
theorem rbb_of {r : Reach} {b0 : Nat} {v : Value} {d : DataW H} {p : List MemPlace} (hv : Value.okWide Try.prog W r b0 22 v) (h : DataW.Trod enc Try.prog W 0 (fun _ => true) true 22 v d p) :
    ∃ A n c l, v = .slice A n c ∧ RBB W A n c l := by
  obtain ⟨A, n, c, rfl⟩ := okWide_slice Try.underlying22 hv
  obtain ⟨fuel, hf⟩ := h
  rcases open_slice Try.underlying22 hf with ⟨hcs, hx⟩ | ⟨a, len, cap, m, n', D, Pl, hcs, _, hl, hm, hmm, hx, hi⟩
  · simp only [Value.cells, List.cons.injEq, Value.slice.injEq, and_true] at hcs
    obtain ⟨rfl, rfl, rfl⟩ := hcs
    exact ⟨none, 0, 0, [], rfl, rfl, Nat.le_refl _, by simp [maxLen], fun h => absurd h (by omega)⟩
  · simp only [Value.cells, List.cons.injEq, Value.slice.injEq, and_true] at hcs
    obtain ⟨rfl, rfl, rfl⟩ := hcs
    simp only [if_true] at hmm
    have hel : ∀ i, i < n → ∃ A' n' c' bs, W.cell? (a.add i) = some (.slice A' n' c') ∧ RB W A' n' c' bs := by
      intro i hin
      obtain ⟨cs', hc, ht⟩ := hi i (by omega)
      rw [cells_u8s, Nat.mul_one] at hc
      obtain ⟨_, hcl, hat⟩ := World.cells?_some hc
      have h0 := hat 0 (by omega)
      match cs', hcl with
      | [u], _ =>
        have hu : W.cell? (a.add i) = some u := by simpa [Addr.add] using h0
        rcases open_ints Try.underlying30 Try.underlying5 cells_u8 ht with ⟨hcs, _⟩ | ⟨a', len', cap', _, hcs, _⟩
        · simp only [List.cons.injEq, and_true] at hcs
          subst hcs
          obtain ⟨bs, hb⟩ := rb_of_cells ht
          exact ⟨_, _, _, bs, hu, hb⟩
        · simp only [List.cons.injEq, and_true] at hcs
          subst hcs
          obtain ⟨bs, hb⟩ := rb_of_cells ht
          exact ⟨_, _, _, bs, hu, hb⟩
    have hch : ∃ f : Nat → List Int, ∀ i, i < n → ∃ A' n' c', W.cell? (a.add i) = some (.slice A' n' c') ∧ RB W A' n' c' (f i) :=
      ⟨fun i => if h : i < n then Classical.choose (Classical.choose_spec (Classical.choose_spec (Classical.choose_spec (hel i h)))) else [], fun i hin => by
        have hs := Classical.choose_spec (Classical.choose_spec (Classical.choose_spec (Classical.choose_spec (hel i hin))))
        exact ⟨_, _, _, hs.1, by dsimp only; rw [dif_pos hin]; exact hs.2⟩⟩
    obtain ⟨f, hf'⟩ := hch
    refine ⟨some a, n, c, (List.range n).map f, rfl, by simp, hl, hm, fun hn => ?_⟩
    obtain ⟨_, _, _, hc0, _⟩ := hf' 0 hn
    obtain ⟨b, off, spot⟩ := a
    have hspot : spot = none := by simpa [Addr.add] using World.cell?_spot hc0
    subst hspot
    refine ⟨b, off, rfl, by simpa [Addr.add] using block_lt hc0, fun j hj => ?_⟩
    obtain ⟨A', n', c', h1, h2⟩ := hf' j hj
    refine ⟨A', n', c', by rw [← Go.WideShapes.add_plain]; exact h1, ?_⟩
    rw [List.getElem?_map, List.getElem?_range hj]
    exact h2
end
end Go.Proofs.Ytmoiodkehchjiaa
