/- Options of segments: where they begin; the iterator over them: its walk. -/
import Derived.Test.YtmbmmpbfmakfbaaBase
set_option linter.unusedVariables false
namespace Go.Proofs.Ytmbmmpbfmakfbaa
open Go.RowKit
attribute [local go_sem] Oper.semAt_some

/-- How many bytes the option at a place has; 0: there is none. -/
def optL (bs : List Int) (a : Nat) : Nat :=
  if bs.length ≤ a then 0 else if bs[a]?.getD 0 ≤ 1 then 1 else if bs.length ≤ a + 1 then 0 else if bs[a + 1]?.getD 0 < 2 then 0 else if (bs.length : Int) - a < bs[a + 1]?.getD 0 then 0 else (bs[a + 1]?.getD 0).toNat
/-- Where options begin. -/
def placesF (bs : List Int) : Nat → Nat → List Nat
  | 0, _ => []
  | f + 1, a => if optL bs a = 0 then [] else if bs[a]?.getD 0 = 0 then [a] else a :: placesF bs f (a + optL bs a)
def places (bs : List Int) : List Nat := placesF bs (bs.length + 1) 0
theorem optL_le (bs : List Int) (a : Nat) : optL bs a = 0 ∨ (a + optL bs a ≤ bs.length ∧ a < bs.length) := by
  unfold optL
  split
  · exact .inl rfl
  · split
    · exact .inr ⟨by omega, by omega⟩
    · split
      · exact .inl rfl
      · split
        · exact .inl rfl
        · split
          · exact .inl rfl
          · exact .inr ⟨by omega, by omega⟩
theorem placesF_mem (bs : List Int) : ∀ (f a p : Nat), p ∈ placesF bs f a → 0 < optL bs p
  | 0, a, p, h => by simp [placesF] at h
  | f + 1, a, p, h => by
    unfold placesF at h
    split at h
    · simp at h
    · rename_i h0
      split at h
      · simp at h; subst h; omega
      · rcases List.mem_cons.1 h with h | h
        · subst h; omega
        · exact placesF_mem bs f _ p h
theorem places_lt {bs : List Int} {p : Nat} (h : p ∈ places bs) : p + optL bs p ≤ bs.length ∧ 0 < optL bs p ∧ p < bs.length := by
  have h1 := placesF_mem bs _ _ p h
  rcases optL_le bs p with h2 | h2
  · omega
  · exact ⟨h2.1, h1, h2.2⟩
theorem placesF_length (bs : List Int) : ∀ (f a : Nat), (placesF bs f a).length ≤ f
  | 0, a => by simp [placesF]
  | f + 1, a => by
    unfold placesF
    split
    · simp
    · split
      · simp
      · have := placesF_length bs f (a + optL bs a); simp; omega

/-- What the iterator hands on. -/
def optE (b off : Nat) (bs : List Int) : List (Array Value) := (places bs).map fun (a : Nat) => #[.int .i64 (a : Int), .slice (some ⟨b, off + a, none⟩) (optL bs a) (optL bs a)]
theorem optE_length (b off : Nat) (bs : List Int) : (optE b off bs).length = (places bs).length := by simp [optE]

end Go.Proofs.Ytmbmmpbfmakfbaa
