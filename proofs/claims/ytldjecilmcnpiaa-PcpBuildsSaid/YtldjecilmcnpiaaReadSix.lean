/- From an argument's reading to words of this claim: sixteen bytes by value. No condition. -/
import Derived.Test.YtldjecilmcnpiaaReadS
import Derived.Test.YtldjecilmcnpiaaSixB
set_option linter.unusedVariables false
namespace Go.Proofs.Ytldjecilmcnpiaa
open Go.ChangeShapes Go.WideShapes Go.ChangeAt Go.RowKit Go.Deep

theorem cells_six : Try.prog.cellsOf 44 = 16 := by kernel_rfl
section
variable {H : Type} {enc : TypeId × Value → H} {W : World}
set_option maxRecDepth 100000 in
theorem six_of {r : Reach} {b0 : Nat} {v : Value} {d : DataW H} {p : List MemPlace} (hv : Value.okWide Try.prog W r b0 44 v) (h : DataW.Trod enc Try.prog W 0 (fun _ => true) true 44 v d p) :
    ∃ s : List Int, v = .agg (cells6 s) ∧ Six s := by
  have ⟨C, hC, hsz⟩ : ∃ cs, v = .agg cs ∧ cs.size = Try.prog.cellsOf 44 := by
    simp only [Value.okWide, Try.underlying44] at hv
    obtain ⟨cs, h1, h2, _⟩ := hv
    exact ⟨cs, h1, h2⟩
  subst hC
  rw [cells_six] at hsz
  obtain ⟨fuel, hf⟩ := h
  obtain ⟨ys, q, _, _, hl2, hlen2, hall2⟩ := DataW.trod_array Try.underlying44 hf
  have hc : ∀ j, j < 16 → ∃ z, C[j]? = some (.int .u8 z) ∧ 0 ≤ z ∧ z ≤ 255 := fun j hj => by
    have h3 := hall2 j hj
    rw [List.getElem?_eq_getElem (by omega), cells_u8] at h3
    have h4 : ((Value.agg C).cells.toList.drop (j * 1)).take 1 = [C[j]] := by
      show (C.toList.drop (j * 1)).take 1 = [C[j]]
      rw [Nat.mul_one, List.drop_eq_getElem_cons (by simp; omega)]; simp
    rw [h4] at h3
    obtain ⟨z, hz, _, hw⟩ := DataW.trod_int Try.underlying5 h3
    simp at hz
    have := bounds_u8 hw
    exact ⟨z, by rw [Array.getElem?_eq_getElem (by omega), hz], by omega, by omega⟩
  refine ⟨(List.range 16).map fun j => intOf (C[j]?.getD undef), ?_, by simp, fun z hz => ?_⟩
  · congr 1
    apply Array.ext_getElem?
    intro j
    by_cases hj : j < 16
    · obtain ⟨z, e, _, _⟩ := hc j hj
      rw [e]
      simp [cells6, u8s, e, intOf, hj]
    · rw [Array.getElem?_eq_none (by omega), Array.getElem?_eq_none (by simp [cells6, u8s]; omega)]
  · simp only [List.mem_map, List.mem_range] at hz
    obtain ⟨j, hj, rfl⟩ := hz
    obtain ⟨z, e, h0, h1⟩ := hc j hj
    rw [e]; exact ⟨h0, h1⟩
end
end Go.Proofs.Ytldjecilmcnpiaa
