/- From an argument's reading to words of this claim: a struct's fields, one by one; arrays of bytes. No condition. -/
import Derived.Test.YtipigcpenmcaoaaRead
set_option linter.unusedVariables false
namespace Go.Proofs.Ytipigcpenmcaoaa
open Go.ChangeShapes Go.WideShapes Go.ChangeAt Go.RowKit Go.Deep

section
variable {H : Type} {enc : TypeId × Value → H} {W : World} {base : Nat}
/-- A field of one cell. -/
theorem field_cell {t : TypeId} {fs : Array Field} {fuel : Nat} {C : Array Value} {x : DataW H × List MemPlace} (ht : Try.prog.underlying t = some (.struct fs)) (h : DataW.trod enc Try.prog W 0 (fun _ => true) true fuel t C.toList = some x)
    (i : Nat) (f : Field) (hf : fs[i]? = some f) (h1 : Try.prog.cellsOf f.type = 1) (ho : f.offset < C.size) :
    ∃ v n y, C[f.offset]? = some v ∧ DataW.trod enc Try.prog W 0 (fun _ => true) true n f.type [v] = some y := by
  obtain ⟨xs, n, _, _, hl, hlen, hall⟩ := DataW.trod_struct ht h
  have hi : i < xs.length := by have := (Array.getElem?_eq_some_iff.1 hf).1; omega
  have h2 := hall i f hf
  rw [List.getElem?_eq_getElem hi, h1] at h2
  have h3 : (C.toList.drop f.offset).take 1 = [C[f.offset]] := by
    rw [List.drop_eq_getElem_cons (by simpa using ho)]; simp
  rw [h3] at h2
  exact ⟨C[f.offset], n, _, Array.getElem?_eq_getElem ho, h2⟩
theorem field_int {t : TypeId} {fs : Array Field} {fuel : Nat} {C : Array Value} {x : DataW H × List MemPlace} (ht : Try.prog.underlying t = some (.struct fs)) (h : DataW.trod enc Try.prog W 0 (fun _ => true) true fuel t C.toList = some x)
    (i : Nat) (f : Field) (hf : fs[i]? = some f) (h1 : Try.prog.cellsOf f.type = 1) (ho : f.offset < C.size) (hi : Try.prog.underlying f.type = some (.int .i64)) :
    ∃ z, C[f.offset]? = some (.int .i64 z) ∧ -9223372036854775808 ≤ z ∧ z ≤ 9223372036854775807 := by
  obtain ⟨v, n, y, h2, h3⟩ := field_cell ht h i f hf h1 ho
  obtain ⟨z, hz, _, hw⟩ := DataW.trod_int hi h3
  cases hz
  exact ⟨z, h2, bounds_i64 hw⟩
theorem field_bool {t : TypeId} {fs : Array Field} {fuel : Nat} {C : Array Value} {x : DataW H × List MemPlace} (ht : Try.prog.underlying t = some (.struct fs)) (h : DataW.trod enc Try.prog W 0 (fun _ => true) true fuel t C.toList = some x)
    (i : Nat) (f : Field) (hf : fs[i]? = some f) (h1 : Try.prog.cellsOf f.type = 1) (ho : f.offset < C.size) (hi : Try.prog.underlying f.type = some .bool) :
    ∃ z, C[f.offset]? = some (.bool z) := by
  obtain ⟨v, n, y, h2, h3⟩ := field_cell ht h i f hf h1 ho
  obtain ⟨z, hz, _⟩ := DataW.trod_bool hi h3
  cases hz
  exact ⟨z, h2⟩
theorem slice_of_cells {fuel : Nat} {e : TypeId} {t : TypeId} {v : Value} {x : DataW H × List MemPlace} (ht : Try.prog.underlying t = some (.slice e)) (h : DataW.trod enc Try.prog W 0 (fun _ => true) true fuel t [v] = some x) : ∃ A n c, v = .slice A n c := by
  rcases DataW.trod_slice ht h with ⟨hc, _⟩ | ⟨a, len, cap, _, _, _, _, hc, _⟩
  · simp at hc; exact ⟨_, _, _, hc⟩
  · simp at hc; exact ⟨_, _, _, hc⟩
theorem field_bytes {t : TypeId} {fs : Array Field} {fuel : Nat} {C : Array Value} {x : DataW H × List MemPlace} (ht : Try.prog.underlying t = some (.struct fs)) (h : DataW.trod enc Try.prog W 0 (fun _ => true) true fuel t C.toList = some x)
    (i : Nat) (f : Field) (hf : fs[i]? = some f) (ho : f.offset < C.size) (hi : f.type = 22) :
    ∃ A n c bs, C[f.offset]? = some (.slice A n c) ∧ RB W A n c bs := by
  obtain ⟨v, n, y, h2, h3⟩ := field_cell ht h i f hf (by rw [hi]; exact cells_u8s) ho
  rw [hi] at h3
  obtain ⟨A, m, c, rfl⟩ := slice_of_cells Try.underlying22 h3
  obtain ⟨bs, hr⟩ := rb_of_cells h3
  exact ⟨A, m, c, bs, h2, hr⟩
/-- An array of bytes in a field. -/
theorem field_arr {t : TypeId} {fs : Array Field} {fuel : Nat} {C : Array Value} {x : DataW H × List MemPlace} (ht : Try.prog.underlying t = some (.struct fs)) (h : DataW.trod enc Try.prog W 0 (fun _ => true) true fuel t C.toList = some x)
    (i : Nat) (f : Field) (hf : fs[i]? = some f) (m : Nat) (h1 : Try.prog.cellsOf f.type = m) (ho : f.offset + m ≤ C.size) (hi : Try.prog.underlying f.type = some (.array m 5)) :
    ∃ bs : List Int, bs.length = m ∧ Byts bs ∧ ∀ j, j < m → C[f.offset + j]? = some (.int .u8 (bs[j]?.getD 0)) := by
  obtain ⟨xs, n, _, _, hl, hlen, hall⟩ := DataW.trod_struct ht h
  have hi' : i < xs.length := by have := (Array.getElem?_eq_some_iff.1 hf).1; omega
  have h2 := hall i f hf
  rw [List.getElem?_eq_getElem hi', h1] at h2
  obtain ⟨ys, q, _, _, hl2, hlen2, hall2⟩ := DataW.trod_array hi h2
  have hc : ∀ j, j < m → ∃ z, C[f.offset + j]? = some (.int .u8 z) ∧ 0 ≤ z ∧ z ≤ 255 := fun j hj => by
    have h3 := hall2 j hj
    rw [List.getElem?_eq_getElem (by omega), cells_u8] at h3
    have h4 : (((C.toList.drop f.offset).take m).drop (j * 1)).take 1 = [C[f.offset + j]] := by
      rw [Nat.mul_one, List.drop_eq_getElem_cons (by simp; omega)]; simp
    rw [h4] at h3
    obtain ⟨z, hz, _, hw⟩ := DataW.trod_int Try.underlying5 h3
    simp at hz
    have := bounds_u8 hw
    exact ⟨z, by rw [Array.getElem?_eq_getElem (by omega), hz], by omega, by omega⟩
  refine ⟨(List.range m).map fun j => intOf (C[f.offset + j]?.getD undef), by simp, fun z hz => ?_, fun j hj => ?_⟩
  · simp only [List.mem_map, List.mem_range] at hz
    obtain ⟨j, hj, rfl⟩ := hz
    obtain ⟨z, e, h0, h1⟩ := hc j hj
    rw [e]; exact ⟨h0, h1⟩
  · obtain ⟨z, e, _, _⟩ := hc j hj
    rw [List.getElem?_map, List.getElem?_range hj, e]
    simp [e, intOf]
end
end Go.Proofs.Ytipigcpenmcaoaa
