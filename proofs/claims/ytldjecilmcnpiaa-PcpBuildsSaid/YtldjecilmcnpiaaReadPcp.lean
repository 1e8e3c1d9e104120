/- From an argument's reading to words of this claim: what is told (pcp), by value. No condition. -/
import Derived.Test.YtldjecilmcnpiaaReadS
import Derived.Test.YtldjecilmcnpiaaPcpT
set_option linter.unusedVariables false
namespace Go.Proofs.Ytldjecilmcnpiaa
open Go.ChangeShapes Go.WideShapes Go.ChangeAt Go.RowKit Go.Deep

theorem cells_told : Try.prog.cellsOf 58 = 35 := by kernel_rfl
theorem cells_ask : Try.prog.cellsOf 51 = 33 := by kernel_rfl
theorem cells_intP : Try.prog.cellsOf 3 = 1 := by kernel_rfl
theorem cells_sixP : Try.prog.cellsOf 44 = 16 := by kernel_rfl
theorem cells_12P : Try.prog.cellsOf 49 = 12 := by kernel_rfl
section
variable {H : Type} {enc : TypeId × Value → H} {W : World}
theorem field_sub {t : TypeId} {fs : Array Field} {fuel : Nat} {C : Array Value} {x : DataW H × List MemPlace} (ht : Try.prog.underlying t = some (.struct fs)) (h : DataW.trod enc Try.prog W 0 (fun _ => true) true fuel t C.toList = some x)
    (i : Nat) (f : Field) (hf : fs[i]? = some f) (m : Nat) (h1 : Try.prog.cellsOf f.type = m) :
    ∃ n y, DataW.trod enc Try.prog W 0 (fun _ => true) true n f.type ((C.toList.drop f.offset).take m) = some y := by
  obtain ⟨xs, n, _, _, hl, hlen, hall⟩ := DataW.trod_struct ht h
  have hi' : i < xs.length := by have := (Array.getElem?_eq_some_iff.1 hf).1; omega
  have h2 := hall i f hf
  rw [List.getElem?_eq_getElem hi', h1] at h2
  exact ⟨n, _, h2⟩
theorem rowA_of {C : List Value} {a : AskP} (ok : AskOk a) (hl : C.length = 33) (h0 : C[0]? = some (.int .i64 a.life)) (hc : ∀ j, j < 16 → C[1 + j]? = some (.int .u8 (a.cl[j]?.getD 0))) (hn : ∀ j, j < 12 → C[17 + j]? = some (.int .u8 (a.no[j]?.getD 0)))
    (h29 : C[29]? = some (.int .i64 a.pr)) (h30 : C[30]? = some (.int .i64 a.port)) (h31 : C[31]? = some (.int .i64 a.outer)) (h32 : C[32]? = some (.int .i64 a.addr)) : C = rowA a := by
  apply List.ext_getElem?
  intro j
  by_cases h : j < 33
  · have hcs : j = 0 ∨ (1 ≤ j ∧ j < 17) ∨ (17 ≤ j ∧ j < 29) ∨ j = 29 ∨ j = 30 ∨ j = 31 ∨ j = 32 := by omega
    rcases hcs with rfl | ⟨a1, a2⟩ | ⟨a1, a2⟩ | rfl | rfl | rfl | rfl
    · rw [h0]; rfl
    · have e1 := hc (j - 1) (by omega)
      have e2 := rowA_cl ok (j - 1) (by omega)
      rw [show 1 + (j - 1) = j by omega] at e1 e2
      rw [e1, e2]
    · have e1 := hn (j - 17) (by omega)
      have e2 := rowA_no ok (j - 17) (by omega)
      rw [show 17 + (j - 17) = j by omega] at e1 e2
      rw [e1, e2]
    · rw [h29]; exact (rowA_tail ok 0).symm
    · rw [h30]; exact (rowA_tail ok 1).symm
    · rw [h31]; exact (rowA_tail ok 2).symm
    · rw [h32]; exact (rowA_tail ok 3).symm
  · rw [List.getElem?_eq_none (by omega), List.getElem?_eq_none (by rw [rowA_len ok]; omega)]
set_option maxRecDepth 100000 in
theorem told_of {r : Reach} {b0 : Nat} {v : Value} {d : DataW H} {p : List MemPlace} (hv : Value.okWide Try.prog W r b0 58 v) (h : DataW.Trod enc Try.prog W 0 (fun _ => true) true 58 v d p) :
    ∃ t : ToldP, v = .agg (rowT t).toArray ∧ AskOk t.ask := by
  obtain ⟨C, rfl, hsz⟩ := okWide_struct Try.underlying58 hv
  rw [cells_told] at hsz
  obtain ⟨fuel, hf⟩ := h
  obtain ⟨z0, e0, _⟩ := field_int Try.underlying58 (C := C) hf 0 _ rfl cells_intP (by show _ ≤ C.size; rw [hsz]; decide) Try.underlying3
  obtain ⟨z1, e1, _⟩ := field_int Try.underlying58 (C := C) hf 1 _ rfl cells_intP (by show _ ≤ C.size; rw [hsz]; decide) Try.underlying3
  obtain ⟨n, y, hs⟩ := field_sub Try.underlying58 (C := C) hf 2 _ rfl 33 cells_ask
  obtain ⟨D, hD⟩ : ∃ D : Array Value, ((C.toList.drop 2).take 33).toArray = D := ⟨_, rfl⟩
  have hDl : D.toList = (C.toList.drop 2).take 33 := by rw [← hD]
  have hDs : D.size = 33 := by rw [← Array.length_toList, hDl]; simp; omega
  have hs' : DataW.trod enc Try.prog W 0 (fun _ => true) true n 51 D.toList = some y := by rw [hDl]; exact hs
  obtain ⟨x0, f0, _⟩ := field_int Try.underlying51 (C := D) hs' 0 _ rfl cells_intP (by show _ ≤ D.size; rw [hDs]; decide) Try.underlying3
  obtain ⟨cl, lc, bc, hc⟩ := field_arr Try.underlying51 (C := D) hs' 1 _ rfl 16 cells_sixP (by show _ ≤ D.size; rw [hDs]; decide) Try.underlying44
  obtain ⟨no, ln, bn, hn⟩ := field_arr Try.underlying51 (C := D) hs' 2 _ rfl 12 cells_12P (by show _ ≤ D.size; rw [hDs]; decide) Try.underlying49
  obtain ⟨x3, f3, _⟩ := field_int Try.underlying51 (C := D) hs' 3 _ rfl cells_intP (by show _ ≤ D.size; rw [hDs]; decide) Try.underlying3
  obtain ⟨x4, f4, _⟩ := field_int Try.underlying51 (C := D) hs' 4 _ rfl cells_intP (by show _ ≤ D.size; rw [hDs]; decide) Try.underlying3
  obtain ⟨x5, f5, _⟩ := field_int Try.underlying51 (C := D) hs' 5 _ rfl cells_intP (by show _ ≤ D.size; rw [hDs]; decide) Try.underlying3
  obtain ⟨x6, f6, _⟩ := field_int Try.underlying51 (C := D) hs' 6 _ rfl cells_intP (by show _ ≤ D.size; rw [hDs]; decide) Try.underlying3
  have ok : AskOk ⟨x0, cl, no, x3, x4, x5, x6⟩ := ⟨lc, ln, bc, bn⟩
  have hrow : D.toList = rowA ⟨x0, cl, no, x3, x4, x5, x6⟩ := rowA_of ok (by rw [Array.length_toList]; exact hDs) (by rw [Array.getElem?_toList]; exact f0) (fun j hj => by rw [Array.getElem?_toList]; exact hc j hj) (fun j hj => by rw [Array.getElem?_toList]; exact hn j hj)
    (by rw [Array.getElem?_toList]; exact f3) (by rw [Array.getElem?_toList]; exact f4) (by rw [Array.getElem?_toList]; exact f5) (by rw [Array.getElem?_toList]; exact f6)
  refine ⟨⟨z0, z1, ⟨x0, cl, no, x3, x4, x5, x6⟩⟩, ?_, ok⟩
  congr 1
  rw [← Array.toArray_toList (xs := C)]
  congr 1
  rw [hDl, List.take_of_length_le (by simp; omega)] at hrow
  show C.toList = .int .i64 z0 :: .int .i64 z1 :: rowA _
  rw [← hrow]
  have g0 : C.toList[0]? = some (.int .i64 z0) := by rw [Array.getElem?_toList]; exact e0
  have g1 : C.toList[1]? = some (.int .i64 z1) := by rw [Array.getElem?_toList]; exact e1
  match hCl : C.toList, g0, g1 with
  | c0 :: c1 :: r, g0, g1 =>
    simp at g0 g1
    subst g0 g1
    rfl
end
end Go.Proofs.Ytldjecilmcnpiaa
