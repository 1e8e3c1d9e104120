/- From an argument's reading to words of this claim: a record by value, a slice of records. No condition. -/
import Derived.Test.YtbbdkfadcafpfaaReadS
import Derived.Test.YtbbdkfadcafpfaaQuads
set_option linter.unusedVariables false
namespace Go.Proofs.Ytbbdkfadcafpfaa
open Go.ChangeShapes Go.WideShapes Go.ChangeAt Go.RowKit Go.Deep

theorem cells_qR : Try.prog.cellsOf 67 = 4 := by kernel_rfl
section
variable {H : Type} {enc : TypeId × Value → H} {W : World}
set_option maxRecDepth 100000 in
theorem qR_cells {fuel : Nat} {cs : List Value} {x : DataW H × List MemPlace} (h : DataW.trod enc Try.prog W 0 (fun _ => true) true fuel 67 cs = some x) (hl : cs.length = 4) :
    ∃ (q : QP) (A : Option Addr) (n c : Nat), cs = (cellsQ q A n c).toList ∧ RB W A n c q.data ∧ (-9223372036854775808 ≤ q.x ∧ q.x ≤ 9223372036854775807) ∧ (-9223372036854775808 ≤ q.y ∧ q.y ≤ 9223372036854775807) ∧ (-9223372036854775808 ≤ q.z ∧ q.z ≤ 9223372036854775807) := by
  have ci : Try.prog.cellsOf 3 = 1 := by kernel_rfl
  have hC : cs = (cs.toArray).toList := rfl
  rw [hC] at h
  have hsz : cs.toArray.size = 4 := by simpa using hl
  obtain ⟨z0, e0, b0⟩ := field_int Try.underlying67 (C := cs.toArray) h 0 _ rfl ci (by show _ ≤ cs.toArray.size; rw [hsz]; decide) Try.underlying3
  obtain ⟨z1, e1, b1⟩ := field_int Try.underlying67 (C := cs.toArray) h 1 _ rfl ci (by show _ ≤ cs.toArray.size; rw [hsz]; decide) Try.underlying3
  obtain ⟨z2, e2, b2⟩ := field_int Try.underlying67 (C := cs.toArray) h 2 _ rfl ci (by show _ ≤ cs.toArray.size; rw [hsz]; decide) Try.underlying3
  obtain ⟨A, n, c, D, e3, hr⟩ := field_bytes Try.underlying67 (C := cs.toArray) h 3 _ rfl (by show _ ≤ cs.toArray.size; rw [hsz]; decide) rfl
  match cs, hl with
  | [c0, c1, c2, c3], _ =>
    cases e0; cases e1; cases e2; cases e3
    exact ⟨⟨z0, z1, z2, D⟩, A, n, c, rfl, hr, b0, b1, b2⟩
set_option maxRecDepth 100000 in
theorem qR_of {r : Reach} {b0 : Nat} {v : Value} {d : DataW H} {p : List MemPlace} (hv : Value.okWide Try.prog W r b0 67 v) (h : DataW.Trod enc Try.prog W 0 (fun _ => true) true 67 v d p) :
    ∃ (q : QP) (A : Option Addr) (n c : Nat), v = .agg (cellsQ q A n c) ∧ RB W A n c q.data := by
  obtain ⟨C, rfl, hsz⟩ := okWide_struct Try.underlying67 hv
  rw [cells_qR] at hsz
  obtain ⟨fuel, hf⟩ := h
  obtain ⟨q, A, n, c, e, hr, _⟩ := qR_cells (cs := C.toList) hf (by simpa using hsz)
  exact ⟨q, A, n, c, by rw [← Array.toArray_toList (xs := C), e], hr⟩
set_option maxRecDepth 100000 in
theorem lqR_of {r : Reach} {b0 : Nat} {v : Value} {d : DataW H} {p : List MemPlace} (hv : Value.okWide Try.prog W r b0 52 v) (h : DataW.Trod enc Try.prog W 0 (fun _ => true) true 52 v d p) :
    ∃ A n c l, v = .slice A n c ∧ LQ W A n c l := by
  obtain ⟨A, n, c, rfl⟩ := okWide_slice Try.underlying52 hv
  obtain ⟨fuel, hf⟩ := h
  rcases open_slice Try.underlying52 hf with ⟨hcs, hx⟩ | ⟨a, len, cap, m, n', D, Pl, hcs, _, hl, hm, hmm, hx, hi⟩
  · simp only [Value.cells, List.cons.injEq, Value.slice.injEq, and_true] at hcs
    obtain ⟨rfl, rfl, rfl⟩ := hcs
    exact ⟨none, 0, 0, [], rfl, LQ.nil W⟩
  · simp only [Value.cells, List.cons.injEq, Value.slice.injEq, and_true] at hcs
    obtain ⟨rfl, rfl, rfl⟩ := hcs
    simp only [if_true] at hmm
    have hel : ∀ i, i < n → ∃ q : QP, ∃ (A' : Option Addr) (m' c' : Nat), (W.cell? (a.add (i * 4)) = some (.int .i64 q.x) ∧ W.cell? ((a.add (i * 4)).add 1) = some (.int .i64 q.y) ∧ W.cell? ((a.add (i * 4)).add 2) = some (.int .i64 q.z) ∧ W.cell? ((a.add (i * 4)).add 3) = some (.slice A' m' c')) ∧ RB W A' m' c' q.data := by
      intro i hin
      obtain ⟨cs', hc, ht⟩ := hi i (by omega)
      rw [cells_qR] at hc
      obtain ⟨_, hcl, hat⟩ := World.cells?_some hc
      obtain ⟨q, A', m', c', rfl, hr, _⟩ := qR_cells ht hcl
      have h0 := hat 0 (by omega)
      have h1 := hat 1 (by omega)
      have h2 := hat 2 (by omega)
      have h3 := hat 3 (by omega)
      exact ⟨q, A', m', c', ⟨by simpa [Addr.add] using h0, by simpa using h1, by simpa using h2, by simpa using h3⟩, hr⟩
    have hch : ∃ f : Nat → QP, ∀ i, i < n → ∃ (A' : Option Addr) (m' c' : Nat), (W.cell? (a.add (i * 4)) = some (.int .i64 (f i).x) ∧ W.cell? ((a.add (i * 4)).add 1) = some (.int .i64 (f i).y) ∧ W.cell? ((a.add (i * 4)).add 2) = some (.int .i64 (f i).z) ∧ W.cell? ((a.add (i * 4)).add 3) = some (.slice A' m' c')) ∧ RB W A' m' c' (f i).data :=
      ⟨fun i => if h : i < n then Classical.choose (hel i h) else zeroQ, fun i hin => by
        have hs := Classical.choose_spec (hel i hin)
        dsimp only; rw [dif_pos hin]; exact hs⟩
    obtain ⟨f, hf'⟩ := hch
    refine ⟨some a, n, c, (List.range n).map f, rfl, by simp, hl, hm, fun hn => ?_⟩
    obtain ⟨_, _, _, ⟨hc0, _⟩, _⟩ := hf' 0 hn
    obtain ⟨b, off, spot⟩ := a
    have hspot : spot = none := by simpa [Addr.add] using World.cell?_spot hc0
    subst hspot
    refine ⟨b, off, rfl, by simpa [Addr.add] using block_lt hc0, fun j q hj => ?_⟩
    have hjn : j < n := by have := (List.getElem?_eq_some_iff.1 hj).1; simpa using this
    rw [List.getElem?_map, List.getElem?_range hjn] at hj
    obtain rfl := Option.some.inj hj
    obtain ⟨A', m', c', ⟨h0, h1, h2, h3⟩, hr⟩ := hf' j hjn
    simp only [Go.WideShapes.add_plain] at h0 h1 h2 h3
    exact ⟨A', m', c', ⟨h0, h1, h2, h3⟩, hr⟩
end
end Go.Proofs.Ytbbdkfadcafpfaa
