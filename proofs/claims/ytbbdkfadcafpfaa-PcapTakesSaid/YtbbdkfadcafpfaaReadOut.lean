/- From an argument's reading to words of this claim: a slice of what goes out. No condition. -/
import Derived.Test.YtbbdkfadcafpfaaReadS
import Derived.Test.YtbbdkfadcafpfaaOuts
set_option linter.unusedVariables false
namespace Go.Proofs.Ytbbdkfadcafpfaa
open Go.ChangeShapes Go.WideShapes Go.ChangeAt Go.RowKit Go.Deep

theorem cells_qO : Try.prog.cellsOf 71 = 2 := by kernel_rfl
section
variable {H : Type} {enc : TypeId × Value → H} {W : World}
set_option maxRecDepth 100000 in
theorem qO_cells {fuel : Nat} {cs : List Value} {x : DataW H × List MemPlace} (h : DataW.trod enc Try.prog W 0 (fun _ => true) true fuel 71 cs = some x) (hl : cs.length = 2) :
    ∃ (q : Int × List Int) (A : Option Addr) (n c : Nat), cs = (cellsO q A n c).toList ∧ RB W A n c q.2 := by
  have ci : Try.prog.cellsOf 3 = 1 := by kernel_rfl
  have hC : cs = (cs.toArray).toList := rfl
  rw [hC] at h
  have hsz : cs.toArray.size = 2 := by simpa using hl
  obtain ⟨z0, e0, b0⟩ := field_int Try.underlying71 (C := cs.toArray) h 0 _ rfl ci (by show _ ≤ cs.toArray.size; rw [hsz]; decide) Try.underlying3
  obtain ⟨A, n, c, D, e3, hr⟩ := field_bytes Try.underlying71 (C := cs.toArray) h 1 _ rfl (by show _ ≤ cs.toArray.size; rw [hsz]; decide) rfl
  match cs, hl with
  | [c0, c1], _ =>
    cases e0; cases e3
    exact ⟨(z0, D), A, n, c, rfl, hr⟩
set_option maxRecDepth 100000 in
theorem lpO_of {r : Reach} {b0 : Nat} {v : Value} {d : DataW H} {p : List MemPlace} (hv : Value.okWide Try.prog W r b0 69 v) (h : DataW.Trod enc Try.prog W 0 (fun _ => true) true 69 v d p) :
    ∃ A n c l, v = .slice A n c ∧ LP W A n c l := by
  obtain ⟨A, n, c, rfl⟩ := okWide_slice Try.underlying69 hv
  obtain ⟨fuel, hf⟩ := h
  rcases open_slice Try.underlying69 hf with ⟨hcs, hx⟩ | ⟨a, len, cap, m, n', D, Pl, hcs, _, hl, hm, hmm, hx, hi⟩
  · simp only [Value.cells, List.cons.injEq, Value.slice.injEq, and_true] at hcs
    obtain ⟨rfl, rfl, rfl⟩ := hcs
    exact ⟨none, 0, 0, [], rfl, LP.nil W⟩
  · simp only [Value.cells, List.cons.injEq, Value.slice.injEq, and_true] at hcs
    obtain ⟨rfl, rfl, rfl⟩ := hcs
    simp only [if_true] at hmm
    have hel : ∀ i, i < n → ∃ q : Int × List Int, ∃ (A' : Option Addr) (m' c' : Nat), (W.cell? (a.add (i * 2)) = some (.int .i64 q.1) ∧ W.cell? ((a.add (i * 2)).add 1) = some (.slice A' m' c')) ∧ RB W A' m' c' q.2 := by
      intro i hin
      obtain ⟨cs', hc, ht⟩ := hi i (by omega)
      rw [cells_qO] at hc
      obtain ⟨_, hcl, hat⟩ := World.cells?_some hc
      obtain ⟨q, A', m', c', rfl, hr⟩ := qO_cells ht hcl
      have h0 := hat 0 (by omega)
      have h1 := hat 1 (by omega)
      exact ⟨q, A', m', c', ⟨by simpa [Addr.add] using h0, by simpa using h1⟩, hr⟩
    have hch : ∃ f : Nat → Int × List Int, ∀ i, i < n → ∃ (A' : Option Addr) (m' c' : Nat), (W.cell? (a.add (i * 2)) = some (.int .i64 (f i).1) ∧ W.cell? ((a.add (i * 2)).add 1) = some (.slice A' m' c')) ∧ RB W A' m' c' (f i).2 :=
      ⟨fun i => if h : i < n then Classical.choose (hel i h) else (0, []), fun i hin => by
        have hs := Classical.choose_spec (hel i hin)
        dsimp only; rw [dif_pos hin]; exact hs⟩
    obtain ⟨f, hf'⟩ := hch
    refine ⟨some a, n, c, (List.range n).map f, rfl, by simp, hl, hm, fun hn => ?_⟩
    obtain ⟨_, _, _, ⟨hc0, _⟩, _⟩ := hf' 0 hn
    obtain ⟨b, off, spot⟩ := a
    have hspot : spot = none := by simpa [Addr.add] using World.cell?_spot hc0
    subst hspot
    refine ⟨b, off, rfl, by simpa [Addr.add] using block_lt hc0, fun j q hj => ?_⟩
    have hjn : j < n := by have := (List.getElem?_eq_some_iff.1 hj).1; simpa using this
    rw [List.getElem?_map, List.getElem?_range hjn] at hj
    obtain rfl := Option.some.inj hj
    obtain ⟨A', m', c', ⟨h0, h1⟩, hr⟩ := hf' j hjn
    simp only [Go.WideShapes.add_plain] at h0 h1
    exact ⟨A', m', c', ⟨h0, h1⟩, hr⟩
end
end Go.Proofs.Ytbbdkfadcafpfaa
