/- From an argument's reading to words of this claim: a remote endpoint by value, a slice of them. No condition. -/
import Derived.Test.YtmoiodkehchjiaaRead
import Derived.Test.YtmoiodkehchjiaaFilter
set_option linter.unusedVariables false
namespace Go.Proofs.Ytmoiodkehchjiaa
open Go.ChangeShapes Go.WideShapes Go.ChangeAt Go.RowKit Go.Deep Go.Joins

theorem cells_remote : Try.prog.cellsOf 34 = 2 := by kernel_rfl
section
variable {H : Type} {enc : TypeId × Value → H} {W : World}
theorem remote_of {r : Reach} {b0 : Nat} {v : Value} {d : DataW H} {p : List MemPlace} (hv : Value.okWide Try.prog W r b0 34 v) (h : DataW.Trod enc Try.prog W 0 (fun _ => true) true 34 v d p) :
    ∃ x y, v = .agg #[.int .i64 x, .int .i64 y] := by
  obtain ⟨v0, v1, y0, y1, n, rfl, _, _, h0, h1⟩ := open_agg2 Try.underlying34 (by kernel_rfl) cells_remote hv h
  obtain ⟨x, e0, _, _⟩ := DataW.trod_int Try.underlying3 h0
  obtain ⟨y, e1, _, _⟩ := DataW.trod_int Try.underlying3 h1
  cases e0; cases e1
  exact ⟨x, y, rfl⟩
theorem remote_cells {fuel : Nat} {cs : List Value} {x : DataW H × List MemPlace} (h : DataW.trod enc Try.prog W 0 (fun _ => true) true fuel 34 cs = some x) (hl : cs.length = 2) : ∃ a b, cs = [.int .i64 a, .int .i64 b] := by
  match cs, hl with
  | [u0, u1], _ =>
    obtain ⟨y0, y1, n, _, _, h0, h1⟩ := trod_struct2 Try.underlying34 h
    obtain ⟨a, e0, _, _⟩ := DataW.trod_int Try.underlying3 h0
    obtain ⟨b, e1, _, _⟩ := DataW.trod_int Try.underlying3 h1
    have c1 : Try.prog.cellsOf 3 = 1 := by kernel_rfl
    simp only [c1, List.drop_zero, List.take_succ_cons, List.take_zero, List.drop_succ_cons] at e0 e1
    cases e0; cases e1
    exact ⟨a, b, rfl⟩
theorem rs_of {r : Reach} {b0 : Nat} {v : Value} {d : DataW H} {p : List MemPlace} (hv : Value.okWide Try.prog W r b0 35 v) (h : DataW.Trod enc Try.prog W 0 (fun _ => true) true 35 v d p) :
    ∃ A n c l, v = .slice A n c ∧ RS W A n c l := by
  obtain ⟨A, n, c, rfl⟩ := okWide_slice Try.underlying35 hv
  obtain ⟨fuel, hf⟩ := h
  rcases open_slice Try.underlying35 hf with ⟨hcs, hx⟩ | ⟨a, len, cap, m, n', D, Pl, hcs, _, hl, hm, hmm, hx, hi⟩
  · simp only [Value.cells, List.cons.injEq, Value.slice.injEq, and_true] at hcs
    obtain ⟨rfl, rfl, rfl⟩ := hcs
    exact ⟨none, 0, 0, [], rfl, rfl, fun h => absurd h (by omega)⟩
  · simp only [Value.cells, List.cons.injEq, Value.slice.injEq, and_true] at hcs
    obtain ⟨rfl, rfl, rfl⟩ := hcs
    simp only [if_true] at hmm
    have hel : ∀ i, i < n → ∃ q : Int × Int, W.cell? (a.add (i * 2)) = some (.int .i64 q.1) ∧ W.cell? ((a.add (i * 2)).add 1) = some (.int .i64 q.2) := by
      intro i hin
      obtain ⟨cs', hc, ht⟩ := hi i (by omega)
      rw [cells_remote] at hc
      obtain ⟨_, hcl, hat⟩ := World.cells?_some hc
      obtain ⟨x, y, rfl⟩ := remote_cells ht hcl
      have h0 := hat 0 (by omega)
      have h1 := hat 1 (by omega)
      exact ⟨(x, y), by simpa [Addr.add] using h0, by simpa using h1⟩
    have hch : ∃ f : Nat → Int × Int, ∀ i, i < n → W.cell? (a.add (i * 2)) = some (.int .i64 (f i).1) ∧ W.cell? ((a.add (i * 2)).add 1) = some (.int .i64 (f i).2) :=
      ⟨fun i => if h : i < n then Classical.choose (hel i h) else (0, 0), fun i hin => by
        have hs := Classical.choose_spec (hel i hin)
        dsimp only; rw [dif_pos hin]; exact hs⟩
    obtain ⟨f, hf'⟩ := hch
    refine ⟨some a, n, c, (List.range n).map f, rfl, by simp, fun hn => ?_⟩
    have hc0 := (hf' 0 hn).1
    obtain ⟨b, off, spot⟩ := a
    have hspot : spot = none := by simpa [Addr.add] using World.cell?_spot hc0
    subst hspot
    refine ⟨b, off, rfl, by simpa [Addr.add] using block_lt hc0, fun j hj => ?_⟩
    obtain ⟨h1, h2⟩ := hf' j hj
    rw [Go.WideShapes.add_plain] at h1 h2
    rw [Go.WideShapes.add_plain] at h2
    rw [List.getElem?_map, List.getElem?_range hj]
    exact ⟨h1, h2⟩
end
end Go.Proofs.Ytmoiodkehchjiaa
