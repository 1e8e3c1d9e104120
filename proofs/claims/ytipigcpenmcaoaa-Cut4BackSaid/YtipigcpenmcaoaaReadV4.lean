/- From an argument's reading to words of this claim: a packet of IPv4 by value, a slice of such packets. No condition. -/
import Derived.Test.YtipigcpenmcaoaaReadS
import Derived.Test.YtipigcpenmcaoaaCut4P
set_option linter.unusedVariables false
namespace Go.Proofs.Ytipigcpenmcaoaa
open Go.ChangeShapes Go.WideShapes Go.ChangeAt Go.RowKit Go.Deep

theorem cells_v4 : Try.prog.cellsOf 24 = 11 := by kernel_rfl
theorem array11 {C : Array Value} (h : C.size = 11) : ∃ c0 c1 c2 c3 c4 c5 c6 c7 c8 c9 c10, C = #[c0, c1, c2, c3, c4, c5, c6, c7, c8, c9, c10] := by
  obtain ⟨l⟩ := C
  match l, h with
  | [c0, c1, c2, c3, c4, c5, c6, c7, c8, c9, c10], _ => exact ⟨c0, c1, c2, c3, c4, c5, c6, c7, c8, c9, c10, rfl⟩
/-- Each number is one that an int can be. -/
structure V4P.Fit (p : V4P) : Prop where
  tos : -9223372036854775808 ≤ p.tos ∧ p.tos ≤ 9223372036854775807
  id : -9223372036854775808 ≤ p.id ∧ p.id ≤ 9223372036854775807
  off : -9223372036854775808 ≤ p.off ∧ p.off ≤ 9223372036854775807
  ttl : -9223372036854775808 ≤ p.ttl ∧ p.ttl ≤ 9223372036854775807
  pr : -9223372036854775808 ≤ p.pr ∧ p.pr ≤ 9223372036854775807
  src : -9223372036854775808 ≤ p.src ∧ p.src ≤ 9223372036854775807
  dst : -9223372036854775808 ≤ p.dst ∧ p.dst ≤ 9223372036854775807
section
variable {H : Type} {enc : TypeId × Value → H} {W : World}
set_option maxRecDepth 100000 in
theorem v4_cells {fuel : Nat} {C : Array Value} {x : DataW H × List MemPlace} (hf : DataW.trod enc Try.prog W 0 (fun _ => true) true fuel 24 C.toList = some x) (hsz : C.size = 11) :
    ∃ (p : V4P) (Ao : Option Addr) (no co : Nat) (A : Option Addr) (n c : Nat), C = cells4 p Ao no co A n c ∧ RB W Ao no co p.opts ∧ RB W A n c p.data ∧ p.Fit := by
  have ci : Try.prog.cellsOf 3 = 1 := by kernel_rfl
  have cb : Try.prog.cellsOf 4 = 1 := by kernel_rfl
  obtain ⟨z0, e0, b0⟩ := field_int Try.underlying24 (C := C) hf 0 _ rfl ci (by show _ ≤ C.size; rw [hsz]; decide) Try.underlying3
  obtain ⟨z1, e1, b1⟩ := field_int Try.underlying24 (C := C) hf 1 _ rfl ci (by show _ ≤ C.size; rw [hsz]; decide) Try.underlying3
  obtain ⟨z2, e2, b2⟩ := field_int Try.underlying24 (C := C) hf 2 _ rfl ci (by show _ ≤ C.size; rw [hsz]; decide) Try.underlying3
  obtain ⟨z3, e3, b3⟩ := field_int Try.underlying24 (C := C) hf 3 _ rfl ci (by show _ ≤ C.size; rw [hsz]; decide) Try.underlying3
  obtain ⟨z4, e4, b4⟩ := field_int Try.underlying24 (C := C) hf 4 _ rfl ci (by show _ ≤ C.size; rw [hsz]; decide) Try.underlying3
  obtain ⟨z5, e5, b5⟩ := field_int Try.underlying24 (C := C) hf 5 _ rfl ci (by show _ ≤ C.size; rw [hsz]; decide) Try.underlying3
  obtain ⟨z6, e6, b6⟩ := field_int Try.underlying24 (C := C) hf 6 _ rfl ci (by show _ ≤ C.size; rw [hsz]; decide) Try.underlying3
  obtain ⟨z7, e7⟩ := field_bool Try.underlying24 (C := C) hf 7 _ rfl cb (by show _ ≤ C.size; rw [hsz]; decide) Try.underlying4
  obtain ⟨z8, e8⟩ := field_bool Try.underlying24 (C := C) hf 8 _ rfl cb (by show _ ≤ C.size; rw [hsz]; decide) Try.underlying4
  obtain ⟨Ao, no, co, O, e9, hr9⟩ := field_bytes Try.underlying24 (C := C) hf 9 _ rfl (by show _ ≤ C.size; rw [hsz]; decide) rfl
  obtain ⟨A, n, c, D, e10, hr10⟩ := field_bytes Try.underlying24 (C := C) hf 10 _ rfl (by show _ ≤ C.size; rw [hsz]; decide) rfl
  obtain ⟨c0, c1, c2, c3, c4, c5, c6, c7, c8, c9, c10, rfl⟩ := array11 hsz
  cases e0; cases e1; cases e2; cases e3; cases e4; cases e5; cases e6; cases e7; cases e8; cases e9; cases e10
  exact ⟨⟨z0, z1, z2, z3, z4, z5, z6, z7, z8, O, D⟩, Ao, no, co, A, n, c, rfl, hr9, hr10, ⟨b0, b1, b2, b3, b4, b5, b6⟩⟩
set_option maxRecDepth 100000 in
theorem v4_of {r : Reach} {b0 : Nat} {v : Value} {d : DataW H} {p : List MemPlace} (hv : Value.okWide Try.prog W r b0 24 v) (h : DataW.Trod enc Try.prog W 0 (fun _ => true) true 24 v d p) :
    ∃ (m : V4P) (Ao : Option Addr) (no co : Nat) (A : Option Addr) (n c : Nat), v = .agg (cells4 m Ao no co A n c) ∧ RB W Ao no co m.opts ∧ RB W A n c m.data ∧ m.Fit := by
  obtain ⟨C, rfl, hsz⟩ := okWide_struct Try.underlying24 hv
  rw [cells_v4] at hsz
  obtain ⟨fuel, hf⟩ := h
  obtain ⟨m, Ao, no, co, A, n, c, e, h1, h2, h3⟩ := v4_cells (C := C) hf hsz
  exact ⟨m, Ao, no, co, A, n, c, by rw [e], h1, h2, h3⟩
set_option maxRecDepth 100000 in
theorem v4s_of {r : Reach} {b0 : Nat} {v : Value} {d : DataW H} {p : List MemPlace} (hv : Value.okWide Try.prog W r b0 26 v) (h : DataW.Trod enc Try.prog W 0 (fun _ => true) true 26 v d p) :
    ∃ A n c qs, v = .slice A n c ∧ LR kV4 W A n c qs := by
  obtain ⟨A, n, c, rfl⟩ := okWide_slice Try.underlying26 hv
  obtain ⟨fuel, hf⟩ := h
  rcases open_slice Try.underlying26 hf with ⟨hcs, hx⟩ | ⟨a, len, cap, m, n', D, Pl, hcs, _, hl, hm, hmm, hx, hi⟩
  · simp only [Value.cells, List.cons.injEq, Value.slice.injEq, and_true] at hcs
    obtain ⟨rfl, rfl, rfl⟩ := hcs
    exact ⟨none, 0, 0, [], rfl, LR.nil W⟩
  · simp only [Value.cells, List.cons.injEq, Value.slice.injEq, and_true] at hcs
    obtain ⟨rfl, rfl, rfl⟩ := hcs
    simp only [if_true] at hmm
    have hel : ∀ i, i < n → ∃ q : B4, (∀ j v, q.cells.toList[j]? = some v → W.cell? ((a.add (i * 11)).add j) = some v) ∧ RB W q.ao q.no q.co q.p.opts ∧ RB W q.a q.n q.c q.p.data := by
      intro i hin
      obtain ⟨cs', hc, ht⟩ := hi i (by omega)
      rw [cells_v4] at hc
      obtain ⟨_, hcl, hat⟩ := World.cells?_some hc
      obtain ⟨q, Ao, no, co, A', m', c', e, h1, h2, _⟩ := v4_cells (C := cs'.toArray) ht (by simpa using hcl)
      refine ⟨⟨q, Ao, no, co, A', m', c'⟩, fun j v hj => ?_, h1, h2⟩
      have hj2 : cs'[j]? = some v := by
        have : cs' = (cells4 q Ao no co A' m' c').toList := by rw [← e]
        rw [this]; exact hj
      have hlt : j < 11 := by have := (List.getElem?_eq_some_iff.1 hj2).1; omega
      rw [hat j hlt]; exact hj2
    have hch : ∃ f : Nat → B4, ∀ i, i < n → (∀ j v, (f i).cells.toList[j]? = some v → W.cell? ((a.add (i * 11)).add j) = some v) ∧ RB W (f i).ao (f i).no (f i).co (f i).p.opts ∧ RB W (f i).a (f i).n (f i).c (f i).p.data :=
      ⟨fun i => if h : i < n then Classical.choose (hel i h) else ⟨zero4, none, 0, 0, none, 0, 0⟩, fun i hin => by
        have hs := Classical.choose_spec (hel i hin)
        dsimp only; rw [dif_pos hin]; exact hs⟩
    obtain ⟨f, hf'⟩ := hch
    have hlen : ((List.range n).map f).length = n := (List.length_map f).trans List.length_range
    refine ⟨some a, n, c, (List.range n).map f, rfl, hlen, hl, hm, fun _ _ => trivial, fun hn => ?_⟩
    obtain ⟨hc0, _⟩ := hf' 0 hn
    have hc00 := hc0 0 (.int .i64 (f 0).p.tos) rfl
    obtain ⟨b, off, spot⟩ := a
    have hspot : spot = none := by simpa [Addr.add] using World.cell?_spot hc00
    subst hspot
    refine ⟨b, off, rfl, by simpa [Addr.add] using block_lt hc00, fun j q hj => ?_⟩
    have hjn : j < n := Nat.lt_of_lt_of_eq (List.getElem?_eq_some_iff.1 hj).1 hlen
    have hj2 : ((List.range n).map f)[j]? = some (f j) := by rw [List.getElem?_map, List.getElem?_range hjn]; rfl
    obtain rfl : f j = q := Option.some.inj (hj2.symm.trans hj)
    obtain ⟨h0, h1, h2⟩ := hf' j hjn
    refine ⟨fun i v hv => ?_, fun s hs => ?_⟩
    · have := h0 i v hv
      simp only [Go.WideShapes.add_plain] at this
      exact this
    · rcases List.mem_cons.1 hs with rfl | hs
      · exact h1
      · rw [List.mem_singleton.1 hs]; exact h2
end
end Go.Proofs.Ytipigcpenmcaoaa
