/- A slice of the call's own, of whatever elements: append of one element. -/
import Derived.Test.YtipigcpenmcaoaaAppend
import Derived.Test.YtipigcpenmcaoaaMem
set_option linter.unusedVariables false
namespace Go.Proofs.Ytipigcpenmcaoaa
open Go.RowKit

/-- A slice of the call's own, in a block from base on: its cells are xs, 'size' to an element. -/
structure OG (w : World) (base : Nat) (e : TypeId) (size : Nat) (A : Option Addr) (n c : Nat) (xs : List Value) : Prop where
  own : w.ownsRow base e size (.slice A n c) n xs
section
variable {w w' : World} {base size : Nat} {e : TypeId} {A : Option Addr} {n c : Nat} {xs : List Value}
theorem OG.nil (w : World) (base : Nat) (e : TypeId) (size : Nat) : OG w base e size none 0 0 [] := ⟨⟨by simp, .inl ⟨rfl, rfl⟩⟩⟩
theorem OG.len (h : OG w base e size A n c xs) : xs.length = n * size := h.own.1
theorem OG.blk (h : OG w base e size A n c xs) {k : Nat} (hk : ownBlk A = some k) : base ≤ k ∧ k < w.heap.size := by
  rcases h.own.2 with ⟨e, _⟩ | ⟨g, cap, cur, e, hg, hh, _⟩
  · cases e; cases hk
  · cases e; cases hk; exact ⟨hg, (Array.getElem?_eq_some_iff.1 hh).1⟩
theorem OG.mono {base' : Nat} (h : OG w base e size A n c xs) (hb : base' ≤ base) : OG w base' e size A n c xs := by
  refine ⟨h.own.1, ?_⟩
  rcases h.own.2 with h | ⟨g, cap, cur, e, hg, r⟩
  · exact .inl h
  · exact .inr ⟨g, cap, cur, e, by omega, r⟩
theorem OG.below (h : OG w base e size A n c xs) (hb : Below w.heap.size w w') : OG w' base e size A n c xs := by
  refine ⟨h.own.1, ?_⟩
  rcases h.own.2 with h | ⟨g, cap, cur, e, hg, hh, r⟩
  · exact .inl h
  · exact .inr ⟨g, cap, cur, e, hg, (hb.block g (Array.getElem?_eq_some_iff.1 hh).1).trans hh, r⟩
theorem OG.alloc (h : OG w base e size A n c xs) (o : Obj) : OG (w.alloc o) base e size A n c xs := h.below ((Below.refl _ w).alloc (Nat.le_refl _) o)
theorem OG.cells (h : OG w base e size A n c xs) (hn : 0 < n) (hs : 0 < size) : ∃ g, A = some ⟨g, 0, none⟩ ∧ base ≤ g ∧ g < w.heap.size ∧ n ≤ c ∧ c ≤ maxLen ∧ ∀ j, j < n * size → w.cell? ⟨g, j, none⟩ = xs[j]? := by
  have hl := h.len
  rcases h.own.2 with ⟨e, hn0⟩ | ⟨g, cap, cur, e, hg, hh, hnc, hcm, hsz, htk⟩
  · cases e; omega
  · cases e
    refine ⟨g, rfl, hg, (Array.getElem?_eq_some_iff.1 hh).1, hnc, hcm, fun j hj => ?_⟩
    have hcell : w.cell? ⟨g, j, none⟩ = cur[j]? := by simp [World.cell?, hh]
    rw [hcell, ← htk, List.getElem?_take, if_pos hj, Array.getElem?_toList]
theorem OG.slot (h : OG w base e size A n c xs) : n ≤ c := by
  rcases h.own.2 with ⟨e, hn0⟩ | ⟨g, cap, cur, e, hg, hh, hnc, r⟩
  · cases e; omega
  · cases e; exact hnc
end
/-- append of what lies in a literal. -/
theorem wpList_append_og {ops : Array Oper} {rest : List Oper} {o : Oper} {a : Act} {Q : Exit → Act → World → Prop} (w : World) (hgd : o.guard = none) (t e : TypeId) (s x : Operand)
    (hop : o.op = .call { callee := .builtin .append, args := #[s, x], argTypes := #[t, t] }) (z : Value) (size bytes : Nat) (ht : Try.prog.underlying t = some (.slice e)) (hi : (Try.prog.info? e).map (fun i => (i.zero, i.size, i.bytes)) = some (some z, size, bytes)) (hzs : z.cells.size = size) (hsz : 0 < size)
    {base : Nat} {A : Option Addr} {n c : Nat} {xs : List Value} (hv : a.eval s = .slice A n c) {g m c' : Nat} (hv' : a.eval x = .slice (some ⟨g, 0, none⟩) m c') (ho : OG w base e size A n c xs) (news : List Value) (hl : news.length = m * size)
    (hnews : ∀ j u, news[j]? = some u → w.cell? ⟨g, j, none⟩ = some u) (h1 : ∀ u ∈ news, u.oneCell' = true) (hs : (n + m) * bytes ≤ 140737488355328) (hs2 : n + m ≤ 140737488355328) (hb : base ≤ w.heap.size)
    (h : ∀ A2 c2 w2, OG w2 base e size A2 (n + m) c2 (xs ++ news) → w.grownBy w2 (ownBlk A) → wpList Try.prog ops Q rest (a.put o.dst (.slice A2 (n + m) c2)) w2) :
    wpList Try.prog ops Q (o :: rest) a w := by
  refine wpList_plain hgd fun K hK => ?_
  obtain ⟨i0, hi, hz0, hz1, hz2⟩ := info_parts hi
  obtain ⟨v', w', h1, h2, h3, _, h5⟩ := run_append_own_at (P := Try.prog) w base t o.type e i0 z size bytes ht hi hz0 hz1 hz2 hzs hsz _ n xs ho.own ⟨g, 0, none⟩ m c' news hl (fun j u hu => by rw [Go.WideShapes.add_plain, Nat.zero_add]; exact hnews j u hu) h1 (by unfold maxLen; omega) hs hb
  have hv2 : ∃ A2 c2, v' = .slice A2 (n + m) c2 := by
    rcases h2.2 with ⟨e, e2⟩ | ⟨g, cap, _, e, _⟩
    · exact ⟨none, 0, by rw [e, e2]⟩
    · exact ⟨_, _, e⟩
  obtain ⟨A2, c2, rfl⟩ := hv2
  rw [ownBlk_eq] at h3
  unfold Oper.wp execOp
  simp only [hop, resolve, invoke, builtin, Sem.run_bind, Sem.run_pure, Result.andThen_ok, List.map_toArray, List.map_cons, List.map_nil, hv, hv', h1]
  exact hK _ _ (h A2 c2 w' ⟨h2⟩ h3)
theorem info_intz : (Try.prog.info? 3).map (fun i => (i.zero, i.size, i.bytes)) = some (some (.int .i64 0), 1, 8) := by kernel_rfl
end Go.Proofs.Ytipigcpenmcaoaa
