/- Lists of structs, in a round of a range over a function: append of one; what of them a round keeps. -/
import Derived.Test.YtipigcpenmcaoaaQuads
import Derived.Test.YtipigcpenmcaoaaTameIn
import Derived.TacticsIn
set_option linter.unusedVariables false
namespace Go.Proofs.Ytipigcpenmcaoaa
open Go Go.RowKit

theorem wp_append_lo {o : Oper} {a : Act} {Q : Exit → Act → World → Prop} {K : Act → World → Prop} (w : World) (t T : TypeId) (s x : Operand)
    (hop : o.op = .call { callee := .builtin .append, args := #[s, x], argTypes := #[t, t] }) (z : Value) (ht : Try.prog.underlying t = some (.slice T)) (hi : (Try.prog.info? T).map (fun i => (i.zero, i.size, i.bytes)) = some (some z, 4, 48)) (hzs : z.cells.size = 4)
    {base : Nat} {A : Option Addr} {n c : Nat} {l : List QP} (hv : a.eval s = .slice A n c) {g : Nat} (hv' : a.eval x = .slice (some ⟨g, 0, none⟩) 1 1) (ho : LO w base T A n c l) {q : QP} {A' : Option Addr} {m c' : Nat} (hk : Blk w g (cellsQ q A' m c') T) (hr : RB w A' m c' q.data)
    (hne : 0 < m → ∀ k, ownBlk A' = some k → ownBlk A ≠ some k) (hn : n ≤ 1000000) (hb : base ≤ w.heap.size)
    (h : ∀ A2 c2 w2, LO w2 base T A2 (n + 1) c2 (l ++ [q]) → w.grownBy w2 (ownBlk A) → (ownBlk A2 = ownBlk A ∨ ownBlk A2 = some w.heap.size) → K (a.put o.dst (.slice A2 (n + 1) c2)) w2) :
    o.wp Try.prog a w K Q := by
  obtain ⟨ps, hp, h2, h3⟩ := ho
  obtain ⟨i0, hi, hz0, hz1, hz2⟩ := info_parts hi
  obtain ⟨v', w', e1, e2, e3, _, e5⟩ := run_append_own_at (P := Try.prog) w base t o.type T i0 z 4 48 ht hi hz0 hz1 hz2 hzs (by decide) _ n (flatQ ps) h2.own ⟨g, 0, none⟩ 1 1 (flatQ [(q, A', m, c')]) rfl (fun j u hu => by
    rw [Go.WideShapes.add_plain, Nat.zero_add]
    have hj : j < 4 := (List.getElem?_eq_some_iff.1 hu).1
    have hc : j = 0 ∨ j = 1 ∨ j = 2 ∨ j = 3 := by omega
    rcases hc with rfl | rfl | rfl | rfl <;> (cases hu; exact hk.cell _ _ rfl)) (fun u hu => by
      simp [flatQ] at hu
      rcases hu with rfl | rfl | rfl | rfl <;> rfl) (by unfold maxLen; omega) (by omega) hb
  have hv2 : ∃ A2 c2, v' = .slice A2 (n + 1) c2 := by
    rcases e2.2 with ⟨e, e2⟩ | ⟨g, cap, _, e, _⟩
    · exact absurd e2 (by omega)
    · exact ⟨_, _, e⟩
  obtain ⟨A2, c2, rfl⟩ := hv2
  rw [ownBlk_eq] at e3 e5
  rw [ownBlk_eq] at e5
  unfold Oper.wp execOp
  simp only [hop, resolve, invoke, builtin, Sem.run_bind, Sem.run_pure, Result.andThen_ok, List.map_toArray, List.map_cons, List.map_nil, hv, hv', e1]
  have hfar : ∀ (A0 : Option Addr) (m0 c0 : Nat) (d0 : List Int), RB w A0 m0 c0 d0 → (0 < m0 → ∀ k, ownBlk A0 = some k → ownBlk A ≠ some k) → RB w' A0 m0 c0 d0 ∧ (0 < m0 → ∀ k, ownBlk A0 = some k → ownBlk A2 ≠ some k) := fun A0 m0 c0 d0 hr0 hn0 =>
    ⟨hr0.grown hn0 e3, fun hm k hk => by
      rcases e5 with e | e
      · rw [e]; exact hn0 hm k hk
      · rw [e]
        obtain ⟨b, off, rfl, hlt, _⟩ := hr0.mem hm
        have : b = k := by simpa [ownBlk] using hk
        intro e'
        have := Option.some.inj e'
        omega⟩
  exact (h A2 c2 w' ⟨ps ++ [(q, A', m, c')], by simp [hp], ⟨by rw [flatQ_append]; exact e2⟩, fun p hp => by
    rcases List.mem_append.1 hp with hp | hp
    · exact hfar _ _ _ _ (h3 p hp).1 (h3 p hp).2
    · simp at hp; subst hp; exact hfar _ _ _ _ hr hne⟩ e3 e5)
theorem wpListIn_append_lo {l9 : Nat} {ops : Array Oper} {rest : List Oper} {o : Oper} {a : Act} {Q : Exit → Act → World → Prop} (w : World) (hgd : o.guard = none) (t T : TypeId) (s x : Operand)
    (hop : o.op = .call { callee := .builtin .append, args := #[s, x], argTypes := #[t, t] }) (z : Value) (ht : Try.prog.underlying t = some (.slice T)) (hi : (Try.prog.info? T).map (fun i => (i.zero, i.size, i.bytes)) = some (some z, 4, 48)) (hzs : z.cells.size = 4)
    {base : Nat} {A : Option Addr} {n c : Nat} {l : List QP} (hv : a.eval s = .slice A n c) {g : Nat} (hv' : a.eval x = .slice (some ⟨g, 0, none⟩) 1 1) (ho : LO w base T A n c l) {q : QP} {A' : Option Addr} {m c' : Nat} (hk : Blk w g (cellsQ q A' m c') T) (hr : RB w A' m c' q.data)
    (hne : 0 < m → ∀ k, ownBlk A' = some k → ownBlk A ≠ some k) (hn : n ≤ 1000000) (hb : base ≤ w.heap.size)
    (h : ∀ A2 c2 w2, LO w2 base T A2 (n + 1) c2 (l ++ [q]) → w.grownBy w2 (ownBlk A) → (ownBlk A2 = ownBlk A ∨ ownBlk A2 = some w.heap.size) → wpListIn (Fence.wide.inRound l9) 0 Try.prog ops Q rest (a.put o.dst (.slice A2 (n + 1) c2)) w2) :
    wpListIn (Fence.wide.inRound l9) 0 Try.prog ops Q (o :: rest) a w :=
  wpListIn_plain hgd fun K hK => oper_in l9 (by rw [hop]; intro c hc; cases hc) (wp_append_lo w t T s x hop z ht hi hzs hv hv' ho hk hr hne hn hb fun A2 c2 w2 h1 h2 h3 => hK _ _ (h A2 c2 w2 h1 h2 h3))
theorem LO.gr {N base : Nat} {A B : World} {T : TypeId} {a : Option Addr} {n c : Nat} {l : List QP} (hg : Gr N A B) (h : LO A base T a n c l) : LO B base T a n c l := by
  obtain ⟨ps, h1, h2, h3⟩ := h
  exact ⟨ps, h1, ⟨hg.own h2.own⟩, fun p hp => ⟨hg.rb (h3 p hp).1, (h3 p hp).2⟩⟩
theorem OB.gr {N base : Nat} {A B : World} {a : Option Addr} {n c : Nat} {bs : List Int} (hg : Gr N A B) (h : OB A base a n c bs) : OB B base a n c bs := ⟨hg.own h.own, h.byt⟩
theorem Blk.gr {N B' : Nat} {A B : World} {P : Array Value} {T : TypeId} (hg : Gr N A B) (h : Blk A B' P T) : Blk B B' P T := ⟨hg.keep B' _ h.at_ (.inr rfl)⟩
/-- Bytes of a call's own do not lie where structs of a call's own lie. -/
theorem OB.apart {w : World} {b1 b2 : Nat} {T : TypeId} {A A' : Option Addr} {n c n' c' : Nat} {bs : List Int} {l : List QP} (h : OB w b1 A n c bs) (h' : LO w b2 T A' n' c' l) (hT : 5 ≠ T) (k : Nat) (hk : ownBlk A = some k) : ownBlk A' ≠ some k := fun hk' => by
  obtain ⟨ps, _, h2, _⟩ := h'
  rcases h.own.2 with ⟨e, _⟩ | ⟨g, cap, cur, e, hg, hh, _⟩
  · cases e; cases hk
  · cases e
    cases hk
    rcases h2.own.2 with ⟨e, _⟩ | ⟨g', cap', cur', e, hg', hh', _⟩
    · cases e; cases hk'
    · cases e
      cases hk'
      rw [hh] at hh'
      cases hh'
      exact hT rfl
end Go.Proofs.Ytipigcpenmcaoaa
