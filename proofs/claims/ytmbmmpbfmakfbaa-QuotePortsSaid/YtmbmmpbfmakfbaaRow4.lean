/- A drawn region walked by hand, operation by operation (for whole structs of many cells beside stores and calls). -/
import Derived.Test.YtmbmmpbfmakfbaaTame
import Derived.Deep.MidRow
import Derived.Laws.CopyOwn
import Derived.Test.YtmbmmpbfmakfbaaAppend
import Derived.Test.YtmbmmpbfmakfbaaBase
import Derived.Test.YtmbmmpbfmakfbaaTcpM
import Derived.OwnWalkIn
import Derived.OrdersIn
import Derived.TacticsIn
import Derived.Great.BuildSlice
import Derived.Test.YtmbmmpbfmakfbaaV4C
import Derived.BigRegion
set_option linter.unusedVariables false
namespace Go.Proofs.Ytmbmmpbfmakfbaa
open Go Go.RowKit

section
variable {P : Program} {md : Region.Mode} {ops : Array Oper} {Q : Exit → Act → World → Prop} {S : World → Prop}
theorem ops_at {i : Nat} {oi : Oper} {l r : List Oper} (h : ops = ⟨l⟩) (hi : l.drop i = oi :: r) : ops[i]? = some oi := by
  subst h
  have := congrArg (·[0]?) hi
  simpa using this
theorem take_h {i : Nat} {oi : Oper} {l r : List Oper} {v : Value} {fuel : Nat} {listed : Array Bool} {a : Act} {w : World} (h0 : ops = ⟨l⟩) (hi : l.drop i = oi :: r)
    (hs : Region.noSelect ops = true) (hf : Region.free md ops listed i = true) (hr : (Region.ready md ops listed).contains i = true)
    (hQ : ∀ c a w, Q (.panic c) (a.put oi.dst v) w → Q (.panic c) a w) (hy : YieldsIf P ops S oi v a) (hS : S w)
    (h : wpAnyH P md ops Q S fuel (listed.setIfInBounds i true) (a.put oi.dst v) w) : wpAnyH P md ops Q S (fuel + 1) listed a w :=
  wpAnyH_take (ops_at h0 hi) hs hf hr hQ hy hS h
theorem step_h {i : Nat} {o : Oper} {l r : List Oper} {fuel : Nat} {listed : Array Bool} {a : Act} {w : World} (h0 : ops = ⟨l⟩) (hi : l.drop i = o :: r) (hr : Region.ready md ops listed = [i])
    (h : ∀ (K : Act → World → Prop), Shut (∀ a' w', S w' → (S w' → wpAnyH P md ops Q S fuel (listed.setIfInBounds i true) a' w') → K a' w') → if Region.wanted o (yielded ops a.tmps) = true then o.wp P a w K Q else K (a.put o.dst undef) w) :
    wpAnyH P md ops Q S (fuel + 1) listed a w :=
  wpAnyH_ready hr (by simp) (AllReadyH.cons (ops_at h0 hi) h AllReadyH.nil)
end
theorem splice_cons {α : Type} (L : List α) (o : Nat) (c : α) (cs : List α) (h : o + cs.length < L.length) : splice L o (c :: cs) = splice (L.set o c) (o + 1) cs := by
  unfold splice
  have h1 : (L.set o c).take (o + 1) = L.take o ++ [c] := by
    rw [List.take_add_one, List.take_set_of_le (Nat.le_refl _), List.getElem?_set_self (by omega)]; rfl
  rw [h1, List.drop_set_of_lt (by omega), List.length_cons, show o + (cs.length + 1) = o + 1 + cs.length by omega]
  simp
theorem setCells_blk {g : Nat} {T : TypeId} : ∀ (cs : List Value) (o : Nat) (L : List Value) (W : World), Blk W g L.toArray T → o + cs.length ≤ L.length → Blk (W.setCells g o cs) g (splice L o cs).toArray T
  | [], o, L, W, h, _ => by
    have : splice L o ([] : List Value) = L := by unfold splice; simp
    rw [this]; exact h
  | c :: cs, o, L, W, h, hl => by
    rw [List.length_cons] at hl
    rw [splice_cons L o c cs (by omega)]
    have h2 := h.set o c
    rw [List.setIfInBounds_toArray] at h2
    exact setCells_blk cs (o + 1) (L.set o c) (W.setCell ⟨g, o, none⟩ c) h2 (by rw [List.length_set]; omega)
theorem below_setCells {w0 : World} {N g : Nat} (hN : N ≤ g) : ∀ (cs : List Value) (o : Nat) (W : World), Below N w0 W → Below N w0 (W.setCells g o cs)
  | [], _, _, h => h
  | c :: cs, o, W, h => below_setCells hN cs (o + 1) _ (h.setCell (p := ⟨g, o, none⟩) hN c)
theorem Blk.farCells {g g' : Nat} {C : Array Value} {T : TypeId} (hne : g' ≠ g) : ∀ (cs : List Value) (o : Nat) (W : World), Blk W g' C T → Blk (W.setCells g o cs) g' C T
  | [], _, _, h => h
  | c :: cs, o, W, h => Blk.farCells hne cs (o + 1) _ (h.far hne o c)
theorem Blk.there {W : World} {g : Nat} {C : Array Value} {T : TypeId} (h : Blk W g C T) (o n : Nat) (hl : o + n ≤ C.size) : W.there g o n := fun j hj => by
  refine ⟨?_, h.frz _⟩
  rw [h.cell (o + j) _ (Array.getElem?_eq_getElem (by omega))]; rfl
/-- A struct is built of parts. -/
theorem wpList_built {ops : Array Oper} {rest : List Oper} {op : Oper} {a : Act} {w : World} {Q : Exit → Act → World → Prop} (hgd : Region.wanted op (yielded ops a.tmps) = true) (t : TypeId) (parts : List (Nat × Operand)) (ho : op.op = .build t ⟨parts⟩)
    (L : List (Nat × Value)) (hL : parts.map (fun p => (p.1, a.eval p.2)) = L) (cells : Array Value) (hb : Try.prog.built t L = some cells)
    (h : wpList Try.prog ops Q rest (a.put op.dst (.agg cells)) w) : wpList Try.prog ops Q (op :: rest) a w :=
  BigFrame.wpList_want hgd fun _ hK => by
    unfold Oper.wp execOp
    have hb' := run_build (P := Try.prog) w t ((⟨parts⟩ : Array (Nat × Operand)).map fun (i, x) => (i, a.eval x)) cells (by rw [Array.toList_map]; show Try.prog.built t (parts.map fun p => (p.1, a.eval p.2)) = _; rw [hL]; exact hb)
    simp only [ho, Sem.run_bind, hb', Result.andThen_ok]
    exact hK _ _ h
theorem yields_built {ops : Array Oper} {S : World → Prop} {op : Oper} {a : Act} (hw : Region.wanted op (yielded ops a.tmps) = true) (t : TypeId) (parts : List (Nat × Operand)) (ho : op.op = .build t ⟨parts⟩)
    (L : List (Nat × Value)) (hL : parts.map (fun p => (p.1, a.eval p.2)) = L) (cells : Array Value) (hb : Try.prog.built t L = some cells) : YieldsIf Try.prog ops S op (.agg cells) a :=
  .inl ⟨hw, fun w _ => by
    unfold execOp
    have hb' := run_build (P := Try.prog) w t ((⟨parts⟩ : Array (Nat × Operand)).map fun (i, x) => (i, a.eval x)) cells (by rw [Array.toList_map]; show Try.prog.built t (parts.map fun p => (p.1, a.eval p.2)) = _; rw [hL]; exact hb)
    simp only [ho, Sem.run_bind, hb', Result.andThen_ok, Sem.run_pure]⟩
end Go.Proofs.Ytmbmmpbfmakfbaa
/- Structs of three numbers and bytes. -/
set_option linter.unusedVariables false
namespace Go.Proofs.Ytmbmmpbfmakfbaa
open Go.RowKit

structure QP where
  x : Int
  y : Int
  z : Int
  data : List Int
abbrev cellsQ (q : QP) (A : Option Addr) (n c : Nat) : Array Value := #[.int .i64 q.x, .int .i64 q.y, .int .i64 q.z, .slice A n c]
def zeroQ : QP := ⟨0, 0, 0, []⟩
abbrev zeroQc : Array Value := #[.int .i64 0, .int .i64 0, .int .i64 0, .slice none 0 0]
def sameQ (p q : QP) : Bool := p.x == q.x && p.y == q.y && p.z == q.z && p.data == q.data
theorem sameQ_refl (p : QP) : sameQ p p = true := by simp [sameQ]
theorem qcells {W : World} {B : Nat} {T : TypeId} {q : QP} {A : Option Addr} {n c : Nat} (h : Blk W B (cellsQ q A n c) T) :
    W.cell? ⟨B, 0, none⟩ = some (.int .i64 q.x) ∧ W.cell? ⟨B, 1, none⟩ = some (.int .i64 q.y) ∧ W.cell? ⟨B, 2, none⟩ = some (.int .i64 q.z) ∧ W.cell? ⟨B, 3, none⟩ = some (.slice A n c) :=
  ⟨h.cell 0 _ rfl, h.cell 1 _ rfl, h.cell 2 _ rfl, h.cell 3 _ rfl⟩
theorem one_Q (q : QP) (A : Option Addr) (n c : Nat) : (cellsQ q A n c).all (·.oneCell') = true := by simp [Value.oneCell']
end Go.Proofs.Ytmbmmpbfmakfbaa
/- Lists of structs of three numbers and bytes: read, and made by append. -/
set_option linter.unusedVariables false
namespace Go.Proofs.Ytmbmmpbfmakfbaa
open Go.RowKit

/-- The slice '.slice A n c' holds the structs l. -/
structure LQ (w : World) (A : Option Addr) (n c : Nat) (l : List QP) : Prop where
  len : l.length = n
  nc : n ≤ c
  cm : c ≤ maxLen
  mem : 0 < n → ∃ b off, A = some ⟨b, off, none⟩ ∧ b < w.heap.size ∧ ∀ i q, l[i]? = some q → ∃ A' m c', (w.cell? ⟨b, off + i * 4, none⟩ = some (.int .i64 q.x) ∧ w.cell? ⟨b, off + i * 4 + 1, none⟩ = some (.int .i64 q.y) ∧ w.cell? ⟨b, off + i * 4 + 2, none⟩ = some (.int .i64 q.z) ∧ w.cell? ⟨b, off + i * 4 + 3, none⟩ = some (.slice A' m c')) ∧ RB w A' m c' q.data
section
variable {w w' : World} {A : Option Addr} {n c : Nat} {l : List QP}
theorem LQ.below (h : LQ w A n c l) (hb : Below w.heap.size w w') : LQ w' A n c l :=
  ⟨h.len, h.nc, h.cm, fun hn => by
    obtain ⟨b, off, e, hlt, hc⟩ := h.mem hn
    refine ⟨b, off, e, by have := hb.size; omega, fun i q hq => ?_⟩
    obtain ⟨A', m, c', ⟨h0, h1, h2, h3⟩, hr⟩ := hc i q hq
    exact ⟨A', m, c', ⟨(hb.cell (p := ⟨b, _, none⟩) hlt).trans h0, (hb.cell (p := ⟨b, _, none⟩) hlt).trans h1, (hb.cell (p := ⟨b, _, none⟩) hlt).trans h2, (hb.cell (p := ⟨b, _, none⟩) hlt).trans h3⟩, hr.below hb⟩⟩
theorem LQ.at_ (h : LQ w A n c l) {i : Nat} (hi : i < n) : ∃ b off q A' m c', A = some ⟨b, off, none⟩ ∧ b < w.heap.size ∧ l[i]? = some q ∧ (w.cell? ⟨b, off + i * 4, none⟩ = some (.int .i64 q.x) ∧ w.cell? ⟨b, off + i * 4 + 1, none⟩ = some (.int .i64 q.y) ∧ w.cell? ⟨b, off + i * 4 + 2, none⟩ = some (.int .i64 q.z) ∧ w.cell? ⟨b, off + i * 4 + 3, none⟩ = some (.slice A' m c')) ∧ RB w A' m c' q.data := by
  obtain ⟨b, off, e, hlt, hc⟩ := h.mem (by omega)
  have hl : i < l.length := by rw [h.len]; exact hi
  obtain ⟨A', m, c', h1, h2⟩ := hc i l[i] (List.getElem?_eq_getElem hl)
  exact ⟨b, off, l[i], A', m, c', e, hlt, List.getElem?_eq_getElem hl, h1, h2⟩
theorem LQ.nil (w : World) : LQ w none 0 0 [] := ⟨rfl, Nat.le_refl _, by simp [maxLen], fun h => absurd h (by omega)⟩
end

/-- Structs with where their bytes lie, cell by cell. -/
def flatQ : List (QP × Option Addr × Nat × Nat) → List Value
  | [] => []
  | p :: r => .int .i64 p.1.x :: .int .i64 p.1.y :: .int .i64 p.1.z :: .slice p.2.1 p.2.2.1 p.2.2.2 :: flatQ r
theorem flatQ_append (a b : List (QP × Option Addr × Nat × Nat)) : flatQ (a ++ b) = flatQ a ++ flatQ b := by
  induction a with
  | nil => rfl
  | cons p a ih => simp only [List.cons_append, flatQ, ih]
theorem flatQ_length (a : List (QP × Option Addr × Nat × Nat)) : (flatQ a).length = a.length * 4 := by
  induction a with
  | nil => rfl
  | cons p a ih => simp only [flatQ, List.length_cons, ih]; omega
theorem flatQ_get : ∀ (a : List (QP × Option Addr × Nat × Nat)) (i : Nat) (p : QP × Option Addr × Nat × Nat), a[i]? = some p →
    (flatQ a)[i * 4]? = some (.int .i64 p.1.x) ∧ (flatQ a)[i * 4 + 1]? = some (.int .i64 p.1.y) ∧ (flatQ a)[i * 4 + 2]? = some (.int .i64 p.1.z) ∧ (flatQ a)[i * 4 + 3]? = some (.slice p.2.1 p.2.2.1 p.2.2.2)
  | [], i, p, h => by simp at h
  | q :: a, 0, p, h => by simp at h; subst h; exact ⟨rfl, rfl, rfl, rfl⟩
  | q :: a, i + 1, p, h => by
    have := flatQ_get a i p (by simpa using h)
    have e : ∀ j, (i + 1) * 4 + j = i * 4 + j + 4 := fun j => by omega
    have e0 : (i + 1) * 4 = i * 4 + 4 := by omega
    rw [e 1, e 2, e 3, e0]
    simpa [flatQ] using this

/-- A slice of the call's own that holds the structs l; their bytes lie elsewhere. -/
def LO (w : World) (base : Nat) (T : TypeId) (A : Option Addr) (n c : Nat) (l : List QP) : Prop :=
  ∃ ps : List (QP × Option Addr × Nat × Nat), ps.map (·.1) = l ∧ OG w base T 4 A n c (flatQ ps) ∧ ∀ p ∈ ps, RB w p.2.1 p.2.2.1 p.2.2.2 p.1.data ∧ (0 < p.2.2.1 → ∀ k, ownBlk p.2.1 = some k → ownBlk A ≠ some k)
section
variable {w w' : World} {base : Nat} {T : TypeId} {A : Option Addr} {n c : Nat} {l : List QP}
theorem LO.nil (w : World) (base : Nat) (T : TypeId) : LO w base T none 0 0 [] := ⟨[], rfl, OG.nil w base T 4, fun p hp => by cases hp⟩
theorem LO.below (h : LO w base T A n c l) (hb : Below w.heap.size w w') : LO w' base T A n c l := by
  obtain ⟨ps, h1, h2, h3⟩ := h
  exact ⟨ps, h1, h2.below hb, fun p hp => ⟨(h3 p hp).1.below hb, (h3 p hp).2⟩⟩
theorem LO.alloc (h : LO w base T A n c l) (o : Obj) : LO (w.alloc o) base T A n c l := h.below ((Below.refl _ w).alloc (Nat.le_refl _) o)
theorem LO.mono {base' : Nat} (h : LO w base T A n c l) (hb : base' ≤ base) : LO w base' T A n c l := by
  obtain ⟨ps, h1, h2, h3⟩ := h
  exact ⟨ps, h1, h2.mono hb, h3⟩
theorem LO.len (h : LO w base T A n c l) : l.length = n := by
  obtain ⟨ps, rfl, h2, _⟩ := h
  have := h2.len
  rw [flatQ_length] at this
  rw [List.length_map]; omega
theorem LO.blk (h : LO w base T A n c l) {k : Nat} (hk : ownBlk A = some k) : base ≤ k ∧ k < w.heap.size := by
  obtain ⟨ps, _, h2, _⟩ := h
  exact h2.blk hk
theorem OG.cap {e : TypeId} {size : Nat} {xs : List Value} (h : OG w base e size A n c xs) : n ≤ c ∧ c ≤ maxLen := by
  rcases h.own.2 with ⟨e, hn0⟩ | ⟨g, cap, cur, e, hg, hh, hnc, hcm, r⟩
  · cases e; exact ⟨by omega, by simp [maxLen]⟩
  · cases e; exact ⟨hnc, hcm⟩
theorem LO.lq (h : LO w base T A n c l) : LQ w A n c l := by
  have hl := h.len
  obtain ⟨ps, hp, h2, h3⟩ := h
  obtain ⟨h4, h5⟩ := h2.cap
  refine ⟨hl, h4, h5, fun hn => ?_⟩
  obtain ⟨g, rfl, hg0, hg1, _, _, hc⟩ := h2.cells hn (by decide)
  refine ⟨g, 0, rfl, hg1, fun i q hq => ?_⟩
  have hi : i < n := by rw [← hl]; exact (List.getElem?_eq_some_iff.1 hq).1
  rw [← hp, List.getElem?_map] at hq
  obtain ⟨p, hp1, rfl⟩ := Option.map_eq_some_iff.1 hq
  obtain ⟨e0, e1, e2, e3⟩ := flatQ_get ps i p hp1
  refine ⟨p.2.1, p.2.2.1, p.2.2.2, ⟨?_, ?_, ?_, ?_⟩, (h3 p (List.mem_of_getElem? hp1)).1⟩
  · rw [Nat.zero_add]; exact (hc _ (by omega)).trans e0
  · rw [Nat.zero_add]; exact (hc _ (by omega)).trans e1
  · rw [Nat.zero_add]; exact (hc _ (by omega)).trans e2
  · rw [Nat.zero_add]; exact (hc _ (by omega)).trans e3
end
theorem RB.grown {w w' : World} {A : Option Addr} {n c : Nat} {bs : List Int} {row : Option Nat} (h : RB w A n c bs) (hne : 0 < n → ∀ k, ownBlk A = some k → row ≠ some k) (hg : w.grownBy w' row) : RB w' A n c bs :=
  ⟨h.len, h.nc, h.cm, h.byt, h.niln, fun hn => by
    obtain ⟨b, off, rfl, hlt, hc⟩ := h.mem hn
    have hb : w'.heap[b]? = w.heap[b]? := hg.block b hlt (fun e => hne hn b rfl e.symm)
    exact ⟨b, off, rfl, Nat.lt_of_lt_of_le hlt hg.size, fun j hj => by rw [← hc j hj]; exact World.cell?_of_block (a := ⟨b, off + j, none⟩) hb⟩⟩
/-- append of one struct, that lies in a literal. -/
theorem wpList_append_lo {ops : Array Oper} {rest : List Oper} {o : Oper} {a : Act} {Q : Exit → Act → World → Prop} (w : World) (hgd : o.guard = none) (t T : TypeId) (s x : Operand)
    (hop : o.op = .call { callee := .builtin .append, args := #[s, x], argTypes := #[t, t] }) (z : Value) (ht : Try.prog.underlying t = some (.slice T)) (hi : (Try.prog.info? T).map (fun i => (i.zero, i.size, i.bytes)) = some (some z, 4, 48)) (hzs : z.cells.size = 4)
    {base : Nat} {A : Option Addr} {n c : Nat} {l : List QP} (hv : a.eval s = .slice A n c) {g : Nat} (hv' : a.eval x = .slice (some ⟨g, 0, none⟩) 1 1) (ho : LO w base T A n c l) {q : QP} {A' : Option Addr} {m c' : Nat} (hk : Blk w g (cellsQ q A' m c') T) (hr : RB w A' m c' q.data)
    (hne : 0 < m → ∀ k, ownBlk A' = some k → ownBlk A ≠ some k) (hn : n ≤ 1000000) (hb : base ≤ w.heap.size)
    (h : ∀ A2 c2 w2, LO w2 base T A2 (n + 1) c2 (l ++ [q]) → w.grownBy w2 (ownBlk A) → (ownBlk A2 = ownBlk A ∨ ownBlk A2 = some w.heap.size) → wpList Try.prog ops Q rest (a.put o.dst (.slice A2 (n + 1) c2)) w2) :
    wpList Try.prog ops Q (o :: rest) a w := by
  refine wpList_plain hgd fun K hK => ?_
  obtain ⟨ps, hp, h2, h3⟩ := ho
  obtain ⟨i0, hi, hz0, hz1, hz2⟩ := info_parts hi
  obtain ⟨v', w', e1, e2, e3, _, e5⟩ := run_append_own_at (P := Try.prog) w base t o.type T i0 z 4 48 ht hi hz0 hz1 hz2 hzs (by decide) _ n (flatQ ps) h2.own ⟨g, 0, none⟩ 1 1 (flatQ [(q, A', m, c')]) rfl (fun j u hu => by
    rw [Go.WideShapes.add_plain, Nat.zero_add]
    have hj : j < 4 := (List.getElem?_eq_some_iff.1 hu).1
    have hc : j = 0 ∨ j = 1 ∨ j = 2 ∨ j = 3 := by omega
    rcases hc with rfl | rfl | rfl | rfl <;> (cases hu; exact hk.cell _ _ rfl)) (fun u hu => by
      simp [flatQ] at hu
      rcases hu with rfl | rfl | rfl | rfl <;> rfl) (by unfold maxLen; omega) (by omega) hb
  have hv2 : ∃ A2 c2, v' = .slice A2 (n + 1) c2 := by
    rcases e2.2 with ⟨e, e2⟩ | ⟨g, cap, _, e, _⟩
    · exact absurd e2 (by omega)
    · exact ⟨_, _, e⟩
  obtain ⟨A2, c2, rfl⟩ := hv2
  rw [ownBlk_eq] at e3 e5
  rw [ownBlk_eq] at e5
  unfold Oper.wp execOp
  simp only [hop, resolve, invoke, builtin, Sem.run_bind, Sem.run_pure, Result.andThen_ok, List.map_toArray, List.map_cons, List.map_nil, hv, hv', e1]
  have hfar : ∀ (A0 : Option Addr) (m0 c0 : Nat) (d0 : List Int), RB w A0 m0 c0 d0 → (0 < m0 → ∀ k, ownBlk A0 = some k → ownBlk A ≠ some k) → RB w' A0 m0 c0 d0 ∧ (0 < m0 → ∀ k, ownBlk A0 = some k → ownBlk A2 ≠ some k) := fun A0 m0 c0 d0 hr0 hn0 =>
    ⟨hr0.grown hn0 e3, fun hm k hk => by
      rcases e5 with e | e
      · rw [e]; exact hn0 hm k hk
      · rw [e]
        obtain ⟨b, off, rfl, hlt, _⟩ := hr0.mem hm
        have : b = k := by simpa [ownBlk] using hk
        intro e'
        have := Option.some.inj e'
        omega⟩
  exact hK _ _ (h A2 c2 w' ⟨ps ++ [(q, A', m, c')], by simp [hp], ⟨by rw [flatQ_append]; exact e2⟩, fun p hp => by
    rcases List.mem_append.1 hp with hp | hp
    · exact hfar _ _ _ _ (h3 p hp).1 (h3 p hp).2
    · simp at hp; subst hp; exact hfar _ _ _ _ hr hne⟩ e3 e5)
end Go.Proofs.Ytmbmmpbfmakfbaa
/- A drawn region inside a round of a range over a function: as outside. -/
set_option linter.unusedVariables false
namespace Go.Proofs.Ytmbmmpbfmakfbaa
open Go Go.RowKit

section
variable {P : Program} {ops : Array Oper} {Q : Exit → Act → World → Prop} {md : Region.Mode}
theorem oper_in (l : Nat) {o : Oper} {a : Act} {w : World} {K : Act → World → Prop} (hd : ∀ c, o.op ≠ .defer c) (h : o.wp P a w K Q) : o.wpIn (Fence.wide.inRound l) 0 P a w K Q := by
  unfold Oper.wp at h
  unfold Oper.wpIn
  refine ⟨fun f _ => trivial, ?_⟩
  rw [Oper.semAt_plain _ _ _ hd]
  generalize (execOp a.eval o).run P w = r at *
  cases r with
  | ok x w' =>
    cases x <;> simp only [Oper.upon, Oper.uponIn] at h ⊢
    case value => exact h
    case skip => exact h
    case defer => exact h
    case enter f args => exact ⟨(fun h => by cases h), CallsIn.inRound l (callsIn_wide.2 h)⟩
    case row row args => exact ⟨(fun h => by cases h), fun c cs _ => let ⟨v, w', r, s⟩ := h c cs; ⟨v, w', r, stepsIn_wide.2 s⟩⟩
  | halt x w' => cases x <;> simp only [Oper.upon, Oper.uponIn] at h ⊢ <;> exact h
theorem any_in (l : Nat) (hd : ∀ o ∈ ops, ∀ c, o.op ≠ .defer c) (hQ : ¬ LetsOut Q) : ∀ (fuel : Nat) (listed : Array Bool) (a : Act) (w : World), wpAny P md ops Q fuel listed a w → wpAnyIn (Fence.wide.inRound l) 0 P md ops Q fuel listed a w
  | 0, listed, a, w, h => h
  | fuel + 1, listed, a, w, h => by
    refine ⟨h.1, fun i hi => ?_⟩
    have h2 := h.2 i hi
    unfold wpOp at h2
    unfold wpOpIn
    cases ho : ops[i]? with
    | none => simp only [ho] at h2; exact any_in l hd hQ fuel _ _ _ h2
    | some o =>
      simp only [ho] at h2 ⊢
      split
      · rename_i hw
        simp only [hw, if_true] at h2
        rcases h2 with h2 | ⟨_, h2⟩
        · exact Oper.wpIn_mono (fun a w h => any_in l hd hQ fuel _ a w h) (oper_in l (hd o (Array.mem_of_getElem? ho)) h2)
        · exact absurd h2 hQ
      · rename_i hw
        simp only [hw] at h2
        exact ⟨fun f _ => trivial, any_in l hd hQ fuel _ _ _ h2⟩
/-- The beginning. -/
theorem wpIn_region_tame {id l : Nat} {os : List Oper} {a : Act} {w : World} (S : World → Prop) (hm : P.follows .mixedOrders = true) (ht : textOrder .any os.toArray = true) (hd : os.all (fun o => match o.op with | .defer _ => false | _ => true) = true) (hQ : ¬ LetsOut Q) (hS : S w.drew) (h : tameL P os.toArray Q S os a) :
    (Code.region id os.toArray true).wpIn (Fence.wide.inRound l) 0 P Q a w :=
  wpIn_region_any hm (any_in l (fun o ho c e => by
    have := List.all_eq_true.1 hd o (by simpa using ho)
    rw [e] at this; cases this) hQ _ _ _ _ (wpT_sound _ _ _ (tame_sound ht os.toArray.size 0 os a (by simp) (by simp) h) w.drew hS))
end
end Go.Proofs.Ytmbmmpbfmakfbaa
/- Lists of structs, in a round of a range over a function: append of one; what of them a round keeps. -/
set_option linter.unusedVariables false
namespace Go.Proofs.Ytmbmmpbfmakfbaa
open Go Go.RowKit

theorem wp_append_lo {o : Oper} {a : Act} {Q : Exit → Act → World → Prop} {K : Act → World → Prop} (w : World) (t T : TypeId) (s x : Operand)
    (hop : o.op = .call { callee := .builtin .append, args := #[s, x], argTypes := #[t, t] }) (z : Value) (ht : Try.prog.underlying t = some (.slice T)) (hi : (Try.prog.info? T).map (fun i => (i.zero, i.size, i.bytes)) = some (some z, 4, 48)) (hzs : z.cells.size = 4)
    {base : Nat} {A : Option Addr} {n c : Nat} {l : List QP} (hv : a.eval s = .slice A n c) {g : Nat} (hv' : a.eval x = .slice (some ⟨g, 0, none⟩) 1 1) (ho : LO w base T A n c l) {q : QP} {A' : Option Addr} {m c' : Nat} (hk : Blk w g (cellsQ q A' m c') T) (hr : RB w A' m c' q.data)
    (hne : 0 < m → ∀ k, ownBlk A' = some k → ownBlk A ≠ some k) (hn : n ≤ 1000000) (hb : base ≤ w.heap.size)
    (h : ∀ A2 c2 w2, LO w2 base T A2 (n + 1) c2 (l ++ [q]) → w.grownBy w2 (ownBlk A) → (ownBlk A2 = ownBlk A ∨ ownBlk A2 = some w.heap.size) → K (a.put o.dst (.slice A2 (n + 1) c2)) w2) :
    o.wp Try.prog a w K Q := by
  obtain ⟨ps, hp, h2, h3⟩ := ho
  obtain ⟨i0, hi, hz0, hz1, hz2⟩ := info_parts hi
  obtain ⟨v', w', e1, e2, e3, _, e5⟩ := run_append_own_at (P := Try.prog) w base t o.type T i0 z 4 48 ht hi hz0 hz1 hz2 hzs (by decide) _ n (flatQ ps) h2.own ⟨g, 0, none⟩ 1 1 (flatQ [(q, A', m, c')]) rfl (fun j u hu => by
    rw [Go.WideShapes.add_plain, Nat.zero_add]
    have hj : j < 4 := (List.getElem?_eq_some_iff.1 hu).1
    have hc : j = 0 ∨ j = 1 ∨ j = 2 ∨ j = 3 := by omega
    rcases hc with rfl | rfl | rfl | rfl <;> (cases hu; exact hk.cell _ _ rfl)) (fun u hu => by
      simp [flatQ] at hu
      rcases hu with rfl | rfl | rfl | rfl <;> rfl) (by unfold maxLen; omega) (by omega) hb
  have hv2 : ∃ A2 c2, v' = .slice A2 (n + 1) c2 := by
    rcases e2.2 with ⟨e, e2⟩ | ⟨g, cap, _, e, _⟩
    · exact absurd e2 (by omega)
    · exact ⟨_, _, e⟩
  obtain ⟨A2, c2, rfl⟩ := hv2
  rw [ownBlk_eq] at e3 e5
  rw [ownBlk_eq] at e5
  unfold Oper.wp execOp
  simp only [hop, resolve, invoke, builtin, Sem.run_bind, Sem.run_pure, Result.andThen_ok, List.map_toArray, List.map_cons, List.map_nil, hv, hv', e1]
  have hfar : ∀ (A0 : Option Addr) (m0 c0 : Nat) (d0 : List Int), RB w A0 m0 c0 d0 → (0 < m0 → ∀ k, ownBlk A0 = some k → ownBlk A ≠ some k) → RB w' A0 m0 c0 d0 ∧ (0 < m0 → ∀ k, ownBlk A0 = some k → ownBlk A2 ≠ some k) := fun A0 m0 c0 d0 hr0 hn0 =>
    ⟨hr0.grown hn0 e3, fun hm k hk => by
      rcases e5 with e | e
      · rw [e]; exact hn0 hm k hk
      · rw [e]
        obtain ⟨b, off, rfl, hlt, _⟩ := hr0.mem hm
        have : b = k := by simpa [ownBlk] using hk
        intro e'
        have := Option.some.inj e'
        omega⟩
  exact (h A2 c2 w' ⟨ps ++ [(q, A', m, c')], by simp [hp], ⟨by rw [flatQ_append]; exact e2⟩, fun p hp => by
    rcases List.mem_append.1 hp with hp | hp
    · exact hfar _ _ _ _ (h3 p hp).1 (h3 p hp).2
    · simp at hp; subst hp; exact hfar _ _ _ _ hr hne⟩ e3 e5)
theorem wpListIn_append_lo {l9 : Nat} {ops : Array Oper} {rest : List Oper} {o : Oper} {a : Act} {Q : Exit → Act → World → Prop} (w : World) (hgd : o.guard = none) (t T : TypeId) (s x : Operand)
    (hop : o.op = .call { callee := .builtin .append, args := #[s, x], argTypes := #[t, t] }) (z : Value) (ht : Try.prog.underlying t = some (.slice T)) (hi : (Try.prog.info? T).map (fun i => (i.zero, i.size, i.bytes)) = some (some z, 4, 48)) (hzs : z.cells.size = 4)
    {base : Nat} {A : Option Addr} {n c : Nat} {l : List QP} (hv : a.eval s = .slice A n c) {g : Nat} (hv' : a.eval x = .slice (some ⟨g, 0, none⟩) 1 1) (ho : LO w base T A n c l) {q : QP} {A' : Option Addr} {m c' : Nat} (hk : Blk w g (cellsQ q A' m c') T) (hr : RB w A' m c' q.data)
    (hne : 0 < m → ∀ k, ownBlk A' = some k → ownBlk A ≠ some k) (hn : n ≤ 1000000) (hb : base ≤ w.heap.size)
    (h : ∀ A2 c2 w2, LO w2 base T A2 (n + 1) c2 (l ++ [q]) → w.grownBy w2 (ownBlk A) → (ownBlk A2 = ownBlk A ∨ ownBlk A2 = some w.heap.size) → wpListIn (Fence.wide.inRound l9) 0 Try.prog ops Q rest (a.put o.dst (.slice A2 (n + 1) c2)) w2) :
    wpListIn (Fence.wide.inRound l9) 0 Try.prog ops Q (o :: rest) a w :=
  wpListIn_plain hgd fun K hK => oper_in l9 (by rw [hop]; intro c hc; cases hc) (wp_append_lo w t T s x hop z ht hi hzs hv hv' ho hk hr hne hn hb fun A2 c2 w2 h1 h2 h3 => hK _ _ (h A2 c2 w2 h1 h2 h3))
theorem LO.gr {N base : Nat} {A B : World} {T : TypeId} {a : Option Addr} {n c : Nat} {l : List QP} (hg : Gr N A B) (h : LO A base T a n c l) : LO B base T a n c l := by
  obtain ⟨ps, h1, h2, h3⟩ := h
  exact ⟨ps, h1, ⟨hg.own h2.own⟩, fun p hp => ⟨hg.rb (h3 p hp).1, (h3 p hp).2⟩⟩
theorem OB.gr {N base : Nat} {A B : World} {a : Option Addr} {n c : Nat} {bs : List Int} (hg : Gr N A B) (h : OB A base a n c bs) : OB B base a n c bs := ⟨hg.own h.own, h.byt⟩
theorem Blk.gr {N B' : Nat} {A B : World} {P : Array Value} {T : TypeId} (hg : Gr N A B) (h : Blk A B' P T) : Blk B B' P T := ⟨hg.keep B' _ h.at_ (.inr rfl)⟩
/-- Bytes of a call's own do not lie where structs of a call's own lie. -/
theorem OB.apart {w : World} {b1 b2 : Nat} {T : TypeId} {A A' : Option Addr} {n c n' c' : Nat} {bs : List Int} {l : List QP} (h : OB w b1 A n c bs) (h' : LO w b2 T A' n' c' l) (hT : 5 ≠ T) (k : Nat) (hk : ownBlk A = some k) : ownBlk A' ≠ some k := fun hk' => by
  obtain ⟨ps, _, h2, _⟩ := h'
  rcases h.own.2 with ⟨e, _⟩ | ⟨g, cap, cur, e, hg, hh, _⟩
  · cases e; cases hk
  · cases e
    cases hk
    rcases h2.own.2 with ⟨e, _⟩ | ⟨g', cap', cur', e, hg', hh', _⟩
    · cases e; cases hk'
    · cases e
      cases hk'
      rw [hh] at hh'
      cases hh'
      exact hT rfl
end Go.Proofs.Ytmbmmpbfmakfbaa
/- A struct in the middle of a block is loaded, in a drawn region and in a plain one. -/
set_option linter.unusedVariables false
namespace Go.Proofs.Ytmbmmpbfmakfbaa
open Go Go.RowKit

section
variable {P : Program} {ops : Array Oper} {Q : Exit → Act → World → Prop} {S : World → Prop} {o : Oper} {rest : List Oper} {a : Act}
theorem tameL_mid (hw : Region.wanted o (yielded ops a.tmps) = true) (ty : TypeId) (x : Operand) (ho : o.op = .load ty x) (b off : Nat) (hx : a.eval x = .pointer (some ⟨b, off, none⟩)) (cs : List Value) (d : TypeDesc) (hc : ∀ w, S w → w.rangeAt b off cs)
    (hu : P.underlying ty = some d) (hd : d.isRow = true) (hi : (P.info? ty).map (·.size) = some cs.length) (h : tameL P ops Q S rest (a.put o.dst (.agg cs.toArray))) : tameL P ops Q S (o :: rest) a :=
  tameL_val hw (fun w hS => by
    unfold execOp
    simp only [ho, hx, Instr.loadAt, Instr.sureAddr, Sem.run_bind, Sem.run_pure, Result.andThen_ok, run_loadVar_mid w b off ty cs d (hc w hS) hu hd hi]) h
end
theorem range4 {w : World} {b o : Nat} {v0 v1 v2 v3 : Value} (h0 : w.cell? ⟨b, o, none⟩ = some v0) (h1 : w.cell? ⟨b, o + 1, none⟩ = some v1) (h2 : w.cell? ⟨b, o + 2, none⟩ = some v2) (h3 : w.cell? ⟨b, o + 3, none⟩ = some v3) : w.rangeAt b o [v0, v1, v2, v3] := fun j v hj => by
  have hlt : j < 4 := (List.getElem?_eq_some_iff.1 hj).1
  have hc : j = 0 ∨ j = 1 ∨ j = 2 ∨ j = 3 := by omega
  rcases hc with rfl | rfl | rfl | rfl <;> (cases hj; assumption)
theorem rangeAt_below {w w' : World} {N b o : Nat} {cs : List Value} (h : w.rangeAt b o cs) (hb : Below N w w') (hN : b < N) : w'.rangeAt b o cs := fun j v hj => by
  have : w'.cell? ⟨b, o + j, none⟩ = w.cell? ⟨b, o + j, none⟩ := World.cell?_of_block (a := ⟨b, o + j, none⟩) (hb.block b hN)
  rw [this]; exact h j v hj
/-- The i-th struct of a list. -/
theorem LQ.mid {w : World} {A : Option Addr} {n c : Nat} {l : List QP} (h : LQ w A n c l) {i : Nat} (hi : i < n) : ∃ b off q A' m c', A = some ⟨b, off, none⟩ ∧ b < w.heap.size ∧ l[i]? = some q ∧ w.rangeAt b (off + i * 4) [.int .i64 q.x, .int .i64 q.y, .int .i64 q.z, .slice A' m c'] ∧ RB w A' m c' q.data := by
  obtain ⟨b, off, q, A', m, c', e, hlt, hq, ⟨h0, h1, h2, h3⟩, hr⟩ := h.at_ hi
  exact ⟨b, off, q, A', m, c', e, hlt, hq, range4 h0 h1 h2 h3, hr⟩
end Go.Proofs.Ytmbmmpbfmakfbaa
/- Lists of structs of any kind (their cells stay one word): read, made by append, made by a literal of one. -/
set_option linter.unusedVariables false
namespace Go.Proofs.Ytmbmmpbfmakfbaa
open Go Go.RowKit

/-- A kind of structs: what is known of one; its cells; the slices of bytes that it has, with what they hold. -/
structure Kd where
  β : Type
  K : Nat
  cells : β → Array Value
  sl : β → List (Option Addr × Nat × Nat × List Int)
  ok : β → Prop
  size : ∀ x, ok x → (cells x).size = K
  one : ∀ x, ok x → ∀ u ∈ (cells x).toList, u.oneCell' = true
  pos : 0 < K

variable {κ : Kd}
def flatK (κ : Kd) (ps : List κ.β) : List Value := ps.flatMap fun x => (κ.cells x).toList
theorem flatK_append (a b : List κ.β) : flatK κ (a ++ b) = flatK κ a ++ flatK κ b := by simp [flatK]
theorem flatK_length : ∀ (ps : List κ.β), (∀ x ∈ ps, κ.ok x) → (flatK κ ps).length = ps.length * κ.K
  | [], _ => by simp [flatK]
  | x :: ps, h => by
    have h1 := flatK_length ps (fun y hy => h y (List.mem_cons_of_mem _ hy))
    have h2 := κ.size x (h x (List.mem_cons_self ..))
    have : flatK κ (x :: ps) = (κ.cells x).toList ++ flatK κ ps := by simp [flatK]
    rw [this, List.length_append, h1, Array.length_toList, h2, List.length_cons, Nat.add_mul, Nat.one_mul, Nat.add_comm]
theorem flatK_get : ∀ (ps : List κ.β), (∀ x ∈ ps, κ.ok x) → ∀ (i : Nat) (x : κ.β), ps[i]? = some x → ∀ j, j < κ.K → (flatK κ ps)[i * κ.K + j]? = (κ.cells x).toList[j]?
  | [], _, i, x, h, _, _ => by simp at h
  | y :: ps, ho, 0, x, h, j, hj => by
    simp at h; subst h
    have h2 := κ.size y (ho y (List.mem_cons_self ..))
    have : flatK κ (y :: ps) = (κ.cells y).toList ++ flatK κ ps := by simp [flatK]
    rw [this, Nat.zero_mul, Nat.zero_add, List.getElem?_append_left (by rw [Array.length_toList, h2]; exact hj)]
  | y :: ps, ho, i + 1, x, h, j, hj => by
    have h2 := κ.size y (ho y (List.mem_cons_self ..))
    have h3 := flatK_get ps (fun z hz => ho z (List.mem_cons_of_mem _ hz)) i x (by simpa using h) j hj
    have : flatK κ (y :: ps) = (κ.cells y).toList ++ flatK κ ps := by simp [flatK]
    rw [this, List.getElem?_append_right (by rw [Array.length_toList, h2, Nat.add_mul]; omega), Array.length_toList, h2, ← h3]
    congr 1
    rw [Nat.add_mul]; omega

/-- The slice '.slice A n c' holds the structs ps. -/
structure LR (κ : Kd) (w : World) (A : Option Addr) (n c : Nat) (ps : List κ.β) : Prop where
  len : ps.length = n
  nc : n ≤ c
  cm : c ≤ maxLen
  ok : ∀ x ∈ ps, κ.ok x
  mem : 0 < n → ∃ b off, A = some ⟨b, off, none⟩ ∧ b < w.heap.size ∧ ∀ i x, ps[i]? = some x → w.rangeAt b (off + i * κ.K) (κ.cells x).toList ∧ ∀ s ∈ κ.sl x, RB w s.1 s.2.1 s.2.2.1 s.2.2.2
section
variable {w w' : World} {A : Option Addr} {n c : Nat} {ps : List κ.β}
theorem LR.below (h : LR κ w A n c ps) (hb : Below w.heap.size w w') : LR κ w' A n c ps :=
  ⟨h.len, h.nc, h.cm, h.ok, fun hn => by
    obtain ⟨b, off, e, hlt, hc⟩ := h.mem hn
    refine ⟨b, off, e, by have := hb.size; omega, fun i x hx => ?_⟩
    obtain ⟨h1, h2⟩ := hc i x hx
    exact ⟨rangeAt_below h1 hb hlt, fun s hs => (h2 s hs).below hb⟩⟩
theorem LR.nil (w : World) : LR κ w none 0 0 [] := ⟨rfl, Nat.le_refl _, by simp [maxLen], fun x hx => (by cases hx), fun h => absurd h (by omega)⟩
/-- The i-th struct of a list. -/
theorem LR.mid (h : LR κ w A n c ps) {i : Nat} (hi : i < n) : ∃ b off x, A = some ⟨b, off, none⟩ ∧ b < w.heap.size ∧ ps[i]? = some x ∧ κ.ok x ∧ w.rangeAt b (off + i * κ.K) (κ.cells x).toList ∧ ∀ s ∈ κ.sl x, RB w s.1 s.2.1 s.2.2.1 s.2.2.2 := by
  obtain ⟨b, off, e, hlt, hc⟩ := h.mem (by omega)
  have hl : i < ps.length := by rw [h.len]; exact hi
  have hx := List.getElem?_eq_getElem hl
  obtain ⟨h1, h2⟩ := hc i ps[i] hx
  exact ⟨b, off, ps[i], e, hlt, hx, h.ok _ (List.getElem_mem hl), h1, h2⟩
end

/-- A slice of the call's own that holds the structs ps; their bytes lie elsewhere. -/
def LS (κ : Kd) (w : World) (base : Nat) (T : TypeId) (A : Option Addr) (n c : Nat) (ps : List κ.β) : Prop :=
  OG w base T κ.K A n c (flatK κ ps) ∧ ps.length = n ∧ ∀ x ∈ ps, κ.ok x ∧ ∀ s ∈ κ.sl x, RB w s.1 s.2.1 s.2.2.1 s.2.2.2 ∧ (0 < s.2.1 → ∀ k, ownBlk s.1 = some k → ownBlk A ≠ some k)
section
variable {w w' : World} {base : Nat} {T : TypeId} {A : Option Addr} {n c : Nat} {ps : List κ.β}
theorem LS.nil (κ : Kd) (w : World) (base : Nat) (T : TypeId) : LS κ w base T none 0 0 [] := ⟨OG.nil w base T κ.K, rfl, fun x hx => by cases hx⟩
theorem LS.below (h : LS κ w base T A n c ps) (hb : Below w.heap.size w w') : LS κ w' base T A n c ps :=
  ⟨h.1.below hb, h.2.1, fun x hx => ⟨(h.2.2 x hx).1, fun s hs => ⟨((h.2.2 x hx).2 s hs).1.below hb, ((h.2.2 x hx).2 s hs).2⟩⟩⟩
theorem LS.alloc (h : LS κ w base T A n c ps) (o : Obj) : LS κ (w.alloc o) base T A n c ps := h.below ((Below.refl _ w).alloc (Nat.le_refl _) o)
theorem LS.mono {base' : Nat} (h : LS κ w base T A n c ps) (hb : base' ≤ base) : LS κ w base' T A n c ps := ⟨h.1.mono hb, h.2⟩
theorem LS.len (h : LS κ w base T A n c ps) : ps.length = n := h.2.1
theorem LS.blk (h : LS κ w base T A n c ps) {k : Nat} (hk : ownBlk A = some k) : base ≤ k ∧ k < w.heap.size := h.1.blk hk
theorem LS.lr (h : LS κ w base T A n c ps) : LR κ w A n c ps := by
  obtain ⟨h2, hl, h3⟩ := h
  obtain ⟨h4, h5⟩ := h2.cap
  refine ⟨hl, h4, h5, fun x hx => (h3 x hx).1, fun hn => ?_⟩
  obtain ⟨g, rfl, hg0, hg1, _, _, hc⟩ := h2.cells hn κ.pos
  refine ⟨g, 0, rfl, hg1, fun i x hx => ⟨fun j v hj => ?_, fun s hs => ((h3 x (List.mem_of_getElem? hx)).2 s hs).1⟩⟩
  have hi : i < n := by rw [← hl]; exact (List.getElem?_eq_some_iff.1 hx).1
  have hK := κ.size x (h3 x (List.mem_of_getElem? hx)).1
  have hjK : j < κ.K := by have := (List.getElem?_eq_some_iff.1 hj).1; rw [Array.length_toList, hK] at this; exact this
  have hlt : i * κ.K + j < n * κ.K := by
    have : (i + 1) * κ.K ≤ n * κ.K := Nat.mul_le_mul_right _ hi
    rw [Nat.add_mul, Nat.one_mul] at this; omega
  rw [Nat.zero_add, hc _ hlt, flatK_get ps (fun x hx => (h3 x hx).1) i x hx j hjK]
  exact hj
theorem LS.gr {N : Nat} (hg : Gr N w w') (h : LS κ w base T A n c ps) : LS κ w' base T A n c ps :=
  ⟨⟨hg.own h.1.own⟩, h.2.1, fun x hx => ⟨(h.2.2 x hx).1, fun s hs => ⟨hg.rb ((h.2.2 x hx).2 s hs).1, ((h.2.2 x hx).2 s hs).2⟩⟩⟩
end

/-- A store into a block in which no byte lies. -/
theorem RB.farN {w : World} {B : Nat} {A : Option Addr} {n c : Nat} {bs : List Int} (h : RB w A n c bs) (hB : ∀ j x, w.cell? ⟨B, j, none⟩ ≠ some (.int .u8 x)) (i : Nat) (v : Value) : RB (w.setCell ⟨B, i, none⟩ v) A n c bs :=
  ⟨h.len, h.nc, h.cm, h.byt, h.niln, fun hn => by
    obtain ⟨b, off, rfl, hlt, hc⟩ := h.mem hn
    have hne : b ≠ B := fun e => by subst e; exact hB _ _ (hc 0 hn)
    exact ⟨b, off, rfl, by simpa [World.setCell] using hlt, fun j hj => by rw [← hc j hj]; exact World.cell?_of_block (a := ⟨b, off + j, none⟩) (Below.heap_setCell w ⟨B, i, none⟩ v b hne)⟩⟩
theorem RB.farB {w : World} {B : Nat} {A : Option Addr} {n c : Nat} {bs : List Int} (h : RB w A n c bs) (hB : ownBlk A ≠ some B) (i : Nat) (v : Value) : RB (w.setCell ⟨B, i, none⟩ v) A n c bs :=
  ⟨h.len, h.nc, h.cm, h.byt, h.niln, fun hn => by
    obtain ⟨b, off, rfl, hlt, hc⟩ := h.mem hn
    have hne : b ≠ B := fun e => hB (by rw [← e]; rfl)
    exact ⟨b, off, rfl, by simpa [World.setCell] using hlt, fun j hj => by rw [← hc j hj]; exact World.cell?_of_block (a := ⟨b, off + j, none⟩) (Below.heap_setCell w ⟨B, i, none⟩ v b hne)⟩⟩
theorem Blk.nobytes {w : World} {B : Nat} {C : Array Value} {T : TypeId} (h : Blk w B C T) (hC : ∀ u ∈ C.toList, ∀ x, u ≠ .int .u8 x) (j : Nat) (x : Int) : w.cell? ⟨B, j, none⟩ ≠ some (.int .u8 x) := fun e => by
  rw [show w.cell? ⟨B, j, none⟩ = C[j]? from by simp [World.cell?, h.at_], ← Array.getElem?_toList] at e
  exact hC _ (List.mem_of_getElem? e) x rfl
theorem LS.far9 {w : World} {base B : Nat} {T : TypeId} {A : Option Addr} {n c : Nat} {ps : List κ.β} (h : LS κ w base T A n c ps) (hA : ownBlk A ≠ some B) (hB : ∀ j x, w.cell? ⟨B, j, none⟩ ≠ some (.int .u8 x)) (i : Nat) (v : Value) : LS κ (w.setCell ⟨B, i, none⟩ v) base T A n c ps := by
  refine ⟨⟨h.1.own.1, ?_⟩, h.2.1, fun x hx => ⟨(h.2.2 x hx).1, fun s hs => ⟨((h.2.2 x hx).2 s hs).1.farN hB i v, ((h.2.2 x hx).2 s hs).2⟩⟩⟩
  rcases h.1.own.2 with h2 | ⟨g, cap, cur, hv, hg0, hh, r⟩
  · exact .inl h2
  · refine .inr ⟨g, cap, cur, hv, hg0, (Below.heap_setCell w ⟨B, i, none⟩ v g (fun e => hA ?_)).trans hh, r⟩
    cases hv
    show some g = some B
    rw [e]
section
variable {w : World} {base : Nat} {T : TypeId} {A : Option Addr} {n c : Nat} {ps : List κ.β}
theorem wp_append_ls {o : Oper} {a : Act} {Q : Exit → Act → World → Prop} {K : Act → World → Prop} (w : World) (t T : TypeId) (s x : Operand)
    (hop : o.op = .call { callee := .builtin .append, args := #[s, x], argTypes := #[t, t] }) (z : Value) (bytes : Nat) (ht : Try.prog.underlying t = some (.slice T)) (hi : (Try.prog.info? T).map (fun i => (i.zero, i.size, i.bytes)) = some (some z, κ.K, bytes)) (hzs : z.cells.size = κ.K) (hby : bytes ≤ 1000)
    {base : Nat} {A : Option Addr} {n c : Nat} {ps : List κ.β} (hv : a.eval s = .slice A n c) {g : Nat} (hv' : a.eval x = .slice (some ⟨g, 0, none⟩) 1 1) (ho : LS κ w base T A n c ps) {q : κ.β} (hq : κ.ok q) (hk : Blk w g (κ.cells q) T)
    (hr : ∀ s ∈ κ.sl q, RB w s.1 s.2.1 s.2.2.1 s.2.2.2 ∧ (0 < s.2.1 → ∀ k, ownBlk s.1 = some k → ownBlk A ≠ some k)) (hn : n ≤ 1000000) (hb : base ≤ w.heap.size)
    (h : ∀ A2 c2 w2, LS κ w2 base T A2 (n + 1) c2 (ps ++ [q]) → w.grownBy w2 (ownBlk A) → (ownBlk A2 = ownBlk A ∨ ownBlk A2 = some w.heap.size) → K (a.put o.dst (.slice A2 (n + 1) c2)) w2) :
    o.wp Try.prog a w K Q := by
  obtain ⟨h2, hl, h3⟩ := ho
  obtain ⟨i0, hi, hz0, hz1, hz2⟩ := info_parts hi
  have hsz := κ.size q hq
  have hf1 : flatK κ [q] = (κ.cells q).toList := by simp [flatK]
  obtain ⟨v', w', e1, e2, e3, _, e5⟩ := run_append_own_at (P := Try.prog) w base t o.type T i0 z κ.K bytes ht hi hz0 hz1 hz2 hzs κ.pos _ n (flatK κ ps) h2.own ⟨g, 0, none⟩ 1 1 (flatK κ [q]) (by rw [hf1, Array.length_toList, hsz, Nat.one_mul]) (fun j u hu => by
    rw [Go.WideShapes.add_plain, Nat.zero_add]
    rw [hf1, Array.getElem?_toList] at hu
    exact hk.cell _ _ hu) (fun u hu => κ.one q hq u (by rw [hf1] at hu; exact hu)) (by unfold maxLen; omega) (by have := Nat.mul_le_mul (show n + 1 ≤ 1000001 by omega) hby; omega) hb
  have hv2 : ∃ A2 c2, v' = .slice A2 (n + 1) c2 := by
    rcases e2.2 with ⟨e, e2⟩ | ⟨g, cap, _, e, _⟩
    · exact absurd e2 (by omega)
    · exact ⟨_, _, e⟩
  obtain ⟨A2, c2, rfl⟩ := hv2
  rw [ownBlk_eq] at e3 e5
  rw [ownBlk_eq] at e5
  unfold Oper.wp execOp
  simp only [hop, resolve, invoke, builtin, Sem.run_bind, Sem.run_pure, Result.andThen_ok, List.map_toArray, List.map_cons, List.map_nil, hv, hv', e1]
  have hfar : ∀ (A0 : Option Addr) (m0 c0 : Nat) (d0 : List Int), RB w A0 m0 c0 d0 → (0 < m0 → ∀ k, ownBlk A0 = some k → ownBlk A ≠ some k) → RB w' A0 m0 c0 d0 ∧ (0 < m0 → ∀ k, ownBlk A0 = some k → ownBlk A2 ≠ some k) := fun A0 m0 c0 d0 hr0 hn0 =>
    ⟨hr0.grown hn0 e3, fun hm k hk => by
      rcases e5 with e | e
      · rw [e]; exact hn0 hm k hk
      · rw [e]
        obtain ⟨b, off, rfl, hlt, _⟩ := hr0.mem hm
        have : b = k := by simpa [ownBlk] using hk
        intro e'
        have := Option.some.inj e'
        omega⟩
  refine h A2 c2 w' ⟨⟨by rw [flatK_append]; exact e2⟩, by simp [hl], fun p hp => ?_⟩ e3 e5
  rcases List.mem_append.1 hp with hp | hp
  · exact ⟨(h3 p hp).1, fun s hs => hfar _ _ _ _ ((h3 p hp).2 s hs).1 ((h3 p hp).2 s hs).2⟩
  · simp at hp; subst hp; exact ⟨hq, fun s hs => hfar _ _ _ _ (hr s hs).1 (hr s hs).2⟩
theorem wpList_append_ls {ops : Array Oper} {rest : List Oper} {o : Oper} {a : Act} {Q : Exit → Act → World → Prop} (w : World) (hgd : o.guard = none) (t T : TypeId) (s x : Operand)
    (hop : o.op = .call { callee := .builtin .append, args := #[s, x], argTypes := #[t, t] }) (z : Value) (bytes : Nat) (ht : Try.prog.underlying t = some (.slice T)) (hi : (Try.prog.info? T).map (fun i => (i.zero, i.size, i.bytes)) = some (some z, κ.K, bytes)) (hzs : z.cells.size = κ.K) (hby : bytes ≤ 1000)
    {base : Nat} {A : Option Addr} {n c : Nat} {ps : List κ.β} (hv : a.eval s = .slice A n c) {g : Nat} (hv' : a.eval x = .slice (some ⟨g, 0, none⟩) 1 1) (ho : LS κ w base T A n c ps) {q : κ.β} (hq : κ.ok q) (hk : Blk w g (κ.cells q) T)
    (hr : ∀ s ∈ κ.sl q, RB w s.1 s.2.1 s.2.2.1 s.2.2.2 ∧ (0 < s.2.1 → ∀ k, ownBlk s.1 = some k → ownBlk A ≠ some k)) (hn : n ≤ 1000000) (hb : base ≤ w.heap.size)
    (h : ∀ A2 c2 w2, LS κ w2 base T A2 (n + 1) c2 (ps ++ [q]) → w.grownBy w2 (ownBlk A) → (ownBlk A2 = ownBlk A ∨ ownBlk A2 = some w.heap.size) → wpList Try.prog ops Q rest (a.put o.dst (.slice A2 (n + 1) c2)) w2) :
    wpList Try.prog ops Q (o :: rest) a w :=
  wpList_plain hgd fun K hK => wp_append_ls w t T s x hop z bytes ht hi hzs hby hv hv' ho hq hk hr hn hb fun A2 c2 w2 h1 h2 h3 => hK _ _ (h A2 c2 w2 h1 h2 h3)
theorem wpListIn_append_ls {l9 : Nat} {ops : Array Oper} {rest : List Oper} {o : Oper} {a : Act} {Q : Exit → Act → World → Prop} (w : World) (hgd : o.guard = none) (t T : TypeId) (s x : Operand)
    (hop : o.op = .call { callee := .builtin .append, args := #[s, x], argTypes := #[t, t] }) (z : Value) (bytes : Nat) (ht : Try.prog.underlying t = some (.slice T)) (hi : (Try.prog.info? T).map (fun i => (i.zero, i.size, i.bytes)) = some (some z, κ.K, bytes)) (hzs : z.cells.size = κ.K) (hby : bytes ≤ 1000)
    {base : Nat} {A : Option Addr} {n c : Nat} {ps : List κ.β} (hv : a.eval s = .slice A n c) {g : Nat} (hv' : a.eval x = .slice (some ⟨g, 0, none⟩) 1 1) (ho : LS κ w base T A n c ps) {q : κ.β} (hq : κ.ok q) (hk : Blk w g (κ.cells q) T)
    (hr : ∀ s ∈ κ.sl q, RB w s.1 s.2.1 s.2.2.1 s.2.2.2 ∧ (0 < s.2.1 → ∀ k, ownBlk s.1 = some k → ownBlk A ≠ some k)) (hn : n ≤ 1000000) (hb : base ≤ w.heap.size)
    (h : ∀ A2 c2 w2, LS κ w2 base T A2 (n + 1) c2 (ps ++ [q]) → w.grownBy w2 (ownBlk A) → (ownBlk A2 = ownBlk A ∨ ownBlk A2 = some w.heap.size) → wpListIn (Fence.wide.inRound l9) 0 Try.prog ops Q rest (a.put o.dst (.slice A2 (n + 1) c2)) w2) :
    wpListIn (Fence.wide.inRound l9) 0 Try.prog ops Q (o :: rest) a w :=
  wpListIn_plain hgd fun K hK => oper_in l9 (by rw [hop]; intro c hc; cases hc) (wp_append_ls w t T s x hop z bytes ht hi hzs hby hv hv' ho hq hk hr hn hb fun A2 c2 w2 h1 h2 h3 => hK _ _ (h A2 c2 w2 h1 h2 h3))
end
/-- A slice literal of one struct. -/
theorem wp_build1 {o : Oper} {a : Act} {Q : Exit → Act → World → Prop} {K : Act → World → Prop} (w : World) (t T : TypeId) (x : Operand) (hop : o.op = .buildSlice t 1 #[(0, x)]) (C : Array Value) (hx : a.eval x = .agg C) (k : Nat) (hk : C.size = k) (h0 : 0 < k) (h1 : k ≤ 1000)
    (ht : Try.prog.underlying t = some (.slice T)) (z : Value) (bytes : Nat) (hi : (Try.prog.info? T).map (fun i => (i.zero, i.size, i.bytes)) = some (some z, k, bytes))
    (h : K (a.put o.dst (.slice (some ⟨w.heap.size, 0, none⟩) 1 1)) (w.alloc (.cells C T))) : o.wp Try.prog a w K Q := by
  obtain ⟨i0, hi, hz0, hz1, hz2⟩ := info_parts hi
  refine wp_buildSlice t T 1 #[(0, x)] hop C i0 z ht hi hz0 (by rw [hz1]; omega) (by rw [hz1]; omega) ?_ h
  have := Great.fill_whole h0 [Value.agg C] ((Array.range (1 * i0.size)).map (z.cells[· % z.cells.size]!)) (by intro v hv; rw [List.mem_singleton] at hv; subst hv; exact hk) (by simp [hz1])
  rw [hz1]
  simp only [List.zipIdx_cons, List.zipIdx_nil, List.map_cons, List.map_nil] at this
  simp only [List.map_toArray, List.map_cons, List.map_nil, hx]
  rw [hz1] at this
  rw [this]
  simp [Value.cells]
theorem wpList_build1 {ops : Array Oper} {rest : List Oper} {o : Oper} {a : Act} {Q : Exit → Act → World → Prop} (w : World) (hgd : o.guard = none) (t T : TypeId) (x : Operand) (hop : o.op = .buildSlice t 1 #[(0, x)]) (C : Array Value) (hx : a.eval x = .agg C) (k : Nat) (hk : C.size = k) (h0 : 0 < k) (h1 : k ≤ 1000)
    (ht : Try.prog.underlying t = some (.slice T)) (z : Value) (bytes : Nat) (hi : (Try.prog.info? T).map (fun i => (i.zero, i.size, i.bytes)) = some (some z, k, bytes))
    (h : wpList Try.prog ops Q rest (a.put o.dst (.slice (some ⟨w.heap.size, 0, none⟩) 1 1)) (w.alloc (.cells C T))) : wpList Try.prog ops Q (o :: rest) a w :=
  wpList_plain hgd fun K hK => wp_build1 w t T x hop C hx k hk h0 h1 ht z bytes hi (hK _ _ h)
theorem wpListIn_build1 {l9 : Nat} {ops : Array Oper} {rest : List Oper} {o : Oper} {a : Act} {Q : Exit → Act → World → Prop} (w : World) (hgd : o.guard = none) (t T : TypeId) (x : Operand) (hop : o.op = .buildSlice t 1 #[(0, x)]) (C : Array Value) (hx : a.eval x = .agg C) (k : Nat) (hk : C.size = k) (h0 : 0 < k) (h1 : k ≤ 1000)
    (ht : Try.prog.underlying t = some (.slice T)) (z : Value) (bytes : Nat) (hi : (Try.prog.info? T).map (fun i => (i.zero, i.size, i.bytes)) = some (some z, k, bytes))
    (h : wpListIn (Fence.wide.inRound l9) 0 Try.prog ops Q rest (a.put o.dst (.slice (some ⟨w.heap.size, 0, none⟩) 1 1)) (w.alloc (.cells C T))) : wpListIn (Fence.wide.inRound l9) 0 Try.prog ops Q (o :: rest) a w :=
  wpListIn_plain hgd fun K hK => oper_in l9 (by rw [hop]; intro c hc; cases hc) (wp_build1 w t T x hop C hx k hk h0 h1 ht z bytes hi (hK _ _ h))
end Go.Proofs.Ytmbmmpbfmakfbaa
/- Packets of IPv4 as whole variables: loads, stores, results. -/
set_option linter.unusedVariables false
namespace Go.Proofs.Ytmbmmpbfmakfbaa
open Go Go.RowKit

theorem results_cct {P : Program} {fn : Func} {a b c : Tmp} {t u : TypeId} {T : Array Value} {w : World} {g k : Addr} {v y : Value} (h : fn.results = #[.cell a t, .cell b u, .tmp c]) (ha : T.getD a undef = .pointer (some g)) (hb : T.getD b undef = .pointer (some k)) (hl : (loadVar t g).run P w = .ok v w) (hy : (loadVar u k).run P w = .ok y w) :
    (results fn T).run P w = .ok (.tuple #[v, y, T.getD c undef]) w := by
  simp only [Array.getD_eq_getD_getElem?] at ha hb
  simp [results, h, ha, hb, asAddr, hl, hy]
theorem run_load_4 {W : World} {B : Nat} {cs : Array Value} (h : Blk W B cs 32) (hs : cs.size = 11) : (loadVar 32 ⟨B, 0, none⟩).run Try.prog W = .ok (.agg cs) W :=
  run_loadVar_row W B 32 32 cs _ _ h.at_ Try.underlying32 rfl (by rw [info_v4, hs])
theorem wpList_load_4 {ops : Array Oper} {rest : List Oper} {op : Oper} {a : Act} {W : World} {Q : Exit → Act → World → Prop} (hgd : Region.wanted op (yielded ops a.tmps) = true) (x : Operand) (ho : op.op = .load 32 x)
    (g : Nat) (hx : a.eval x = .pointer (some ⟨g, 0, none⟩)) (cs : Array Value) (hk : Blk W g cs 32) (hs : cs.size = 11)
    (h : wpList Try.prog ops Q rest (a.put op.dst (.agg cs)) W) : wpList Try.prog ops Q (op :: rest) a W :=
  BigFrame.wpList_want hgd fun _ hK => by
    unfold Oper.wp execOp
    simp only [ho, hx, Instr.loadAt, Instr.sureAddr, Sem.run_bind, Sem.run_pure, Result.andThen_ok, run_load_4 hk hs]
    exact hK _ _ h
theorem wpList_store_4 {ops : Array Oper} {rest : List Oper} {op : Oper} {a : Act} {W : World} {Q : Exit → Act → World → Prop} (hgd : op.guard = none) (x y : Operand) (ho : op.op = .store 32 x y)
    (g : Nat) (cells : Array Value) (hx : a.eval x = .pointer (some ⟨g, 0, none⟩)) (hy : a.eval y = .agg cells) (old : Array Value) (hk : Blk W g old 32) (ho' : old.size = 11) (hs : cells.size = 11) (h1 : cells.all (·.oneCell') = true)
    (h : wpList Try.prog ops Q rest (a.put op.dst undef) (W.setRow g cells)) : wpList Try.prog ops Q (op :: rest) a W :=
  wpList_store_row hgd 32 x y ho g cells hx hy 32 old hk.at_ (by rw [info_v4, hs]) (by rw [ho', hs]) h1 h
theorem one4 (p : V4P) (Ao : Option Addr) (no co : Nat) (A : Option Addr) (n c : Nat) : (cells4 p Ao no co A n c).all (·.oneCell') = true := by simp [cells4, Value.oneCell']
theorem nbc4 {X : World} {gp : Nat} {q : V4P} {x1 : Option Addr} {x2 x3 : Nat} {y1 : Option Addr} {y2 y3 : Nat} (h : Blk X gp (cells4 q x1 x2 x3 y1 y2 y3) 32) : ∀ j x, X.cell? ⟨gp, j, none⟩ ≠ some (.int .u8 x) := h.nobytes (fun u hu x => by simp at hu; rcases hu with rfl | rfl | rfl | rfl | rfl | rfl | rfl | rfl | rfl | rfl | rfl <;> simp)
theorem setRow_far (w : World) (g : Nat) (cs : Array Value) (k : Nat) (h : k ≠ g) : (w.setRow g cs).heap[k]? = w.heap[k]? := by
  simp [World.setRow, Array.getElem?_modify, Ne.symm h]
/-- A row of a variable is stored anew: nothing in it is a byte. -/
theorem RB.farRow {w : World} {B : Nat} {A : Option Addr} {n c : Nat} {bs : List Int} (h : RB w A n c bs) (hB : ∀ j x, w.cell? ⟨B, j, none⟩ ≠ some (.int .u8 x)) (cells : Array Value) : RB (w.setRow B cells) A n c bs :=
  ⟨h.len, h.nc, h.cm, h.byt, h.niln, fun hn => by
    obtain ⟨b, off, rfl, hlt, hc⟩ := h.mem hn
    have hne : b ≠ B := fun e => by subst e; exact hB _ _ (hc 0 hn)
    exact ⟨b, off, rfl, by rw [size_setRow]; exact hlt, fun j hj => (World.cell?_of_block (a := ⟨b, off + j, none⟩) (setRow_far w B cells b hne)).trans (hc j hj)⟩⟩
/-- A row of another type is stored anew: a slice of bytes of the call's own stays. -/
theorem OB.farRow {w : World} {base B : Nat} {A : Option Addr} {n c : Nat} {bs : List Int} {old : Array Value} {T : TypeId} (h : OB w base A n c bs) (hk : Blk w B old T) (ht : 5 ≠ T) (cells : Array Value) : OB (w.setRow B cells) base A n c bs := by
  refine ⟨⟨h.own.1, ?_⟩, h.byt⟩
  rcases h.own.2 with h2 | ⟨g, cap, cur, e, hg, hh, r⟩
  · exact .inl h2
  · refine .inr ⟨g, cap, cur, e, hg, (setRow_far w B cells g (fun e' => ?_)).trans hh, r⟩
    subst e'
    rw [hk.at_] at hh
    injection hh with hh
    injection hh with _ h2
    exact ht h2.symm
end Go.Proofs.Ytmbmmpbfmakfbaa
