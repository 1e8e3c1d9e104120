/- Lists of structs of three numbers and bytes: read, and made by append. -/
import Derived.Test.YtipigcpenmcaoaaQuad
import Derived.Test.YtipigcpenmcaoaaOwn
set_option linter.unusedVariables false
namespace Go.Proofs.Ytipigcpenmcaoaa
open Go.RowKit

/-- The slice '.slice A n c' holds the structs l. -/
structure LQ (w : World) (A : Option Addr) (n c : Nat) (l : List QP) : Prop where
  len : l.length = n
  nc : n ≤ c
  cm : c ≤ maxLen
  mem : 0 < n → ∃ b off, A = some ⟨b, off, none⟩ ∧ b < w.heap.size ∧ ∀ i q, l[i]? = some q → ∃ A' m c', (w.cell? ⟨b, off + i * 4, none⟩ = some (.int .i64 q.x) ∧ w.cell? ⟨b, off + i * 4 + 1, none⟩ = some (.int .i64 q.y) ∧ w.cell? ⟨b, off + i * 4 + 2, none⟩ = some (.int .i64 q.z) ∧ w.cell? ⟨b, off + i * 4 + 3, none⟩ = some (.slice A' m c')) ∧ RB w A' m c' q.data
section
variable {w w' : World} {A : Option Addr} {n c : Nat} {l : List QP}
theorem LQ.below (h : LQ w A n c l) (hb : Below w.heap.size w w') : LQ w' A n c l :=
  ⟨h.len, h.nc, h.cm, fun hn => by
    obtain ⟨b, off, e, hlt, hc⟩ := h.mem hn
    refine ⟨b, off, e, by have := hb.size; omega, fun i q hq => ?_⟩
    obtain ⟨A', m, c', ⟨h0, h1, h2, h3⟩, hr⟩ := hc i q hq
    exact ⟨A', m, c', ⟨(hb.cell (p := ⟨b, _, none⟩) hlt).trans h0, (hb.cell (p := ⟨b, _, none⟩) hlt).trans h1, (hb.cell (p := ⟨b, _, none⟩) hlt).trans h2, (hb.cell (p := ⟨b, _, none⟩) hlt).trans h3⟩, hr.below hb⟩⟩
theorem LQ.at_ (h : LQ w A n c l) {i : Nat} (hi : i < n) : ∃ b off q A' m c', A = some ⟨b, off, none⟩ ∧ b < w.heap.size ∧ l[i]? = some q ∧ (w.cell? ⟨b, off + i * 4, none⟩ = some (.int .i64 q.x) ∧ w.cell? ⟨b, off + i * 4 + 1, none⟩ = some (.int .i64 q.y) ∧ w.cell? ⟨b, off + i * 4 + 2, none⟩ = some (.int .i64 q.z) ∧ w.cell? ⟨b, off + i * 4 + 3, none⟩ = some (.slice A' m c')) ∧ RB w A' m c' q.data := by
  obtain ⟨b, off, e, hlt, hc⟩ := h.mem (by omega)
  have hl : i < l.length := by rw [h.len]; exact hi
  obtain ⟨A', m, c', h1, h2⟩ := hc i l[i] (List.getElem?_eq_getElem hl)
  exact ⟨b, off, l[i], A', m, c', e, hlt, List.getElem?_eq_getElem hl, h1, h2⟩
theorem LQ.nil (w : World) : LQ w none 0 0 [] := ⟨rfl, Nat.le_refl _, by simp [maxLen], fun h => absurd h (by omega)⟩
end

/-- Structs with where their bytes lie, cell by cell. -/
def flatQ : List (QP × Option Addr × Nat × Nat) → List Value
  | [] => []
  | p :: r => .int .i64 p.1.x :: .int .i64 p.1.y :: .int .i64 p.1.z :: .slice p.2.1 p.2.2.1 p.2.2.2 :: flatQ r
theorem flatQ_append (a b : List (QP × Option Addr × Nat × Nat)) : flatQ (a ++ b) = flatQ a ++ flatQ b := by
  induction a with
  | nil => rfl
  | cons p a ih => simp only [List.cons_append, flatQ, ih]
theorem flatQ_length (a : List (QP × Option Addr × Nat × Nat)) : (flatQ a).length = a.length * 4 := by
  induction a with
  | nil => rfl
  | cons p a ih => simp only [flatQ, List.length_cons, ih]; omega
theorem flatQ_get : ∀ (a : List (QP × Option Addr × Nat × Nat)) (i : Nat) (p : QP × Option Addr × Nat × Nat), a[i]? = some p →
    (flatQ a)[i * 4]? = some (.int .i64 p.1.x) ∧ (flatQ a)[i * 4 + 1]? = some (.int .i64 p.1.y) ∧ (flatQ a)[i * 4 + 2]? = some (.int .i64 p.1.z) ∧ (flatQ a)[i * 4 + 3]? = some (.slice p.2.1 p.2.2.1 p.2.2.2)
  | [], i, p, h => by simp at h
  | q :: a, 0, p, h => by simp at h; subst h; exact ⟨rfl, rfl, rfl, rfl⟩
  | q :: a, i + 1, p, h => by
    have := flatQ_get a i p (by simpa using h)
    have e : ∀ j, (i + 1) * 4 + j = i * 4 + j + 4 := fun j => by omega
    have e0 : (i + 1) * 4 = i * 4 + 4 := by omega
    rw [e 1, e 2, e 3, e0]
    simpa [flatQ] using this

/-- A slice of the call's own that holds the structs l; their bytes lie elsewhere. -/
def LO (w : World) (base : Nat) (T : TypeId) (A : Option Addr) (n c : Nat) (l : List QP) : Prop :=
  ∃ ps : List (QP × Option Addr × Nat × Nat), ps.map (·.1) = l ∧ OG w base T 4 A n c (flatQ ps) ∧ ∀ p ∈ ps, RB w p.2.1 p.2.2.1 p.2.2.2 p.1.data ∧ (0 < p.2.2.1 → ∀ k, ownBlk p.2.1 = some k → ownBlk A ≠ some k)
section
variable {w w' : World} {base : Nat} {T : TypeId} {A : Option Addr} {n c : Nat} {l : List QP}
theorem LO.nil (w : World) (base : Nat) (T : TypeId) : LO w base T none 0 0 [] := ⟨[], rfl, OG.nil w base T 4, fun p hp => by cases hp⟩
theorem LO.below (h : LO w base T A n c l) (hb : Below w.heap.size w w') : LO w' base T A n c l := by
  obtain ⟨ps, h1, h2, h3⟩ := h
  exact ⟨ps, h1, h2.below hb, fun p hp => ⟨(h3 p hp).1.below hb, (h3 p hp).2⟩⟩
theorem LO.alloc (h : LO w base T A n c l) (o : Obj) : LO (w.alloc o) base T A n c l := h.below ((Below.refl _ w).alloc (Nat.le_refl _) o)
theorem LO.mono {base' : Nat} (h : LO w base T A n c l) (hb : base' ≤ base) : LO w base' T A n c l := by
  obtain ⟨ps, h1, h2, h3⟩ := h
  exact ⟨ps, h1, h2.mono hb, h3⟩
theorem LO.len (h : LO w base T A n c l) : l.length = n := by
  obtain ⟨ps, rfl, h2, _⟩ := h
  have := h2.len
  rw [flatQ_length] at this
  rw [List.length_map]; omega
theorem LO.blk (h : LO w base T A n c l) {k : Nat} (hk : ownBlk A = some k) : base ≤ k ∧ k < w.heap.size := by
  obtain ⟨ps, _, h2, _⟩ := h
  exact h2.blk hk
theorem OG.cap {e : TypeId} {size : Nat} {xs : List Value} (h : OG w base e size A n c xs) : n ≤ c ∧ c ≤ maxLen := by
  rcases h.own.2 with ⟨e, hn0⟩ | ⟨g, cap, cur, e, hg, hh, hnc, hcm, r⟩
  · cases e; exact ⟨by omega, by simp [maxLen]⟩
  · cases e; exact ⟨hnc, hcm⟩
theorem LO.lq (h : LO w base T A n c l) : LQ w A n c l := by
  have hl := h.len
  obtain ⟨ps, hp, h2, h3⟩ := h
  obtain ⟨h4, h5⟩ := h2.cap
  refine ⟨hl, h4, h5, fun hn => ?_⟩
  obtain ⟨g, rfl, hg0, hg1, _, _, hc⟩ := h2.cells hn (by decide)
  refine ⟨g, 0, rfl, hg1, fun i q hq => ?_⟩
  have hi : i < n := by rw [← hl]; exact (List.getElem?_eq_some_iff.1 hq).1
  rw [← hp, List.getElem?_map] at hq
  obtain ⟨p, hp1, rfl⟩ := Option.map_eq_some_iff.1 hq
  obtain ⟨e0, e1, e2, e3⟩ := flatQ_get ps i p hp1
  refine ⟨p.2.1, p.2.2.1, p.2.2.2, ⟨?_, ?_, ?_, ?_⟩, (h3 p (List.mem_of_getElem? hp1)).1⟩
  · rw [Nat.zero_add]; exact (hc _ (by omega)).trans e0
  · rw [Nat.zero_add]; exact (hc _ (by omega)).trans e1
  · rw [Nat.zero_add]; exact (hc _ (by omega)).trans e2
  · rw [Nat.zero_add]; exact (hc _ (by omega)).trans e3
end
theorem RB.grown {w w' : World} {A : Option Addr} {n c : Nat} {bs : List Int} {row : Option Nat} (h : RB w A n c bs) (hne : 0 < n → ∀ k, ownBlk A = some k → row ≠ some k) (hg : w.grownBy w' row) : RB w' A n c bs :=
  ⟨h.len, h.nc, h.cm, h.byt, h.niln, fun hn => by
    obtain ⟨b, off, rfl, hlt, hc⟩ := h.mem hn
    have hb : w'.heap[b]? = w.heap[b]? := hg.block b hlt (fun e => hne hn b rfl e.symm)
    exact ⟨b, off, rfl, Nat.lt_of_lt_of_le hlt hg.size, fun j hj => by rw [← hc j hj]; exact World.cell?_of_block (a := ⟨b, off + j, none⟩) hb⟩⟩
/-- append of one struct, that lies in a literal. -/
theorem wpList_append_lo {ops : Array Oper} {rest : List Oper} {o : Oper} {a : Act} {Q : Exit → Act → World → Prop} (w : World) (hgd : o.guard = none) (t T : TypeId) (s x : Operand)
    (hop : o.op = .call { callee := .builtin .append, args := #[s, x], argTypes := #[t, t] }) (z : Value) (ht : Try.prog.underlying t = some (.slice T)) (hi : (Try.prog.info? T).map (fun i => (i.zero, i.size, i.bytes)) = some (some z, 4, 48)) (hzs : z.cells.size = 4)
    {base : Nat} {A : Option Addr} {n c : Nat} {l : List QP} (hv : a.eval s = .slice A n c) {g : Nat} (hv' : a.eval x = .slice (some ⟨g, 0, none⟩) 1 1) (ho : LO w base T A n c l) {q : QP} {A' : Option Addr} {m c' : Nat} (hk : Blk w g (cellsQ q A' m c') T) (hr : RB w A' m c' q.data)
    (hne : 0 < m → ∀ k, ownBlk A' = some k → ownBlk A ≠ some k) (hn : n ≤ 1000000) (hb : base ≤ w.heap.size)
    (h : ∀ A2 c2 w2, LO w2 base T A2 (n + 1) c2 (l ++ [q]) → w.grownBy w2 (ownBlk A) → (ownBlk A2 = ownBlk A ∨ ownBlk A2 = some w.heap.size) → wpList Try.prog ops Q rest (a.put o.dst (.slice A2 (n + 1) c2)) w2) :
    wpList Try.prog ops Q (o :: rest) a w := by
  refine wpList_plain hgd fun K hK => ?_
  obtain ⟨ps, hp, h2, h3⟩ := ho
  obtain ⟨i0, hi, hz0, hz1, hz2⟩ := info_parts hi
  obtain ⟨v', w', e1, e2, e3, _, e5⟩ := run_append_own_at (P := Try.prog) w base t o.type T i0 z 4 48 ht hi hz0 hz1 hz2 hzs (by decide) _ n (flatQ ps) h2.own ⟨g, 0, none⟩ 1 1 (flatQ [(q, A', m, c')]) rfl (fun j u hu => by
    rw [Go.WideShapes.add_plain, Nat.zero_add]
    have hj : j < 4 := (List.getElem?_eq_some_iff.1 hu).1
    have hc : j = 0 ∨ j = 1 ∨ j = 2 ∨ j = 3 := by omega
    rcases hc with rfl | rfl | rfl | rfl <;> (cases hu; exact hk.cell _ _ rfl)) (fun u hu => by
      simp [flatQ] at hu
      rcases hu with rfl | rfl | rfl | rfl <;> rfl) (by unfold maxLen; omega) (by omega) hb
  have hv2 : ∃ A2 c2, v' = .slice A2 (n + 1) c2 := by
    rcases e2.2 with ⟨e, e2⟩ | ⟨g, cap, _, e, _⟩
    · exact absurd e2 (by omega)
    · exact ⟨_, _, e⟩
  obtain ⟨A2, c2, rfl⟩ := hv2
  rw [ownBlk_eq] at e3 e5
  rw [ownBlk_eq] at e5
  unfold Oper.wp execOp
  simp only [hop, resolve, invoke, builtin, Sem.run_bind, Sem.run_pure, Result.andThen_ok, List.map_toArray, List.map_cons, List.map_nil, hv, hv', e1]
  have hfar : ∀ (A0 : Option Addr) (m0 c0 : Nat) (d0 : List Int), RB w A0 m0 c0 d0 → (0 < m0 → ∀ k, ownBlk A0 = some k → ownBlk A ≠ some k) → RB w' A0 m0 c0 d0 ∧ (0 < m0 → ∀ k, ownBlk A0 = some k → ownBlk A2 ≠ some k) := fun A0 m0 c0 d0 hr0 hn0 =>
    ⟨hr0.grown hn0 e3, fun hm k hk => by
      rcases e5 with e | e
      · rw [e]; exact hn0 hm k hk
      · rw [e]
        obtain ⟨b, off, rfl, hlt, _⟩ := hr0.mem hm
        have : b = k := by simpa [ownBlk] using hk
        intro e'
        have := Option.some.inj e'
        omega⟩
  exact hK _ _ (h A2 c2 w' ⟨ps ++ [(q, A', m, c')], by simp [hp], ⟨by rw [flatQ_append]; exact e2⟩, fun p hp => by
    rcases List.mem_append.1 hp with hp | hp
    · exact hfar _ _ _ _ (h3 p hp).1 (h3 p hp).2
    · simp at hp; subst hp; exact hfar _ _ _ _ hr hne⟩ e3 e5)
end Go.Proofs.Ytipigcpenmcaoaa
