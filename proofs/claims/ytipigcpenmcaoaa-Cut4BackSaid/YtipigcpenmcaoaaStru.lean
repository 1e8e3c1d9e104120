/- Lists of structs of any kind (their cells stay one word): read, made by append, made by a literal of one. -/
import Derived.Test.YtipigcpenmcaoaaQuadsIn
import Derived.Test.YtipigcpenmcaoaaMid
import Derived.Great.BuildSlice
set_option linter.unusedVariables false
namespace Go.Proofs.Ytipigcpenmcaoaa
open Go Go.RowKit

/-- A kind of structs: what is known of one; its cells; the slices of bytes that it has, with what they hold. -/
structure Kd where
  β : Type
  K : Nat
  cells : β → Array Value
  sl : β → List (Option Addr × Nat × Nat × List Int)
  ok : β → Prop
  size : ∀ x, ok x → (cells x).size = K
  one : ∀ x, ok x → ∀ u ∈ (cells x).toList, u.oneCell' = true
  pos : 0 < K

variable {κ : Kd}
def flatK (κ : Kd) (ps : List κ.β) : List Value := ps.flatMap fun x => (κ.cells x).toList
theorem flatK_append (a b : List κ.β) : flatK κ (a ++ b) = flatK κ a ++ flatK κ b := by simp [flatK]
theorem flatK_length : ∀ (ps : List κ.β), (∀ x ∈ ps, κ.ok x) → (flatK κ ps).length = ps.length * κ.K
  | [], _ => by simp [flatK]
  | x :: ps, h => by
    have h1 := flatK_length ps (fun y hy => h y (List.mem_cons_of_mem _ hy))
    have h2 := κ.size x (h x (List.mem_cons_self ..))
    have : flatK κ (x :: ps) = (κ.cells x).toList ++ flatK κ ps := by simp [flatK]
    rw [this, List.length_append, h1, Array.length_toList, h2, List.length_cons, Nat.add_mul, Nat.one_mul, Nat.add_comm]
theorem flatK_get : ∀ (ps : List κ.β), (∀ x ∈ ps, κ.ok x) → ∀ (i : Nat) (x : κ.β), ps[i]? = some x → ∀ j, j < κ.K → (flatK κ ps)[i * κ.K + j]? = (κ.cells x).toList[j]?
  | [], _, i, x, h, _, _ => by simp at h
  | y :: ps, ho, 0, x, h, j, hj => by
    simp at h; subst h
    have h2 := κ.size y (ho y (List.mem_cons_self ..))
    have : flatK κ (y :: ps) = (κ.cells y).toList ++ flatK κ ps := by simp [flatK]
    rw [this, Nat.zero_mul, Nat.zero_add, List.getElem?_append_left (by rw [Array.length_toList, h2]; exact hj)]
  | y :: ps, ho, i + 1, x, h, j, hj => by
    have h2 := κ.size y (ho y (List.mem_cons_self ..))
    have h3 := flatK_get ps (fun z hz => ho z (List.mem_cons_of_mem _ hz)) i x (by simpa using h) j hj
    have : flatK κ (y :: ps) = (κ.cells y).toList ++ flatK κ ps := by simp [flatK]
    rw [this, List.getElem?_append_right (by rw [Array.length_toList, h2, Nat.add_mul]; omega), Array.length_toList, h2, ← h3]
    congr 1
    rw [Nat.add_mul]; omega

/-- The slice '.slice A n c' holds the structs ps. -/
structure LR (κ : Kd) (w : World) (A : Option Addr) (n c : Nat) (ps : List κ.β) : Prop where
  len : ps.length = n
  nc : n ≤ c
  cm : c ≤ maxLen
  ok : ∀ x ∈ ps, κ.ok x
  mem : 0 < n → ∃ b off, A = some ⟨b, off, none⟩ ∧ b < w.heap.size ∧ ∀ i x, ps[i]? = some x → w.rangeAt b (off + i * κ.K) (κ.cells x).toList ∧ ∀ s ∈ κ.sl x, RB w s.1 s.2.1 s.2.2.1 s.2.2.2
section
variable {w w' : World} {A : Option Addr} {n c : Nat} {ps : List κ.β}
theorem LR.below (h : LR κ w A n c ps) (hb : Below w.heap.size w w') : LR κ w' A n c ps :=
  ⟨h.len, h.nc, h.cm, h.ok, fun hn => by
    obtain ⟨b, off, e, hlt, hc⟩ := h.mem hn
    refine ⟨b, off, e, by have := hb.size; omega, fun i x hx => ?_⟩
    obtain ⟨h1, h2⟩ := hc i x hx
    exact ⟨rangeAt_below h1 hb hlt, fun s hs => (h2 s hs).below hb⟩⟩
theorem LR.nil (w : World) : LR κ w none 0 0 [] := ⟨rfl, Nat.le_refl _, by simp [maxLen], fun x hx => (by cases hx), fun h => absurd h (by omega)⟩
/-- The i-th struct of a list. -/
theorem LR.mid (h : LR κ w A n c ps) {i : Nat} (hi : i < n) : ∃ b off x, A = some ⟨b, off, none⟩ ∧ b < w.heap.size ∧ ps[i]? = some x ∧ κ.ok x ∧ w.rangeAt b (off + i * κ.K) (κ.cells x).toList ∧ ∀ s ∈ κ.sl x, RB w s.1 s.2.1 s.2.2.1 s.2.2.2 := by
  obtain ⟨b, off, e, hlt, hc⟩ := h.mem (by omega)
  have hl : i < ps.length := by rw [h.len]; exact hi
  have hx := List.getElem?_eq_getElem hl
  obtain ⟨h1, h2⟩ := hc i ps[i] hx
  exact ⟨b, off, ps[i], e, hlt, hx, h.ok _ (List.getElem_mem hl), h1, h2⟩
end

/-- A slice of the call's own that holds the structs ps; their bytes lie elsewhere. -/
def LS (κ : Kd) (w : World) (base : Nat) (T : TypeId) (A : Option Addr) (n c : Nat) (ps : List κ.β) : Prop :=
  OG w base T κ.K A n c (flatK κ ps) ∧ ps.length = n ∧ ∀ x ∈ ps, κ.ok x ∧ ∀ s ∈ κ.sl x, RB w s.1 s.2.1 s.2.2.1 s.2.2.2 ∧ (0 < s.2.1 → ∀ k, ownBlk s.1 = some k → ownBlk A ≠ some k)
section
variable {w w' : World} {base : Nat} {T : TypeId} {A : Option Addr} {n c : Nat} {ps : List κ.β}
theorem LS.nil (κ : Kd) (w : World) (base : Nat) (T : TypeId) : LS κ w base T none 0 0 [] := ⟨OG.nil w base T κ.K, rfl, fun x hx => by cases hx⟩
theorem LS.below (h : LS κ w base T A n c ps) (hb : Below w.heap.size w w') : LS κ w' base T A n c ps :=
  ⟨h.1.below hb, h.2.1, fun x hx => ⟨(h.2.2 x hx).1, fun s hs => ⟨((h.2.2 x hx).2 s hs).1.below hb, ((h.2.2 x hx).2 s hs).2⟩⟩⟩
theorem LS.alloc (h : LS κ w base T A n c ps) (o : Obj) : LS κ (w.alloc o) base T A n c ps := h.below ((Below.refl _ w).alloc (Nat.le_refl _) o)
theorem LS.mono {base' : Nat} (h : LS κ w base T A n c ps) (hb : base' ≤ base) : LS κ w base' T A n c ps := ⟨h.1.mono hb, h.2⟩
theorem LS.len (h : LS κ w base T A n c ps) : ps.length = n := h.2.1
theorem LS.blk (h : LS κ w base T A n c ps) {k : Nat} (hk : ownBlk A = some k) : base ≤ k ∧ k < w.heap.size := h.1.blk hk
theorem LS.lr (h : LS κ w base T A n c ps) : LR κ w A n c ps := by
  obtain ⟨h2, hl, h3⟩ := h
  obtain ⟨h4, h5⟩ := h2.cap
  refine ⟨hl, h4, h5, fun x hx => (h3 x hx).1, fun hn => ?_⟩
  obtain ⟨g, rfl, hg0, hg1, _, _, hc⟩ := h2.cells hn κ.pos
  refine ⟨g, 0, rfl, hg1, fun i x hx => ⟨fun j v hj => ?_, fun s hs => ((h3 x (List.mem_of_getElem? hx)).2 s hs).1⟩⟩
  have hi : i < n := by rw [← hl]; exact (List.getElem?_eq_some_iff.1 hx).1
  have hK := κ.size x (h3 x (List.mem_of_getElem? hx)).1
  have hjK : j < κ.K := by have := (List.getElem?_eq_some_iff.1 hj).1; rw [Array.length_toList, hK] at this; exact this
  have hlt : i * κ.K + j < n * κ.K := by
    have : (i + 1) * κ.K ≤ n * κ.K := Nat.mul_le_mul_right _ hi
    rw [Nat.add_mul, Nat.one_mul] at this; omega
  rw [Nat.zero_add, hc _ hlt, flatK_get ps (fun x hx => (h3 x hx).1) i x hx j hjK]
  exact hj
theorem LS.gr {N : Nat} (hg : Gr N w w') (h : LS κ w base T A n c ps) : LS κ w' base T A n c ps :=
  ⟨⟨hg.own h.1.own⟩, h.2.1, fun x hx => ⟨(h.2.2 x hx).1, fun s hs => ⟨hg.rb ((h.2.2 x hx).2 s hs).1, ((h.2.2 x hx).2 s hs).2⟩⟩⟩
end

/-- A store into a block in which no byte lies. -/
theorem RB.farN {w : World} {B : Nat} {A : Option Addr} {n c : Nat} {bs : List Int} (h : RB w A n c bs) (hB : ∀ j x, w.cell? ⟨B, j, none⟩ ≠ some (.int .u8 x)) (i : Nat) (v : Value) : RB (w.setCell ⟨B, i, none⟩ v) A n c bs :=
  ⟨h.len, h.nc, h.cm, h.byt, h.niln, fun hn => by
    obtain ⟨b, off, rfl, hlt, hc⟩ := h.mem hn
    have hne : b ≠ B := fun e => by subst e; exact hB _ _ (hc 0 hn)
    exact ⟨b, off, rfl, by simpa [World.setCell] using hlt, fun j hj => by rw [← hc j hj]; exact World.cell?_of_block (a := ⟨b, off + j, none⟩) (Below.heap_setCell w ⟨B, i, none⟩ v b hne)⟩⟩
theorem RB.farB {w : World} {B : Nat} {A : Option Addr} {n c : Nat} {bs : List Int} (h : RB w A n c bs) (hB : ownBlk A ≠ some B) (i : Nat) (v : Value) : RB (w.setCell ⟨B, i, none⟩ v) A n c bs :=
  ⟨h.len, h.nc, h.cm, h.byt, h.niln, fun hn => by
    obtain ⟨b, off, rfl, hlt, hc⟩ := h.mem hn
    have hne : b ≠ B := fun e => hB (by rw [← e]; rfl)
    exact ⟨b, off, rfl, by simpa [World.setCell] using hlt, fun j hj => by rw [← hc j hj]; exact World.cell?_of_block (a := ⟨b, off + j, none⟩) (Below.heap_setCell w ⟨B, i, none⟩ v b hne)⟩⟩
theorem Blk.nobytes {w : World} {B : Nat} {C : Array Value} {T : TypeId} (h : Blk w B C T) (hC : ∀ u ∈ C.toList, ∀ x, u ≠ .int .u8 x) (j : Nat) (x : Int) : w.cell? ⟨B, j, none⟩ ≠ some (.int .u8 x) := fun e => by
  rw [show w.cell? ⟨B, j, none⟩ = C[j]? from by simp [World.cell?, h.at_], ← Array.getElem?_toList] at e
  exact hC _ (List.mem_of_getElem? e) x rfl
theorem LS.far9 {w : World} {base B : Nat} {T : TypeId} {A : Option Addr} {n c : Nat} {ps : List κ.β} (h : LS κ w base T A n c ps) (hA : ownBlk A ≠ some B) (hB : ∀ j x, w.cell? ⟨B, j, none⟩ ≠ some (.int .u8 x)) (i : Nat) (v : Value) : LS κ (w.setCell ⟨B, i, none⟩ v) base T A n c ps := by
  refine ⟨⟨h.1.own.1, ?_⟩, h.2.1, fun x hx => ⟨(h.2.2 x hx).1, fun s hs => ⟨((h.2.2 x hx).2 s hs).1.farN hB i v, ((h.2.2 x hx).2 s hs).2⟩⟩⟩
  rcases h.1.own.2 with h2 | ⟨g, cap, cur, hv, hg0, hh, r⟩
  · exact .inl h2
  · refine .inr ⟨g, cap, cur, hv, hg0, (Below.heap_setCell w ⟨B, i, none⟩ v g (fun e => hA ?_)).trans hh, r⟩
    cases hv
    show some g = some B
    rw [e]
section
variable {w : World} {base : Nat} {T : TypeId} {A : Option Addr} {n c : Nat} {ps : List κ.β}
theorem wp_append_ls {o : Oper} {a : Act} {Q : Exit → Act → World → Prop} {K : Act → World → Prop} (w : World) (t T : TypeId) (s x : Operand)
    (hop : o.op = .call { callee := .builtin .append, args := #[s, x], argTypes := #[t, t] }) (z : Value) (bytes : Nat) (ht : Try.prog.underlying t = some (.slice T)) (hi : (Try.prog.info? T).map (fun i => (i.zero, i.size, i.bytes)) = some (some z, κ.K, bytes)) (hzs : z.cells.size = κ.K) (hby : bytes ≤ 1000)
    {base : Nat} {A : Option Addr} {n c : Nat} {ps : List κ.β} (hv : a.eval s = .slice A n c) {g : Nat} (hv' : a.eval x = .slice (some ⟨g, 0, none⟩) 1 1) (ho : LS κ w base T A n c ps) {q : κ.β} (hq : κ.ok q) (hk : Blk w g (κ.cells q) T)
    (hr : ∀ s ∈ κ.sl q, RB w s.1 s.2.1 s.2.2.1 s.2.2.2 ∧ (0 < s.2.1 → ∀ k, ownBlk s.1 = some k → ownBlk A ≠ some k)) (hn : n ≤ 1000000) (hb : base ≤ w.heap.size)
    (h : ∀ A2 c2 w2, LS κ w2 base T A2 (n + 1) c2 (ps ++ [q]) → w.grownBy w2 (ownBlk A) → (ownBlk A2 = ownBlk A ∨ ownBlk A2 = some w.heap.size) → K (a.put o.dst (.slice A2 (n + 1) c2)) w2) :
    o.wp Try.prog a w K Q := by
  obtain ⟨h2, hl, h3⟩ := ho
  obtain ⟨i0, hi, hz0, hz1, hz2⟩ := info_parts hi
  have hsz := κ.size q hq
  have hf1 : flatK κ [q] = (κ.cells q).toList := by simp [flatK]
  obtain ⟨v', w', e1, e2, e3, _, e5⟩ := run_append_own_at (P := Try.prog) w base t o.type T i0 z κ.K bytes ht hi hz0 hz1 hz2 hzs κ.pos _ n (flatK κ ps) h2.own ⟨g, 0, none⟩ 1 1 (flatK κ [q]) (by rw [hf1, Array.length_toList, hsz, Nat.one_mul]) (fun j u hu => by
    rw [Go.WideShapes.add_plain, Nat.zero_add]
    rw [hf1, Array.getElem?_toList] at hu
    exact hk.cell _ _ hu) (fun u hu => κ.one q hq u (by rw [hf1] at hu; exact hu)) (by unfold maxLen; omega) (by have := Nat.mul_le_mul (show n + 1 ≤ 1000001 by omega) hby; omega) hb
  have hv2 : ∃ A2 c2, v' = .slice A2 (n + 1) c2 := by
    rcases e2.2 with ⟨e, e2⟩ | ⟨g, cap, _, e, _⟩
    · exact absurd e2 (by omega)
    · exact ⟨_, _, e⟩
  obtain ⟨A2, c2, rfl⟩ := hv2
  rw [ownBlk_eq] at e3 e5
  rw [ownBlk_eq] at e5
  unfold Oper.wp execOp
  simp only [hop, resolve, invoke, builtin, Sem.run_bind, Sem.run_pure, Result.andThen_ok, List.map_toArray, List.map_cons, List.map_nil, hv, hv', e1]
  have hfar : ∀ (A0 : Option Addr) (m0 c0 : Nat) (d0 : List Int), RB w A0 m0 c0 d0 → (0 < m0 → ∀ k, ownBlk A0 = some k → ownBlk A ≠ some k) → RB w' A0 m0 c0 d0 ∧ (0 < m0 → ∀ k, ownBlk A0 = some k → ownBlk A2 ≠ some k) := fun A0 m0 c0 d0 hr0 hn0 =>
    ⟨hr0.grown hn0 e3, fun hm k hk => by
      rcases e5 with e | e
      · rw [e]; exact hn0 hm k hk
      · rw [e]
        obtain ⟨b, off, rfl, hlt, _⟩ := hr0.mem hm
        have : b = k := by simpa [ownBlk] using hk
        intro e'
        have := Option.some.inj e'
        omega⟩
  refine h A2 c2 w' ⟨⟨by rw [flatK_append]; exact e2⟩, by simp [hl], fun p hp => ?_⟩ e3 e5
  rcases List.mem_append.1 hp with hp | hp
  · exact ⟨(h3 p hp).1, fun s hs => hfar _ _ _ _ ((h3 p hp).2 s hs).1 ((h3 p hp).2 s hs).2⟩
  · simp at hp; subst hp; exact ⟨hq, fun s hs => hfar _ _ _ _ (hr s hs).1 (hr s hs).2⟩
theorem wpList_append_ls {ops : Array Oper} {rest : List Oper} {o : Oper} {a : Act} {Q : Exit → Act → World → Prop} (w : World) (hgd : o.guard = none) (t T : TypeId) (s x : Operand)
    (hop : o.op = .call { callee := .builtin .append, args := #[s, x], argTypes := #[t, t] }) (z : Value) (bytes : Nat) (ht : Try.prog.underlying t = some (.slice T)) (hi : (Try.prog.info? T).map (fun i => (i.zero, i.size, i.bytes)) = some (some z, κ.K, bytes)) (hzs : z.cells.size = κ.K) (hby : bytes ≤ 1000)
    {base : Nat} {A : Option Addr} {n c : Nat} {ps : List κ.β} (hv : a.eval s = .slice A n c) {g : Nat} (hv' : a.eval x = .slice (some ⟨g, 0, none⟩) 1 1) (ho : LS κ w base T A n c ps) {q : κ.β} (hq : κ.ok q) (hk : Blk w g (κ.cells q) T)
    (hr : ∀ s ∈ κ.sl q, RB w s.1 s.2.1 s.2.2.1 s.2.2.2 ∧ (0 < s.2.1 → ∀ k, ownBlk s.1 = some k → ownBlk A ≠ some k)) (hn : n ≤ 1000000) (hb : base ≤ w.heap.size)
    (h : ∀ A2 c2 w2, LS κ w2 base T A2 (n + 1) c2 (ps ++ [q]) → w.grownBy w2 (ownBlk A) → (ownBlk A2 = ownBlk A ∨ ownBlk A2 = some w.heap.size) → wpList Try.prog ops Q rest (a.put o.dst (.slice A2 (n + 1) c2)) w2) :
    wpList Try.prog ops Q (o :: rest) a w :=
  wpList_plain hgd fun K hK => wp_append_ls w t T s x hop z bytes ht hi hzs hby hv hv' ho hq hk hr hn hb fun A2 c2 w2 h1 h2 h3 => hK _ _ (h A2 c2 w2 h1 h2 h3)
theorem wpListIn_append_ls {l9 : Nat} {ops : Array Oper} {rest : List Oper} {o : Oper} {a : Act} {Q : Exit → Act → World → Prop} (w : World) (hgd : o.guard = none) (t T : TypeId) (s x : Operand)
    (hop : o.op = .call { callee := .builtin .append, args := #[s, x], argTypes := #[t, t] }) (z : Value) (bytes : Nat) (ht : Try.prog.underlying t = some (.slice T)) (hi : (Try.prog.info? T).map (fun i => (i.zero, i.size, i.bytes)) = some (some z, κ.K, bytes)) (hzs : z.cells.size = κ.K) (hby : bytes ≤ 1000)
    {base : Nat} {A : Option Addr} {n c : Nat} {ps : List κ.β} (hv : a.eval s = .slice A n c) {g : Nat} (hv' : a.eval x = .slice (some ⟨g, 0, none⟩) 1 1) (ho : LS κ w base T A n c ps) {q : κ.β} (hq : κ.ok q) (hk : Blk w g (κ.cells q) T)
    (hr : ∀ s ∈ κ.sl q, RB w s.1 s.2.1 s.2.2.1 s.2.2.2 ∧ (0 < s.2.1 → ∀ k, ownBlk s.1 = some k → ownBlk A ≠ some k)) (hn : n ≤ 1000000) (hb : base ≤ w.heap.size)
    (h : ∀ A2 c2 w2, LS κ w2 base T A2 (n + 1) c2 (ps ++ [q]) → w.grownBy w2 (ownBlk A) → (ownBlk A2 = ownBlk A ∨ ownBlk A2 = some w.heap.size) → wpListIn (Fence.wide.inRound l9) 0 Try.prog ops Q rest (a.put o.dst (.slice A2 (n + 1) c2)) w2) :
    wpListIn (Fence.wide.inRound l9) 0 Try.prog ops Q (o :: rest) a w :=
  wpListIn_plain hgd fun K hK => oper_in l9 (by rw [hop]; intro c hc; cases hc) (wp_append_ls w t T s x hop z bytes ht hi hzs hby hv hv' ho hq hk hr hn hb fun A2 c2 w2 h1 h2 h3 => hK _ _ (h A2 c2 w2 h1 h2 h3))
end
/-- A slice literal of one struct. -/
theorem wp_build1 {o : Oper} {a : Act} {Q : Exit → Act → World → Prop} {K : Act → World → Prop} (w : World) (t T : TypeId) (x : Operand) (hop : o.op = .buildSlice t 1 #[(0, x)]) (C : Array Value) (hx : a.eval x = .agg C) (k : Nat) (hk : C.size = k) (h0 : 0 < k) (h1 : k ≤ 1000)
    (ht : Try.prog.underlying t = some (.slice T)) (z : Value) (bytes : Nat) (hi : (Try.prog.info? T).map (fun i => (i.zero, i.size, i.bytes)) = some (some z, k, bytes))
    (h : K (a.put o.dst (.slice (some ⟨w.heap.size, 0, none⟩) 1 1)) (w.alloc (.cells C T))) : o.wp Try.prog a w K Q := by
  obtain ⟨i0, hi, hz0, hz1, hz2⟩ := info_parts hi
  refine wp_buildSlice t T 1 #[(0, x)] hop C i0 z ht hi hz0 (by rw [hz1]; omega) (by rw [hz1]; omega) ?_ h
  have := Great.fill_whole h0 [Value.agg C] ((Array.range (1 * i0.size)).map (z.cells[· % z.cells.size]!)) (by intro v hv; rw [List.mem_singleton] at hv; subst hv; exact hk) (by simp [hz1])
  rw [hz1]
  simp only [List.zipIdx_cons, List.zipIdx_nil, List.map_cons, List.map_nil] at this
  simp only [List.map_toArray, List.map_cons, List.map_nil, hx]
  rw [hz1] at this
  rw [this]
  simp [Value.cells]
theorem wpList_build1 {ops : Array Oper} {rest : List Oper} {o : Oper} {a : Act} {Q : Exit → Act → World → Prop} (w : World) (hgd : o.guard = none) (t T : TypeId) (x : Operand) (hop : o.op = .buildSlice t 1 #[(0, x)]) (C : Array Value) (hx : a.eval x = .agg C) (k : Nat) (hk : C.size = k) (h0 : 0 < k) (h1 : k ≤ 1000)
    (ht : Try.prog.underlying t = some (.slice T)) (z : Value) (bytes : Nat) (hi : (Try.prog.info? T).map (fun i => (i.zero, i.size, i.bytes)) = some (some z, k, bytes))
    (h : wpList Try.prog ops Q rest (a.put o.dst (.slice (some ⟨w.heap.size, 0, none⟩) 1 1)) (w.alloc (.cells C T))) : wpList Try.prog ops Q (o :: rest) a w :=
  wpList_plain hgd fun K hK => wp_build1 w t T x hop C hx k hk h0 h1 ht z bytes hi (hK _ _ h)
theorem wpListIn_build1 {l9 : Nat} {ops : Array Oper} {rest : List Oper} {o : Oper} {a : Act} {Q : Exit → Act → World → Prop} (w : World) (hgd : o.guard = none) (t T : TypeId) (x : Operand) (hop : o.op = .buildSlice t 1 #[(0, x)]) (C : Array Value) (hx : a.eval x = .agg C) (k : Nat) (hk : C.size = k) (h0 : 0 < k) (h1 : k ≤ 1000)
    (ht : Try.prog.underlying t = some (.slice T)) (z : Value) (bytes : Nat) (hi : (Try.prog.info? T).map (fun i => (i.zero, i.size, i.bytes)) = some (some z, k, bytes))
    (h : wpListIn (Fence.wide.inRound l9) 0 Try.prog ops Q rest (a.put o.dst (.slice (some ⟨w.heap.size, 0, none⟩) 1 1)) (w.alloc (.cells C T))) : wpListIn (Fence.wide.inRound l9) 0 Try.prog ops Q (o :: rest) a w :=
  wpListIn_plain hgd fun K hK => oper_in l9 (by rw [hop]; intro c hc; cases hc) (wp_build1 w t T x hop C hx k hk h0 h1 ht z bytes hi (hK _ _ h))
end Go.Proofs.Ytipigcpenmcaoaa
