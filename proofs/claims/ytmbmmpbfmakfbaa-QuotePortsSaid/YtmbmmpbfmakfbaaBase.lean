/- Words for this claim: lists of bytes that lie in memory, small facts on numbers and bits. No condition. -/
import Derived.Test.YtmbmmpbfmakfbaaRows
import Derived.WalkKit
import Derived.WalkSpells
import Derived.WalkLawsBesides
import Derived.Handy
import Derived.Maps.AppendAt
import Derived.Deep.AppendLies
import Derived.Deep.Draws
import Derived.Laws.OwnMore
import Derived.Lib.Hide
import Derived.RangeFuncRecord
import Derived.RangeFuncBox
import Derived.RangeFuncNested
import Derived.RangeFuncBound
import Derived.RangeFuncCalls
import Derived.RangeFuncLeaves
import Derived.OwnWalkIn
import Derived.TacticsInMore
import Derived.LoopNIn
import Derived.LoopIn
import Derived.Shelf.Abstract
import Derived.Shelf.RegionOpen
import Derived.WalkMore
set_option linter.unusedVariables false
namespace Go.Proofs.Ytmbmmpbfmakfbaa
open Go.RowKit

theorem snocInd {α : Type} {motive : List α → Prop} (nil : motive []) (snoc : ∀ l x, motive l → motive (l ++ [x])) (l : List α) : motive l := by
  have h : ∀ r : List α, motive r.reverse := by
    intro r
    induction r with
    | nil => simpa using nil
    | cons x r ih => rw [List.reverse_cons]; exact snoc _ _ ih
  have := h l.reverse
  rwa [List.reverse_reverse] at this

/-! ### Bits of int -/
theorem wraps63 : ∀ n : Int, 0 ≤ n → n < 2 ^ 63 → IntKind.i64.wrap n = n := by
  intro n h0 h1; rw [IntKind.wrap_i64]; omega
theorem i64_mask (i : Nat) (hi : i ≤ 63) (x : Int) (h0 : 0 ≤ x) (h1 : x ≤ 9223372036854775807) : bits .and .i64 x (2 ^ i - 1) = x % 2 ^ i :=
  bits_mask .i64 63 (by decide) wraps63 i hi x h0 (by omega)
theorem i64_and65535 (x : Int) (h0 : 0 ≤ x) (h1 : x ≤ 9223372036854775807) : bits .and .i64 x 65535 = x % 65536 := i64_mask 16 (by decide) x h0 h1
theorem i64_join (i : Nat) (x y : Int) (hx0 : 0 ≤ x) (hx : x % 2 ^ i = 0) (hx1 : x ≤ 9223372036854775807) (hi : i ≤ 63) (h0 : 0 ≤ y) (h1 : y < 2 ^ i) : bits .or .i64 x y = x + y :=
  bits_join .i64 63 (by decide) wraps63 i x y hx0 hx (by omega) h0 h1 (by
    have : (2 : Int) ^ i ≤ 2 ^ 63 := by exact_mod_cast Nat.pow_le_pow_right (by decide) hi
    omega)
theorem i64_or8 (x y : Int) (hx0 : 0 ≤ x) (hx : x % 256 = 0) (hx1 : x ≤ 9223372036854775807) (h0 : 0 ≤ y) (h1 : y < 256) : bits .or .i64 x y = x + y :=
  i64_join 8 x y hx0 hx hx1 (by decide) h0 h1

/-! ### Endings -/
theorem ret_int {k : IntKind} {a b : Int} (h : a = b) : Ending.returned (.int k a) = .returned (.int k b) := by rw [h]
theorem ret2_int {k k' : IntKind} {a b c d : Int} (h : a = b) (h' : c = d) : Ending.returned (.tuple #[.int k a, .int k' c]) = .returned (.tuple #[.int k b, .int k' d]) := by rw [h, h']
theorem ret_bool {a b : Bool} (h : a = b) : Ending.returned (.bool a) = .returned (.bool b) := by rw [h]

/-! ### Lists of bytes -/
def u8s (bs : List Int) : List Value := bs.map (Value.int .u8)
def Byts (bs : List Int) : Prop := ∀ x ∈ bs, 0 ≤ x ∧ x ≤ 255
theorem Byts.get {bs : List Int} (h : Byts bs) (j : Nat) : 0 ≤ bs[j]?.getD 0 ∧ bs[j]?.getD 0 ≤ 255 := by
  cases e : bs[j]? with
  | none => simp
  | some x => exact h x (List.mem_of_getElem? e)
theorem Byts.nil : Byts [] := fun _ h => by cases h
theorem Byts.append {a b : List Int} (h : Byts a) (k : Byts b) : Byts (a ++ b) := fun x hx => (List.mem_append.1 hx).elim (h x) (k x)
theorem Byts.one {x : Int} (h0 : 0 ≤ x) (h1 : x ≤ 255) : Byts [x] := fun y hy => by simp at hy; subst hy; exact ⟨h0, h1⟩
theorem Byts.take {a : List Int} (h : Byts a) (n : Nat) : Byts (a.take n) := fun x hx => h x (List.mem_of_mem_take hx)
theorem Byts.drop {a : List Int} (h : Byts a) (n : Nat) : Byts (a.drop n) := fun x hx => h x (List.mem_of_mem_drop hx)
theorem u8s_one (bs : List Int) : ∀ u ∈ u8s bs, u.oneCell' = true := ints_oneCell _ _
theorem u8s_append (a b : List Int) : u8s (a ++ b) = u8s a ++ u8s b := by simp [u8s]
theorem u8s_length (a : List Int) : (u8s a).length = a.length := by simp [u8s]
theorem u8s_get (a : List Int) (j : Nat) (h : j < a.length) : (u8s a)[j]? = some (.int .u8 (a[j]?.getD 0)) := by
  simp [u8s, List.getElem?_eq_getElem h]

/-- The slice '.slice A n c' holds the bytes bs, in a block that lies; nil and empty let in. -/
structure RB (w : World) (A : Option Addr) (n c : Nat) (bs : List Int) : Prop where
  len : bs.length = n
  nc : n ≤ c
  cm : c ≤ maxLen
  byt : Byts bs
  niln : A = none → c = 0
  mem : 0 < n → ∃ b off, A = some ⟨b, off, none⟩ ∧ b < w.heap.size ∧ ∀ j, j < n → w.cell? ⟨b, off + j, none⟩ = some (.int .u8 (bs[j]?.getD 0))

section
variable {w w' : World} {A : Option Addr} {n c : Nat} {bs : List Int}
theorem RB.below (h : RB w A n c bs) (hb : Below w.heap.size w w') : RB w' A n c bs :=
  ⟨h.len, h.nc, h.cm, h.byt, h.niln, fun hn => by
    obtain ⟨b, off, e, hlt, hc⟩ := h.mem hn
    exact ⟨b, off, e, by have := hb.size; omega, fun j hj => (hb.cell (p := ⟨b, off + j, none⟩) hlt).trans (hc j hj)⟩⟩
theorem RB.alloc (h : RB w A n c bs) (o : Obj) : RB (w.alloc o) A n c bs := h.below ((Below.refl _ w).alloc (Nat.le_refl _) o)
theorem RB.drew (h : RB w A n c bs) : RB w.drew A n c bs := h.below (Below.refl _ w).drew
theorem RB.nil (w : World) : RB w none 0 0 [] := ⟨rfl, Nat.le_refl _, by simp [maxLen], Byts.nil, fun _ => rfl, fun h => absurd h (by omega)⟩
theorem RB.at_ (h : RB w A n c bs) (hn : 0 < n) : ∃ b off, A = some ⟨b, off, none⟩ ∧ ∀ j, j < n → w.cell? ⟨b, off + j, none⟩ = some (.int .u8 (bs[j]?.getD 0)) := by
  obtain ⟨b, off, e, _, hc⟩ := h.mem hn
  exact ⟨b, off, e, hc⟩
/-- A store into a variable's box leaves bytes elsewhere as they are. -/
theorem RB.far {B t : Nat} {v : Value} (h : RB w A n c bs) (hx : Boxed w B t v) (hv : ∀ x, v ≠ .int .u8 x) (u : Value) : RB (w.setCell ⟨B, 0, none⟩ u) A n c bs :=
  ⟨h.len, h.nc, h.cm, h.byt, h.niln, fun hn => by
    obtain ⟨b, off, e, hlt, hc⟩ := h.mem hn
    refine ⟨b, off, e, by simp [World.setCell]; exact hlt, fun j hj => ?_⟩
    rw [World.cell?_setCell_other w _ _ _ (fun e' => ?_)]
    · exact hc j hj
    · have hb : B = b := congrArg Addr.block e'
      have ho : 0 = off + j := congrArg Addr.off e'
      have h1 := hc j hj
      rw [← hb, ← ho, hx.cell] at h1
      exact hv _ (Option.some.inj h1)⟩
/-- A slice of bytes of the call's own, in a block from base on. -/
structure OB (w : World) (base : Nat) (A : Option Addr) (n c : Nat) (bs : List Int) : Prop where
  own : w.ownsRow base 5 1 (.slice A n c) n (u8s bs)
  byt : Byts bs
theorem OB.len {base : Nat} (h : OB w base A n c bs) : bs.length = n := by have := h.own.1; rw [u8s_length] at this; omega
theorem OB.rb {base : Nat} (h : OB w base A n c bs) : RB w A n c bs := by
  have hl := h.len
  rcases h.own.2 with ⟨e, hn⟩ | ⟨g, cap, cur, e, hg, hh, hnc, hcm, hsz, htk⟩
  · cases e; exact ⟨hl, Nat.le_refl _, by simp [maxLen], h.byt, fun _ => rfl, fun h => absurd h (by omega)⟩
  · cases e
    refine ⟨hl, hnc, hcm, h.byt, fun h => by (cases h), fun hn => ⟨g, 0, rfl, (Array.getElem?_eq_some_iff.1 hh).1, fun j hj => ?_⟩⟩
    have hcell : w.cell? ⟨g, 0 + j, none⟩ = cur[j]? := by simp [World.cell?, hh]
    rw [hcell, ← u8s_get bs j (by omega), ← htk, List.getElem?_take, if_pos (by omega), Array.getElem?_toList]
theorem OB.nil (w : World) (base : Nat) : OB w base none 0 0 [] := ⟨⟨rfl, .inl ⟨rfl, rfl⟩⟩, Byts.nil⟩
theorem OB.alloc {base : Nat} (h : OB w base A n c bs) (o : Obj) : OB (w.alloc o) base A n c bs := ⟨h.own.alloc o, h.byt⟩
theorem OB.mono {base base' : Nat} (h : OB w base A n c bs) (hb : base' ≤ base) : OB w base' A n c bs := by
  refine ⟨⟨h.own.1, ?_⟩, h.byt⟩
  rcases h.own.2 with h | ⟨g, cap, cur, e, hg, r⟩
  · exact .inl h
  · exact .inr ⟨g, cap, cur, e, by omega, r⟩
theorem OB.below {base : Nat} (h : OB w base A n c bs) (hb : Below w.heap.size w w') : OB w' base A n c bs := by
  refine ⟨⟨h.own.1, ?_⟩, h.byt⟩
  rcases h.own.2 with h | ⟨g, cap, cur, e, hg, hh, r⟩
  · exact .inl h
  · exact .inr ⟨g, cap, cur, e, hg, (hb.block g (Array.getElem?_eq_some_iff.1 hh).1).trans hh, r⟩
/-- A literal of bytes that is the call's own. -/
theorem OB.lit (w : World) (base : Nat) (hb : base ≤ w.heap.size) (bs : List Int) (hbs : Byts bs) (hl : bs.length ≤ 100000) : OB (w.alloc (.cells (u8s bs).toArray 5)) base (some ⟨w.heap.size, 0, none⟩) bs.length bs.length bs :=
  ⟨⟨by rw [u8s_length, Nat.mul_one], .inr ⟨w.heap.size, bs.length, (u8s bs).toArray, rfl, hb, World.alloc_heap_new w _, Nat.le_refl _, by unfold maxLen; omega, by simp [u8s_length], by rw [Nat.mul_one, List.take_of_length_le]; rw [u8s_length]; omega⟩⟩, hbs⟩
/-- A literal of bytes. -/
theorem RB.lit (w : World) (T : TypeId) (bs : List Int) (hb : Byts bs) (hl : bs.length ≤ 100000) : RB (w.alloc (.cells (u8s bs).toArray T)) (some ⟨w.heap.size, 0, none⟩) bs.length bs.length bs :=
  ⟨rfl, Nat.le_refl _, by unfold maxLen; omega, hb, fun h => by (cases h), fun hn => ⟨w.heap.size, 0, rfl, by simp, fun j hj => by
    rw [World.cell?_alloc_at _ _ _ _ rfl, Nat.zero_add, List.getElem?_toArray]; exact u8s_get bs j hj⟩⟩
end

/-- The slice '.slice A n c' holds slices that hold the lists of bytes l. -/
structure RBB (w : World) (A : Option Addr) (n c : Nat) (l : List (List Int)) : Prop where
  len : l.length = n
  nc : n ≤ c
  cm : c ≤ maxLen
  mem : 0 < n → ∃ b off, A = some ⟨b, off, none⟩ ∧ b < w.heap.size ∧ ∀ j, j < n → ∃ A' n' c', w.cell? ⟨b, off + j, none⟩ = some (.slice A' n' c') ∧ RB w A' n' c' (l[j]?.getD [])
theorem RBB.below {w w' : World} {A : Option Addr} {n c : Nat} {l : List (List Int)} (h : RBB w A n c l) (hb : Below w.heap.size w w') : RBB w' A n c l :=
  ⟨h.len, h.nc, h.cm, fun hn => by
    obtain ⟨b, off, e, hlt, hc⟩ := h.mem hn
    exact ⟨b, off, e, by have := hb.size; omega, fun j hj => by
      obtain ⟨A', n', c', h1, h2⟩ := hc j hj
      exact ⟨A', n', c', (hb.cell (p := ⟨b, off + j, none⟩) hlt).trans h1, h2.below hb⟩⟩⟩
theorem RBB.byts {w : World} {A : Option Addr} {n c : Nat} {l : List (List Int)} (h : RBB w A n c l) : ∀ bs ∈ l, Byts bs := by
  intro bs hbs
  obtain ⟨j, hj⟩ := List.getElem?_of_mem hbs
  have hlt : j < n := by have := (List.getElem?_eq_some_iff.1 hj).1; rw [h.len] at this; exact this
  obtain ⟨_, _, _, _, hc⟩ := h.mem (by omega)
  obtain ⟨_, _, _, _, hr⟩ := hc j hlt
  rw [hj] at hr
  exact hr.byt
/-- A literal of slices of bytes. -/
theorem RBB.lit (w : World) (T : TypeId) (ps : List (Option Addr × Nat × Nat × List Int)) (h : ∀ p ∈ ps, RB w p.1 p.2.1 p.2.2.1 p.2.2.2) (hl : ps.length ≤ 100000) :
    RBB (w.alloc (.cells (ps.map fun p => Value.slice p.1 p.2.1 p.2.2.1).toArray T)) (some ⟨w.heap.size, 0, none⟩) ps.length ps.length (ps.map (·.2.2.2)) :=
  ⟨by simp, Nat.le_refl _, by unfold maxLen; omega, fun hn => ⟨w.heap.size, 0, rfl, by simp, fun j hj => by
    refine ⟨ps[j].1, ps[j].2.1, ps[j].2.2.1, ?_, ?_⟩
    · rw [World.cell?_alloc_at _ _ _ _ rfl, Nat.zero_add, List.getElem?_toArray, List.getElem?_map, List.getElem?_eq_getElem hj]; rfl
    · rw [List.getElem?_map, List.getElem?_eq_getElem hj]
      exact (h _ (List.getElem_mem hj)).alloc _⟩⟩
/-- Parts of no more than so many bytes, no more than so many. -/
def Small (l : List (List Int)) : Prop := l.length ≤ 100000 ∧ ∀ bs ∈ l, bs.length ≤ 100000 ∧ Byts bs
theorem Small.get {l : List (List Int)} (h : Small l) (k : Nat) : (l[k]?.getD []).length ≤ 100000 ∧ Byts (l[k]?.getD []) := by
  cases e : l[k]? with
  | none => exact ⟨by simp, Byts.nil⟩
  | some x => exact h.2 x (List.mem_of_getElem? e)
end Go.Proofs.Ytmbmmpbfmakfbaa
/- A range over a function whose iterator hands on a known list, in order: one law for the caller, at the wide fence; and what a function owes at its return. -/
set_option linter.unusedVariables false
namespace Go.Proofs.Ytmbmmpbfmakfbaa
open Go.RowKit

theorem call_wide {P : Program} {f : FuncId} {args : Array Value} {w : World} {R : Ending → World → Prop} (h : Calls P f args w R) : Fence.wide.fn f ∧ Fence.wide.depth = none ∧ CallsIn Fence.wide 0 P f args w R := ⟨trivial, rfl, callsIn_wide.2 h⟩

theorem call_round {P : Program} {f : FuncId} {args : Array Value} {w : World} {R : Ending → World → Prop} (l : Nat) (h : Calls P f args w R) : Fence.wide.fn f ∧ Fence.wide.depth = none ∧ CallsIn (Fence.wide.inRound l) 0 P f args w R := ⟨trivial, rfl, CallsIn.inRound l (callsIn_wide.2 h)⟩

/-- The records of loops over functions, and the blocks for their rounds' deferred calls. -/
def isRec : Obj → Bool
  | .loop .. => true
  | .deferred .. => true
  | _ => false

/-- From A to B nothing turns but records from block N on; new blocks come. -/
structure Gr (N : Nat) (A B : World) : Prop where
  os : B.os = A.os
  tape : B.tape = A.tape
  output : B.output = A.output
  size : A.heap.size ≤ B.heap.size
  keep : ∀ k o, A.heap[k]? = some o → (k < N ∨ isRec o = false) → B.heap[k]? = some o

theorem Gr.refl (N : Nat) (A : World) : Gr N A A := ⟨rfl, rfl, rfl, Nat.le_refl _, fun _ _ h _ => h⟩
theorem Gr.trans {N : Nat} {A B C : World} (h : Gr N A B) (k : Gr N B C) : Gr N A C :=
  ⟨k.os.trans h.os, k.tape.trans h.tape, k.output.trans h.output, Nat.le_trans h.size k.size, fun i o hi hc => k.keep i o (h.keep i o hi hc) hc⟩
theorem Gr.of_below {N : Nat} {A B : World} (h : Below A.heap.size A B) : Gr N A B :=
  ⟨h.os, h.tape, h.output, h.size, fun k o hk _ => (h.block k (Array.getElem?_eq_some_iff.1 hk).1).trans hk⟩
theorem Gr.alloc (N : Nat) (A : World) (o : Obj) : Gr N A (A.alloc o) := Gr.of_below ((Below.refl _ A).alloc (Nat.le_refl _) o)
theorem Gr.put {N : Nat} {A : World} {l : Nat} {o : Obj} (o' : Obj) (hN : N ≤ l) (h : A.heap[l]? = some o) (hr : isRec o = true) : Gr N A (A.putObj l o') :=
  ⟨rfl, rfl, rfl, by simp, fun k o'' hk hc => by
    by_cases e : k = l
    · subst e
      rw [h] at hk; cases hk
      rcases hc with hc | hc
      · omega
      · rw [hr] at hc; cases hc
    · exact (World.putObj_heap_other e).trans hk⟩
theorem Gr.mono {N N' : Nat} {A B : World} (h : Gr N A B) (hN : N' ≤ N) : Gr N' A B :=
  ⟨h.os, h.tape, h.output, h.size, fun k o hk hc => h.keep k o hk (hc.elim (fun h => .inl (by omega)) .inr)⟩
theorem Gr.cell {N : Nat} {A B : World} (h : Gr N A B) {p : Addr} {v : Value} (hc : A.cell? p = some v) : B.cell? p = some v := by
  obtain ⟨o, ho, hr⟩ := cells_of_cell hc
  have := h.keep _ o ho (.inr (by cases o <;> simp_all [Obj.isCells, isRec]))
  exact (World.cell?_of_block (this.trans ho.symm)).trans hc
theorem Gr.frozen {N : Nat} {A B : World} (h : Gr N A B) {p : Addr} {v : Value} (hc : A.cell? p = some v) : B.frozen? p = A.frozen? p := by
  obtain ⟨o, ho, hr⟩ := cells_of_cell hc
  have := h.keep _ o ho (.inr (by cases o <;> simp_all [Obj.isCells, isRec]))
  exact World.frozen?_of_block (this.trans ho.symm)
theorem Gr.below {N n₀ : Nat} {w A B : World} (h : Gr N A B) (hn : n₀ ≤ N) (hb : Below n₀ w A) (hs : n₀ ≤ w.heap.size) : Below n₀ w B :=
  ⟨h.os.trans hb.os, h.tape.trans hb.tape, h.output.trans hb.output, Nat.le_trans hb.size h.size, fun k hk => by
    have hlt : k < A.heap.size := by have := hb.size; omega
    have := h.keep k _ (Array.getElem?_eq_getElem hlt) (.inl (by omega))
    rw [this, ← hb.block k hk, Array.getElem?_eq_getElem hlt]⟩
theorem Gr.boxed {N : Nat} {A B : World} (h : Gr N A B) {b t : Nat} {v : Value} (hx : Boxed A b t v) : Boxed B b t v := h.keep b _ hx (.inr rfl)
theorem Gr.rb {N : Nat} {A B : World} (h : Gr N A B) {a : Option Addr} {n c : Nat} {bs : List Int} (hx : RB A a n c bs) : RB B a n c bs :=
  ⟨hx.len, hx.nc, hx.cm, hx.byt, hx.niln, fun hn => by
    obtain ⟨b, off, e, hlt, hc⟩ := hx.mem hn
    exact ⟨b, off, e, by have := h.size; omega, fun j hj => h.cell (hc j hj)⟩⟩
theorem Gr.own {N : Nat} {A B : World} (h : Gr N A B) {base e size n : Nat} {v : Value} {xs : List Value} (hx : A.ownsRow base e size v n xs) : B.ownsRow base e size v n xs := by
  obtain ⟨h1, h2⟩ := hx
  refine ⟨h1, ?_⟩
  rcases h2 with h2 | ⟨g, cap, cur, hv, hg, hh, r⟩
  · exact Or.inl h2
  · exact Or.inr ⟨g, cap, cur, hv, hg, h.keep g _ hh (.inr rfl), r⟩

/-- Below block N nothing but what is the caller's own has turned. -/
structure KeepX (own : Nat → Prop) (N : Nat) (A B : World) : Prop where
  os : B.os = A.os
  tape : B.tape = A.tape
  output : B.output = A.output
  size : A.heap.size ≤ B.heap.size
  keep : ∀ k, k < N → ¬ own k → B.heap[k]? = A.heap[k]?
theorem KeepX.refl (own : Nat → Prop) (N : Nat) (A : World) : KeepX own N A A := ⟨rfl, rfl, rfl, Nat.le_refl _, fun _ _ _ => rfl⟩
theorem KeepX.trans {own : Nat → Prop} {N : Nat} {A B C : World} (h : KeepX own N A B) (k : KeepX own N B C) : KeepX own N A C :=
  ⟨k.os.trans h.os, k.tape.trans h.tape, k.output.trans h.output, Nat.le_trans h.size k.size, fun i hi ho => (k.keep i hi ho).trans (h.keep i hi ho)⟩
theorem KeepX.mono {own : Nat → Prop} {N N' : Nat} {A B : World} (h : KeepX own N A B) (hN : N' ≤ N) : KeepX own N' A B := ⟨h.os, h.tape, h.output, h.size, fun k hk ho => h.keep k (by omega) ho⟩
theorem KeepX.of_below {own : Nat → Prop} {N M : Nat} {A B : World} (h : Below M A B) (hN : N ≤ M) : KeepX own N A B := ⟨h.os, h.tape, h.output, h.size, fun k hk _ => h.block k (by omega)⟩
theorem KeepX.setCell {own : Nat → Prop} {N : Nat} {A B : World} (h : KeepX own N A B) {p : Addr} (hp : own p.block ∨ N ≤ p.block) (v : Value) : KeepX own N A (B.setCell p v) :=
  ⟨h.os, h.tape, h.output, by have := h.size; simp [World.setCell]; omega, fun k hk ho => by
    rw [Below.heap_setCell _ _ _ _ (fun e => by subst e; rcases hp with hp | hp; exact ho hp; omega)]; exact h.keep k hk ho⟩
theorem KeepX.alloc {own : Nat → Prop} {N : Nat} {A B : World} (h : KeepX own N A B) (hN : N ≤ B.heap.size) (o : Obj) : KeepX own N A (B.alloc o) :=
  h.trans (KeepX.of_below ((Below.refl _ B).alloc (Nat.le_refl _) o) hN)
theorem KeepX.grown {own : Nat → Prop} {N : Nat} {A B C : World} {row : Option Nat} (h : KeepX own N A B) (hg : B.grownBy C row) (hN : N ≤ B.heap.size) (hr : ∀ k, row = some k → own k ∨ N ≤ k) : KeepX own N A C :=
  h.trans ⟨hg.os, hg.tape, hg.output, hg.size, fun k hk ho => hg.block k (by omega) (fun e => by rcases hr k e.symm with h | h; exact ho h; omega)⟩
theorem KeepX.put {own : Nat → Prop} {N : Nat} {A : World} {l : Nat} (o' : Obj) (hN : N ≤ l) : KeepX own N A (A.putObj l o') :=
  ⟨rfl, rfl, rfl, by simp, fun k hk _ => World.putObj_heap_other (by omega)⟩
theorem KeepX.cell {own : Nat → Prop} {N : Nat} {A B : World} (h : KeepX own N A B) {p : Addr} (hp : p.block < N) (ho : ¬ own p.block) : B.cell? p = A.cell? p :=
  World.cell?_of_block (w := A) (h.keep p.block hp ho)
theorem KeepX.rb {own : Nat → Prop} {N : Nat} {A B : World} (h : KeepX own N A B) {b off n c : Nat} {bs : List Int} (hx : RB A (some ⟨b, off, none⟩) n c bs) (hp : b < N) (ho : ¬ own b) : RB B (some ⟨b, off, none⟩) n c bs :=
  ⟨hx.len, hx.nc, hx.cm, hx.byt, hx.niln, fun hn => by
    obtain ⟨b', off', e, hlt, hc⟩ := hx.mem hn
    cases e
    exact ⟨b, off, rfl, by have := h.size; omega, fun j hj => (h.cell (p := ⟨b, off + j, none⟩) hp ho).trans (hc j hj)⟩⟩

/-- The function value hands on the list es, in order; of what lay it reads nothing that is the caller's own. -/
def SeqIs (P : Program) (gf : Nat) (lb : Array Value) (es : List (Array Value)) (own : Nat → Prop) (w : World) : Prop :=
  ∀ (l : Nat) (J Jx : Nat → World → Prop) (W : World), Below w.heap.size w W →
    (∀ i A B, J i A → Below A.heap.size A B → J i B) → (∀ i A B, Jx i A → Below A.heap.size A B → Jx i B) →
    (∀ i e W1, es[i]? = some e → J i W1 → YieldAt Fence.wide 0 P l e W1 fun r W' =>
      (r = .returned (.bool true) ∧ J (i + 1) W' ∧ KeepX own w.heap.size W1 W') ∨ (r = .returned (.bool false) ∧ Jx (i + 1) W')) →
    J 0 W →
    CallsIn Fence.wide 0 P gf (#[.func (.yield l) #[] #[]] ++ lb) W fun e W' => (∃ v, e = .returned v) ∧ (J es.length W' ∨ ∃ i, i ≤ es.length ∧ Jx i W')

/-- How the body of a round may be left. -/
def bodyEnd (own : Nat → Prop) (N : Nat) (I : Nat → World → Prop) (Ix : Code → Nat → World → Prop) (i : Nat) (W : World) : Exit → Act → World → Prop
  | .normal, _, W' => KeepX own (N + 2) W W' ∧ I i W'
  | .ret, _, W' => KeepX own (N + 2) W W' ∧ Ix .ret i W'
  | .exit id, _, W' => KeepX own (N + 2) W W' ∧ Ix (.exit id) i W'
  | .goto t, _, W' => KeepX own (N + 2) W W' ∧ Ix (.goto t) i W'
  | .panic _, _, _ => False
  | .outgrown, _, _ => False

section
variable {P : Program}
/-- The statement over such an iterator. -/
theorem range_is {g : Operand} {ps : Array Tmp} {assign body : Code} {Q : Exit → Act → World → Prop} {a : Act} {w : World}
    {gf : Nat} {lb : Array Value} (hg : a.eval g = .func (.func gf) #[] lb) (eg : ∀ args w, (callFunc gf args).run P w = .ok (.enter gf args) w)
    {es : List (Array Value)} {own : Nat → Prop} (ho1 : ¬ own w.heap.size) (ho2 : ¬ own (w.heap.size + 1)) (hseq : SeqIs P gf lb es own w) (hps : ∀ e ∈ es, e.size = ps.size)
    (I : Nat → World → Prop) (Ix : Code → Nat → World → Prop)
    (hI : ∀ i A B, I i A → Gr w.heap.size A B → I i B) (hIx : ∀ c i A B, Ix c i A → Gr w.heap.size A B → Ix c i B) (h0 : I 0 w)
    (hround : ∀ (l : Nat) (i : Nat) (e : Array Value) (W : World), es[i]? = some e → I i W → w.heap.size + 2 ≤ W.heap.size →
      assign.wpIn (Fence.wide.inRound l) 0 P (Exit.then (fun a₁ W₁ => Below W.heap.size W W₁ ∧ ∀ W₂, Gr w.heap.size W₁ W₂ → W₂.heap.size = W₁.heap.size → body.wpIn (Fence.wide.inRound l) 0 P (bodyEnd own w.heap.size I Ix (i + 1) W₂) a₁ W₂) (fun _ _ _ => False))
        { tmps := (ps.zip e).foldl (fun t (p, v) => t.setIfInBounds p v) a.tmps, defers := [] } W)
    (hdone : ∀ (D : Nat) (W : World), D = w.heap.size → I es.length W → W.heap[D]? = some (.deferred (some [])) → Q .normal { a with defers := { target := .collected D, args := #[] } :: a.defers } W)
    (hstop : ∀ (D : Nat) (c : Code) (i : Nat) (W : World), D = w.heap.size → i ≤ es.length → Ix c i W → W.heap[D]? = some (.deferred (some [])) → c.wpIn Fence.wide 0 P Q { a with defers := { target := .collected D, args := #[] } :: a.defers } W) :
    (Code.rangeFunc g ps assign body).wpIn Fence.wide 0 P Q a w := by
  refine wpIn_rangeFunc fun fn hfn => ?_
  obtain ⟨rec, hrec⟩ : ∃ rec : LoopState → Option Code → Loop, rec = fun st pe => { state := st, pending := pe, fn, tmps := a.tmps, params := ps, assign, body, defers := w.heap.size } := ⟨_, rfl⟩
  obtain ⟨W1, hW1⟩ : ∃ W1, (w.alloc (.deferred (some []))).alloc (.loop (rec .ready none)) = W1 := ⟨_, rfl⟩
  have hL1 : W1.heap[w.heap.size + 1]? = some (.loop (rec .ready none)) := by
    rw [← hW1]; have := World.alloc_heap_new (w.alloc (.deferred (some []))) (.loop (rec .ready none)); rwa [World.size_alloc] at this
  have hK1 : W1.heap[w.heap.size]? = some (.deferred (some [])) := by
    rw [← hW1]; exact (Below.heap_alloc _ _ _ (by simp)).trans (World.alloc_heap_new w _)
  have hB1 : Below w.heap.size w W1 := by
    rw [← hW1]; exact ((Below.refl _ w).alloc (Nat.le_refl _) _).alloc (by simp) _
  have hS1 : W1.heap.size = w.heap.size + 2 := by rw [← hW1]; simp
  refine ⟨w.heap.size + 1, [{ target := .collected w.heap.size, args := #[] }], W1, { target := .fn (.func gf) lb, args := #[.func (.yield (w.heap.size + 1)) #[] #[]] }, W1, gf,
    #[.func (.yield (w.heap.size + 1)) #[] #[]] ++ lb, W1, ?_, ?_, ?_, ?_, (fun h => by cases h), ?_⟩
  · rw [← hW1, hrec]; exact run_enterLoop_outer _ _ _ _ _
  · simp only [resolve, hg]
    simp [go_sem]
  · intro f' _; exact trivial
  · simp [invoke, go_sem, eg]
  · refine (hseq (w.heap.size + 1)
      (fun i W => (I i W ∧ w.heap.size + 2 ≤ W.heap.size) ∧ W.heap[w.heap.size + 1]? = some (.loop (rec .ready none)) ∧ W.heap[w.heap.size]? = some (.deferred (some [])))
      (fun i W => ∃ c, Ix c i W ∧ W.heap[w.heap.size + 1]? = some (.loop (rec .done (some c))) ∧ W.heap[w.heap.size]? = some (.deferred (some [])))
      W1 hB1 ?_ ?_ ?_ ⟨⟨hI _ _ _ h0 (Gr.of_below hB1), by omega⟩, hL1, hK1⟩).mono ?_
    · rintro i A B ⟨⟨h1, hs⟩, h2, h3⟩ hb
      exact ⟨⟨hI _ _ _ h1 (Gr.of_below hb), Nat.le_trans hs hb.size⟩, (hb.block _ (Array.getElem?_eq_some_iff.1 h2).1).trans h2, (hb.block _ (Array.getElem?_eq_some_iff.1 h3).1).trans h3⟩
    · rintro i A B ⟨c, h1, h2, h3⟩ hb
      exact ⟨c, hIx _ _ _ _ h1 (Gr.of_below hb), (hb.block _ (Array.getElem?_eq_some_iff.1 h2).1).trans h2, (hb.block _ (Array.getElem?_eq_some_iff.1 h3).1).trans h3⟩
    · rintro i e W he ⟨⟨hi, hs⟩, hl, hk⟩
      have hy := run_yield (P := P) (args := e) hl (by rw [hrec]; exact hps e (List.mem_of_getElem? he))
      rw [hrec] at hy
      refine ⟨fn, _, assign, body, hy, roundIn_of_wpIn hfn (wpIn_mono (hround _ i e W he hi hs) ?_)⟩
      rintro ex a₁ W₁ hq
      cases ex with
      | normal =>
        obtain ⟨hb1, hbody⟩ := hq
        have hl1 := (hb1.block _ (Array.getElem?_eq_some_iff.1 hl).1).trans hl
        have hk1 := (hb1.block _ (Array.getElem?_eq_some_iff.1 hk).1).trans hk
        obtain ⟨W₂, hW2⟩ : ∃ W₂, W₁.putObj (w.heap.size + 1) (.loop { rec .ready none with state := .busy }) = W₂ := ⟨_, rfl⟩
        have hg2 : Gr w.heap.size W₁ W₂ := by rw [← hW2]; exact Gr.put _ (by omega) hl1 rfl
        have hl2 : W₂.heap[w.heap.size + 1]? = some (.loop { rec .ready none with state := .busy }) := by
          rw [← hW2]; exact World.putObj_heap_same (Array.getElem?_eq_some_iff.1 hl1).1
        have hk2 : W₂.heap[w.heap.size]? = some (.deferred (some [])) := by rw [← hW2]; exact (World.putObj_heap_other (by omega)).trans hk1
        have hs2 : W₂.heap.size = W₁.heap.size := by rw [← hW2]; simp
        have hx2 : KeepX own w.heap.size W W₂ := by
          rw [← hW2]; exact (KeepX.of_below hb1 (by omega)).trans (KeepX.put _ (by omega))
        refine ⟨W₂, by rw [← hW2]; exact run_beginRound hl1 (by rw [hrec]), wpIn_mono (hbody W₂ hg2 hs2) ?_⟩
        have fin : ∀ (jump : Option Code) (W3 : World), KeepX own (w.heap.size + 2) W₂ W3 →
            (Instr.endRound (w.heap.size + 1) jump).run P W3 = .ok (.bool jump.isNone) (W3.putObj (w.heap.size + 1) (.loop (rec (if jump.isNone then .ready else .done) jump))) ∧
            Gr w.heap.size W3 (W3.putObj (w.heap.size + 1) (.loop (rec (if jump.isNone then .ready else .done) jump))) ∧
            (W3.putObj (w.heap.size + 1) (.loop (rec (if jump.isNone then .ready else .done) jump))).heap[w.heap.size + 1]? = some (.loop (rec (if jump.isNone then .ready else .done) jump)) ∧
            (W3.putObj (w.heap.size + 1) (.loop (rec (if jump.isNone then .ready else .done) jump))).heap[w.heap.size]? = some (.deferred (some [])) ∧
            w.heap.size + 2 ≤ W3.heap.size := fun jump W3 hk3 => by
          have hl3 := (hk3.keep (w.heap.size + 1) (by omega) ho2).trans hl2
          have hd3 := (hk3.keep w.heap.size (by omega) ho1).trans hk2
          have := run_endRound (P := P) jump hl3
          rw [hrec] at this ⊢
          refine ⟨this, Gr.put _ (by omega) hl3 rfl, World.putObj_heap_same (Array.getElem?_eq_some_iff.1 hl3).1, (World.putObj_heap_other (by omega)).trans hd3, ?_⟩
          have := (Array.getElem?_eq_some_iff.1 hl3).1
          omega
        rintro e₃ a₃ W3 hp
        cases e₃ with
        | normal =>
          obtain ⟨hk3, hi3⟩ := hp
          obtain ⟨hr, hg3, hl3, hd3, hs3⟩ := fin none W3 hk3
          exact ⟨_, _, hr, .inl ⟨rfl, ⟨⟨hI _ _ _ hi3 hg3, by simpa using hs3⟩, hl3, hd3⟩, (hx2.trans (hk3.mono (by omega))).trans (KeepX.put _ (by omega))⟩⟩
        | ret =>
          obtain ⟨hk3, hi3⟩ := hp
          obtain ⟨hr, hg3, hl3, hd3, hs3⟩ := fin (some .ret) W3 hk3
          exact ⟨_, _, hr, .inr ⟨rfl, .ret, hIx _ _ _ _ hi3 hg3, hl3, hd3⟩⟩
        | exit id =>
          obtain ⟨hk3, hi3⟩ := hp
          obtain ⟨hr, hg3, hl3, hd3, hs3⟩ := fin (some (.exit id)) W3 hk3
          exact ⟨_, _, hr, .inr ⟨rfl, .exit id, hIx _ _ _ _ hi3 hg3, hl3, hd3⟩⟩
        | goto t =>
          obtain ⟨hk3, hi3⟩ := hp
          obtain ⟨hr, hg3, hl3, hd3, hs3⟩ := fin (some (.goto t)) W3 hk3
          exact ⟨_, _, hr, .inr ⟨rfl, .goto t, hIx _ _ _ _ hi3 hg3, hl3, hd3⟩⟩
        | panic ch => exact hp.elim
        | outgrown => exact hp.elim
      | exit id => exact hq.elim
      | goto t => exact hq.elim
      | ret => exact hq.elim
      | panic ch => exact hq.elim
      | outgrown => exact hq.elim
    · rintro e W2 ⟨⟨v, rfl⟩, (⟨⟨hi, hs⟩, hl, hk⟩ | ⟨i, hle, c, hi, hl, hk⟩)⟩
      · exact ⟨none, _, by have := run_endLoop (P := P) hl (by rw [hrec]; simp); rw [hrec] at this; exact this, hdone _ _ rfl (hI _ _ _ hi (Gr.put _ (by omega) hl rfl)) ((World.putObj_heap_other (by omega)).trans hk)⟩
      · exact ⟨some c, _, by have := run_endLoop (P := P) hl (by rw [hrec]; simp); rw [hrec] at this; exact this, hstop _ c i _ rfl hle (hIx _ _ _ _ hi (Gr.put _ (by omega) hl rfl)) ((World.putObj_heap_other (by omega)).trans hk)⟩

theorem Gr.keepX {own : Nat → Prop} {N : Nat} {w A B : World} (h : Gr N A B) (hw : w.heap.size = N) (hk : KeepX own N w A) : KeepX own N w B :=
  ⟨h.os.trans hk.os, h.tape.trans hk.tape, h.output.trans hk.output, Nat.le_trans hk.size h.size, fun k hk' ho => by
    have hlt : k < A.heap.size := by have := hk.size; omega
    rw [h.keep k _ (Array.getElem?_eq_getElem hlt) (.inl hk'), ← hk.keep k hk' ho, Array.getElem?_eq_getElem hlt]⟩

/-- What is owed behind the assignment to the loop's variables: the body, from whatever world in which the record has turned. -/
def asgPost (P : Program) (body : Code) (own : Nat → Prop) (N : Nat) (I : Nat → World → Prop) (Ix : Code → Nat → World → Prop) (l i : Nat) (W : World) (a₁ : Act) (W₁ : World) : Prop :=
  Below W.heap.size W W₁ ∧ ∀ W₂, Gr N W₁ W₂ → W₂.heap.size = W₁.heap.size → body.wpIn (Fence.wide.inRound l) 0 P (bodyEnd own N I Ix (i + 1) W₂) a₁ W₂

/-- The statement over such an iterator; what is not the caller's own is kept. -/
theorem range_k {g : Operand} {ps : Array Tmp} {assign body : Code} {Q : Exit → Act → World → Prop} {a : Act} {w : World}
    {gf : Nat} {lb : Array Value} (hg : a.eval g = .func (.func gf) #[] lb) (eg : ∀ args w, (callFunc gf args).run P w = .ok (.enter gf args) w)
    {es : List (Array Value)} {own : Nat → Prop} (ho : ∀ k, own k → k < w.heap.size) (hseq : SeqIs P gf lb es own w) (hps : ∀ e ∈ es, e.size = ps.size)
    (I : Nat → World → Prop) (Ix : Code → Nat → World → Prop)
    (hI : ∀ i A B, I i A → Gr w.heap.size A B → I i B) (hIx : ∀ c i A B, Ix c i A → Gr w.heap.size A B → Ix c i B) (h0 : I 0 w)
    (hround : ∀ (l : Nat) (i : Nat) (e : Array Value) (W : World), es[i]? = some e → I i W → KeepX own w.heap.size w W → w.heap.size + 2 ≤ W.heap.size →
      assign.wpIn (Fence.wide.inRound l) 0 P (Exit.then (asgPost P body own w.heap.size I Ix l i W) (fun _ _ _ => False))
        { tmps := (ps.zip e).foldl (fun t (p, v) => t.setIfInBounds p v) a.tmps, defers := [] } W)
    (hdone : ∀ (W : World), I es.length W → KeepX own w.heap.size w W → W.heap[w.heap.size]? = some (.deferred (some [])) → Q .normal { a with defers := { target := .collected w.heap.size, args := #[] } :: a.defers } W)
    (hstop : ∀ (c : Code) (i : Nat) (W : World), i ≤ es.length → Ix c i W → KeepX own w.heap.size w W → W.heap[w.heap.size]? = some (.deferred (some [])) → c.wpIn Fence.wide 0 P Q { a with defers := { target := .collected w.heap.size, args := #[] } :: a.defers } W) :
    (Code.rangeFunc g ps assign body).wpIn Fence.wide 0 P Q a w := by
  refine range_is hg eg (own := own) (fun h => by have := ho _ h; omega) (fun h => by have := ho _ h; omega) hseq hps
    (fun i W => I i W ∧ KeepX own w.heap.size w W) (fun c i W => Ix c i W ∧ KeepX own w.heap.size w W)
    (fun i A B h hg => ⟨hI i A B h.1 hg, hg.keepX rfl h.2⟩) (fun c i A B h hg => ⟨hIx c i A B h.1 hg, hg.keepX rfl h.2⟩) ⟨h0, KeepX.refl _ _ _⟩ ?_ ?_ ?_
  · rintro l i e W he ⟨hi, hk⟩ hs
    refine wpIn_mono (hround l i e W he hi hk hs) ?_
    rintro ex a₁ W₁ hq
    cases ex with
    | normal =>
      obtain ⟨hb, hbody⟩ := hq
      refine ⟨hb, fun W₂ hg2 hs2 => wpIn_mono (hbody W₂ hg2 hs2) ?_⟩
      have hk2 : KeepX own w.heap.size w W₂ := hg2.keepX rfl ((Gr.of_below hb).keepX rfl hk)
      rintro e₃ a₃ W₃ hp
      cases e₃ with
      | normal => exact ⟨hp.1, hp.2, hk2.trans (hp.1.mono (by omega))⟩
      | ret => exact ⟨hp.1, hp.2, hk2.trans (hp.1.mono (by omega))⟩
      | exit id => exact ⟨hp.1, hp.2, hk2.trans (hp.1.mono (by omega))⟩
      | goto t => exact ⟨hp.1, hp.2, hk2.trans (hp.1.mono (by omega))⟩
      | panic ch => exact hp
      | outgrown => exact hp
    | exit id => exact hq
    | goto t => exact hq
    | ret => exact hq
    | panic ch => exact hq
    | outgrown => exact hq
  · rintro D W rfl ⟨hi, hk⟩ hd
    exact hdone W hi hk hd
  · rintro D c i W rfl hle ⟨hi, hk⟩ hd
    exact hstop c i W hle hi hk hd

/-- The blocks that loops over functions have left on the list of deferred calls. -/
def Marks (N : Nat) (W : World) : List Deferred → Prop
  | [] => True
  | d :: ds => ∃ D, d = { target := .collected D, args := #[] } ∧ N ≤ D ∧ W.heap[D]? = some (.deferred (some [])) ∧ (∀ d' ∈ ds, ∀ D', d'.target = .collected D' → D' < D) ∧ Marks N W ds
theorem Marks.keep {N : Nat} {A B : World} : ∀ {ds : List Deferred}, Marks N A ds → (∀ d ∈ ds, ∀ D, d.target = .collected D → B.heap[D]? = A.heap[D]?) → Marks N B ds
  | [], _, _ => trivial
  | d :: ds, ⟨D, e, hN, hD, hlt, hr⟩, hk => ⟨D, e, hN, (hk d (by simp) D (by rw [e])).trans hD, hlt, Marks.keep hr (fun d' hd' => hk d' (by simp [hd']))⟩
theorem Marks.lt {N : Nat} {A : World} : ∀ {ds : List Deferred}, Marks N A ds → ∀ d ∈ ds, ∀ D, d.target = .collected D → N ≤ D ∧ D < A.heap.size
  | d :: ds, ⟨D, e, hN, hD, hlt, hr⟩, d', hd', D', e' => by
    rcases List.mem_cons.1 hd' with h | h
    · subst h; rw [e] at e'; cases e'; exact ⟨hN, (Array.getElem?_eq_some_iff.1 hD).1⟩
    · exact Marks.lt hr d' h D' e'

/-- At the function's return: the marks are taken up, the records are shut. -/
theorem leave_marks {F : Fence} {n N : Nat} {fn : Func} {tmps : Array Value} {R : Ending → World → Prop} : ∀ {ds : List Deferred} {W : World}, Marks N W ds →
    (∀ W', Gr N W W' → LeavesInM F n P fn tmps R [] .returning W') → LeavesInM F n P fn tmps R ds .returning W
  | [], W, _, h => h W (Gr.refl _ _)
  | d :: ds, W, ⟨D, e, hN, hD, hlt, hr⟩, h => by
    subst e
    have hg : Gr N W (W.putObj D (.deferred none)) := Gr.put _ hN hD rfl
    refine ⟨by simp, .inl ⟨D, _, rfl, run_takeDeferred hD, leave_marks (hr.keep fun d' hd' D' e' => ?_) fun W' h' => h W' (hg.trans h')⟩⟩
    have := hlt d' hd' D' e'
    exact World.putObj_heap_other (by omega)
end
end Go.Proofs.Ytmbmmpbfmakfbaa
/- A scope (a body with a label) inside a fence, through which the run goes without a goto. -/
set_option linter.unusedVariables false
namespace Go
section
variable {F : Fence} {n : Nat} {P : Program} {Q : Exit → Act → World → Prop} {a : Act} {w : World}
theorem Proofs.Ytmbmmpbfmakfbaa.stepR_scope {b : Frame} {k : List Item} {cs : List Frame} {c : Code} : step P (lone (b.atR a (.code (.scope c) :: k)) cs w) = .next (lone (b.atR a (.code c :: .inScope c :: k)) cs w) :=
  step_lone_go (by simp [stepG, stepG.exec, Frame.atR])
theorem Proofs.Ytmbmmpbfmakfbaa.stepR_inScope {b : Frame} {k : List Item} {cs : List Frame} {c : Code} : step P (lone (b.atR a (.inScope c :: k)) cs w) = .next (lone (b.atR a k) cs w) :=
  step_lone_go (by simp [stepG, stepG.exec, Frame.atR])
theorem Proofs.Ytmbmmpbfmakfbaa.wpIn_scope_straight {c : Code} (h : c.wpIn F n P (Exit.noGoto Q) a w) : (Code.scope c).wpIn F n P Q a w := by
  intro b k cs hro hb hr
  have h0 : (lone (b.atR a (.code (.scope c) :: k)) cs w).fenced P F := fenced_calm hb hr rfl
  obtain ⟨e, a₁, w₁, hq, harr⟩ := h b (.inScope c :: k) cs hro hb hr
  cases e with
  | normal => exact ⟨.normal, a₁, w₁, hq, .head h0 Proofs.Ytmbmmpbfmakfbaa.stepR_scope (StepsIn.trans harr (.one (fenced_calm hb hr rfl) Proofs.Ytmbmmpbfmakfbaa.stepR_inScope))⟩
  | exit id =>
    have hx : exitTo id (.inScope c :: k) = exitTo id k := by simp [exitTo]
    exact ⟨.exit id, a₁, w₁, hq, fun k' hk => .head h0 Proofs.Ytmbmmpbfmakfbaa.stepR_scope (harr.1 k' (by rw [hx]; exact hk)),
      fun hr' hk => let ⟨k₁, h1, h2⟩ := harr.2 hr' (by rw [hx]; exact hk); ⟨k₁, h1, .head h0 Proofs.Ytmbmmpbfmakfbaa.stepR_scope h2⟩⟩
  | goto l => exact hq.elim
  | ret => exact ⟨_, a₁, w₁, hq, .of_steps (.one h0 Proofs.Ytmbmmpbfmakfbaa.stepR_scope) harr⟩
  | panic ch => exact ⟨_, a₁, w₁, hq, .of_steps (.one h0 Proofs.Ytmbmmpbfmakfbaa.stepR_scope) harr⟩
  | outgrown => exact ⟨_, a₁, w₁, hq, .of_steps (.one h0 Proofs.Ytmbmmpbfmakfbaa.stepR_scope) harr⟩
end
end Go
/- Walks of numbers as bytes (be), in the program and in the reference. -/
set_option linter.unusedVariables false
namespace Go.Proofs.Ytmbmmpbfmakfbaa
open Go.RowKit

/-- The number that bytes are, the highest first. -/
def beNum (bs : List Int) : Int := bs.foldl (fun n x => n * 256 + x) 0
theorem beNum_snoc (bs : List Int) (x : Int) : beNum (bs ++ [x]) = beNum bs * 256 + x := by simp [beNum]
theorem beNum_lo (bs : List Int) (h : Byts bs) : 0 ≤ beNum bs := by
  induction bs using snocInd with
  | nil => simp [beNum]
  | snoc l x ih =>
    rw [beNum_snoc]
    have h1 := ih (fun y hy => h y (by simp [hy]))
    have h2 := h x (by simp)
    omega
theorem beNum_hi (bs : List Int) (h : Byts bs) (k : Nat) (hk : bs.length ≤ k) : beNum bs < 256 ^ k := by
  induction bs using snocInd generalizing k with
  | nil => simp [beNum]; exact Int.pow_pos (by decide)
  | snoc l x ih =>
    rw [beNum_snoc]
    have h2 := h x (by simp)
    obtain ⟨j, rfl⟩ : ∃ j, k = j + 1 := ⟨k - 1, by simp at hk; omega⟩
    have h1 := ih (fun y hy => h y (by simp [hy])) j (by simp at hk; omega)
    rw [Int.pow_succ]; omega
/-- The bytes from a place on. -/
def cutI (bs : List Int) (at_ size : Nat) : List Int := (bs.drop at_).take size
theorem cutI_succ (bs : List Int) (a i : Nat) (h : a + i < bs.length) : cutI bs a (i + 1) = cutI bs a i ++ [bs[a + i]?.getD 0] := by
  unfold cutI
  rw [List.take_add_one]
  congr 1
  rw [List.getElem?_drop, List.getElem?_eq_getElem h]; rfl
theorem cutI_length (bs : List Int) (a i : Nat) (h : a + i ≤ bs.length) : (cutI bs a i).length = i := by
  unfold cutI; rw [List.length_take, List.length_drop]; omega
theorem cutI_byts {bs : List Int} (h : Byts bs) (a i : Nat) : Byts (cutI bs a i) := (h.drop a).take i
theorem cutI_get (bs : List Int) (a s i : Nat) (h : i < s) : (cutI bs a s)[i]? = bs[a + i]? := by
  unfold cutI; rw [List.getElem?_take, if_pos h, List.getElem?_drop]
/-- A window of bytes that lie. -/
theorem RB.cut {w : World} {b off n c a s c' : Nat} {bs : List Int} (h : RB w (some ⟨b, off, none⟩) n c bs) (hs : a + s ≤ n) (h1 : s ≤ c') (h2 : c' ≤ maxLen) : RB w (some ⟨b, off + a, none⟩) s c' (cutI bs a s) :=
  ⟨cutI_length _ _ _ (by rw [h.len]; exact hs), h1, h2, cutI_byts h.byt _ _, fun h => by (cases h), fun hn => by
    obtain ⟨b', off', e, hlt, hc⟩ := h.mem (by omega)
    cases e
    exact ⟨b, off + a, rfl, hlt, fun j hj => by rw [cutI_get _ _ _ _ hj, Nat.add_assoc]; exact hc _ (by omega)⟩⟩

set_option maxHeartbeats 400000 in
theorem window_arg (A : Option Addr) (n c : Nat) (a s : Int) (w : World) (h : ¬ (1 ≤ s ∧ s ≤ 4) ∨ a < 0) :
    Calls Try.prog 70 #[.slice A n c, .int .i64 a, .int .i64 s] w fun e w' => e = .returned (.tuple #[.slice none 0 0, .int .i64 1]) ∧ w = w' := by
  by_cases h1 : 1 ≤ s <;> by_cases h2 : s ≤ 4 <;> by_cases h3 : a < 0
  all_goals first | (exfalso; omega) | skip
  all_goals
    clear h
    go_enter Try.func70, Try.ntmps70
    go_wp2
    go_ret2
    exact ⟨rfl, rfl⟩

set_option maxHeartbeats 400000 in
theorem window_short (A : Option Addr) (n c : Nat) (a s : Int) (w : World) (h1 : 1 ≤ s) (h2 : s ≤ 4) (h3 : 0 ≤ a) (hn : n ≤ 100000) (h : (n : Int) < a + s) :
    Calls Try.prog 70 #[.slice A n c, .int .i64 a, .int .i64 s] w fun e w' => e = .returned (.tuple #[.slice none 0 0, .int .i64 3]) ∧ w = w' := by
  by_cases h4 : (n : Int) < s
  all_goals
    have h5 : (n : Int) - s < a := by omega
    clear h
    go_enter Try.func70, Try.ntmps70
    go_wp2
    go_ret2
    exact ⟨rfl, rfl⟩

set_option maxHeartbeats 400000 in
theorem window_ok (b off n c a s : Nat) (w : World) (h1 : 1 ≤ s) (h2 : s ≤ 4) (hn : n ≤ 100000) (hc : n ≤ c) (hcm : c ≤ 9223372036854775807) (h : a + s ≤ n) :
    Calls Try.prog 70 #[.slice (some ⟨b, off, none⟩) n c, .int .i64 a, .int .i64 s] w fun e w' => e = .returned (.tuple #[.slice (some ⟨b, off + a, none⟩) s s, .int .i64 0]) ∧ w = w' := by
  have h4 : ¬ (n : Int) < s := by omega
  have h5 : ¬ (n : Int) - s < a := by omega
  have h6 : ¬ (a : Int) < 0 := by omega
  go_enter Try.func70, Try.ntmps70
  go_wp2
  go_ret2
  exact ⟨rfl, rfl⟩
end Go.Proofs.Ytmbmmpbfmakfbaa
/- Walks of Get (be), in the program and in the reference. -/
set_option linter.unusedVariables false
namespace Go.Proofs.Ytmbmmpbfmakfbaa
open Go.RowKit

/-- What Get answers: a number, an error. -/
def getV (bs : List Int) (a s : Int) : Int × Int :=
  if ¬ (1 ≤ s ∧ s ≤ 4) ∨ a < 0 then (0, 1) else if (bs.length : Int) < a + s then (0, 3) else (beNum (cutI bs a.toNat s.toNat), 0)

theorem beNum_mul (bs : List Int) (x : Int) (h : Byts bs) (hl : bs.length ≤ 4) (h0 : 0 ≤ x) (h1 : x ≤ 255) : bits .or .i64 (beNum bs * 256) x = beNum bs * 256 + x := by
  have := beNum_lo bs h
  have := beNum_hi bs h 4 hl
  refine i64_or8 _ _ ?_ ?_ ?_ h0 (by omega) <;> omega

set_option maxHeartbeats 400000 in
theorem Get_bad (A : Option Addr) (n c : Nat) (a s e0 : Int) (w : World)
    (hw : Calls Try.prog 70 #[.slice A n c, .int .i64 a, .int .i64 s] w fun e w' => e = .returned (.tuple #[.slice none 0 0, .int .i64 e0]) ∧ w = w') :
    Calls Try.prog 49 #[.slice A n c, .int .i64 a, .int .i64 s] w fun e w' => e = .returned (.tuple #[.int .i64 0, .int .i64 e0]) ∧ w = w' := by
  have hw := Lib.hid hw
  go_enter Try.func49, Try.ntmps49
  go_wp2_with (go_at_call 70; refine hw.out.mono ?_; rintro e w' ⟨rfl, rfl⟩)
  go_rounds 1
  go_ret2
  exact ⟨rfl, rfl⟩

theorem beNum_take (ds : List Int) (k : Nat) (h : k < ds.length) : beNum (ds.take (k + 1)) = beNum (ds.take k) * 256 + ds[k]?.getD 0 := by
  rw [List.take_add_one, List.getElem?_eq_getElem h]; exact beNum_snoc _ _
theorem beNum_bd (ds : List Int) (k : Nat) (hb : Byts ds) (h : ds.length ≤ 4) : 0 ≤ beNum (ds.take k) ∧ beNum (ds.take k) < 4294967296 := by
  have hl : (ds.take k).length ≤ 4 := by rw [List.length_take]; omega
  have h1 := beNum_hi _ (hb.take k) 4 hl
  exact ⟨beNum_lo _ (hb.take k), by simpa using h1⟩

set_option maxHeartbeats 400000 in
theorem Get_ok (b off n c a s : Nat) (bs : List Int) (w : World) (h : RB w (some ⟨b, off, none⟩) n c bs) (h1 : 1 ≤ s) (h2 : s ≤ 4) (hn : n ≤ 100000) (hs : a + s ≤ n) :
    Calls Try.prog 49 #[.slice (some ⟨b, off, none⟩) n c, .int .i64 a, .int .i64 s] w fun e w' => e = .returned (.tuple #[.int .i64 (beNum (cutI bs a s)), .int .i64 0]) ∧ w = w' := by
  have hw := Lib.hid (window_ok b off n c a s w h1 h2 hn h.nc h.cm hs)
  have hx := h.cut (a := a) (s := s) (c' := s) hs (Nat.le_refl _) (by unfold maxLen; omega)
  clear h
  generalize cutI bs a s = ds at *
  go_enter Try.func49, Try.ntmps49
  go_wp2_with (go_at_call 70; refine hw.out.mono ?_; rintro e w' ⟨rfl, rfl⟩)
  go_loop [10, 22] (fun t i => ∃ k : Nat, k ≤ s ∧ i = .int .i64 k ∧ t = .int .i64 (beNum (ds.take k))) (fun _ i => s - (intOf i).toNat)
  case atStart => exact ⟨0, Nat.zero_le _, rfl, rfl⟩
  case round =>
    obtain ⟨k, hk, rfl, rfl⟩ := hrel
    by_cases hlt : k < s
    · obtain ⟨b', off', e, hc⟩ := hx.at_ (by omega)
      cases e
      replace hc := hc k hlt
      have hb := hx.byt.get k
      have hbd := beNum_bd ds k hx.byt (by have := hx.len; omega)
      have hor := beNum_mul (ds.take k) (ds[k]?.getD 0) (hx.byt.take k) (by rw [List.length_take]; have := hx.len; omega) hb.1 hb.2
      have hsn := Lib.hid (beNum_take ds k (by have := hx.len; omega))
      clear hx
      go_wp2
      go_round
      case rel => exact ⟨k + 1, by omega, by go_num, by rw [hsn.out]⟩
      case measure => simp [intOf]; omega
    · obtain rfl : k = s := by omega
      have hsn := Lib.hid (List.take_of_length_le (l := ds) (i := k) (by have := hx.len; omega))
      clear hx
      go_wp2
      go_ret2
      exact ⟨ret2_int (by first | rfl | rw [hsn.out]) rfl, rfl⟩

theorem Get_any (A : Option Addr) (n c : Nat) (bs : List Int) (a s : Int) (w : World) (h : RB w A n c bs) (hn : n ≤ 100000) :
    Calls Try.prog 49 #[.slice A n c, .int .i64 a, .int .i64 s] w fun e w' => e = .returned (.tuple #[.int .i64 (getV bs a s).1, .int .i64 (getV bs a s).2]) ∧ w = w' := by
  unfold getV
  rw [h.len]
  by_cases h1 : ¬ (1 ≤ s ∧ s ≤ 4) ∨ a < 0
  · rw [if_pos h1]
    exact Get_bad A n c a s 1 w (window_arg A n c a s w h1)
  · rw [if_neg h1]
    by_cases h2 : (n : Int) < a + s
    · rw [if_pos h2]
      exact Get_bad A n c a s 3 w (window_short A n c a s w (by omega) (by omega) (by omega) hn h2)
    · rw [if_neg h2]
      obtain ⟨a, rfl⟩ := Int.eq_ofNat_of_zero_le (show 0 ≤ a by omega)
      obtain ⟨s, rfl⟩ := Int.eq_ofNat_of_zero_le (show 0 ≤ s by omega)
      obtain ⟨b, off, rfl, _⟩ := h.at_ (by omega)
      exact Get_ok b off n c a s bs w h (by omega) (by omega) hn (by omega)

set_option maxHeartbeats 400000 in
theorem RefGet_arg (A : Option Addr) (n c : Nat) (a s : Int) (w : World) (h : ¬ (1 ≤ s ∧ s ≤ 4) ∨ a < 0) :
    Calls Try.prog 28 #[.slice A n c, .int .i64 a, .int .i64 s] w fun e w' => e = .returned (.tuple #[.int .i64 0, .int .i64 1]) ∧ w = w' := by
  by_cases h1 : s < 1 <;> by_cases h2 : 4 < s <;> by_cases h3 : a < 0
  all_goals first | (exfalso; omega) | skip
  all_goals
    clear h
    go_enter Try.func28, Try.ntmps28
    go_wp2
    go_ret2
    exact ⟨rfl, rfl⟩

set_option maxHeartbeats 400000 in
theorem RefGet_short (A : Option Addr) (n c : Nat) (a s : Int) (w : World) (h1 : 1 ≤ s) (h2 : s ≤ 4) (h3 : 0 ≤ a) (hn : n ≤ 100000) (h : (n : Int) < a + s) :
    Calls Try.prog 28 #[.slice A n c, .int .i64 a, .int .i64 s] w fun e w' => e = .returned (.tuple #[.int .i64 0, .int .i64 3]) ∧ w = w' := by
  have h5 : (n : Int) - s < a := by omega
  clear h
  go_enter Try.func28, Try.ntmps28
  go_wp2
  go_ret2
  exact ⟨rfl, rfl⟩

set_option maxHeartbeats 400000 in
theorem RefGet_ok (b off n c a s : Nat) (bs : List Int) (w : World) (h : RB w (some ⟨b, off, none⟩) n c bs) (h1 : 1 ≤ s) (h2 : s ≤ 4) (hn : n ≤ 100000) (hs : a + s ≤ n) :
    Calls Try.prog 28 #[.slice (some ⟨b, off, none⟩) n c, .int .i64 a, .int .i64 s] w fun e w' => e = .returned (.tuple #[.int .i64 (beNum (cutI bs a s)), .int .i64 0]) ∧ w = w' := by
  have hx := h.cut (a := a) (s := s) (c' := s) hs (Nat.le_refl _) (by unfold maxLen; omega)
  clear h
  generalize cutI bs a s = ds at *
  have h5 : ¬ (n : Int) - s < a := by omega
  go_enter Try.func28, Try.ntmps28
  go_wp2
  go_loop [8, 9] (fun t i => ∃ k : Nat, k ≤ s ∧ i = .int .i64 k ∧ t = .int .i64 (beNum (ds.take k))) (fun _ i => s - (intOf i).toNat)
  case atStart => exact ⟨0, Nat.zero_le _, rfl, rfl⟩
  case round =>
    obtain ⟨k, hk, rfl, rfl⟩ := hrel
    by_cases hlt : k < s
    · obtain ⟨b', off', e, hc⟩ := hx.at_ (by omega)
      cases e
      replace hc : w.cell? ⟨b, off + (a + k), none⟩ = some (.int .u8 (ds[k]?.getD 0)) := by rw [← Nat.add_assoc]; exact hc k hlt
      have hb := hx.byt.get k
      have hbd := beNum_bd ds k hx.byt (by have := hx.len; omega)
      have hsn := Lib.hid (beNum_take ds k (by have := hx.len; omega))
      have h6 : (a : Int) + k < n := by omega
      clear hx
      go_wp2
      go_round
      case rel => exact ⟨k + 1, by omega, by go_num, by rw [hsn.out]⟩
      case measure => simp [intOf]; omega
    · obtain rfl : k = s := by omega
      have hsn := Lib.hid (List.take_of_length_le (l := ds) (i := k) (by have := hx.len; omega))
      clear hx
      go_wp2
      go_ret2
      exact ⟨ret2_int (by first | rfl | rw [hsn.out]) rfl, rfl⟩

theorem RefGet_any (A : Option Addr) (n c : Nat) (bs : List Int) (a s : Int) (w : World) (h : RB w A n c bs) (hn : n ≤ 100000) :
    Calls Try.prog 28 #[.slice A n c, .int .i64 a, .int .i64 s] w fun e w' => e = .returned (.tuple #[.int .i64 (getV bs a s).1, .int .i64 (getV bs a s).2]) ∧ w = w' := by
  unfold getV
  rw [h.len]
  by_cases h1 : ¬ (1 ≤ s ∧ s ≤ 4) ∨ a < 0
  · rw [if_pos h1]
    exact RefGet_arg A n c a s w h1
  · rw [if_neg h1]
    by_cases h2 : (n : Int) < a + s
    · rw [if_pos h2]
      exact RefGet_short A n c a s w (by omega) (by omega) (by omega) hn h2
    · rw [if_neg h2]
      obtain ⟨a, rfl⟩ := Int.eq_ofNat_of_zero_le (show 0 ≤ a by omega)
      obtain ⟨s, rfl⟩ := Int.eq_ofNat_of_zero_le (show 0 ≤ s by omega)
      obtain ⟨b, off, rfl, _⟩ := h.at_ (by omega)
      exact RefGet_ok b off n c a s bs w h (by omega) (by omega) hn (by omega)
end Go.Proofs.Ytmbmmpbfmakfbaa
