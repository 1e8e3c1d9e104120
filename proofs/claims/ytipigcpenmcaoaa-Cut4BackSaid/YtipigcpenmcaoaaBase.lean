/- Words for this claim: lists of bytes that lie in memory, small facts on numbers and bits. No condition. -/
import Derived.Test.YtipigcpenmcaoaaRows
import Derived.WalkKit
import Derived.WalkSpells
import Derived.WalkLawsBesides
import Derived.Handy
import Derived.Maps.AppendAt
import Derived.Deep.AppendLies
import Derived.Deep.Draws
import Derived.Laws.OwnMore
import Derived.Lib.Hide
import Derived.RangeFuncRecord
import Derived.RangeFuncBox
set_option linter.unusedVariables false
namespace Go.Proofs.Ytipigcpenmcaoaa
open Go.RowKit

theorem snocInd {α : Type} {motive : List α → Prop} (nil : motive []) (snoc : ∀ l x, motive l → motive (l ++ [x])) (l : List α) : motive l := by
  have h : ∀ r : List α, motive r.reverse := by
    intro r
    induction r with
    | nil => simpa using nil
    | cons x r ih => rw [List.reverse_cons]; exact snoc _ _ ih
  have := h l.reverse
  rwa [List.reverse_reverse] at this

/-! ### Bits of int -/
theorem wraps63 : ∀ n : Int, 0 ≤ n → n < 2 ^ 63 → IntKind.i64.wrap n = n := by
  intro n h0 h1; rw [IntKind.wrap_i64]; omega
theorem i64_mask (i : Nat) (hi : i ≤ 63) (x : Int) (h0 : 0 ≤ x) (h1 : x ≤ 9223372036854775807) : bits .and .i64 x (2 ^ i - 1) = x % 2 ^ i :=
  bits_mask .i64 63 (by decide) wraps63 i hi x h0 (by omega)
theorem i64_and65535 (x : Int) (h0 : 0 ≤ x) (h1 : x ≤ 9223372036854775807) : bits .and .i64 x 65535 = x % 65536 := i64_mask 16 (by decide) x h0 h1
theorem i64_join (i : Nat) (x y : Int) (hx0 : 0 ≤ x) (hx : x % 2 ^ i = 0) (hx1 : x ≤ 9223372036854775807) (hi : i ≤ 63) (h0 : 0 ≤ y) (h1 : y < 2 ^ i) : bits .or .i64 x y = x + y :=
  bits_join .i64 63 (by decide) wraps63 i x y hx0 hx (by omega) h0 h1 (by
    have : (2 : Int) ^ i ≤ 2 ^ 63 := by exact_mod_cast Nat.pow_le_pow_right (by decide) hi
    omega)
theorem i64_or8 (x y : Int) (hx0 : 0 ≤ x) (hx : x % 256 = 0) (hx1 : x ≤ 9223372036854775807) (h0 : 0 ≤ y) (h1 : y < 256) : bits .or .i64 x y = x + y :=
  i64_join 8 x y hx0 hx hx1 (by decide) h0 h1

/-! ### Endings -/
theorem ret_int {k : IntKind} {a b : Int} (h : a = b) : Ending.returned (.int k a) = .returned (.int k b) := by rw [h]
theorem ret2_int {k k' : IntKind} {a b c d : Int} (h : a = b) (h' : c = d) : Ending.returned (.tuple #[.int k a, .int k' c]) = .returned (.tuple #[.int k b, .int k' d]) := by rw [h, h']
theorem ret_bool {a b : Bool} (h : a = b) : Ending.returned (.bool a) = .returned (.bool b) := by rw [h]

/-! ### Lists of bytes -/
def u8s (bs : List Int) : List Value := bs.map (Value.int .u8)
def Byts (bs : List Int) : Prop := ∀ x ∈ bs, 0 ≤ x ∧ x ≤ 255
theorem Byts.get {bs : List Int} (h : Byts bs) (j : Nat) : 0 ≤ bs[j]?.getD 0 ∧ bs[j]?.getD 0 ≤ 255 := by
  cases e : bs[j]? with
  | none => simp
  | some x => exact h x (List.mem_of_getElem? e)
theorem Byts.nil : Byts [] := fun _ h => by cases h
theorem Byts.append {a b : List Int} (h : Byts a) (k : Byts b) : Byts (a ++ b) := fun x hx => (List.mem_append.1 hx).elim (h x) (k x)
theorem Byts.one {x : Int} (h0 : 0 ≤ x) (h1 : x ≤ 255) : Byts [x] := fun y hy => by simp at hy; subst hy; exact ⟨h0, h1⟩
theorem Byts.take {a : List Int} (h : Byts a) (n : Nat) : Byts (a.take n) := fun x hx => h x (List.mem_of_mem_take hx)
theorem Byts.drop {a : List Int} (h : Byts a) (n : Nat) : Byts (a.drop n) := fun x hx => h x (List.mem_of_mem_drop hx)
theorem u8s_one (bs : List Int) : ∀ u ∈ u8s bs, u.oneCell' = true := ints_oneCell _ _
theorem u8s_append (a b : List Int) : u8s (a ++ b) = u8s a ++ u8s b := by simp [u8s]
theorem u8s_length (a : List Int) : (u8s a).length = a.length := by simp [u8s]
theorem u8s_get (a : List Int) (j : Nat) (h : j < a.length) : (u8s a)[j]? = some (.int .u8 (a[j]?.getD 0)) := by
  simp [u8s, List.getElem?_eq_getElem h]

/-- The slice '.slice A n c' holds the bytes bs, in a block that lies; nil and empty let in. -/
structure RB (w : World) (A : Option Addr) (n c : Nat) (bs : List Int) : Prop where
  len : bs.length = n
  nc : n ≤ c
  cm : c ≤ maxLen
  byt : Byts bs
  niln : A = none → c = 0
  mem : 0 < n → ∃ b off, A = some ⟨b, off, none⟩ ∧ b < w.heap.size ∧ ∀ j, j < n → w.cell? ⟨b, off + j, none⟩ = some (.int .u8 (bs[j]?.getD 0))

section
variable {w w' : World} {A : Option Addr} {n c : Nat} {bs : List Int}
theorem RB.below (h : RB w A n c bs) (hb : Below w.heap.size w w') : RB w' A n c bs :=
  ⟨h.len, h.nc, h.cm, h.byt, h.niln, fun hn => by
    obtain ⟨b, off, e, hlt, hc⟩ := h.mem hn
    exact ⟨b, off, e, by have := hb.size; omega, fun j hj => (hb.cell (p := ⟨b, off + j, none⟩) hlt).trans (hc j hj)⟩⟩
theorem RB.alloc (h : RB w A n c bs) (o : Obj) : RB (w.alloc o) A n c bs := h.below ((Below.refl _ w).alloc (Nat.le_refl _) o)
theorem RB.drew (h : RB w A n c bs) : RB w.drew A n c bs := h.below (Below.refl _ w).drew
theorem RB.nil (w : World) : RB w none 0 0 [] := ⟨rfl, Nat.le_refl _, by simp [maxLen], Byts.nil, fun _ => rfl, fun h => absurd h (by omega)⟩
theorem RB.at_ (h : RB w A n c bs) (hn : 0 < n) : ∃ b off, A = some ⟨b, off, none⟩ ∧ ∀ j, j < n → w.cell? ⟨b, off + j, none⟩ = some (.int .u8 (bs[j]?.getD 0)) := by
  obtain ⟨b, off, e, _, hc⟩ := h.mem hn
  exact ⟨b, off, e, hc⟩
/-- A store into a variable's box leaves bytes elsewhere as they are. -/
theorem RB.far {B t : Nat} {v : Value} (h : RB w A n c bs) (hx : Boxed w B t v) (hv : ∀ x, v ≠ .int .u8 x) (u : Value) : RB (w.setCell ⟨B, 0, none⟩ u) A n c bs :=
  ⟨h.len, h.nc, h.cm, h.byt, h.niln, fun hn => by
    obtain ⟨b, off, e, hlt, hc⟩ := h.mem hn
    refine ⟨b, off, e, by simp [World.setCell]; exact hlt, fun j hj => ?_⟩
    rw [World.cell?_setCell_other w _ _ _ (fun e' => ?_)]
    · exact hc j hj
    · have hb : B = b := congrArg Addr.block e'
      have ho : 0 = off + j := congrArg Addr.off e'
      have h1 := hc j hj
      rw [← hb, ← ho, hx.cell] at h1
      exact hv _ (Option.some.inj h1)⟩
/-- A slice of bytes of the call's own, in a block from base on. -/
structure OB (w : World) (base : Nat) (A : Option Addr) (n c : Nat) (bs : List Int) : Prop where
  own : w.ownsRow base 5 1 (.slice A n c) n (u8s bs)
  byt : Byts bs
theorem OB.len {base : Nat} (h : OB w base A n c bs) : bs.length = n := by have := h.own.1; rw [u8s_length] at this; omega
theorem OB.rb {base : Nat} (h : OB w base A n c bs) : RB w A n c bs := by
  have hl := h.len
  rcases h.own.2 with ⟨e, hn⟩ | ⟨g, cap, cur, e, hg, hh, hnc, hcm, hsz, htk⟩
  · cases e; exact ⟨hl, Nat.le_refl _, by simp [maxLen], h.byt, fun _ => rfl, fun h => absurd h (by omega)⟩
  · cases e
    refine ⟨hl, hnc, hcm, h.byt, fun h => by (cases h), fun hn => ⟨g, 0, rfl, (Array.getElem?_eq_some_iff.1 hh).1, fun j hj => ?_⟩⟩
    have hcell : w.cell? ⟨g, 0 + j, none⟩ = cur[j]? := by simp [World.cell?, hh]
    rw [hcell, ← u8s_get bs j (by omega), ← htk, List.getElem?_take, if_pos (by omega), Array.getElem?_toList]
theorem OB.nil (w : World) (base : Nat) : OB w base none 0 0 [] := ⟨⟨rfl, .inl ⟨rfl, rfl⟩⟩, Byts.nil⟩
theorem OB.alloc {base : Nat} (h : OB w base A n c bs) (o : Obj) : OB (w.alloc o) base A n c bs := ⟨h.own.alloc o, h.byt⟩
theorem OB.mono {base base' : Nat} (h : OB w base A n c bs) (hb : base' ≤ base) : OB w base' A n c bs := by
  refine ⟨⟨h.own.1, ?_⟩, h.byt⟩
  rcases h.own.2 with h | ⟨g, cap, cur, e, hg, r⟩
  · exact .inl h
  · exact .inr ⟨g, cap, cur, e, by omega, r⟩
theorem OB.below {base : Nat} (h : OB w base A n c bs) (hb : Below w.heap.size w w') : OB w' base A n c bs := by
  refine ⟨⟨h.own.1, ?_⟩, h.byt⟩
  rcases h.own.2 with h | ⟨g, cap, cur, e, hg, hh, r⟩
  · exact .inl h
  · exact .inr ⟨g, cap, cur, e, hg, (hb.block g (Array.getElem?_eq_some_iff.1 hh).1).trans hh, r⟩
/-- A literal of bytes that is the call's own. -/
theorem OB.lit (w : World) (base : Nat) (hb : base ≤ w.heap.size) (bs : List Int) (hbs : Byts bs) (hl : bs.length ≤ 100000) : OB (w.alloc (.cells (u8s bs).toArray 5)) base (some ⟨w.heap.size, 0, none⟩) bs.length bs.length bs :=
  ⟨⟨by rw [u8s_length, Nat.mul_one], .inr ⟨w.heap.size, bs.length, (u8s bs).toArray, rfl, hb, World.alloc_heap_new w _, Nat.le_refl _, by unfold maxLen; omega, by simp [u8s_length], by rw [Nat.mul_one, List.take_of_length_le]; rw [u8s_length]; omega⟩⟩, hbs⟩
/-- A literal of bytes. -/
theorem RB.lit (w : World) (T : TypeId) (bs : List Int) (hb : Byts bs) (hl : bs.length ≤ 100000) : RB (w.alloc (.cells (u8s bs).toArray T)) (some ⟨w.heap.size, 0, none⟩) bs.length bs.length bs :=
  ⟨rfl, Nat.le_refl _, by unfold maxLen; omega, hb, fun h => by (cases h), fun hn => ⟨w.heap.size, 0, rfl, by simp, fun j hj => by
    rw [World.cell?_alloc_at _ _ _ _ rfl, Nat.zero_add, List.getElem?_toArray]; exact u8s_get bs j hj⟩⟩
end

/-- The slice '.slice A n c' holds slices that hold the lists of bytes l. -/
structure RBB (w : World) (A : Option Addr) (n c : Nat) (l : List (List Int)) : Prop where
  len : l.length = n
  nc : n ≤ c
  cm : c ≤ maxLen
  mem : 0 < n → ∃ b off, A = some ⟨b, off, none⟩ ∧ b < w.heap.size ∧ ∀ j, j < n → ∃ A' n' c', w.cell? ⟨b, off + j, none⟩ = some (.slice A' n' c') ∧ RB w A' n' c' (l[j]?.getD [])
theorem RBB.below {w w' : World} {A : Option Addr} {n c : Nat} {l : List (List Int)} (h : RBB w A n c l) (hb : Below w.heap.size w w') : RBB w' A n c l :=
  ⟨h.len, h.nc, h.cm, fun hn => by
    obtain ⟨b, off, e, hlt, hc⟩ := h.mem hn
    exact ⟨b, off, e, by have := hb.size; omega, fun j hj => by
      obtain ⟨A', n', c', h1, h2⟩ := hc j hj
      exact ⟨A', n', c', (hb.cell (p := ⟨b, off + j, none⟩) hlt).trans h1, h2.below hb⟩⟩⟩
theorem RBB.byts {w : World} {A : Option Addr} {n c : Nat} {l : List (List Int)} (h : RBB w A n c l) : ∀ bs ∈ l, Byts bs := by
  intro bs hbs
  obtain ⟨j, hj⟩ := List.getElem?_of_mem hbs
  have hlt : j < n := by have := (List.getElem?_eq_some_iff.1 hj).1; rw [h.len] at this; exact this
  obtain ⟨_, _, _, _, hc⟩ := h.mem (by omega)
  obtain ⟨_, _, _, _, hr⟩ := hc j hlt
  rw [hj] at hr
  exact hr.byt
/-- A literal of slices of bytes. -/
theorem RBB.lit (w : World) (T : TypeId) (ps : List (Option Addr × Nat × Nat × List Int)) (h : ∀ p ∈ ps, RB w p.1 p.2.1 p.2.2.1 p.2.2.2) (hl : ps.length ≤ 100000) :
    RBB (w.alloc (.cells (ps.map fun p => Value.slice p.1 p.2.1 p.2.2.1).toArray T)) (some ⟨w.heap.size, 0, none⟩) ps.length ps.length (ps.map (·.2.2.2)) :=
  ⟨by simp, Nat.le_refl _, by unfold maxLen; omega, fun hn => ⟨w.heap.size, 0, rfl, by simp, fun j hj => by
    refine ⟨ps[j].1, ps[j].2.1, ps[j].2.2.1, ?_, ?_⟩
    · rw [World.cell?_alloc_at _ _ _ _ rfl, Nat.zero_add, List.getElem?_toArray, List.getElem?_map, List.getElem?_eq_getElem hj]; rfl
    · rw [List.getElem?_map, List.getElem?_eq_getElem hj]
      exact (h _ (List.getElem_mem hj)).alloc _⟩⟩
/-- Parts of no more than so many bytes, no more than so many. -/
def Small (l : List (List Int)) : Prop := l.length ≤ 100000 ∧ ∀ bs ∈ l, bs.length ≤ 100000 ∧ Byts bs
theorem Small.get {l : List (List Int)} (h : Small l) (k : Nat) : (l[k]?.getD []).length ≤ 100000 ∧ Byts (l[k]?.getD []) := by
  cases e : l[k]? with
  | none => exact ⟨by simp, Byts.nil⟩
  | some x => exact h.2 x (List.mem_of_getElem? e)
end Go.Proofs.Ytipigcpenmcaoaa
