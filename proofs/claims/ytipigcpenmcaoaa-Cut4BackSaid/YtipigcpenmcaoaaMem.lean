/- Words for memory: slices of a slice, arrays in a struct, a struct's box, parts of a sum. No condition. -/
import Derived.Test.YtipigcpenmcaoaaAppend
set_option linter.unusedVariables false
namespace Go.Proofs.Ytipigcpenmcaoaa
open Go.RowKit

/-- Bytes and a code are answered. -/
def TwoOut (w : World) (r : List Int) (e0 : Int) (e : Ending) (w' : World) : Prop := ∃ A2 n2 c2, e = .returned (.tuple #[.slice A2 n2 c2, .int .i64 e0]) ∧ RB w' A2 n2 c2 r ∧ Below w.heap.size w w'

/-- The bytes in an array of a packet's cells. -/
theorem rb_cells {w : World} {B off k : Nat} {bs : List Int} (hB : B < w.heap.size) (hl : bs.length = k) (hk : k ≤ 100000) (hb : Byts bs) (hc : ∀ j, j < k → w.cell? ⟨B, off + j, none⟩ = some (.int .u8 (bs[j]?.getD 0))) : RB w (some ⟨B, off, none⟩) k k bs :=
  ⟨hl, Nat.le_refl _, by unfold maxLen; omega, hb, fun h => by (cases h), fun _ => ⟨B, off, rfl, hB, hc⟩⟩

/-- The block B holds the cells P. -/
structure VBox (W : World) (B : Nat) (P : Array Value) : Prop where
  lt : B < W.heap.size
  at_ : ∀ j v, P[j]? = some v → W.cell? ⟨B, j, none⟩ = some v
theorem VBox.new (w : World) (P : Array Value) (T : TypeId) : VBox (w.alloc (.cells P T)) w.heap.size P :=
  ⟨by simp, fun j v h => by rw [World.cell?_alloc_at _ _ _ _ rfl]; exact h⟩
theorem VBox.below {W W' : World} {B N : Nat} {P : Array Value} (h : VBox W B P) (hb : Below N W W') (hN : B < N) : VBox W' B P :=
  ⟨by have := h.lt; have := hb.size; omega, fun j v hv => (hb.cell (p := ⟨B, j, none⟩) hN).trans (h.at_ j v hv)⟩
theorem VBox.alloc {W : World} {B : Nat} {P : Array Value} (h : VBox W B P) (o : Obj) : VBox (W.alloc o) B P := h.below ((Below.refl _ W).alloc (Nat.le_refl _) o) h.lt
theorem VBox.drew {W : World} {B : Nat} {P : Array Value} (h : VBox W B P) : VBox W.drew B P := h.below (Below.refl _ W).drew h.lt


theorem RB.relen {w : World} {A : Option Addr} {n m c : Nat} {bs : List Int} (h : RB w A n c bs) (e : m = bs.length) : RB w A m c bs := by
  have := h.len
  obtain rfl : m = n := by omega
  exact h

theorem Byts.two {x y : Int} (h0 : 0 ≤ x) (h1 : x < 256) (h2 : 0 ≤ y) (h3 : y < 256) : Byts [x, y] := by
  intro z hz
  simp at hz
  rcases hz with rfl | rfl <;> constructor <;> omega


theorem RB.drop {w : World} {b off n c : Nat} {bs : List Int} (h : RB w (some ⟨b, off, none⟩) n c bs) (k : Nat) (hk : k ≤ n) : RB w (some ⟨b, off + k, none⟩) (n - k) (c - k) (bs.drop k) :=
  ⟨by rw [List.length_drop, h.len], by have := h.nc; omega, by have := h.cm; omega, fun x hx => h.byt x (List.mem_of_mem_drop hx), fun h => by (cases h), fun hn => by
    obtain ⟨b', off', e, hlt, hc⟩ := h.mem (by omega)
    cases e
    exact ⟨b, off + k, rfl, hlt, fun j hj => by have := hc (k + j) (by omega); rw [← Nat.add_assoc] at this; rw [this, List.getElem?_drop]⟩⟩

theorem OB.set_low {w : World} {base : Nat} {A : Option Addr} {n c : Nat} {bs : List Int} (h : OB w base A n c bs) {B : Nat} (hB : B < base) (i : Nat) (v : Value) : OB (w.setCell ⟨B, i, none⟩ v) base A n c bs :=
  ⟨h.own.kept (row := some B) ⟨rfl, rfl, rfl, by simp [World.setCell], fun k _ hk => Below.heap_setCell _ _ _ _ (fun e => hk (by simp [e]))⟩ (.inr (by rw [ownBlk_eq]; intro e; have := (h.blk e).1; omega)), h.byt⟩


/-- Four cells, set. -/
def set4 (W : World) (B : Nat) (v0 v1 v2 v3 : Value) : World := (((W.setCell ⟨B, 0, none⟩ v0).setCell ⟨B, 1, none⟩ v1).setCell ⟨B, 2, none⟩ v2).setCell ⟨B, 3, none⟩ v3
theorem set4_at (W : World) (B : Nat) (v0 v1 v2 v3 : Value) {a0 a1 a2 a3 : Value} (h0 : W.cell? ⟨B, 0, none⟩ = some a0) (h1 : W.cell? ⟨B, 1, none⟩ = some a1) (h2 : W.cell? ⟨B, 2, none⟩ = some a2) (h3 : W.cell? ⟨B, 3, none⟩ = some a3) :
    (set4 W B v0 v1 v2 v3).cell? ⟨B, 0, none⟩ = some v0 ∧ (set4 W B v0 v1 v2 v3).cell? ⟨B, 1, none⟩ = some v1 ∧ (set4 W B v0 v1 v2 v3).cell? ⟨B, 2, none⟩ = some v2 ∧ (set4 W B v0 v1 v2 v3).cell? ⟨B, 3, none⟩ = some v3 := by
  unfold set4
  refine ⟨?_, ?_, ?_, ?_⟩
  · rw [World.cell?_setCell_other _ _ _ _ (by simp), World.cell?_setCell_other _ _ _ _ (by simp), World.cell?_setCell_other _ _ _ _ (by simp)]
    exact World.cell?_setCell_same _ _ _ h0
  · rw [World.cell?_setCell_other _ _ _ _ (by simp), World.cell?_setCell_other _ _ _ _ (by simp)]
    exact World.cell?_setCell_same _ _ _ ((World.cell?_setCell_other _ _ _ _ (by simp)).trans h1)
  · rw [World.cell?_setCell_other _ _ _ _ (by simp)]
    exact World.cell?_setCell_same _ _ _ ((World.cell?_setCell_other _ _ _ _ (by simp)).trans ((World.cell?_setCell_other _ _ _ _ (by simp)).trans h2))
  · exact World.cell?_setCell_same _ _ _ ((World.cell?_setCell_other _ _ _ _ (by simp)).trans ((World.cell?_setCell_other _ _ _ _ (by simp)).trans ((World.cell?_setCell_other _ _ _ _ (by simp)).trans h3)))
theorem OB.set4 {w : World} {base : Nat} {A : Option Addr} {n c : Nat} {bs : List Int} (h : OB w base A n c bs) {B : Nat} (hB : B < base) (v0 v1 v2 v3 : Value) : OB (set4 w B v0 v1 v2 v3) base A n c bs :=
  (((h.set_low hB 0 v0).set_low hB 1 v1).set_low hB 2 v2).set_low hB 3 v3
theorem below_set4 {w0 w : World} {N B : Nat} (h : Below N w0 w) (hB : N ≤ B) (v0 v1 v2 v3 : Value) : Below N w0 (set4 w B v0 v1 v2 v3) :=
  (((h.setCell (p := ⟨B, 0, none⟩) hB v0).setCell (p := ⟨B, 1, none⟩) hB v1).setCell (p := ⟨B, 2, none⟩) hB v2).setCell (p := ⟨B, 3, none⟩) hB v3

theorem small_one {bs : List Int} (h : Byts bs) (hl : bs.length ≤ 100000) : Small [bs] := ⟨by simp, fun b hb => by simp at hb; subst hb; exact ⟨hl, h⟩⟩
/-- A literal of one slice of bytes. -/
theorem small_two {a b : List Int} (ha : Byts a) (hla : a.length ≤ 100000) (hb : Byts b) (hlb : b.length ≤ 100000) : Small [a, b] :=
  ⟨by simp, fun x hx => by simp at hx; rcases hx with rfl | rfl; exact ⟨hla, ha⟩; exact ⟨hlb, hb⟩⟩
theorem rbb_two {w : World} {A A' : Option Addr} {n c n' c' : Nat} {a b : List Int} (h : RB w A n c a) (h' : RB w A' n' c' b) : RBB (w.alloc (.cells #[.slice A n c, .slice A' n' c'] 22)) (some ⟨w.heap.size, 0, none⟩) 2 2 [a, b] :=
  RBB.lit w 22 [(A, n, c, a), (A', n', c', b)] (fun p hp => by simp at hp; rcases hp with rfl | rfl; exact h; exact h') (by simp)
theorem rbb_one {w : World} {A : Option Addr} {n c : Nat} {bs : List Int} (h : RB w A n c bs) : RBB (w.alloc (.cells #[.slice A n c] 22)) (some ⟨w.heap.size, 0, none⟩) 1 1 [bs] :=
  RBB.lit w 22 [(A, n, c, bs)] (fun p hp => by simp at hp; subst hp; exact h) (by simp)
theorem RB.first_ {w : World} {A : Option Addr} {n c k : Nat} {bs : List Int} (h : RB w A n c bs) (hk : k ≤ n) : RB w A k c (bs.take k) :=
  ⟨by rw [List.length_take, h.len]; omega, by have := h.nc; omega, h.cm, h.byt.take k, h.niln, fun hk0 => by
    obtain ⟨b, off, e, hb, hc⟩ := h.mem (by omega)
    exact ⟨b, off, e, hb, fun j hj => by rw [hc j (by omega), List.getElem?_take, if_pos hj]⟩⟩


/-- The block B holds just the cells P, and may be written. -/
structure Blk (W : World) (B : Nat) (P : Array Value) (T : TypeId) : Prop where
  at_ : W.heap[B]? = some (.cells P T (0, 0))
section
variable {W W' : World} {B N : Nat} {P : Array Value} {T : TypeId}
theorem Blk.new (w : World) (P : Array Value) (T : TypeId) : Blk (w.alloc (.cells P T)) w.heap.size P T := ⟨World.alloc_heap_new w _⟩
theorem Blk.lt (h : Blk W B P T) : B < W.heap.size := (Array.getElem?_eq_some_iff.1 h.at_).1
theorem Blk.below (h : Blk W B P T) (hb : Below N W W') (hN : B < N) : Blk W' B P T := ⟨(hb.block B hN).trans h.at_⟩
theorem Blk.to (h : Blk W B P T) (hb : Below W.heap.size W W') : Blk W' B P T := h.below hb h.lt
theorem Blk.alloc (h : Blk W B P T) (o : Obj) : Blk (W.alloc o) B P T := h.to ((Below.refl _ W).alloc (Nat.le_refl _) o)
theorem Blk.drew (h : Blk W B P T) : Blk W.drew B P T := h.to (Below.refl _ W).drew
theorem Blk.cell (h : Blk W B P T) (j : Nat) (v : Value) (hv : P[j]? = some v) : W.cell? ⟨B, j, none⟩ = some v := by
  simp [World.cell?, h.at_, hv]
theorem Blk.frz (h : Blk W B P T) (j : Nat) : W.frozen? ⟨B, j, none⟩ = false := by
  simp [World.frozen?, h.at_]
theorem Blk.vbox (h : Blk W B P T) : VBox W B P := ⟨h.lt, fun j v hv => h.cell j v hv⟩
theorem Blk.z4 {a b c d : Value} (h : Blk W B #[a, b, c, d] T) : (W.cell? ⟨B, 0, none⟩ = some a ∧ W.cell? ⟨B, 1, none⟩ = some b ∧ W.cell? ⟨B, 2, none⟩ = some c ∧ W.cell? ⟨B, 3, none⟩ = some d) ∧
    W.frozen? ⟨B, 0, none⟩ = false ∧ W.frozen? ⟨B, 1, none⟩ = false ∧ W.frozen? ⟨B, 2, none⟩ = false ∧ W.frozen? ⟨B, 3, none⟩ = false :=
  ⟨⟨h.cell 0 _ rfl, h.cell 1 _ rfl, h.cell 2 _ rfl, h.cell 3 _ rfl⟩, h.frz 0, h.frz 1, h.frz 2, h.frz 3⟩
end
theorem Blk.set {W : World} {B : Nat} {P : Array Value} {T : TypeId} (h : Blk W B P T) (j : Nat) (v : Value) : Blk (W.setCell ⟨B, j, none⟩ v) B (P.setIfInBounds j v) T :=
  ⟨by simp [World.setCell, Array.getElem?_modify, h.at_]⟩
theorem Blk.far {W : World} {B B' : Nat} {P : Array Value} {T : TypeId} (h : Blk W B P T) (hB : B ≠ B') (j : Nat) (v : Value) : Blk (W.setCell ⟨B', j, none⟩ v) B P T :=
  ⟨(Below.heap_setCell W ⟨B', j, none⟩ v B hB).trans h.at_⟩
theorem RB.drop_any {w : World} {b off n c : Nat} {bs : List Int} (h : RB w (some ⟨b, off, none⟩) n c bs) (k : Nat) (hk : k ≤ n) : RB w (if c = k then some ⟨b, off, none⟩ else some ⟨b, off + k, none⟩) (n - k) (c - k) (bs.drop k) := by
  by_cases hc : c = k
  · have := h.nc
    obtain rfl : n = k := by omega
    rw [if_pos hc]
    have hl := h.len
    refine ⟨by rw [List.length_drop, hl], by omega, by have := h.cm; omega, fun x hx => h.byt x (List.mem_of_mem_drop hx), fun h => by (cases h), fun hn => absurd hn (by omega)⟩
  · rw [if_neg hc]; exact h.drop k hk
end Go.Proofs.Ytipigcpenmcaoaa
