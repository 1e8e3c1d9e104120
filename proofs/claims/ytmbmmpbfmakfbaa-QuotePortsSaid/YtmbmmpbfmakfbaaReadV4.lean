/- Packets of IPv4 (the reference): Same of two that are the same. -/
import Derived.Test.YtmbmmpbfmakfbaaV4M
import Derived.Test.YtmbmmpbfmakfbaaAppend
import Derived.Test.YtmbmmpbfmakfbaaBase
import Derived.ProofKit
import Derived.OpenShut
import Derived.Deep.Slices
import Derived.Carry
import Derived.Lib.SmallJoins
import Derived.Test.YtmbmmpbfmakfbaaV4
import Derived.Test.YtmbmmpbfmakfbaaRow4
set_option linter.unusedVariables false
namespace Go.Proofs.Ytmbmmpbfmakfbaa
open Go Go.RowKit
attribute [local go_sem] Oper.semAt_some

set_option maxRecDepth 100000 in
set_option maxHeartbeats 4000000 in
theorem RefSame4_same (p : V4P) (Ao : Option Addr) (no co : Nat) (A : Option Addr) (n c : Nat) (Ao' : Option Addr) (co' : Nat) (A' : Option Addr) (c' : Nat) (w : World) (ho : RB w Ao no co p.opts) (hd : RB w A n c p.data) (ho' : RB w Ao' no co' p.opts) (hd' : RB w A' n c' p.data) :
    Calls Try.prog 19 #[.agg (cells4 p Ao no co A n c), .agg (cells4 p Ao' no co' A' n c')] w fun e w' => e = .returned (.bool true) ∧ Below w.heap.size w w' := by
  obtain ⟨w0, hw0⟩ : ∃ w0, (w.alloc (.cells (cells4 p Ao no co A n c) 32)).alloc (.cells (cells4 p Ao' no co' A' n c') 32) = w0 := ⟨_, rfl⟩
  have k1 : Blk w0 w.heap.size (cells4 p Ao no co A n c) 32 := by rw [← hw0]; exact (Blk.new w _ _).alloc _
  have k2 : Blk w0 (w.heap.size + 1) (cells4 p Ao' no co' A' n c') 32 := by
    rw [← hw0]
    have := Blk.new (w.alloc (.cells (cells4 p Ao no co A n c) 32)) (cells4 p Ao' no co' A' n c') 32
    rwa [World.size_alloc] at this
  have hb0 : Below w.heap.size w w0 := by rw [← hw0]; exact ((Below.refl _ w).alloc (Nat.le_refl _) _).alloc (by simp) _
  have e1 := conv_bytes (ho.below hb0)
  have e2 := conv_bytes (ho'.below hb0)
  have e3 := conv_bytes (hd.below hb0)
  have e4 := conv_bytes (hd'.below hb0)
  have x0 : w0.cell? ⟨w.heap.size, 0, none⟩ = some (.int .i64 p.tos) := k1.cell 0 _ rfl
  have x1 : w0.cell? ⟨w.heap.size, 1, none⟩ = some (.int .i64 p.id) := k1.cell 1 _ rfl
  have x2 : w0.cell? ⟨w.heap.size, 2, none⟩ = some (.int .i64 p.off) := k1.cell 2 _ rfl
  have x3 : w0.cell? ⟨w.heap.size, 3, none⟩ = some (.int .i64 p.ttl) := k1.cell 3 _ rfl
  have x4 : w0.cell? ⟨w.heap.size, 4, none⟩ = some (.int .i64 p.pr) := k1.cell 4 _ rfl
  have x5 : w0.cell? ⟨w.heap.size, 5, none⟩ = some (.int .i64 p.src) := k1.cell 5 _ rfl
  have x6 : w0.cell? ⟨w.heap.size, 6, none⟩ = some (.int .i64 p.dst) := k1.cell 6 _ rfl
  have x7 : w0.cell? ⟨w.heap.size, 7, none⟩ = some (.bool p.df) := k1.cell 7 _ rfl
  have x8 : w0.cell? ⟨w.heap.size, 8, none⟩ = some (.bool p.mf) := k1.cell 8 _ rfl
  have x9 : w0.cell? ⟨w.heap.size, 9, none⟩ = some (.slice Ao no co) := k1.cell 9 _ rfl
  have x10 : w0.cell? ⟨w.heap.size, 10, none⟩ = some (.slice A n c) := k1.cell 10 _ rfl
  have y0 : w0.cell? ⟨w.heap.size + 1, 0, none⟩ = some (.int .i64 p.tos) := k2.cell 0 _ rfl
  have y1 : w0.cell? ⟨w.heap.size + 1, 1, none⟩ = some (.int .i64 p.id) := k2.cell 1 _ rfl
  have y2 : w0.cell? ⟨w.heap.size + 1, 2, none⟩ = some (.int .i64 p.off) := k2.cell 2 _ rfl
  have y3 : w0.cell? ⟨w.heap.size + 1, 3, none⟩ = some (.int .i64 p.ttl) := k2.cell 3 _ rfl
  have y4 : w0.cell? ⟨w.heap.size + 1, 4, none⟩ = some (.int .i64 p.pr) := k2.cell 4 _ rfl
  have y5 : w0.cell? ⟨w.heap.size + 1, 5, none⟩ = some (.int .i64 p.src) := k2.cell 5 _ rfl
  have y6 : w0.cell? ⟨w.heap.size + 1, 6, none⟩ = some (.int .i64 p.dst) := k2.cell 6 _ rfl
  have y7 : w0.cell? ⟨w.heap.size + 1, 7, none⟩ = some (.bool p.df) := k2.cell 7 _ rfl
  have y8 : w0.cell? ⟨w.heap.size + 1, 8, none⟩ = some (.bool p.mf) := k2.cell 8 _ rfl
  have y9 : w0.cell? ⟨w.heap.size + 1, 9, none⟩ = some (.slice Ao' no co') := k2.cell 9 _ rfl
  have y10 : w0.cell? ⟨w.heap.size + 1, 10, none⟩ = some (.slice A' n c') := k2.cell 10 _ rfl
  replace hb0 := Lib.hid hb0
  clear k1 k2 ho hd ho' hd'
  go_enter Try.func19, Try.ntmps19
  go_wp2
  go_ret
  exact ⟨by first | rfl | simp, hb0.out⟩
end Go.Proofs.Ytmbmmpbfmakfbaa
/- From an argument's reading to words of this claim: slices of bytes, slices of slices of bytes. No condition. -/
set_option linter.unusedVariables false
namespace Go.Proofs.Ytmbmmpbfmakfbaa
open Go.ChangeShapes Go.WideShapes Go.ChangeAt Go.RowKit Go.Deep

theorem own_knob : ownKnob Try.prog.godebug = none := by kernel_rfl
theorem laid_out : laidOutB Try.prog = true := by kernel_rfl
theorem cells_u8 : Try.prog.cellsOf 5 = 1 := by kernel_rfl
theorem cells_u8s : Try.prog.cellsOf 24 = 1 := by kernel_rfl

theorem block_lt {w : World} {p : Addr} {v : Value} (h : w.cell? p = some v) : p.block < w.heap.size := by
  unfold World.cell? at h
  cases e : w.heap[p.block]? with
  | none => simp [e] at h
  | some o => exact (Array.getElem?_eq_some_iff.1 e).1

section
variable {H : Type} {enc : TypeId × Value → H} {W : World} {base : Nat}
theorem rb_of_cells {fuel : Nat} {A : Option Addr} {n c : Nat} {x : DataW H × List MemPlace} (h : DataW.trod enc Try.prog W 0 (fun _ => true) true fuel 24 [.slice A n c] = some x) : ∃ bs, RB W A n c bs := by
  rcases open_ints Try.underlying24 Try.underlying5 cells_u8 h with ⟨hcs, hx⟩ | ⟨a, len, cap, zs, hcs, _, hl, hm, hz, hx, hcell, hwz⟩
  · simp only [List.cons.injEq, Value.slice.injEq, and_true] at hcs
    obtain ⟨rfl, rfl, rfl⟩ := hcs
    exact ⟨[], RB.nil W⟩
  · simp only [List.cons.injEq, Value.slice.injEq, and_true] at hcs
    obtain ⟨rfl, rfl, rfl⟩ := hcs
    simp only [if_true] at hz
    refine ⟨zs.take n, by rw [List.length_take]; omega, hl, hm, fun x hx => ?_, fun h => by (cases h), fun hn => ?_⟩
    · have := bounds_u8 (hwz x (List.mem_of_mem_take hx)); omega
    · obtain ⟨b, off, rfl, hc⟩ := ints_at hcell (by omega)
      refine ⟨b, off, rfl, block_lt (hc 0 (by omega)), fun j hj => ?_⟩
      rw [hc j (by omega), List.getElem?_take, if_pos hj, List.getD_eq_getElem?_getD]
set_option maxRecDepth 100000 in
theorem rb_of {r : Reach} {b0 : Nat} {v : Value} {d : DataW H} {p : List MemPlace} (hv : Value.okWide Try.prog W r b0 24 v) (h : DataW.Trod enc Try.prog W 0 (fun _ => true) true 24 v d p) :
    ∃ A n c bs, v = .slice A n c ∧ RB W A n c bs := by
  obtain ⟨A, n, c, rfl⟩ := okWide_slice Try.underlying24 hv
  obtain ⟨fuel, hf⟩ := h
  obtain ⟨bs, hb⟩ := rb_of_cells (A := A) (n := n) (c := c) hf
  exact ⟨A, n, c, bs, rfl, hb⟩
end
end Go.Proofs.Ytmbmmpbfmakfbaa
/- From an argument's reading to words of this claim: a struct's fields, one by one; arrays of bytes. No condition. -/
set_option linter.unusedVariables false
namespace Go.Proofs.Ytmbmmpbfmakfbaa
open Go.ChangeShapes Go.WideShapes Go.ChangeAt Go.RowKit Go.Deep

section
variable {H : Type} {enc : TypeId × Value → H} {W : World} {base : Nat}
/-- A field of one cell. -/
theorem field_cell {t : TypeId} {fs : Array Field} {fuel : Nat} {C : Array Value} {x : DataW H × List MemPlace} (ht : Try.prog.underlying t = some (.struct fs)) (h : DataW.trod enc Try.prog W 0 (fun _ => true) true fuel t C.toList = some x)
    (i : Nat) (f : Field) (hf : fs[i]? = some f) (h1 : Try.prog.cellsOf f.type = 1) (ho : f.offset < C.size) :
    ∃ v n y, C[f.offset]? = some v ∧ DataW.trod enc Try.prog W 0 (fun _ => true) true n f.type [v] = some y := by
  obtain ⟨xs, n, _, _, hl, hlen, hall⟩ := DataW.trod_struct ht h
  have hi : i < xs.length := by have := (Array.getElem?_eq_some_iff.1 hf).1; omega
  have h2 := hall i f hf
  rw [List.getElem?_eq_getElem hi, h1] at h2
  have h3 : (C.toList.drop f.offset).take 1 = [C[f.offset]] := by
    rw [List.drop_eq_getElem_cons (by simpa using ho)]; simp
  rw [h3] at h2
  exact ⟨C[f.offset], n, _, Array.getElem?_eq_getElem ho, h2⟩
theorem field_int {t : TypeId} {fs : Array Field} {fuel : Nat} {C : Array Value} {x : DataW H × List MemPlace} (ht : Try.prog.underlying t = some (.struct fs)) (h : DataW.trod enc Try.prog W 0 (fun _ => true) true fuel t C.toList = some x)
    (i : Nat) (f : Field) (hf : fs[i]? = some f) (h1 : Try.prog.cellsOf f.type = 1) (ho : f.offset < C.size) (hi : Try.prog.underlying f.type = some (.int .i64)) :
    ∃ z, C[f.offset]? = some (.int .i64 z) ∧ -9223372036854775808 ≤ z ∧ z ≤ 9223372036854775807 := by
  obtain ⟨v, n, y, h2, h3⟩ := field_cell ht h i f hf h1 ho
  obtain ⟨z, hz, _, hw⟩ := DataW.trod_int hi h3
  cases hz
  exact ⟨z, h2, bounds_i64 hw⟩
theorem field_bool {t : TypeId} {fs : Array Field} {fuel : Nat} {C : Array Value} {x : DataW H × List MemPlace} (ht : Try.prog.underlying t = some (.struct fs)) (h : DataW.trod enc Try.prog W 0 (fun _ => true) true fuel t C.toList = some x)
    (i : Nat) (f : Field) (hf : fs[i]? = some f) (h1 : Try.prog.cellsOf f.type = 1) (ho : f.offset < C.size) (hi : Try.prog.underlying f.type = some .bool) :
    ∃ z, C[f.offset]? = some (.bool z) := by
  obtain ⟨v, n, y, h2, h3⟩ := field_cell ht h i f hf h1 ho
  obtain ⟨z, hz, _⟩ := DataW.trod_bool hi h3
  cases hz
  exact ⟨z, h2⟩
theorem slice_of_cells {fuel : Nat} {e : TypeId} {t : TypeId} {v : Value} {x : DataW H × List MemPlace} (ht : Try.prog.underlying t = some (.slice e)) (h : DataW.trod enc Try.prog W 0 (fun _ => true) true fuel t [v] = some x) : ∃ A n c, v = .slice A n c := by
  rcases DataW.trod_slice ht h with ⟨hc, _⟩ | ⟨a, len, cap, _, _, _, _, hc, _⟩
  · simp at hc; exact ⟨_, _, _, hc⟩
  · simp at hc; exact ⟨_, _, _, hc⟩
theorem field_bytes {t : TypeId} {fs : Array Field} {fuel : Nat} {C : Array Value} {x : DataW H × List MemPlace} (ht : Try.prog.underlying t = some (.struct fs)) (h : DataW.trod enc Try.prog W 0 (fun _ => true) true fuel t C.toList = some x)
    (i : Nat) (f : Field) (hf : fs[i]? = some f) (ho : f.offset < C.size) (hi : f.type = 24) :
    ∃ A n c bs, C[f.offset]? = some (.slice A n c) ∧ RB W A n c bs := by
  obtain ⟨v, n, y, h2, h3⟩ := field_cell ht h i f hf (by rw [hi]; exact cells_u8s) ho
  rw [hi] at h3
  obtain ⟨A, m, c, rfl⟩ := slice_of_cells Try.underlying24 h3
  obtain ⟨bs, hr⟩ := rb_of_cells h3
  exact ⟨A, m, c, bs, h2, hr⟩
/-- An array of bytes in a field. -/
theorem field_arr {t : TypeId} {fs : Array Field} {fuel : Nat} {C : Array Value} {x : DataW H × List MemPlace} (ht : Try.prog.underlying t = some (.struct fs)) (h : DataW.trod enc Try.prog W 0 (fun _ => true) true fuel t C.toList = some x)
    (i : Nat) (f : Field) (hf : fs[i]? = some f) (m : Nat) (h1 : Try.prog.cellsOf f.type = m) (ho : f.offset + m ≤ C.size) (hi : Try.prog.underlying f.type = some (.array m 5)) :
    ∃ bs : List Int, bs.length = m ∧ Byts bs ∧ ∀ j, j < m → C[f.offset + j]? = some (.int .u8 (bs[j]?.getD 0)) := by
  obtain ⟨xs, n, _, _, hl, hlen, hall⟩ := DataW.trod_struct ht h
  have hi' : i < xs.length := by have := (Array.getElem?_eq_some_iff.1 hf).1; omega
  have h2 := hall i f hf
  rw [List.getElem?_eq_getElem hi', h1] at h2
  obtain ⟨ys, q, _, _, hl2, hlen2, hall2⟩ := DataW.trod_array hi h2
  have hc : ∀ j, j < m → ∃ z, C[f.offset + j]? = some (.int .u8 z) ∧ 0 ≤ z ∧ z ≤ 255 := fun j hj => by
    have h3 := hall2 j hj
    rw [List.getElem?_eq_getElem (by omega), cells_u8] at h3
    have h4 : (((C.toList.drop f.offset).take m).drop (j * 1)).take 1 = [C[f.offset + j]] := by
      rw [Nat.mul_one, List.drop_eq_getElem_cons (by simp; omega)]; simp
    rw [h4] at h3
    obtain ⟨z, hz, _, hw⟩ := DataW.trod_int Try.underlying5 h3
    simp at hz
    have := bounds_u8 hw
    exact ⟨z, by rw [Array.getElem?_eq_getElem (by omega), hz], by omega, by omega⟩
  refine ⟨(List.range m).map fun j => intOf (C[f.offset + j]?.getD undef), by simp, fun z hz => ?_, fun j hj => ?_⟩
  · simp only [List.mem_map, List.mem_range] at hz
    obtain ⟨j, hj, rfl⟩ := hz
    obtain ⟨z, e, h0, h1⟩ := hc j hj
    rw [e]; exact ⟨h0, h1⟩
  · obtain ⟨z, e, _, _⟩ := hc j hj
    rw [List.getElem?_map, List.getElem?_range hj, e]
    simp [e, intOf]
end
end Go.Proofs.Ytmbmmpbfmakfbaa
/- Fragments of IPv4 (cut4): the kind of packets. -/
set_option linter.unusedVariables false
namespace Go.Proofs.Ytmbmmpbfmakfbaa
open Go Go.RowKit

/-- A packet of IPv4 in a list: what it is, and where its options and its data lie. -/
structure B4 where
  p : V4P
  ao : Option Addr
  no : Nat
  co : Nat
  a : Option Addr
  n : Nat
  c : Nat
def B4.cells (x : B4) : Array Value := cells4 x.p x.ao x.no x.co x.a x.n x.c
def kV4 : Kd where
  β := B4
  K := 11
  cells := B4.cells
  sl := fun x => [(x.ao, x.no, x.co, x.p.opts), (x.a, x.n, x.c, x.p.data)]
  ok := fun _ => True
  size := fun x _ => rfl
  one := fun x _ u hu => by
    simp [B4.cells, cells4] at hu
    rcases hu with rfl | rfl | rfl | rfl | rfl | rfl | rfl | rfl | rfl | rfl | rfl <;> rfl
  pos := by decide
/-- How many bytes of data go into a fragment. -/
def fit4 (head left : Nat) (mtu : Int) : Nat := if (head : Int) + left ≤ mtu then left else ((mtu - head) / 8 * 8).toNat
end Go.Proofs.Ytmbmmpbfmakfbaa
/- From an argument's reading to words of this claim: a packet of IPv4 by value, a slice of such packets. No condition. -/
set_option linter.unusedVariables false
namespace Go.Proofs.Ytmbmmpbfmakfbaa
open Go.ChangeShapes Go.WideShapes Go.ChangeAt Go.RowKit Go.Deep

theorem cells_v4 : Try.prog.cellsOf 32 = 11 := by kernel_rfl
theorem array11 {C : Array Value} (h : C.size = 11) : ∃ c0 c1 c2 c3 c4 c5 c6 c7 c8 c9 c10, C = #[c0, c1, c2, c3, c4, c5, c6, c7, c8, c9, c10] := by
  obtain ⟨l⟩ := C
  match l, h with
  | [c0, c1, c2, c3, c4, c5, c6, c7, c8, c9, c10], _ => exact ⟨c0, c1, c2, c3, c4, c5, c6, c7, c8, c9, c10, rfl⟩
/-- Each number is one that an int can be. -/
structure V4P.Fit (p : V4P) : Prop where
  tos : -9223372036854775808 ≤ p.tos ∧ p.tos ≤ 9223372036854775807
  id : -9223372036854775808 ≤ p.id ∧ p.id ≤ 9223372036854775807
  off : -9223372036854775808 ≤ p.off ∧ p.off ≤ 9223372036854775807
  ttl : -9223372036854775808 ≤ p.ttl ∧ p.ttl ≤ 9223372036854775807
  pr : -9223372036854775808 ≤ p.pr ∧ p.pr ≤ 9223372036854775807
  src : -9223372036854775808 ≤ p.src ∧ p.src ≤ 9223372036854775807
  dst : -9223372036854775808 ≤ p.dst ∧ p.dst ≤ 9223372036854775807
section
variable {H : Type} {enc : TypeId × Value → H} {W : World}
set_option maxRecDepth 100000 in
theorem v4_cells {fuel : Nat} {C : Array Value} {x : DataW H × List MemPlace} (hf : DataW.trod enc Try.prog W 0 (fun _ => true) true fuel 32 C.toList = some x) (hsz : C.size = 11) :
    ∃ (p : V4P) (Ao : Option Addr) (no co : Nat) (A : Option Addr) (n c : Nat), C = cells4 p Ao no co A n c ∧ RB W Ao no co p.opts ∧ RB W A n c p.data ∧ p.Fit := by
  have ci : Try.prog.cellsOf 3 = 1 := by kernel_rfl
  have cb : Try.prog.cellsOf 4 = 1 := by kernel_rfl
  obtain ⟨z0, e0, b0⟩ := field_int Try.underlying32 (C := C) hf 0 _ rfl ci (by show _ ≤ C.size; rw [hsz]; decide) Try.underlying3
  obtain ⟨z1, e1, b1⟩ := field_int Try.underlying32 (C := C) hf 1 _ rfl ci (by show _ ≤ C.size; rw [hsz]; decide) Try.underlying3
  obtain ⟨z2, e2, b2⟩ := field_int Try.underlying32 (C := C) hf 2 _ rfl ci (by show _ ≤ C.size; rw [hsz]; decide) Try.underlying3
  obtain ⟨z3, e3, b3⟩ := field_int Try.underlying32 (C := C) hf 3 _ rfl ci (by show _ ≤ C.size; rw [hsz]; decide) Try.underlying3
  obtain ⟨z4, e4, b4⟩ := field_int Try.underlying32 (C := C) hf 4 _ rfl ci (by show _ ≤ C.size; rw [hsz]; decide) Try.underlying3
  obtain ⟨z5, e5, b5⟩ := field_int Try.underlying32 (C := C) hf 5 _ rfl ci (by show _ ≤ C.size; rw [hsz]; decide) Try.underlying3
  obtain ⟨z6, e6, b6⟩ := field_int Try.underlying32 (C := C) hf 6 _ rfl ci (by show _ ≤ C.size; rw [hsz]; decide) Try.underlying3
  obtain ⟨z7, e7⟩ := field_bool Try.underlying32 (C := C) hf 7 _ rfl cb (by show _ ≤ C.size; rw [hsz]; decide) Try.underlying4
  obtain ⟨z8, e8⟩ := field_bool Try.underlying32 (C := C) hf 8 _ rfl cb (by show _ ≤ C.size; rw [hsz]; decide) Try.underlying4
  obtain ⟨Ao, no, co, O, e9, hr9⟩ := field_bytes Try.underlying32 (C := C) hf 9 _ rfl (by show _ ≤ C.size; rw [hsz]; decide) rfl
  obtain ⟨A, n, c, D, e10, hr10⟩ := field_bytes Try.underlying32 (C := C) hf 10 _ rfl (by show _ ≤ C.size; rw [hsz]; decide) rfl
  obtain ⟨c0, c1, c2, c3, c4, c5, c6, c7, c8, c9, c10, rfl⟩ := array11 hsz
  cases e0; cases e1; cases e2; cases e3; cases e4; cases e5; cases e6; cases e7; cases e8; cases e9; cases e10
  exact ⟨⟨z0, z1, z2, z3, z4, z5, z6, z7, z8, O, D⟩, Ao, no, co, A, n, c, rfl, hr9, hr10, ⟨b0, b1, b2, b3, b4, b5, b6⟩⟩
set_option maxRecDepth 100000 in
theorem v4_of {r : Reach} {b0 : Nat} {v : Value} {d : DataW H} {p : List MemPlace} (hv : Value.okWide Try.prog W r b0 32 v) (h : DataW.Trod enc Try.prog W 0 (fun _ => true) true 32 v d p) :
    ∃ (m : V4P) (Ao : Option Addr) (no co : Nat) (A : Option Addr) (n c : Nat), v = .agg (cells4 m Ao no co A n c) ∧ RB W Ao no co m.opts ∧ RB W A n c m.data ∧ m.Fit := by
  obtain ⟨C, rfl, hsz⟩ := okWide_struct Try.underlying32 hv
  rw [cells_v4] at hsz
  obtain ⟨fuel, hf⟩ := h
  obtain ⟨m, Ao, no, co, A, n, c, e, h1, h2, h3⟩ := v4_cells (C := C) hf hsz
  exact ⟨m, Ao, no, co, A, n, c, by rw [e], h1, h2, h3⟩
end
end Go.Proofs.Ytmbmmpbfmakfbaa
