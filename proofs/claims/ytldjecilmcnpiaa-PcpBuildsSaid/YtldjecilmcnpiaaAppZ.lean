/- append of zeros ('append(b, make([]byte, 12)...)') onto a slice of the call's own. -/
import Derived.Test.YtldjecilmcnpiaaHand
import Derived.Lib.AppendZerosOnto
set_option linter.unusedVariables false
namespace Go.Proofs.Ytldjecilmcnpiaa
open Go Go.RowKit

def zs12 : List Int := List.replicate 12 0
theorem zero12 : Builtin.zeroCells (Value.int .u8 0).cells 12 = (u8s zs12).toArray := by kernel_rfl
theorem zs12_byts : Byts zs12 := fun x hx => by
  have := List.eq_of_mem_replicate hx
  subst this
  constructor <;> omega
theorem setCells_ne {g k : Nat} (hne : k ≠ g) : ∀ (cs : List Value) (o : Nat) (W : World), (W.setCells g o cs).heap[k]? = W.heap[k]?
  | [], _, _ => rfl
  | c :: cs, o, W => (setCells_ne hne cs (o + 1) _).trans (Below.heap_setCell W ⟨g, o, none⟩ c k hne)
theorem run_append_zeros12 (w : World) {base : Nat} {A : Option Addr} {n c : Nat} {bs : List Int} (ho : OB w base A n c bs) (h0 : 0 < n) (hn : n ≤ 100000) (hb : base ≤ w.heap.size) (ty : TypeId) :
    ∃ A2 c2 w2, (Builtin.append_ #[22, 3] ty #[.slice A n c, .int .i64 12]).run Try.prog w = .ok (.slice A2 (n + 12) c2) w2 ∧ OB w2 base A2 (n + 12) c2 (bs ++ zs12) ∧ w.grownBy w2 (ownBlk A) ∧ (ownBlk A2 = ownBlk A ∨ ownBlk A2 = some w.heap.size) := by
  obtain ⟨i0, hi, hz0, hz1, hz2⟩ := info_parts info_u8
  have hlb := ho.len
  have hlen : (u8s (bs ++ zs12)).length = (n + 12) * 1 := by rw [u8s_length, List.length_append, hlb]; simp [zs12]
  have hby : Byts (bs ++ zs12) := ho.byt.append zs12_byts
  rcases ho.own.2 with ⟨e, hn0⟩ | ⟨g, cap, cur, e, hg, hh, hnc, hcm, hcs, htk⟩
  · exact absurd hn0 (by omega)
  · cases e
    rw [Nat.mul_one] at hcs htk
    have hblk : Blk w g cur.toList.toArray 5 := ⟨hh⟩
    by_cases hroom : n + 12 ≤ c
    · refine ⟨some ⟨g, 0, none⟩, c, w.setCells g n (u8s zs12), ?_, ⟨⟨hlen, .inr ⟨g, c, _, rfl, hg, (setCells_blk (u8s zs12) n cur.toList w hblk (by rw [u8s_length, show cur.toList.length = c by rw [Array.length_toList, hcs]]; exact hroom)).at_, hroom, hcm, ?_, ?_⟩⟩, hby⟩, ?_, .inl rfl⟩
      · have hst := run_storeCells_cells (P := Try.prog) g n (u8s zs12) 0 w (fun j hj => by rw [u8s_length] at hj; exact (hblk.there n 12 (by simp [hcs]; omega) j hj).1) (fun j hj => by rw [u8s_length] at hj; exact (hblk.there n 12 (by simp [hcs]; omega) j hj).2) (u8s_one _)
        simp only [Nat.add_zero] at hst
        have hw : IntKind.i64.wrap 12 = 12 := by decide
        have hzz := zero12
        simp [Builtin.append_, run_underlying Try.underlying22, run_underlying Try.underlying3, sizeOf, typeInfo, zeroValue, hi, hz0, hz1, hz2, asInt, asIntOf, hw, hroom, Addr.add_lit, hzz, hst]
      · simp only [List.size_toArray]
        rw [length_splice _ _ _ (by rw [u8s_length, show cur.toList.length = c by rw [Array.length_toList, hcs]]; exact hroom), Array.length_toList, hcs, Nat.mul_one]
      · show (splice cur.toList n (u8s zs12)).take ((n + 12) * 1) = _
        unfold splice
        rw [htk, ← List.append_assoc, u8s_append, Nat.mul_one]
        exact List.take_left' (by simp [u8s_length, hlb, zs12])
      · have hbl := below_setCells (w0 := w) (Nat.le_refl g) (u8s zs12) n w (Below.refl g w)
        exact ⟨hbl.os, hbl.tape, hbl.output, hbl.size, fun k hk hne => by
          have hgk : k ≠ g := fun e => hne (by rw [e]; rfl)
          exact setCells_ne hgk (u8s zs12) n w⟩
    · have holds := ho.own.cells (g := g) rfl
      have hfc : (Builtin.firstCells i0.size n (.slice (some ⟨g, 0, none⟩) n c)).run Try.prog w.drew = .ok (u8s bs).toArray w.drew := by
        rw [hz1]
        exact run_firstCells_some (P := Try.prog) w.drew 1 n ⟨g, 0, none⟩ n c (u8s bs) (by rw [u8s_length]; omega) (fun j u hu => holds j u hu)
      have hr := Lib.run_append_grow_zeros (P := Try.prog) w 22 3 ty 5 i0 (.int .u8 0) .i64 .i64 Try.underlying22 Try.underlying3 hi hz0 (some ⟨g, 0, none⟩) n c (u8s bs) hfc 12 (by omega) (by omega) (by omega) (by omega) (by omega) (by rw [hz2]; exact growslice_fits (by omega) (by omega))
      refine ⟨_, _, _, hr, ⟨⟨hlen, .inr ⟨w.heap.size, _, _, rfl, hb, heap_alloc_new w.drew _, grownCap_ge w (n + 12) c _, grownCap_le_maxLen w (n + 12) c _ (by unfold maxLen; omega), ?_, ?_⟩⟩, hby⟩, ⟨rfl, rfl, rfl, by simp, fun k hk _ => heap_alloc_old w.drew _ hk⟩, .inr rfl⟩
      · have hge := grownCap_ge w (n + 12) c 5
        simp only [Array.size_append, List.size_toArray, size_zeroCells, u8s_length, hlb]
        show n + 12 * 1 + (grownCap w (n + 12) c 5 - (n + 12)) * 1 = _
        omega
      · simp only [Array.toList_append, List.append_assoc]
        rw [zero12, ← List.append_assoc, ← hlen, u8s_append]
        exact List.take_left
theorem step_append_zeros12 {ops : Array Oper} {o : Oper} {a : Act} {w : World} {K : Act → World → Prop} {Q : Exit → Act → World → Prop} {E : Prop} (hgd : o.guard = none) (s : Operand)
    (hop : o.op = .call { callee := .builtin .append, args := #[s, .const (.int .i64 12)], argTypes := #[22, 3] })
    {base : Nat} {A : Option Addr} {n c : Nat} {bs : List Int} (hv : a.eval s = .slice A n c) (ho : OB w base A n c bs) (h0 : 0 < n) (hn : n ≤ 100000) (hb : base ≤ w.heap.size)
    (h : ∀ A2 c2 w2, OB w2 base A2 (n + 12) c2 (bs ++ zs12) → w.grownBy w2 (ownBlk A) → (ownBlk A2 = ownBlk A ∨ ownBlk A2 = some w.heap.size) → K (a.put o.dst (.slice A2 (n + 12) c2)) w2) :
    if Region.wanted o (yielded ops a.tmps) = true then Oper.wp Try.prog o a w K Q else E := by
  have hw : Region.wanted o (yielded ops a.tmps) = true := by simp [Region.wanted, hgd]
  rw [if_pos hw]
  obtain ⟨A2, c2, w2, h1, h2, h3, h4⟩ := run_append_zeros12 w ho h0 hn hb o.type
  exact Lib.wp_append_run w s _ 22 3 hop _ _ hv rfl _ w2 h1 (h A2 c2 w2 h2 h3 h4)
end Go.Proofs.Ytldjecilmcnpiaa
