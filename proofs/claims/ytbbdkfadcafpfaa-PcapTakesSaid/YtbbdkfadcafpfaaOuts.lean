/- Lists of structs of a number and bytes: read. -/
import Derived.Test.YtbbdkfadcafpfaaMid
set_option linter.unusedVariables false
namespace Go.Proofs.Ytbbdkfadcafpfaa
open Go Go.RowKit

abbrev cellsO (o : Int × List Int) (A : Option Addr) (n c : Nat) : Array Value := #[.int .i64 o.1, .slice A n c]
abbrev zeroOc : Array Value := #[.int .i64 0, .slice none 0 0]
theorem info_out : (Try.prog.info? 71).map (·.size) = some 2 := by kernel_rfl
theorem run_load_O {W : World} {B : Nat} {cs : Array Value} (h : Blk W B cs 71) (hs : cs.size = 2) : (loadVar 71 ⟨B, 0, none⟩).run Try.prog W = .ok (.agg cs) W :=
  run_loadVar_row W B 71 71 cs _ _ h.at_ Try.underlying71 rfl (by rw [info_out, hs])
theorem wpList_load_O {ops : Array Oper} {rest : List Oper} {op : Oper} {a : Act} {W : World} {Q : Exit → Act → World → Prop} (hgd : Region.wanted op (yielded ops a.tmps) = true) (x : Operand) (ho : op.op = .load 71 x)
    (g : Nat) (hx : a.eval x = .pointer (some ⟨g, 0, none⟩)) (cs : Array Value) (hk : Blk W g cs 71) (hs : cs.size = 2)
    (h : wpList Try.prog ops Q rest (a.put op.dst (.agg cs)) W) : wpList Try.prog ops Q (op :: rest) a W :=
  BigFrame.wpList_want hgd fun _ hK => by
    unfold Oper.wp execOp
    simp only [ho, hx, Instr.loadAt, Instr.sureAddr, Sem.run_bind, Sem.run_pure, Result.andThen_ok, run_load_O hk hs]
    exact hK _ _ h
theorem wpList_store_O {ops : Array Oper} {rest : List Oper} {op : Oper} {a : Act} {W : World} {Q : Exit → Act → World → Prop} (hgd : op.guard = none) (x y : Operand) (ho : op.op = .store 71 x y)
    (g : Nat) (cells : Array Value) (hx : a.eval x = .pointer (some ⟨g, 0, none⟩)) (hy : a.eval y = .agg cells) (old : Array Value) (hk : Blk W g old 71) (ho' : old.size = 2) (hs : cells.size = 2) (h1 : cells.all (·.oneCell') = true)
    (h : wpList Try.prog ops Q rest (a.put op.dst undef) (W.setRow g cells)) : wpList Try.prog ops Q (op :: rest) a W :=
  wpList_store_row hgd 71 x y ho g cells hx hy 71 old hk.at_ (by rw [info_out, hs]) (by rw [ho', hs]) h1 h
theorem one_O (o : Int × List Int) (A : Option Addr) (n c : Nat) : (cellsO o A n c).all (·.oneCell') = true := by simp [Value.oneCell']
theorem ocells {W : World} {B : Nat} {T : TypeId} {o : Int × List Int} {A : Option Addr} {n c : Nat} (h : Blk W B (cellsO o A n c) T) :
    W.cell? ⟨B, 0, none⟩ = some (.int .i64 o.1) ∧ W.cell? ⟨B, 1, none⟩ = some (.slice A n c) := ⟨h.cell 0 _ rfl, h.cell 1 _ rfl⟩
theorem range2 {w : World} {b o : Nat} {v0 v1 : Value} (h0 : w.cell? ⟨b, o, none⟩ = some v0) (h1 : w.cell? ⟨b, o + 1, none⟩ = some v1) : w.rangeAt b o [v0, v1] := fun j v hj => by
  have hlt : j < 2 := (List.getElem?_eq_some_iff.1 hj).1
  have hc : j = 0 ∨ j = 1 := by omega
  rcases hc with rfl | rfl <;> (cases hj; assumption)
structure LP (w : World) (A : Option Addr) (n c : Nat) (l : List (Int × List Int)) : Prop where
  len : l.length = n
  nc : n ≤ c
  cm : c ≤ maxLen
  mem : 0 < n → ∃ b off, A = some ⟨b, off, none⟩ ∧ b < w.heap.size ∧ ∀ i q, l[i]? = some q → ∃ A' m c', (w.cell? ⟨b, off + i * 2, none⟩ = some (.int .i64 q.1) ∧ w.cell? ⟨b, off + i * 2 + 1, none⟩ = some (.slice A' m c')) ∧ RB w A' m c' q.2
theorem LP.nil (w : World) : LP w none 0 0 [] := ⟨rfl, Nat.le_refl _, by simp [maxLen], fun h => absurd h (by omega)⟩
theorem LP.below {w w' : World} {A : Option Addr} {n c : Nat} {l : List (Int × List Int)} (h : LP w A n c l) (hb : Below w.heap.size w w') : LP w' A n c l :=
  ⟨h.len, h.nc, h.cm, fun hn => by
    obtain ⟨b, off, e, hlt, hc⟩ := h.mem hn
    refine ⟨b, off, e, by have := hb.size; omega, fun i q hq => ?_⟩
    obtain ⟨A', m, c', ⟨h0, h1⟩, hr⟩ := hc i q hq
    exact ⟨A', m, c', ⟨(hb.cell (p := ⟨b, _, none⟩) hlt).trans h0, (hb.cell (p := ⟨b, _, none⟩) hlt).trans h1⟩, hr.below hb⟩⟩
/-- The i-th struct of a list. -/
theorem LP.mid {w : World} {A : Option Addr} {n c : Nat} {l : List (Int × List Int)} (h : LP w A n c l) {i : Nat} (hi : i < n) : ∃ b off q A' m c', A = some ⟨b, off, none⟩ ∧ b < w.heap.size ∧ l[i]? = some q ∧ w.rangeAt b (off + i * 2) [.int .i64 q.1, .slice A' m c'] ∧ RB w A' m c' q.2 := by
  obtain ⟨b, off, e, hlt, hc⟩ := h.mem (by omega)
  have hl : i < l.length := by rw [h.len]; exact hi
  obtain ⟨A', m, c', ⟨h0, h1⟩, hr⟩ := hc i l[i] (List.getElem?_eq_getElem hl)
  exact ⟨b, off, l[i], A', m, c', e, hlt, List.getElem?_eq_getElem hl, range2 h0 h1, hr⟩
end Go.Proofs.Ytbbdkfadcafpfaa
