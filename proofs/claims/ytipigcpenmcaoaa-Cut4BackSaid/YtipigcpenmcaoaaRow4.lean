/- Packets of IPv4 as whole variables: loads, stores, results. -/
import Derived.Test.YtipigcpenmcaoaaV4C
import Derived.Test.YtipigcpenmcaoaaHand
import Derived.Test.YtipigcpenmcaoaaAppend
import Derived.Test.YtipigcpenmcaoaaStru
import Derived.BigRegion
set_option linter.unusedVariables false
namespace Go.Proofs.Ytipigcpenmcaoaa
open Go Go.RowKit

theorem results_ct {P : Program} {fn : Func} {a b : Tmp} {t : TypeId} {T : Array Value} {w : World} {g : Addr} {v : Value} (h : fn.results = #[.cell a t, .tmp b]) (ha : T.getD a undef = .pointer (some g)) (hl : (loadVar t g).run P w = .ok v w) :
    (results fn T).run P w = .ok (.tuple #[v, T.getD b undef]) w := by
  simp only [Array.getD_eq_getD_getElem?] at ha
  simp [results, h, ha, asAddr, hl]
theorem results_c {P : Program} {fn : Func} {a : Tmp} {t : TypeId} {T : Array Value} {w : World} {g : Addr} {v : Value} (h : fn.results = #[.cell a t]) (ha : T.getD a undef = .pointer (some g)) (hl : (loadVar t g).run P w = .ok v w) :
    (results fn T).run P w = .ok v w := by
  simp only [Array.getD_eq_getD_getElem?] at ha
  simp [results, h, ha, asAddr, hl]
theorem results_cct {P : Program} {fn : Func} {a b c : Tmp} {t u : TypeId} {T : Array Value} {w : World} {g k : Addr} {v y : Value} (h : fn.results = #[.cell a t, .cell b u, .tmp c]) (ha : T.getD a undef = .pointer (some g)) (hb : T.getD b undef = .pointer (some k)) (hl : (loadVar t g).run P w = .ok v w) (hy : (loadVar u k).run P w = .ok y w) :
    (results fn T).run P w = .ok (.tuple #[v, y, T.getD c undef]) w := by
  simp only [Array.getD_eq_getD_getElem?] at ha hb
  simp [results, h, ha, hb, asAddr, hl, hy]
theorem run_load_4 {W : World} {B : Nat} {cs : Array Value} (h : Blk W B cs 24) (hs : cs.size = 11) : (loadVar 24 ⟨B, 0, none⟩).run Try.prog W = .ok (.agg cs) W :=
  run_loadVar_row W B 24 24 cs _ _ h.at_ Try.underlying24 rfl (by rw [info_v4, hs])
theorem wpList_load_4 {ops : Array Oper} {rest : List Oper} {op : Oper} {a : Act} {W : World} {Q : Exit → Act → World → Prop} (hgd : Region.wanted op (yielded ops a.tmps) = true) (x : Operand) (ho : op.op = .load 24 x)
    (g : Nat) (hx : a.eval x = .pointer (some ⟨g, 0, none⟩)) (cs : Array Value) (hk : Blk W g cs 24) (hs : cs.size = 11)
    (h : wpList Try.prog ops Q rest (a.put op.dst (.agg cs)) W) : wpList Try.prog ops Q (op :: rest) a W :=
  BigFrame.wpList_want hgd fun _ hK => by
    unfold Oper.wp execOp
    simp only [ho, hx, Instr.loadAt, Instr.sureAddr, Sem.run_bind, Sem.run_pure, Result.andThen_ok, run_load_4 hk hs]
    exact hK _ _ h
theorem wpList_store_4 {ops : Array Oper} {rest : List Oper} {op : Oper} {a : Act} {W : World} {Q : Exit → Act → World → Prop} (hgd : op.guard = none) (x y : Operand) (ho : op.op = .store 24 x y)
    (g : Nat) (cells : Array Value) (hx : a.eval x = .pointer (some ⟨g, 0, none⟩)) (hy : a.eval y = .agg cells) (old : Array Value) (hk : Blk W g old 24) (ho' : old.size = 11) (hs : cells.size = 11) (h1 : cells.all (·.oneCell') = true)
    (h : wpList Try.prog ops Q rest (a.put op.dst undef) (W.setRow g cells)) : wpList Try.prog ops Q (op :: rest) a W :=
  wpList_store_row hgd 24 x y ho g cells hx hy 24 old hk.at_ (by rw [info_v4, hs]) (by rw [ho', hs]) h1 h
theorem one4 (p : V4P) (Ao : Option Addr) (no co : Nat) (A : Option Addr) (n c : Nat) : (cells4 p Ao no co A n c).all (·.oneCell') = true := by simp [cells4, Value.oneCell']
theorem nbc4 {X : World} {gp : Nat} {q : V4P} {x1 : Option Addr} {x2 x3 : Nat} {y1 : Option Addr} {y2 y3 : Nat} (h : Blk X gp (cells4 q x1 x2 x3 y1 y2 y3) 24) : ∀ j x, X.cell? ⟨gp, j, none⟩ ≠ some (.int .u8 x) := h.nobytes (fun u hu x => by simp at hu; rcases hu with rfl | rfl | rfl | rfl | rfl | rfl | rfl | rfl | rfl | rfl | rfl <;> simp)
theorem setRow_far (w : World) (g : Nat) (cs : Array Value) (k : Nat) (h : k ≠ g) : (w.setRow g cs).heap[k]? = w.heap[k]? := by
  simp [World.setRow, Array.getElem?_modify, Ne.symm h]
/-- A row of a variable is stored anew: nothing in it is a byte. -/
theorem RB.farRow {w : World} {B : Nat} {A : Option Addr} {n c : Nat} {bs : List Int} (h : RB w A n c bs) (hB : ∀ j x, w.cell? ⟨B, j, none⟩ ≠ some (.int .u8 x)) (cells : Array Value) : RB (w.setRow B cells) A n c bs :=
  ⟨h.len, h.nc, h.cm, h.byt, h.niln, fun hn => by
    obtain ⟨b, off, rfl, hlt, hc⟩ := h.mem hn
    have hne : b ≠ B := fun e => by subst e; exact hB _ _ (hc 0 hn)
    exact ⟨b, off, rfl, by rw [size_setRow]; exact hlt, fun j hj => (World.cell?_of_block (a := ⟨b, off + j, none⟩) (setRow_far w B cells b hne)).trans (hc j hj)⟩⟩
end Go.Proofs.Ytipigcpenmcaoaa
