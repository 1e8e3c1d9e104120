/- Packets of IPv6: rows of cells; results that lie in a variable; what bytes are. -/
import Derived.Test.YtbbdkfadcafpfaaV6B
import Derived.Test.YtbbdkfadcafpfaaMake
import Derived.Test.YtbbdkfadcafpfaaGet
import Derived.Laws.CopyOwn
import Derived.StillTailTactics
set_option linter.unusedVariables false
namespace Go.Proofs.Ytbbdkfadcafpfaa
open Go Go.RowKit

/-- Results of which the first lies in a variable. -/
theorem results_ct {P : Program} {fn : Func} {a b : Tmp} {t : TypeId} {T : Array Value} {w : World} {g : Addr} {v : Value} (h : fn.results = #[.cell a t, .tmp b]) (ha : T.getD a undef = .pointer (some g)) (hl : (loadVar t g).run P w = .ok v w) :
    (results fn T).run P w = .ok (.tuple #[v, T.getD b undef]) w := by
  simp only [Array.getD_eq_getD_getElem?] at ha
  simp [results, h, ha, asAddr, hl]
theorem results_c {P : Program} {fn : Func} {a : Tmp} {t : TypeId} {T : Array Value} {w : World} {g : Addr} {v : Value} (h : fn.results = #[.cell a t]) (ha : T.getD a undef = .pointer (some g)) (hl : (loadVar t g).run P w = .ok v w) :
    (results fn T).run P w = .ok v w := by
  simp only [Array.getD_eq_getD_getElem?] at ha
  simp [results, h, ha, asAddr, hl]
theorem results_ctt {P : Program} {fn : Func} {a b c : Tmp} {t : TypeId} {T : Array Value} {w : World} {g : Addr} {v : Value} (h : fn.results = #[.cell a t, .tmp b, .tmp c]) (ha : T.getD a undef = .pointer (some g)) (hl : (loadVar t g).run P w = .ok v w) :
    (results fn T).run P w = .ok (.tuple #[v, T.getD b undef, T.getD c undef]) w := by
  simp only [Array.getD_eq_getD_getElem?] at ha
  simp [results, h, ha, asAddr, hl]

theorem run_load_V {W : World} {B : Nat} {cs : Array Value} (h : Blk W B cs 26) (hs : cs.size = 37) : (loadVar 26 ⟨B, 0, none⟩).run Try.prog W = .ok (.agg cs) W :=
  run_loadVar_row W B 26 26 cs _ _ h.at_ Try.underlying26 rfl (by rw [info_v6, hs])
theorem wpList_load_V {ops : Array Oper} {rest : List Oper} {op : Oper} {a : Act} {W : World} {Q : Exit → Act → World → Prop} (hgd : Region.wanted op (yielded ops a.tmps) = true) (x : Operand) (ho : op.op = .load 26 x)
    (g : Nat) (hx : a.eval x = .pointer (some ⟨g, 0, none⟩)) (cs : Array Value) (hk : Blk W g cs 26) (hs : cs.size = 37)
    (h : wpList Try.prog ops Q rest (a.put op.dst (.agg cs)) W) : wpList Try.prog ops Q (op :: rest) a W :=
  BigFrame.wpList_want hgd fun _ hK => by
    unfold Oper.wp execOp
    simp only [ho, hx, Instr.loadAt, Instr.sureAddr, Sem.run_bind, Sem.run_pure, Result.andThen_ok, run_load_V hk hs]
    exact hK _ _ h
theorem wpList_store_V {ops : Array Oper} {rest : List Oper} {op : Oper} {a : Act} {W : World} {Q : Exit → Act → World → Prop} (hgd : op.guard = none) (x y : Operand) (ho : op.op = .store 26 x y)
    (g : Nat) (cells : Array Value) (hx : a.eval x = .pointer (some ⟨g, 0, none⟩)) (hy : a.eval y = .agg cells) (old : Array Value) (hk : Blk W g old 26) (ho' : old.size = 37) (hs : cells.size = 37) (h1 : cells.all (·.oneCell') = true)
    (h : wpList Try.prog ops Q rest (a.put op.dst undef) (W.setRow g cells)) : wpList Try.prog ops Q (op :: rest) a W :=
  wpList_store_row hgd 26 x y ho g cells hx hy 26 old hk.at_ (by rw [info_v6, hs]) (by rw [ho', hs]) h1 h

def z16 : List Int := List.replicate 16 0
def rowV (t fl nx hp : Int) (s d : List Int) (v : Value) : List Value := .int .i64 t :: .int .i64 fl :: .int .i64 nx :: .int .i64 hp :: (u8s s ++ (u8s d ++ [v]))
section
variable {t fl nx hp : Int} {s d s' : List Int} {v v' : Value}
theorem rowV_len (hs : s.length = 16) (hd : d.length = 16) : (rowV t fl nx hp s d v).length = 37 := by simp [rowV, u8s_length, hs, hd]
theorem rowV_size (hs : s.length = 16) (hd : d.length = 16) : (rowV t fl nx hp s d v).toArray.size = 37 := by simp [rowV, u8s_length, hs, hd]
theorem rowV_src (hs : s.length = 16) (hs' : s'.length = 16) : splice (rowV t fl nx hp s d v) 4 (u8s s') = rowV t fl nx hp s' d v := by
  have h : (u8s s').length = 16 := by rw [u8s_length, hs']
  have e : ∀ (L : List Value), L.length = 16 → ∀ R : List Value, (.int .i64 t :: .int .i64 fl :: .int .i64 nx :: .int .i64 hp :: (L ++ R) : List Value).drop (4 + 16) = R := fun L hL R => by
    rw [show (4 + 16 : Nat) = 16 + 4 from rfl]
    simp only [List.drop_succ_cons]
    rw [List.drop_append_of_le_length (by omega), List.drop_of_length_le (by omega), List.nil_append]
  unfold splice rowV
  rw [h, e (u8s s) (by rw [u8s_length, hs])]
  simp
theorem rowV_dst (hs : s.length = 16) (hd : d.length = 16) (hs' : s'.length = 16) : splice (rowV t fl nx hp s d v) 20 (u8s s') = rowV t fl nx hp s s' v := by
  have h : (u8s s').length = 16 := by rw [u8s_length, hs']
  have hA : (.int .i64 t :: .int .i64 fl :: .int .i64 nx :: .int .i64 hp :: u8s s : List Value).length = 20 := by simp [u8s_length, hs]
  have e : rowV t fl nx hp s d v = (.int .i64 t :: .int .i64 fl :: .int .i64 nx :: .int .i64 hp :: u8s s) ++ (u8s d ++ [v]) := rfl
  have e' : rowV t fl nx hp s s' v = (.int .i64 t :: .int .i64 fl :: .int .i64 nx :: .int .i64 hp :: u8s s) ++ (u8s s' ++ [v]) := rfl
  rw [e, e']
  generalize (.int .i64 t :: .int .i64 fl :: .int .i64 nx :: .int .i64 hp :: u8s s : List Value) = L at *
  have hd' : (u8s d).length = 16 := by rw [u8s_length, hd]
  unfold splice
  rw [h, List.take_append_of_le_length (by omega), List.take_of_length_le (by omega), List.drop_append, List.drop_of_length_le (by omega), List.nil_append, hA, List.drop_append_of_le_length (by omega), List.drop_of_length_le (by omega), List.nil_append]
theorem rowV_set (hs : s.length = 16) (hd : d.length = 16) : (rowV t fl nx hp s d v).toArray.setIfInBounds 36 v' = (rowV t fl nx hp s d v').toArray := by
  have hA : (.int .i64 t :: .int .i64 fl :: .int .i64 nx :: .int .i64 hp :: (u8s s ++ u8s d) : List Value).length = 36 := by simp [u8s_length, hs, hd]
  have e : ∀ v : Value, rowV t fl nx hp s d v = (.int .i64 t :: .int .i64 fl :: .int .i64 nx :: .int .i64 hp :: (u8s s ++ u8s d)) ++ [v] := fun v => by simp [rowV]
  rw [e v, e v']
  generalize (.int .i64 t :: .int .i64 fl :: .int .i64 nx :: .int .i64 hp :: (u8s s ++ u8s d) : List Value) = L at *
  simp only [List.setIfInBounds_toArray]
  congr 1
  rw [List.set_append, if_neg (by omega), hA]; rfl
theorem rowV_get36 (hs : s.length = 16) (hd : d.length = 16) : (rowV t fl nx hp s d v)[36]? = some v := by
  show (u8s s ++ (u8s d ++ [_]))[32]? = _
  rw [List.getElem?_append_right (by rw [u8s_length]; omega), u8s_length, hs, List.getElem?_append_right (by rw [u8s_length]; omega), u8s_length, hd]; rfl
theorem rowV_V {p : V6P} {A : Option Addr} {n c : Nat} (hs : p.src.length = 16) (hd : p.dst.length = 16) (bs : Byts p.src) (bd : Byts p.dst) : V6V (rowV p.t p.fl p.nx p.hp p.src p.dst (.slice A n c)).toArray p A n c where
  size := rowV_size hs hd
  h0 := rfl
  h1 := rfl
  h2 := rfl
  h3 := rfl
  hs := fun j hj => by
    rw [List.getElem?_toArray, show 4 + j = j + 4 from by omega]
    show (u8s p.src ++ (u8s p.dst ++ [_]))[j]? = _
    rw [List.getElem?_append_left (by rw [u8s_length]; omega), u8s_get _ _ (by omega)]
  hd := fun j hj => by
    rw [List.getElem?_toArray, show 20 + j = (16 + j) + 4 from by omega]
    show (u8s p.src ++ (u8s p.dst ++ [_]))[16 + j]? = _
    rw [List.getElem?_append_right (by rw [u8s_length]; omega), u8s_length, hs, Nat.add_sub_cancel_left, List.getElem?_append_left (by rw [u8s_length]; omega), u8s_get _ _ (by omega)]
  h36 := by
    rw [List.getElem?_toArray]
    show (u8s p.src ++ (u8s p.dst ++ [_]))[32]? = _
    rw [List.getElem?_append_right (by rw [u8s_length]; omega), u8s_length, hs, List.getElem?_append_right (by rw [u8s_length]; omega), u8s_length, hd]; rfl
  ls := hs
  ld := hd
  bs := bs
  bd := bd
theorem rowV_one (hv : v.oneCell' = true) : (rowV t fl nx hp s d v).toArray.all (·.oneCell') = true := by
  rw [Array.all_eq_true']
  intro x hx
  simp only [rowV, List.mem_toArray, List.mem_cons, List.mem_append, List.not_mem_nil, or_false] at hx
  rcases hx with rfl | rfl | rfl | rfl | hx | hx | rfl
  · rfl
  · rfl
  · rfl
  · rfl
  · exact u8s_one _ _ hx
  · exact u8s_one _ _ hx
  · exact hv
end
/-- Bytes, as the source of a copy. -/
theorem RB.src {w W : World} {a : Addr} {n c : Nat} {bs : List Int} (h : RB w (some a) n c bs) (hb : Below w.heap.size w W) (j : Nat) (v : Value) (hv : (u8s bs)[j]? = some v) : W.cell? (a.add j) = some v := by
  have hj : j < bs.length := by have := (List.getElem?_eq_some_iff.1 hv).1; rwa [u8s_length] at this
  have hl := h.len
  obtain ⟨b, off, e, hlt, hc⟩ := h.mem (by omega)
  cases e
  rw [u8s_get bs j hj] at hv
  rw [Go.WideShapes.add_plain, ← hv]
  exact (hb.cell (p := ⟨b, off + j, none⟩) hlt).trans (hc j (by omega))
/-- Each cell of a packet is one cell. -/
theorem V6V.one {P : Array Value} {p : V6P} {A : Option Addr} {n c : Nat} (h : V6V P p A n c) : P.all (·.oneCell') = true := by
  rw [Array.all_eq_true]
  intro i hi
  have hs := h.size
  have e : P[i]? = some P[i] := Array.getElem?_eq_getElem hi
  have hc : i = 0 ∨ i = 1 ∨ i = 2 ∨ i = 3 ∨ (4 ≤ i ∧ i < 20) ∨ (20 ≤ i ∧ i < 36) ∨ i = 36 := by omega
  rcases hc with rfl | rfl | rfl | rfl | hi' | hi' | rfl
  · rw [h.h0] at e; rw [← Option.some.inj e]; rfl
  · rw [h.h1] at e; rw [← Option.some.inj e]; rfl
  · rw [h.h2] at e; rw [← Option.some.inj e]; rfl
  · rw [h.h3] at e; rw [← Option.some.inj e]; rfl
  · have := h.hs (i - 4) (by omega)
    rw [show 4 + (i - 4) = i by omega, e] at this
    rw [Option.some.inj this]; rfl
  · have := h.hd (i - 20) (by omega)
    rw [show 20 + (i - 20) = i by omega, e] at this
    rw [Option.some.inj this]; rfl
  · rw [h.h36] at e; rw [← Option.some.inj e]; rfl
theorem z16_len : z16.length = 16 := rfl
theorem z16_byts : Byts z16 := fun x hx => by
  have := List.eq_of_mem_replicate hx
  subst this
  constructor <;> omega
def zeroV : V6P := ⟨0, 0, 0, 0, z16, z16, []⟩
abbrev zeroVc : Array Value := (rowV 0 0 0 0 z16 z16 (.slice none 0 0)).toArray
theorem zeroVV : V6V zeroVc zeroV none 0 0 := rowV_V (p := zeroV) z16_len z16_len z16_byts z16_byts

/-- What bytes are. -/
def codeV6 (q : Bool) (bs : List Int) : Int :=
  if bs.length < 40 then 3 else if (getV bs 0 4).1 / 268435456 ≠ 6 then 4 else if (bs.length : Int) - 40 < (getV bs 4 2).1 ∧ q = false then 3 else 0
def parsedV (bs : List Int) : V6P :=
  ⟨(getV bs 0 4).1 / 1048576 % 256, (getV bs 0 4).1 % 1048576, bs[6]?.getD 0, bs[7]?.getD 0, (bs.drop 8).take 16, (bs.drop 24).take 16, (bs.drop 40).take (min (getV bs 4 2).1.toNat (bs.length - 40))⟩
def readV6 (q : Bool) (bs : List Int) : V6P := if codeV6 q bs = 0 then parsedV bs else zeroV
def V6Out (w : World) (p : V6P) (e0 : Int) (e : Ending) (w' : World) : Prop :=
  ∃ P A n c, e = .returned (.tuple #[.agg P, .int .i64 e0]) ∧ V6V P p A n c ∧ OB w' w.heap.size A n c p.data ∧ Below w.heap.size w w'
theorem V6Out.bad {w w' : World} {q : Bool} {bs : List Int} {k : Int} (hk : codeV6 q bs = k) (h0 : k ≠ 0) (hb : Below w.heap.size w w') : V6Out w (readV6 q bs) (codeV6 q bs) (.returned (.tuple #[.agg zeroVc, .int .i64 k])) w' := by
  unfold readV6
  rw [hk, if_neg h0]
  exact ⟨_, none, 0, 0, rfl, zeroVV, OB.nil _ _, hb⟩
theorem getV4_bd {bs : List Int} (h : Byts bs) (a : Int) : 0 ≤ (getV bs a 4).1 ∧ (getV bs a 4).1 < 4294967296 := by
  unfold getV
  split
  · simp
  · split
    · simp
    · have hb := cutI_byts h a.toNat (4 : Int).toNat
      have hl : (cutI bs a.toNat (4 : Int).toNat).length ≤ 4 := by unfold cutI; rw [List.length_take]; have : (4 : Int).toNat = 4 := rfl; omega
      have h1 := beNum_lo _ hb
      have h2 := beNum_hi _ hb 4 hl
      exact ⟨h1, by simpa using h2⟩
theorem getV2_bd {bs : List Int} (h : Byts bs) (a : Int) : 0 ≤ (getV bs a 2).1 ∧ (getV bs a 2).1 < 65536 := by
  unfold getV
  split
  · simp
  · split
    · simp
    · have hb := cutI_byts h a.toNat (2 : Int).toNat
      have hl : (cutI bs a.toNat (2 : Int).toNat).length ≤ 2 := by unfold cutI; rw [List.length_take]; have : (2 : Int).toNat = 2 := rfl; omega
      have h1 := beNum_lo _ hb
      have h2 := beNum_hi _ hb 2 hl
      exact ⟨h1, by simpa using h2⟩
theorem below_setRow' {w0 w : World} {N B : Nat} (h : Below N w0 w) (hB : N ≤ B) (P' : Array Value) : Below N w0 (w.setRow B P') := below_row h hB P'
end Go.Proofs.Ytbbdkfadcafpfaa
