/- Datagrams (udp): walk of Parse. -/
import Derived.Test.YtmbmmpbfmakfbaaUdpB
import Derived.Test.YtmbmmpbfmakfbaaBase
import Derived.Test.YtmbmmpbfmakfbaaSeq
set_option linter.unusedVariables false
namespace Go.Proofs.Ytmbmmpbfmakfbaa
open Go.RowKit Go.Shelf
attribute [local go_sem] Oper.semAt_some

def parsedU (bs : List Int) : UdpP := ⟨(getV bs 0 2).1, (getV bs 2 2).1, (getV bs 6 2).1 == 0, bs.drop 8⟩
def codeU (src dst : Int) (bs : List Int) : Int :=
  if bs.length < 8 then 3 else if (getV bs 4 2).1 < 8 then 4 else if (bs.length : Int) < (getV bs 4 2).1 then 3 else if (getV bs 4 2).1 < (bs.length : Int) then 4 else
  if ((getV bs 6 2).1 == 0) = true then 0 else if (foldI (totalI [pseudoB src dst 17 (bs.length : Nat), bs]) == 65535) = true then 0 else 5
def readU (src dst : Int) (bs : List Int) : UdpP := if codeU src dst bs = 0 then parsedU bs else ⟨0, 0, false, []⟩
def UdpOut (w : World) (m : UdpP) (e0 : Int) (e : Ending) (w' : World) : Prop := ∃ A2 n2 c2, e = .returned (.tuple #[.agg (cellsU m A2 n2 c2), .int .i64 e0]) ∧ OB w' w.heap.size A2 n2 c2 m.data ∧ Below w.heap.size w w'
theorem UdpOut.bad {w w' : World} {src dst : Int} {bs : List Int} {k : Int} (hk : codeU src dst bs = k) (h0 : k ≠ 0) (hb : Below w.heap.size w w') : UdpOut w (readU src dst bs) (codeU src dst bs) (.returned (.tuple #[.agg #[.int .i64 0, .int .i64 0, .bool false, .slice none 0 0], .int .i64 k])) w' := by
  unfold readU
  rw [hk, if_neg h0]
  exact ⟨none, 0, 0, rfl, OB.nil _ _, hb⟩
theorem getV_word (bs : List Int) (i : Nat) (h : 2 * i + 2 ≤ bs.length) : (getV bs (2 * (i : Int)) 2).1 = wordI bs (2 * i) := by
  unfold getV
  rw [if_neg (by omega), if_neg (by omega)]
  have e : (2 * (i : Int)).toNat = 2 * i := by omega
  simp only [e]
  have h0 : 2 * i < bs.length := by omega
  have h1 : 2 * i + 1 < bs.length := by omega
  have : cutI bs (2 * i) (2 : Int).toNat = [bs[2 * i], bs[2 * i + 1]] := by
    unfold cutI
    rw [List.drop_eq_getElem_cons h0, List.drop_eq_getElem_cons h1]
    rfl
  rw [this]
  unfold wordI
  rw [List.getElem?_eq_getElem h0, List.getElem?_eq_getElem h1]
  simp [beNum]
theorem wordI_take (bs : List Int) (j : Nat) (hj : j + 1 < 8) : wordI (bs.take 8) j = wordI bs j := by
  unfold wordI
  rw [List.getElem?_take, List.getElem?_take, if_pos (by omega), if_pos hj]
theorem Blk.grU {N : Nat} {A B : World} {b : Nat} {P : Array Value} {T : TypeId} (h : Blk A b P T) (hg : Gr N A B) : Blk B b P T := ⟨hg.keep b _ h.at_ (.inr rfl)⟩

/-- The first words, in an array of four. -/
def arrU (bs : List Int) (i : Nat) : Array Value := #[.int .i64 (if 0 < i then wordI bs 0 else 0), .int .i64 (if 1 < i then wordI bs 2 else 0), .int .i64 (if 2 < i then wordI bs 4 else 0), .int .i64 (if 3 < i then wordI bs 6 else 0)]
theorem arrU_set (bs : List Int) (i : Nat) (hi : i < 4) : (arrU bs i).setIfInBounds i (.int .i64 (wordI bs (2 * i))) = arrU bs (i + 1) := by
  have : i = 0 ∨ i = 1 ∨ i = 2 ∨ i = 3 := by omega
  rcases this with rfl | rfl | rfl | rfl <;> simp [arrU]

theorem set4_far (W : World) {B D : Nat} (h : D ≠ B) (v0 v1 v2 v3 : Value) : (set4 W B v0 v1 v2 v3).heap[D]? = W.heap[D]? := by
  unfold set4
  rw [Below.heap_setCell _ _ _ _ h, Below.heap_setCell _ _ _ _ h, Below.heap_setCell _ _ _ _ h, Below.heap_setCell _ _ _ _ h]
theorem marks_set4 {N : Nat} {W : World} {D B : Nat} (h : Marks N W [{ target := .collected D, args := #[] }]) (hB : D ≠ B) (v0 v1 v2 v3 : Value) : Marks N (set4 W B v0 v1 v2 v3) [{ target := .collected D, args := #[] }] :=
  h.keep fun d hd D' e => by
    simp only [List.mem_singleton] at hd
    subst hd
    cases e
    exact set4_far W hB v0 v1 v2 v3

theorem marks_lt {N : Nat} {W : World} {D : Nat} (h : Marks N W [{ target := .collected D, args := #[] }]) : D < W.heap.size := (h.lt _ (List.mem_singleton_self _) D rfl).2
theorem marks_below {N : Nat} {W W' : World} {D : Nat} (h : Marks N W [{ target := .collected D, args := #[] }]) (hb : Below W.heap.size W W') : Marks N W' [{ target := .collected D, args := #[] }] :=
  h.keep fun d hd D' e => hb.block D' (h.lt d hd D' e).2


end Go.Proofs.Ytmbmmpbfmakfbaa
