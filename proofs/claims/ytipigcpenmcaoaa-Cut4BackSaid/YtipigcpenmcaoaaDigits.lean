/- The iterator over a number's bytes (be.digits); Collect; Put. -/
import Derived.Test.YtipigcpenmcaoaaSeq
import Derived.Test.YtipigcpenmcaoaaFits
set_option linter.unusedVariables false
namespace Go.Proofs.Ytipigcpenmcaoaa
open Go.RowKit Go.Shelf
attribute [local go_sem] Oper.semAt_some

/-- A number's bytes, the highest first. -/
def digL (n : Int) (s : Nat) : List Int := (List.range s).map fun j => n / 256 ^ (s - 1 - j) % 256
theorem digL_length (n : Int) (s : Nat) : (digL n s).length = s := by simp [digL]
theorem digL_get (n : Int) (s j : Nat) (h : j < s) : (digL n s)[j]? = some (n / 256 ^ (s - 1 - j) % 256) := by
  unfold digL; rw [List.getElem?_map, List.getElem?_range h]; rfl
theorem digL_byts (n : Int) (s : Nat) : Byts (digL n s) := by
  intro x hx
  unfold digL at hx
  rw [List.mem_map] at hx
  obtain ⟨j, _, rfl⟩ := hx
  omega

set_option maxHeartbeats 400000 in
theorem digits_call (n s : Int) (w : World) :
    Calls Try.prog 125 #[.int .i64 n, .int .i64 s] w fun e w' => e = .returned (.func (.func 155) #[] #[.pointer (some ⟨w.heap.size + 1, 0, none⟩), .pointer (some ⟨w.heap.size, 0, none⟩)]) ∧
      (w.alloc (.cells #[.int .i64 n] 3)).alloc (.cells #[.int .i64 s] 3) = w' := by
  go_enter Try.func125, Try.ntmps125
  go_wp2
  go_ret
  exact ⟨rfl, rfl⟩

theorem _root_.Go.Boxed.below {w w' : World} {B : Nat} {t : TypeId} {v : Value} (h : Boxed w B t v) (hb : Below w.heap.size w w') : Boxed w' B t v := (hb.block B h.lt).trans h

set_option maxRecDepth 100000 in
set_option maxHeartbeats 1000000 in
theorem digits_seq (Bn Bs : Nat) (n : Int) (s : Nat) (own : Nat → Prop) (w : World) (hn : Boxed w Bn 3 (.int .i64 n)) (hs : Boxed w Bs 3 (.int .i64 s)) (hs4 : s ≤ 4) (hn0 : 0 ≤ n) (o1 : ¬ own Bn) (o2 : ¬ own Bs) :
    SeqIs Try.prog 155 #[.pointer (some ⟨Bs, 0, none⟩), .pointer (some ⟨Bn, 0, none⟩)] (byteE (digL n s)) own w := by
  intro l J Jx W hW hJ hJx hY h0
  have hB1 := hn.lt
  have hB2 := hs.lt
  have hc1 := (hW.cell (p := ⟨Bn, 0, none⟩) hn.lt).trans hn.cell
  have hc2 := (hW.cell (p := ⟨Bs, 0, none⟩) hs.lt).trans hs.cell
  clear hn hs
  refine callsIn_of_wp Try.func155 rfl trivial ?_ rfl
  simp only [Try.ntmps155, List.size_toArray, List.length_cons, List.length_nil, Nat.reduceAdd, Nat.reduceSub, Array.replicate_succ, Array.replicate_zero, List.push_toArray, List.append_toArray, List.nil_append, List.cons_append]
  gi_wp2
  gi_loopw [4] (fun i wr => ∃ k : Nat, k ≤ s ∧ i = .int .i64 ((s : Int) - 1 - k) ∧ J k wr ∧ KeepX own w.heap.size W wr) (fun i _ => ((intOf i) + 1).toNat)
  case atStart => exact ⟨0, by omega, by simp, h0, KeepX.refl _ _ _⟩
  case round =>
    obtain ⟨k, hk, rfl, hJk, hkp⟩ := hrel
    have hc : wr.cell? ⟨Bn, 0, none⟩ = some (.int .i64 n) := (hkp.cell (p := ⟨Bn, 0, none⟩) hB1 o1).trans hc1
    by_cases hlt : k < s
    · obtain ⟨i, hi⟩ : ∃ i : Nat, i = s - 1 - k := ⟨_, rfl⟩
      obtain ⟨fn, tmps, assign, body, hy, hR⟩ := hY k _ wr (by unfold byteE; rw [List.getElem?_map, digL_get _ _ _ hlt]; rfl) hJk
      rw [← hi] at hy
      have hi4 : i = 0 ∨ i = 1 ∨ i = 2 ∨ i = 3 := by omega
      have hsi : (s : Int) - 1 - k = i := by omega
      rw [hsi]
      have hik : (i : Int) = s - 1 - k := by omega
      clear hsi hi hc1 hc2
      rcases hi4 with rfl | rfl | rfl | rfl
      all_goals
        simp only [Int.reducePow, Int.ediv_one] at hy
        replace hik := Lib.hid hik
        gi_wp2
        refine ⟨rfl, hR.mono ?_⟩
        rintro e W3 (⟨rfl, hJ3, hk3⟩ | ⟨rfl, hJx3⟩)
        · gi_wp2
          go_roundw
          case rel => exact ⟨k + 1, by omega, by have := hik.out; congr 1; omega, hJ3, hkp.trans hk3⟩
          case measure => simp [intOf]; first | done | (have := hik.out; omega)
        · gi_wp2
          refine bodyPost_ret (results_none rfl _ _ _) rfl ?_
          exact ⟨⟨_, rfl⟩, .inr ⟨k + 1, by simp [byteE, digL_length]; omega, hJx3⟩⟩
    · have : ((s : Int) - 1 - k) < 0 := by omega
      clear hc1 hc2
      gi_wp2
      go_end0
      refine ⟨⟨_, rfl⟩, .inl ?_⟩
      rw [show (byteE (digL n s)).length = k from by simp [byteE, digL_length]; omega]
      exact hJk

end Go.Proofs.Ytipigcpenmcaoaa
