/- The iterator over the words of bytes, and the sum of the words of parts: walks, in the program and in the reference. -/
import Derived.Test.YtccdbelngjonaaaRange
import Derived.Test.YtccdbelngjonaaaWord
set_option linter.unusedVariables false
namespace Go.Proofs.Ytccdbelngjonaaa
open Go.RowKit
attribute [local go_sem] Oper.semAt_some

/-- What Words hands on. -/
def wordsE (bs : List Int) (n : Nat) : List (Array Value) := (List.range ((n + 1) / 2)).map fun (i : Nat) => #[.int .i64 (2 * (i : Int)), .int .i64 (wordI bs (2 * i))]
theorem wordsE_get (bs : List Int) (n i : Nat) (h : 2 * i < n) : (wordsE bs n)[i]? = some #[.int .i64 (2 * (i : Int)), .int .i64 (wordI bs (2 * i))] := by
  unfold wordsE; rw [List.getElem?_map, List.getElem?_range (by omega)]; rfl
theorem wordsE_length (bs : List Int) (n : Nat) : (wordsE bs n).length = (n + 1) / 2 := by simp [wordsE]
theorem wordsE_inv (bs : List Int) (n i : Nat) (e : Array Value) (h : (wordsE bs n)[i]? = some e) : 2 * i < n ∧ e = #[.int .i64 (2 * (i : Int)), .int .i64 (wordI bs (2 * i))] := by
  have hi : i < (n + 1) / 2 := by have := (List.getElem?_eq_some_iff.1 h).1; rwa [wordsE_length] at this
  have h2 : 2 * i < n := by omega
  rw [wordsE_get bs n i h2] at h
  exact ⟨h2, (Option.some.inj h).symm⟩
theorem wordI_bd {bs : List Int} (h : Byts bs) (k : Nat) : 0 ≤ wordI bs k ∧ wordI bs k ≤ 65535 := by
  have h1 := h.get k
  have h2 := h.get (k + 1)
  unfold wordI; omega

set_option maxHeartbeats 400000 in
theorem Words_call (A : Option Addr) (n c : Nat) (w : World) :
    Calls Try.prog 115 #[.slice A n c] w fun e w' => e = .returned (.func (.func 116) #[] #[.pointer (some ⟨w.heap.size, 0, none⟩)]) ∧ w.alloc (.cells #[.slice A n c] 22) = w' := by
  go_enter Try.func115, Try.ntmps115
  go_wp2
  go_ret
  exact ⟨rfl, rfl⟩

theorem toNat_two (k : Nat) : (2 * (k : Int)).toNat = 2 * k := by omega

set_option maxRecDepth 100000 in
set_option maxHeartbeats 1000000 in
theorem Words_seq (Bs n c : Nat) (A : Option Addr) (bs : List Int) (own : Nat → Prop) (w : World) (hx : Boxed w Bs 22 (.slice A n c)) (h : RB w A n c bs) (hn : n ≤ 100000) (ho : ¬ own Bs)
    (hoA : 0 < n → ∀ b off, A = some ⟨b, off, none⟩ → ¬ own b) : SeqIs Try.prog 116 #[.pointer (some ⟨Bs, 0, none⟩)] (wordsE bs n) own w := by
  intro l J Jx W hW hJ hJx hY h0
  have hB0 := hx.lt
  have hcB := (hW.cell (p := ⟨Bs, 0, none⟩) hx.lt).trans hx.cell
  clear hx
  refine callsIn_of_wp Try.func116 rfl trivial ?_ rfl
  simp only [Try.ntmps116, List.size_toArray, List.length_cons, List.length_nil, Nat.reduceAdd, Nat.reduceSub, Array.replicate_succ, Array.replicate_zero, List.push_toArray, List.append_toArray, List.nil_append, List.cons_append]
  gi_wp2
  gi_loopw [3] (fun i wr => ∃ k : Nat, 2 * k ≤ n + 1 ∧ i = .int .i64 (2 * (k : Int)) ∧ J k wr ∧ KeepX own w.heap.size W wr) (fun i _ => n + 2 - (intOf i).toNat)
  case atStart => exact ⟨0, by omega, rfl, h0, KeepX.refl _ _ _⟩
  case round =>
    obtain ⟨k, hk, rfl, hJk, hkp⟩ := hrel
    have hcBr : wr.cell? ⟨Bs, 0, none⟩ = some (.slice A n c) := (hkp.cell (p := ⟨Bs, 0, none⟩) hB0 ho).trans hcB
    clear hcB
    by_cases hlt : 2 * k < n
    · obtain ⟨b, off, rfl, hlb, hc⟩ := h.mem (by omega)
      have hc' : ∀ j, j < n → wr.cell? ⟨b, off + j, none⟩ = some (.int .u8 (bs[j]?.getD 0)) := fun j hj =>
        ((hkp.cell (p := ⟨b, off + j, none⟩) hlb (hoA (by omega) b off rfl)).trans (hW.cell (p := ⟨b, off + j, none⟩) hlb)).trans (hc j hj)
      clear hc
      have hc0 := hc' (2 * k) hlt
      have hb0 := h.byt.get (2 * k)
      have hb1 := h.byt.get (2 * k + 1)
      obtain ⟨fn, tmps, assign, body, hy, hR⟩ := hY k _ wr (wordsE_get bs n k hlt) hJk
      have hor := i64_or8 (bs[2 * k]?.getD 0 * 256) (bs[2 * k + 1]?.getD 0) (by omega) (by omega) (by omega) (by omega) (by omega)
      unfold wordI at hy
      have t1 := toNat_two k
      by_cases h1 : 2 * k + 1 < n
      · have hc1 := hc' (2 * k + 1) h1
        clear hc' h
        gi_wp2
        refine ⟨rfl, hR.mono ?_⟩
        rintro e W3 (⟨rfl, hJ3, hk3⟩ | ⟨rfl, hJx3⟩)
        · gi_wp2
          go_roundw
          case rel => exact ⟨k + 1, by omega, by go_num, hJ3, hkp.trans hk3⟩
          case measure => simp [intOf]; omega
        · gi_wp2
          refine bodyPost_ret (results_none rfl _ _ _) rfl ?_
          exact ⟨⟨_, rfl⟩, .inr ⟨k + 1, by rw [wordsE_length]; omega, hJx3⟩⟩
      · have H1 := getD_out (bs := bs) (k := 2 * k + 1) (by have := h.len; omega)
        rw [H1, Int.add_zero] at hy
        clear hc' h H1 hor
        gi_wp2
        refine ⟨rfl, hR.mono ?_⟩
        rintro e W3 (⟨rfl, hJ3, hk3⟩ | ⟨rfl, hJx3⟩)
        · gi_wp2
          go_roundw
          case rel => exact ⟨k + 1, by omega, by go_num, hJ3, hkp.trans hk3⟩
          case measure => simp [intOf]; omega
        · gi_wp2
          refine bodyPost_ret (results_none rfl _ _ _) rfl ?_
          exact ⟨⟨_, rfl⟩, .inr ⟨k + 1, by rw [wordsE_length]; omega, hJx3⟩⟩
    · clear h
      gi_wp2
      go_end0
      refine ⟨⟨_, rfl⟩, .inl ?_⟩
      rw [wordsE_length, show (n + 1) / 2 = k from by omega]
      exact hJk
end Go.Proofs.Ytccdbelngjonaaa
