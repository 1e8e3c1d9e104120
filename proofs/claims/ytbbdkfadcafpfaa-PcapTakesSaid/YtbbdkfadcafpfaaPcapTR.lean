/- Captures: walk of the reference's Took; the law PcapTakes. -/
import Derived.Test.YtbbdkfadcafpfaaPcapT
import Derived.Test.YtbbdkfadcafpfaaPcapA
set_option linter.unusedVariables false
namespace Go.Proofs.Ytbbdkfadcafpfaa
open Go Go.RowKit

set_option maxRecDepth 100000 in
set_option maxHeartbeats 2000000 in
theorem RefPTook_any (A : Option Addr) (n c : Nat) (l : List (Int × List Int)) (now : Int) (w : World) (h : LP w A n c l) (hn : n ≤ 40) (hd : ∀ o ∈ l, o.2.length ≤ 2000) :
    Calls Try.prog 48 #[.slice A n c, .int .i64 now] w (TookOut w 90 (tookF now 0 l)) := by
  have hbt := Lib.hid (Below.refl w.heap.size w)
  have hM := Lib.hid (fun i (hi : i < n) => h.mid hi)
  have hl := Lib.hid h.len
  have hnc := h.nc
  have hdat := Lib.hid hd
  obtain ⟨m1, m2, m3⟩ := pmod_any now 4294967296 (by decide)
  unfold TookOut
  clear h hd
  go_enter Try.func48, Try.ntmps48
  go_wp2
  go_loopw [5, 6, 7] (fun vo i _ wr => ∃ (k : Nat) (A2 : Option Addr) (n2 c2 : Nat), k ≤ n ∧ i = .int .i64 k ∧ vo = .slice A2 n2 c2 ∧ LO wr w.heap.size 90 A2 n2 c2 (tookF now 0 (l.take k)) ∧ n2 ≤ k ∧ Below w.heap.size w wr) (fun _ i _ _ => n - (intOf i).toNat)
  case atStart => exact ⟨0, none, 0, 0, by omega, rfl, rfl, LO.nil _ _ _, by omega, hbt.out⟩
  case round =>
    obtain ⟨k, A2, n2, c2, hk, rfl, rfl, ho, hn2, hB⟩ := hrel
    by_cases hlt : k < n
    · obtain ⟨b, off, o, A1, m, c1, rfl, hbl, hq, hr, hdd⟩ := hM.out k hlt
      have hrr := rangeAt_below hr hB hbl
      have g0 := hrr 0 _ rfl
      have g1 := hrr 1 _ rfl
      simp only [Nat.add_zero] at g0
      have hdl := hdd.len
      have hm : m ≤ 2000 := by have := hdat.out o (List.mem_of_getElem? hq); omega
      have hmc := hdd.nc
      have htk := tookF_succ (now := now) hq
      have hdW := Lib.hid (fun W (hW : Below w.heap.size w W) => hdd.below hW)
      replace hr := 0
      replace hrr := 0
      have hbb := Lib.hid (fun (k' : Nat) (hk' : ownBlk A2 = some k') => ho.blk hk')
      replace hdd := 0
      by_cases h4 : o.1 < -1
      · rw [if_pos h4, List.append_nil] at htk
        rw [← htk] at ho
        have hd4 : decide (o.1 < (-1 : Int)) = true := decide_eq_true h4
        replace ho := Lib.hid ho
        replace htk := 0
        clear hdl hq
        go_wp2
        go_roundw
        case rel => exact ⟨k + 1, A2, n2, c2, by omega, by go_num, rfl, ho.out, by omega, hB⟩
        case measure => simp [intOf]; omega
      · rw [if_neg h4] at htk
        have hqq : outQ now k o = ⟨now % 4294967296, k, m, o.2⟩ := by unfold outQ; rw [hdl]
        rw [hqq] at htk
        have hd4 : decide (o.1 < (-1 : Int)) = false := decide_eq_false h4
        have hmod : Int.tmod (k : Int) 1000000 = k := Int.tmod_eq_of_lt (by omega) (by omega)
        have hmin : min (m : Int) 65535 = m := by omega
        have hmcI : (m : Int) ≤ c1 := by omega
        replace ho := Lib.hid ho
        replace htk := Lib.hid htk
        clear hdl hq hqq
        have hB' := Lib.hid hB
        go_wp2_with (first
          | (at_builtin; refine wpList_append_bytes _ rfl (.const (.slice none 0 0)) (.tmp 38) rfl rfl rfl (OB.nil _ wr.heap.size) (hdW.out _ hB'.out) (by omega) (Nat.le_refl _) ?_; intro A3 c3 w3 ho3 hg3 hr3; simp only [Nat.zero_add, List.nil_append] at ho3; have hb2 := (Below.refl wr.heap.size wr).grown hg3 (Nat.le_refl _) (fun k hk => by simp [ownBlk] at hk); have hb4 := hB'.out.trans (hb2.mono hB'.out.size); have hos2 := Lib.hid ((ho.out.below hb2).alloc (.cells (cellsQ ⟨now % 4294967296, k, m, o.2⟩ A3 m c3) 90)); have ho4 := Lib.hid (ho3.alloc (.cells (cellsQ ⟨now % 4294967296, k, m, o.2⟩ A3 m c3) 90)); have hb3 := Lib.hid (hb4.alloc hb4.size (.cells (cellsQ ⟨now % 4294967296, k, m, o.2⟩ A3 m c3) 90)); clear hg3 hr3 hb2 hb4 ho3)
          | (at_builtin; refine wpList_append_lo _ rfl 56 90 (.tmp 25) (.tmp 41) rfl (.agg zeroQc) Try.underlying56 info_rrecz rfl rfl (g := w3.heap.size) rfl hos2.out (q := ⟨now % 4294967296, k, m, o.2⟩) (Blk.new w3 (cellsQ ⟨now % 4294967296, k, m, o.2⟩ A3 m c3) 90) ho4.out.rb (fun _ k1 hk1 e => ?_) (by omega) hb3.out.size ?_; (have h1 := (ho4.out.blk hk1).1; have h2 := (hbb.out k1 e).2; omega); intro A6 c6 w6 hlo6 hg6 hr6)
          | fail)
        go_roundw
        case rel => exact ⟨k + 1, A6, n2 + 1, c6, by omega, by go_num, rfl, by rw [htk.out]; exact hlo6, by omega, hb3.out.grown hg6 hb3.out.size (fun k1 hk1 => (hbb.out k1 hk1).1)⟩
        case measure => simp [intOf]; omega
    · obtain rfl : k = n := by omega
      have hfin : l.take k = l := List.take_of_length_le (by rw [hl.out]; exact Nat.le_refl _)
      rw [hfin] at ho
      clear hfin
      replace ho := Lib.hid ho
      go_wp2
      go_ret
      exact ⟨A2, n2, c2, rfl, ho.out, hB⟩

end Go.Proofs.Ytbbdkfadcafpfaa
