/- Captures: the law's own, far, same; the reference's Same. -/
import Derived.Test.YtbbdkfadcafpfaaPcapB
import Derived.Test.YtbbdkfadcafpfaaQuadsIn
import Derived.Test.YtbbdkfadcafpfaaMid
import Derived.Test.YtbbdkfadcafpfaaEqual
import Derived.Test.YtbbdkfadcafpfaaArr
set_option linter.unusedVariables false
namespace Go.Proofs.Ytbbdkfadcafpfaa
open Go Go.RowKit

def nearL (l : List QP) : Bool := decide (l.length ≤ 30 ∧ ∀ q ∈ l, q.data.length ≤ 500)
theorem nearL_yes {l : List QP} (h1 : l.length ≤ 30) (h2 : ∀ j q, j < l.length → l[j]? = some q → q.data.length ≤ 500) : nearL l = true :=
  decide_eq_true ⟨h1, fun q hq => by
    obtain ⟨j, hj⟩ := List.getElem?_of_mem hq
    exact h2 j q (List.getElem?_eq_some_iff.1 hj).1 hj⟩
theorem nearL_no1 {l : List QP} (h : 30 < l.length) : nearL l = false := decide_eq_false (fun h' => by omega)
theorem nearL_no2 {l : List QP} {k : Nat} {q : QP} (hq : l[k]? = some q) (h : 500 < q.data.length) : nearL l = false :=
  decide_eq_false (fun h' => by have := h'.2 q (List.mem_of_getElem? hq); omega)
theorem nearL_few {l : List QP} (h : nearL l = true) : fewR l := by
  obtain ⟨h1, h2⟩ := of_decide_eq_true h
  exact ⟨by omega, fun q hq => by have := h2 q hq; omega⟩
theorem nearL_len {l : List QP} (h : nearL l = true) : l.length ≤ 30 := (of_decide_eq_true h).1

set_option maxRecDepth 100000 in
set_option maxHeartbeats 2000000 in
theorem PFar_any (A : Option Addr) (n c : Nat) (l : List QP) (w : World) (h : LQ w A n c l) :
    Calls Try.prog 37 #[.slice A n c] w fun e w' => e = .returned (.bool (!nearL l)) ∧ Below w.heap.size w w' := by
  have hbt := Lib.hid (Below.refl w.heap.size w)
  have hM := Lib.hid (fun i (hi : i < n) => h.mid hi)
  have hl := Lib.hid h.len
  have hnc := h.nc
  clear h
  go_enter Try.func37, Try.ntmps37
  go_wp2
  go_loopw [3, 4, 7] (fun _ _ i wr => ∃ k : Nat, k ≤ n ∧ k ≤ 30 ∧ i = .int .i64 k ∧ (∀ j q, j < k → l[j]? = some q → q.data.length ≤ 500) ∧ Below w.heap.size w wr) (fun _ _ i _ => 31 - (intOf i).toNat)
  case atStart => exact ⟨0, by omega, by omega, rfl, fun j q hj => absurd hj (by omega), hbt.out⟩
  case round =>
    obtain ⟨k, hk, hk60, rfl, hall, hB⟩ := hrel
    replace hall := Lib.hid hall
    by_cases hlt : k < n
    · obtain ⟨b, off, q, A1, m, c1, rfl, hbl, hq, hr, hd⟩ := hM.out k hlt
      have hrr := Lib.hid (rangeAt_below hr hB hbl)
      have hdl := hd.len
      replace hr := 0
      replace hd := 0
      by_cases h60 : 30 ≤ k
      · have hf := Lib.hid (show true = !nearL l by rw [nearL_no1 (l := l) (by rw [hl.out]; omega)]; rfl)
        have hd60 : decide ((30 : Int) ≤ (k : Int)) = true := by simp; omega
        clear hdl hq
        go_wp2_with (first
          | (refine wpList_load_mid rfl 67 (.tmp 10) rfl b (off + k * 4) rfl [.int .i64 q.x, .int .i64 q.y, .int .i64 q.z, .slice A1 m c1] _ hrr.out Try.underlying67 rfl info_rec ?_)
          | (refine wpList_store_R rfl (.tmp 4) (.tmp 11) rfl wr.heap.size (cellsQ q A1 m c1) rfl rfl _ (Blk.new wr zeroQc 67) rfl rfl (one_Q _ _ _ _) ?_; have hbe : Below wr.heap.size wr ((wr.alloc (.cells zeroQc 67)).setRow wr.heap.size (cellsQ q A1 m c1)) := below_row ((Below.refl _ wr).alloc (Nat.le_refl _) _) (Nat.le_refl _) _; have k1 : Blk ((wr.alloc (.cells zeroQc 67)).setRow wr.heap.size (cellsQ q A1 m c1)) wr.heap.size (cellsQ q A1 m c1) 67 := ⟨setRow_heap _ _ _ _ _ _ (Blk.new wr zeroQc 67).at_⟩; generalize (wr.alloc (.cells zeroQc 67)).setRow wr.heap.size (cellsQ q A1 m c1) = ws at *; (have hbs := Lib.hid (hB.trans (hbe.mono hB.size)); obtain ⟨r0, r1, r2, r3⟩ := qcells k1); replace hbe := 0; replace k1 := Lib.hid k1)
          | fail)
        go_ret
        exact ⟨ret_bool hf.out, hbs.out⟩
      · have hd60 : decide ((30 : Int) ≤ (k : Int)) = false := by simp; omega
        by_cases hm : 500 < m
        · have hf := Lib.hid (show true = !nearL l by rw [nearL_no2 hq (by rw [hdl]; exact hm)]; rfl)
          have hdm : decide ((500 : Int) < (m : Int)) = true := by simp; omega
          clear hdl hq
          go_wp2_with (first
            | (refine wpList_load_mid rfl 67 (.tmp 10) rfl b (off + k * 4) rfl [.int .i64 q.x, .int .i64 q.y, .int .i64 q.z, .slice A1 m c1] _ hrr.out Try.underlying67 rfl info_rec ?_)
            | (refine wpList_store_R rfl (.tmp 4) (.tmp 11) rfl wr.heap.size (cellsQ q A1 m c1) rfl rfl _ (Blk.new wr zeroQc 67) rfl rfl (one_Q _ _ _ _) ?_; have hbe : Below wr.heap.size wr ((wr.alloc (.cells zeroQc 67)).setRow wr.heap.size (cellsQ q A1 m c1)) := below_row ((Below.refl _ wr).alloc (Nat.le_refl _) _) (Nat.le_refl _) _; have k1 : Blk ((wr.alloc (.cells zeroQc 67)).setRow wr.heap.size (cellsQ q A1 m c1)) wr.heap.size (cellsQ q A1 m c1) 67 := ⟨setRow_heap _ _ _ _ _ _ (Blk.new wr zeroQc 67).at_⟩; generalize (wr.alloc (.cells zeroQc 67)).setRow wr.heap.size (cellsQ q A1 m c1) = ws at *; (have hbs := Lib.hid (hB.trans (hbe.mono hB.size)); obtain ⟨r0, r1, r2, r3⟩ := qcells k1); replace hbe := 0; replace k1 := Lib.hid k1)
            | fail)
          go_ret
          exact ⟨ret_bool hf.out, hbs.out⟩
        · have hdm : decide ((500 : Int) < (m : Int)) = false := by simp; omega
          have hall2 := Lib.hid (show ∀ j q, j < k + 1 → l[j]? = some q → q.data.length ≤ 500 from fun j q' hj hq' => by
            rcases Nat.lt_or_ge j k with h | h
            · exact hall.out j q' h hq'
            · obtain rfl : j = k := by omega
              rw [hq] at hq'
              obtain rfl := Option.some.inj hq'
              omega)
          clear hdl hq
          go_wp2_with (first
            | (refine wpList_load_mid rfl 67 (.tmp 10) rfl b (off + k * 4) rfl [.int .i64 q.x, .int .i64 q.y, .int .i64 q.z, .slice A1 m c1] _ hrr.out Try.underlying67 rfl info_rec ?_)
            | (refine wpList_store_R rfl (.tmp 4) (.tmp 11) rfl wr.heap.size (cellsQ q A1 m c1) rfl rfl _ (Blk.new wr zeroQc 67) rfl rfl (one_Q _ _ _ _) ?_; have hbe : Below wr.heap.size wr ((wr.alloc (.cells zeroQc 67)).setRow wr.heap.size (cellsQ q A1 m c1)) := below_row ((Below.refl _ wr).alloc (Nat.le_refl _) _) (Nat.le_refl _) _; have k1 : Blk ((wr.alloc (.cells zeroQc 67)).setRow wr.heap.size (cellsQ q A1 m c1)) wr.heap.size (cellsQ q A1 m c1) 67 := ⟨setRow_heap _ _ _ _ _ _ (Blk.new wr zeroQc 67).at_⟩; generalize (wr.alloc (.cells zeroQc 67)).setRow wr.heap.size (cellsQ q A1 m c1) = ws at *; (have hbs := Lib.hid (hB.trans (hbe.mono hB.size)); obtain ⟨r0, r1, r2, r3⟩ := qcells k1); replace hbe := 0; replace k1 := Lib.hid k1)
            | fail)
          go_roundw
          case rel => exact ⟨k + 1, by omega, by omega, by go_num, hall2.out, hbs.out⟩
          case measure => simp [intOf]; omega
    · obtain rfl : k = n := by omega
      have hf := Lib.hid (show false = !nearL l by rw [nearL_yes (l := l) (by rw [hl.out]; exact hk60) (fun j q hj hq => hall.out j q (by rw [hl.out] at hj; exact hj) hq)]; rfl)
      go_wp2
      go_ret
      exact ⟨ret_bool hf.out, hB⟩

set_option maxRecDepth 100000 in
set_option maxHeartbeats 2000000 in
theorem POwn_any (A : Option Addr) (n c : Nat) (l : List QP) (w : World) (h : LQ w A n c l) (hn : n ≤ 100000) :
    Calls Try.prog 41 #[.slice A n c] w fun e w' => ∃ A2 c2, e = .returned (.slice A2 n c2) ∧ LQ w' A2 n c2 l ∧ Below w.heap.size w w' := by
  have hbt := Lib.hid (Below.refl w.heap.size w)
  have hM := Lib.hid (fun i (hi : i < n) => h.mid hi)
  have hl := Lib.hid h.len
  have hnc := h.nc
  clear h
  go_enter Try.func41, Try.ntmps41
  go_wp2
  go_loopw [3, 5, 8] (fun vo _ i wr => ∃ (k : Nat) (A2 : Option Addr) (c2 : Nat), k ≤ n ∧ i = .int .i64 k ∧ vo = .slice A2 k c2 ∧ LO wr w.heap.size 90 A2 k c2 (l.take k) ∧ Below w.heap.size w wr) (fun _ _ i _ => n - (intOf i).toNat)
  case atStart => exact ⟨0, none, 0, by omega, rfl, rfl, LO.nil _ _ _, hbt.out⟩
  case round =>
    obtain ⟨k, A2, c2, hk, rfl, rfl, ho, hB⟩ := hrel
    by_cases hlt : k < n
    · obtain ⟨b, off, q, A1, m, c1, rfl, hbl, hq, hr, hd⟩ := hM.out k hlt
      have hrr := Lib.hid (rangeAt_below hr hB hbl)
      have htk := Lib.hid (show l.take (k + 1) = l.take k ++ [q] by rw [List.take_add_one, hq]; rfl)
      have hdW := Lib.hid (fun W (hW : Below w.heap.size w W) => hd.below hW)
      have hbb := Lib.hid (fun (k' : Nat) (hk' : ownBlk A1 = some k') (hm0 : 0 < m) => show k' < w.heap.size from by
        obtain ⟨b9, off9, rfl, hlt9, _⟩ := hd.mem hm0
        have : b9 = k' := by simpa [ownBlk] using hk'
        omega)
      have hob := Lib.hid (fun (k' : Nat) (hk' : ownBlk A2 = some k') => (ho.blk hk').1)
      replace hr := 0
      replace hd := 0
      replace ho := Lib.hid ho
      clear hq
      go_wp2_with (first
        | (refine wpList_load_mid rfl 67 (.tmp 10) rfl b (off + k * 4) rfl [.int .i64 q.x, .int .i64 q.y, .int .i64 q.z, .slice A1 m c1] _ hrr.out Try.underlying67 rfl info_rec ?_)
        | (refine wpList_store_R rfl (.tmp 5) (.tmp 11) rfl wr.heap.size (cellsQ q A1 m c1) rfl rfl _ (Blk.new wr zeroQc 67) rfl rfl (one_Q _ _ _ _) ?_; have hbe : Below wr.heap.size wr ((wr.alloc (.cells zeroQc 67)).setRow wr.heap.size (cellsQ q A1 m c1)) := below_row ((Below.refl _ wr).alloc (Nat.le_refl _) _) (Nat.le_refl _) _; have k1 : Blk ((wr.alloc (.cells zeroQc 67)).setRow wr.heap.size (cellsQ q A1 m c1)) wr.heap.size (cellsQ q A1 m c1) 67 := ⟨setRow_heap _ _ _ _ _ _ (Blk.new wr zeroQc 67).at_⟩; generalize (wr.alloc (.cells zeroQc 67)).setRow wr.heap.size (cellsQ q A1 m c1) = ws at *; (have hbs := Lib.hid (hB.trans (hbe.mono hB.size)); have hos := Lib.hid ((ho.out.below hbe).alloc (.cells (cellsQ q A1 m c1) 90)); have hb3 := Lib.hid (hbs.out.alloc hbs.out.size (.cells (cellsQ q A1 m c1) 90)); obtain ⟨r0, r1, r2, r3⟩ := qcells k1); replace hbe := 0; replace k1 := Lib.hid k1)
        | (at_builtin; refine wpList_append_lo _ rfl 56 90 (.tmp 12) (.tmp 22) rfl (.agg zeroQc) Try.underlying56 info_rrecz rfl rfl (g := ws.heap.size) rfl hos.out (Blk.new ws (cellsQ q A1 m c1) 90) (hdW.out _ hb3.out) (fun hm0 k1 hk1 e => ?_) (by omega) hb3.out.size ?_; (have h1 := hbb.out k1 hk1 hm0; have h2 := hob.out k1 e; omega); intro A6 c6 w6 hlo6 hg6 hr6)
        | fail)
      go_roundw
      case rel => exact ⟨k + 1, A6, c6, by omega, by go_num, rfl, by rw [htk.out]; exact hlo6, hb3.out.grown hg6 hb3.out.size (fun k1 hk1 => hob.out k1 hk1)⟩
      case measure => simp [intOf]; omega
    · obtain rfl : k = n := by omega
      have hfin : l.take k = l := List.take_of_length_le (by rw [hl.out]; exact Nat.le_refl _)
      rw [hfin] at ho
      clear hfin
      replace ho := Lib.hid ho
      go_wp2
      go_ret
      exact ⟨A2, c2, rfl, ho.out.lq, hB⟩

set_option maxRecDepth 100000 in
set_option maxHeartbeats 1000000 in
theorem RefPSame_any (p q : QP) (A : Option Addr) (n c : Nat) (B : Option Addr) (k d : Nat) (w : World) (hp : RB w A n c p.data) (hq : RB w B k d q.data) :
    Calls Try.prog 66 #[.agg (cellsQ p A n c), .agg (cellsQ q B k d)] w fun e w' => e = .returned (.bool (sameQ p q)) ∧ Below w.heap.size w w' := by
  have hb := Lib.hid (((Below.refl _ w).alloc (Nat.le_refl _) (.cells (cellsQ p A n c) 90)).alloc (by simp) (.cells (cellsQ q B k d) 90))
  have e1 := conv_bytes (hp.below hb.out)
  have e2 := conv_bytes (hq.below hb.out)
  have hq1 := str_beq hp.byt hq.byt
  have hs := show sameQ p q = (p.x == q.x && p.y == q.y && p.z == q.z && p.data == q.data) from rfl
  rw [hs]
  clear hp hq
  go_enter Try.func66, Try.ntmps66
  go_wp2
  all_goals
    go_ret
    exact ⟨ret_bool (by simp [*]), hb.out⟩

theorem en_PRSame (args : Array Value) (w : World) : (callFunc 66 args).run Try.prog w = .ok (.enter 66 args) w := enters Try.func66 (by kernel_rfl) (by kernel_rfl) args w
set_option maxRecDepth 100000 in
set_option maxHeartbeats 4000000 in
theorem PSameL_any (l : List QP) (A : Option Addr) (n c : Nat) (B : Option Addr) (d : Nat) (w : World) (hA : LQ w A n c l) (hB : LQ w B n d l) (hn : n ≤ 1000000) :
    Calls Try.prog 43 #[.slice A n c, .slice B n d] w fun e w' => e = .returned (.bool true) ∧ Below w.heap.size w w' := by
  have hbt := Lib.hid (Below.refl w.heap.size w)
  have hAm := Lib.hid (fun i (hi : i < n) => hA.mid hi)
  have hBm := Lib.hid (fun i (hi : i < n) => hB.mid hi)
  have hnc1 := hA.nc
  have hnc2 := hB.nc
  clear hA hB
  go_enter Try.func43, Try.ntmps43
  go_wp2
  go_loopw [5, 13] (fun _ i wr => ∃ k : Nat, k ≤ n ∧ i = .int .i64 k ∧ Below w.heap.size w wr) (fun _ i _ => n + 1 - (intOf i).toNat)
  case atStart => exact ⟨0, Nat.zero_le _, rfl, hbt.out⟩
  case round =>
    obtain ⟨k, hk, rfl, hBl⟩ := hrel
    by_cases hlt : k < n
    · obtain ⟨b, off, q, A1, m1, c1, rfl, hbl, hq, hr1, hd1⟩ := hAm.out k hlt
      obtain ⟨b', off', q', A2, m2, c2, rfl, hbl', hq', hr2, hd2⟩ := hBm.out k hlt
      obtain rfl : q' = q := by rw [hq] at hq'; exact (Option.some.inj hq').symm
      have hSm := Lib.hid (fun W (hW : Below w.heap.size w W) => RefPSame_any q' q' A1 m1 c1 A2 m2 c2 W (hd1.below hW) (hd2.below hW))
      rw [sameQ_refl] at hSm
      have hK := Lib.hid (show ∀ W W', (fun W => Below w.heap.size w W) W → Below W.heap.size W W' → (fun W => Below w.heap.size w W) W' from fun W W' h1 h2 => h1.trans (h2.mono h1.size))
      have hM1 := Lib.hid (fun W (hW : Below w.heap.size w W) => rangeAt_below hr1 hW hbl)
      have hM2 := Lib.hid (fun W (hW : Below w.heap.size w W) => rangeAt_below hr2 hW hbl')
      have hge : decide ((n : Int) ≤ (k : Int)) = false := by simp; omega
      have hge2 : decide (n ≤ k) = false := by simp; omega
      have hlti : (k : Int) < (n : Int) := by omega
      have hC1 := Lib.hid (show ∀ W, (fun W => Below w.heap.size w W) W → True ∧ True ∧ True from fun _ _ => ⟨trivial, trivial, trivial⟩)
      replace hr1 := 0
      replace hr2 := 0
      replace hd1 := 0
      replace hd2 := 0
      clear hq hq' hbl hbl'
      go_wp2
      refine wp_region_tame (fun W => Below w.heap.size w W) (by kernel_rfl) (by kernel_rfl) hBl.drew ?_
      repeat (first
        | (refine tameL_skip rfl ?_; simp only [Act.put, List.setIfInBounds_toArray, List.set_cons_zero, List.set_cons_succ])
        | (refine tameL_mid rfl 90 (.tmp 18) rfl b (off + k * 4) rfl ([.int .i64 q'.x, .int .i64 q'.y, .int .i64 q'.z, .slice A1 m1 c1]) _ (fun W hS => hM1.out W hS) Try.underlying90 rfl info_rrec ?_; simp only [Act.put, List.setIfInBounds_toArray, List.set_cons_zero, List.set_cons_succ])
        | (refine tameL_mid rfl 90 (.tmp 22) rfl b' (off' + k * 4) rfl ([.int .i64 q'.x, .int .i64 q'.y, .int .i64 q'.z, .slice A2 m2 c2]) _ (fun W hS => hM2.out W hS) Try.underlying90 rfl info_rrec ?_; simp only [Act.put, List.setIfInBounds_toArray, List.set_cons_zero, List.set_cons_succ])
        | (refine tameL_call2 (v := .bool true) rfl 66 (.tmp 19) (.tmp 23) _ rfl en_PRSame rfl rfl ?_ ?_; exact fun W hS => (hSm.out W hS).mono fun e W' ⟨he, hb⟩ => ⟨he, hK.out W W' hS hb⟩; simp only [Act.put, List.setIfInBounds_toArray, List.set_cons_zero, List.set_cons_succ])
        | (refine tameL_val (v := ?_) rfl (fun W hS => ?_) ?_; rotate_left; (· (obtain ⟨g0, g1, g2⟩ := hC1.out W hS; clear hS; go_simp; try with_reducible rfl)); simp only [Act.put, List.setIfInBounds_toArray, List.set_cons_zero, List.set_cons_succ]))
      refine tameL_nil fun W hS => ?_
      go_wp2
      go_roundw
      case rel => exact ⟨k + 1, by omega, by go_num, hS⟩
      case measure => simp [intOf]; omega
    · obtain rfl : k = n := by omega
      go_wp2
      go_ret
      exact ⟨by first | rfl | simp, hBl⟩
end Go.Proofs.Ytbbdkfadcafpfaa
