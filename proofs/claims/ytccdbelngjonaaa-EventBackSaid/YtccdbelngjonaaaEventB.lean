/- Events: the law EventBack. -/
import Derived.Test.YtccdbelngjonaaaEventCL
set_option linter.unusedVariables false
namespace Go.Proofs.Ytccdbelngjonaaa
open Go.RowKit

theorem filter_take {l : List QP} {k : Nat} {q : QP} (hq : l[k]? = some q) : (l.take (k + 1)).filter goodE = (l.take k).filter goodE ++ (if goodE q = true then [q] else []) := by
  rw [List.take_add_one, hq, Option.toList_some, List.filter_append]
  congr 1
  cases h : goodE q <;> simp [h]
theorem filter_small {l : List QP} {n : Nat} (h : l.length = n) (k : Nat) : ((l.take k).filter goodE).length ≤ n := by
  have h1 := List.length_filter_le goodE (l.take k)
  rw [List.length_take] at h1
  omega

set_option maxRecDepth 100000 in
set_option maxHeartbeats 4000000 in
theorem EventBack_walk (A : Option Addr) (n c : Nat) (l : List QP) (w : World) (hL : LQ w A n c l) :
    Calls Try.prog 5 #[.slice A n c] w fun e w' => e = .returned (.bool true) ∧ Below w.heap.size w w' := by
  have hFew := Lib.hid (fun W (hW : Below w.heap.size w W) => EvFew_any A n c l W (hL.below hW))
  have hbt := Lib.hid (Below.refl w.heap.size w)
  cases hf : fewL l
  · rw [hf] at hFew
    clear hL hf
    go_enter Try.func5, Try.ntmps5
    go_wp2_with (first
      | (go_at_call 23; refine (hFew.out _ hbt.out).mono ?_; rintro e w1 ⟨rfl, hb1⟩; replace hb1 := Lib.hid hb1)
      | (go_at_call 15; refine (awake36 _).mono ?_; rintro e w' ⟨rfl, hb2⟩)
      | fail)
    go_ret
    exact ⟨rfl, hb1.out.trans (hb2.mono hb1.out.size)⟩
  · rw [hf] at hFew
    have hM := Lib.hid (fun i (hi : i < n) => hL.mid hi)
    have hl := Lib.hid hL.len
    have hnc := hL.nc
    have hn60 : n ≤ 60 := by have := (fewL_ok hf).1; rw [hL.len] at this; exact this
    have hdat := Lib.hid (fewL_ok hf).2
    have hsm := Lib.hid (codes_small hf l.length)
    have hPt := Lib.hid (fun W (hW : Below w.heap.size w W) => EvPut_any A n c l W (hL.below hW) hf)
    have hback := Lib.hid (back_codes l)
    clear hL hf
    go_enter Try.func5, Try.ntmps5
    go_wp2_with (first
      | (go_at_call 23; refine (hFew.out _ hbt.out).mono ?_; rintro e w1 ⟨rfl, hb1⟩; replace hb1 := Lib.hid hb1)
      | fail)
    go_loopw [3, 5, 12] (fun vo _ i wr => ∃ (k : Nat) (A2 : Option Addr) (n2 c2 : Nat), k ≤ n ∧ i = .int .i64 k ∧ vo = .slice A2 n2 c2 ∧ LO wr w.heap.size 25 A2 n2 c2 ((l.take k).filter goodE) ∧ Below w.heap.size w wr) (fun _ _ i _ => n - (intOf i).toNat)
    case atStart => exact ⟨0, none, 0, 0, by omega, rfl, rfl, LO.nil _ _ _, hb1.out⟩
    case round =>
      obtain ⟨k, A2, n2, c2, hk, rfl, rfl, ho, hB⟩ := hrel
      by_cases hlt : k < n
      · obtain ⟨b, off, q, A1, m, c1, rfl, hbl, hq, hr, hd⟩ := hM.out k hlt
        have hrr := Lib.hid (rangeAt_below hr hB hbl)
        have hdl := hd.len
        have hn2 : n2 ≤ 60 := by have := filter_small hl.out k; rw [ho.len] at this; omega
        have hm : m ≤ 1000 := by have := hdat.out q (List.mem_of_getElem? hq); omega
        have hCk := Lib.hid (fun W => EvCheck_any q A1 m c1 W (by omega))
        have hg : goodE q = checkE q m := by unfold goodE; rw [hdl]
        have hft := filter_take hq
        rw [hg] at hft
        have hdW := Lib.hid (fun W (hW : Below w.heap.size w W) => hd.below hW)
        have hbb := Lib.hid (fun (k' : Nat) (hk' : ownBlk A1 = some k') (hm0 : 0 < m) => show k' < w.heap.size from by
          obtain ⟨b9, off9, rfl, hlt9, _⟩ := hd.mem hm0
          have : b9 = k' := by simpa [ownBlk] using hk'
          omega)
        have hob := Lib.hid (fun (k' : Nat) (hk' : ownBlk A2 = some k') => (ho.blk hk').1)
        replace hr := 0
        replace hd := 0
        replace ho := Lib.hid ho
        clear hdl hq hg
        cases hck : checkE q m
        · rw [hck] at hCk hft
          rw [if_neg (by decide), List.append_nil] at hft
          replace hft := Lib.hid hft
          go_wp2_with (first
            | (refine wpList_load_mid rfl 25 (.tmp 14) rfl b (off + k * 4) rfl [.int .i64 q.x, .int .i64 q.y, .int .i64 q.z, .slice A1 m c1] _ hrr.out Try.underlying25 rfl info_event ?_)
            | (refine wpList_store_E rfl (.tmp 5) (.tmp 15) rfl wr.heap.size (cellsQ q A1 m c1) rfl rfl _ (Blk.new wr zeroQc 25) rfl rfl (one_Q _ _ _ _) ?_; have hbe : Below wr.heap.size wr ((wr.alloc (.cells zeroQc 25)).setRow wr.heap.size (cellsQ q A1 m c1)) := below_row ((Below.refl _ wr).alloc (Nat.le_refl _) _) (Nat.le_refl _) _; have k1 : Blk ((wr.alloc (.cells zeroQc 25)).setRow wr.heap.size (cellsQ q A1 m c1)) wr.heap.size (cellsQ q A1 m c1) 25 := ⟨setRow_heap _ _ _ _ _ _ (Blk.new wr zeroQc 25).at_⟩; generalize (wr.alloc (.cells zeroQc 25)).setRow wr.heap.size (cellsQ q A1 m c1) = ws at *; (have hbs := Lib.hid (hB.trans (hbe.mono hB.size)); have hos := Lib.hid (ho.out.below hbe)); replace hbe := 0; replace k1 := Lib.hid k1)
            | (refine wpList_load_E rfl (.tmp 5) rfl wr.heap.size rfl (cellsQ q A1 m c1) k1.out rfl ?_)
            | (go_at_call 24; refine (hCk.out _).mono ?_; rintro e w2 ⟨rfl, hB2⟩; have hb2 := Lib.hid (hbs.out.trans (hB2.mono hbs.out.size)); have ho2 := Lib.hid (hos.out.below hB2); replace hB2 := 0)
            | fail)
          go_roundw
          case rel => exact ⟨k + 1, A2, n2, c2, by omega, by go_num, rfl, by rw [hft.out]; exact ho2.out, hb2.out⟩
          case measure => simp [intOf]; omega
        · rw [hck] at hCk hft
          rw [if_pos rfl] at hft
          replace hft := Lib.hid hft
          go_wp2_with (first
            | (refine wpList_load_mid rfl 25 (.tmp 14) rfl b (off + k * 4) rfl [.int .i64 q.x, .int .i64 q.y, .int .i64 q.z, .slice A1 m c1] _ hrr.out Try.underlying25 rfl info_event ?_)
            | (refine wpList_store_E rfl (.tmp 5) (.tmp 15) rfl wr.heap.size (cellsQ q A1 m c1) rfl rfl _ (Blk.new wr zeroQc 25) rfl rfl (one_Q _ _ _ _) ?_; have hbe : Below wr.heap.size wr ((wr.alloc (.cells zeroQc 25)).setRow wr.heap.size (cellsQ q A1 m c1)) := below_row ((Below.refl _ wr).alloc (Nat.le_refl _) _) (Nat.le_refl _) _; have k1 : Blk ((wr.alloc (.cells zeroQc 25)).setRow wr.heap.size (cellsQ q A1 m c1)) wr.heap.size (cellsQ q A1 m c1) 25 := ⟨setRow_heap _ _ _ _ _ _ (Blk.new wr zeroQc 25).at_⟩; generalize (wr.alloc (.cells zeroQc 25)).setRow wr.heap.size (cellsQ q A1 m c1) = ws at *; (have hbs := Lib.hid (hB.trans (hbe.mono hB.size)); have hos := Lib.hid (ho.out.below hbe)); replace hbe := 0; replace k1 := Lib.hid k1)
            | (refine wpList_load_E rfl (.tmp 5) rfl wr.heap.size rfl (cellsQ q A1 m c1) k2.out rfl ?_)
            | (refine wpList_load_E rfl (.tmp 5) rfl wr.heap.size rfl (cellsQ q A1 m c1) k1.out rfl ?_)
            | (go_at_call 24; refine (hCk.out _).mono ?_; rintro e w2 ⟨rfl, hB2⟩; have hb2 := Lib.hid (hbs.out.trans (hB2.mono hbs.out.size)); have ho2 := Lib.hid ((hos.out.below hB2).alloc (.cells (cellsQ q A1 m c1) 25)); have k2 := Lib.hid (k1.out.to hB2); have hb3 := Lib.hid (hb2.out.alloc hb2.out.size (.cells (cellsQ q A1 m c1) 25)); replace hB2 := 0)
            | (at_builtin; refine wpList_append_lo _ rfl 30 25 (.tmp 18) (.tmp 20) rfl (.agg zeroQc) Try.underlying30 info_ev rfl rfl (g := w2.heap.size) rfl ho2.out (Blk.new w2 (cellsQ q A1 m c1) 25) (hdW.out _ hb3.out) (fun hm0 k1 hk1 e => ?_) (by omega) hb3.out.size ?_; (have h1 := hbb.out k1 hk1 hm0; have h2 := hob.out k1 e; omega); intro A6 c6 w6 hlo6 hg6 hr6)
            | fail)
          go_roundw
          case rel => exact ⟨k + 1, A6, n2 + 1, c6, by omega, by go_num, rfl, by rw [hft.out]; exact hlo6, hb3.out.grown hg6 hb3.out.size (fun k1 hk1 => hob.out k1 hk1)⟩
          case measure => simp [intOf]; omega
      · obtain rfl : k = n := by omega
        have hfin : (l.take k).filter goodE = l.filter goodE := by rw [List.take_of_length_le (by rw [hl.out]; exact Nat.le_refl _)]
        rw [hfin] at ho
        clear hfin
        have hn2 : n2 ≤ 60 := by have := filter_small hl.out l.length; rw [List.take_of_length_le (Nat.le_refl _), ho.len] at this; omega
        have hsm2 : (codesE l).length ≤ 60480 := by have := hsm.out; rwa [List.take_of_length_le (Nat.le_refl _)] at this
        have hP := fun A1 n1 c1 W (hr : RB W A1 n1 c1 (codesE l)) => EvParse_any A1 n1 c1 (codesE l) W hr (by have := hr.len; omega)
        rw [hback.out] at hP
        replace hP := Lib.hid hP
        have hlq := Lib.hid (fun W (hW : Below wr.heap.size wr W) => (ho.below hW).lq)
        have hlen2 := Lib.hid ho.len
        clear hsm2
        replace ho := 0
        go_wp2_with (first
          | (go_at_call 29; refine (hPt.out _ hB).mono ?_; rintro e w3 ⟨A3, n3, c3, rfl, hr3, hB3⟩; replace hr3 := Lib.hid hr3; replace hB3 := Lib.hid hB3)
          | (go_at_call 21; refine (hP.out _ _ _ _ hr3.out).mono ?_; rintro e w4 ⟨A4, n4, c4, rfl, hl4, hB4⟩; have hB5 := Lib.hid (hB3.out.trans (hB4.mono hB3.out.size)); obtain rfl : n4 = n2 := (hl4.len).symm.trans hlen2.out; replace hl4 := Lib.hid hl4; replace hB4 := 0)
          | (go_at_call 20; refine (EvSameL_any (l.filter goodE) _ _ _ _ _ _ hl4.out.lq (hlq.out _ hB5.out) (by omega)).mono ?_; rintro e w5 ⟨rfl, hB6⟩; have hB7 := Lib.hid (hB5.out.trans (hB6.mono hB5.out.size)); replace hB6 := 0)
          | (go_at_call 15; refine (awake36 _).mono ?_; rintro e w6 ⟨rfl, hB8⟩; have hB9 := Lib.hid (hB7.out.trans (hB8.mono hB7.out.size)); replace hB8 := 0)
          | fail)
        go_ret
        exact ⟨by first | rfl | simp, hB.trans (hB9.out.mono hB.size)⟩
end Go.Proofs.Ytccdbelngjonaaa
