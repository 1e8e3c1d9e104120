/- Captures: the law PcapTakes. -/
import Derived.Test.YtbbdkfadcafpfaaPcapTR
set_option linter.unusedVariables false
namespace Go.Proofs.Ytbbdkfadcafpfaa
open Go Go.RowKit

set_option maxRecDepth 100000 in
set_option maxHeartbeats 2000000 in
theorem PcapTakes_walk (A : Option Addr) (n c : Nat) (l : List (Int × List Int)) (now : Int) (w : World) (h : LP w A n c l) (hnow0 : -9223372036854775808 ≤ now) (hnow1 : now ≤ 9223372036854775807) :
    Calls Try.prog 12 #[.slice A n c, .int .i64 now] w fun e w' => e = .returned (.bool true) ∧ Below w.heap.size w w' := by
  clear hnow0 hnow1
  have hbt := Lib.hid (Below.refl w.heap.size w)
  have hnc := h.nc
  by_cases h40 : 40 < n
  · have i40 : (40 : Int) < n := by omega
    clear h
    go_enter Try.func12, Try.ntmps12
    go_wp2_with (first
      | (go_at_call 38; refine (awake45 _).mono ?_; rintro e w2 ⟨rfl, hB2⟩; replace hB2 := Lib.hid hB2)
      | fail)
    go_ret
    exact ⟨by first | rfl | simp, hB2.out⟩
  · have i40 : ¬ (40 : Int) < n := by omega
    have hM := Lib.hid (fun i (hi : i < n) => h.mid hi)
    have hl := Lib.hid h.len
    have hW := Lib.hid (fun W (hW : Below w.heap.size w W) => h.below hW)
    clear h
    go_enter Try.func12, Try.ntmps12
    go_wp2
    go_loopw [6, 16] (fun _ i wr => ∃ (k : Nat), k ≤ n ∧ i = .int .i64 k ∧ (∀ j o, j < k → l[j]? = some o → o.2.length ≤ 2000) ∧ Below w.heap.size w wr) (fun _ i _ => n - (intOf i).toNat)
    case atStart => exact ⟨0, by omega, rfl, fun j o hj => absurd hj (by omega), hbt.out⟩
    case round =>
      obtain ⟨k, hk, rfl, hall, hB⟩ := hrel
      replace hall := Lib.hid hall
      by_cases hlt : k < n
      · obtain ⟨b, off, o, A1, m, c1, rfl, hbl, hq, hr, hdd⟩ := hM.out k hlt
        have hrr := Lib.hid (rangeAt_below hr hB hbl)
        have hdl := hdd.len
        replace hr := 0
        replace hdd := 0
        by_cases hm : 2000 < m
        · have hdm : decide ((2000 : Int) < (m : Int)) = true := by simp; omega
          clear hdl hq
          go_wp2_with (first
            | (refine wpList_load_mid rfl 71 (.tmp 18) rfl b (off + k * 2) rfl [.int .i64 o.1, .slice A1 m c1] _ hrr.out Try.underlying71 rfl info_out ?_)
            | (refine wpList_store_O rfl (.tmp 6) (.tmp 19) rfl wr.heap.size (cellsO o A1 m c1) rfl rfl _ (Blk.new wr zeroOc 71) rfl rfl (one_O _ _ _ _) ?_; have hbe : Below wr.heap.size wr ((wr.alloc (.cells zeroOc 71)).setRow wr.heap.size (cellsO o A1 m c1)) := below_row ((Below.refl _ wr).alloc (Nat.le_refl _) _) (Nat.le_refl _) _; have k1 : Blk ((wr.alloc (.cells zeroOc 71)).setRow wr.heap.size (cellsO o A1 m c1)) wr.heap.size (cellsO o A1 m c1) 71 := ⟨setRow_heap _ _ _ _ _ _ (Blk.new wr zeroOc 71).at_⟩; generalize (wr.alloc (.cells zeroOc 71)).setRow wr.heap.size (cellsO o A1 m c1) = ws at *; (have hbs := Lib.hid (hB.trans (hbe.mono hB.size)); obtain ⟨r0, r1⟩ := ocells k1); replace hbe := 0; replace k1 := Lib.hid k1)
            | (go_at_call 38; refine (awake45 _).mono ?_; rintro e w2 ⟨rfl, hB2⟩; have hb2 := Lib.hid (hbs.out.trans (hB2.mono hbs.out.size)); replace hB2 := 0)
            | fail)
          go_ret
          exact ⟨by first | rfl | simp, hb2.out⟩
        · have hdm : decide ((2000 : Int) < (m : Int)) = false := by simp; omega
          have hall2 := Lib.hid (show ∀ j o, j < k + 1 → l[j]? = some o → o.2.length ≤ 2000 from fun j o' hj hq' => by
            rcases Nat.lt_or_ge j k with h | h
            · exact hall.out j o' h hq'
            · obtain rfl : j = k := by omega
              rw [hq] at hq'
              obtain rfl := Option.some.inj hq'
              omega)
          clear hdl hq
          go_wp2_with (first
            | (refine wpList_load_mid rfl 71 (.tmp 18) rfl b (off + k * 2) rfl [.int .i64 o.1, .slice A1 m c1] _ hrr.out Try.underlying71 rfl info_out ?_)
            | (refine wpList_store_O rfl (.tmp 6) (.tmp 19) rfl wr.heap.size (cellsO o A1 m c1) rfl rfl _ (Blk.new wr zeroOc 71) rfl rfl (one_O _ _ _ _) ?_; have hbe : Below wr.heap.size wr ((wr.alloc (.cells zeroOc 71)).setRow wr.heap.size (cellsO o A1 m c1)) := below_row ((Below.refl _ wr).alloc (Nat.le_refl _) _) (Nat.le_refl _) _; have k1 : Blk ((wr.alloc (.cells zeroOc 71)).setRow wr.heap.size (cellsO o A1 m c1)) wr.heap.size (cellsO o A1 m c1) 71 := ⟨setRow_heap _ _ _ _ _ _ (Blk.new wr zeroOc 71).at_⟩; generalize (wr.alloc (.cells zeroOc 71)).setRow wr.heap.size (cellsO o A1 m c1) = ws at *; (have hbs := Lib.hid (hB.trans (hbe.mono hB.size)); obtain ⟨r0, r1⟩ := ocells k1); replace hbe := 0; replace k1 := Lib.hid k1)
            | fail)
          go_roundw
          case rel => exact ⟨k + 1, by omega, by go_num, hall2.out, hbs.out⟩
          case measure => simp [intOf]; omega
      · obtain rfl : k = n := by omega
        have hdat : ∀ o ∈ l, o.2.length ≤ 2000 := fun o ho => by
          obtain ⟨j, hj⟩ := List.getElem?_of_mem ho
          exact hall.out j o (by rw [← hl.out]; exact (List.getElem?_eq_some_iff.1 hj).1) hj
        have hll := hl.out
        obtain ⟨ha, hfew⟩ := tookF_good (now := now) (l := l) (by omega) hdat
        have hT := fun W (hW' : Below w.heap.size w W) => PTook_any A k c l now W (hW.out W hW') (by omega) hdat
        have hRT := fun W (hW' : Below w.heap.size w W) => RefPTook_any A k c l now W (hW.out W hW') (by omega) hdat
        unfold TookOut at hT hRT
        have hC := fun A2 n2 c2 W (h2 : LQ W A2 n2 c2 (tookF now 0 l)) => PBuild_any A2 n2 c2 _ W h2 hfew
        rw [show codeR (tookF now 0 l) = 0 from by unfold codeR; rw [ha]; rfl] at hC
        have hlen := tookF_len now l 0
        generalize builtR (tookF now 0 l) = bb at *
        generalize tookF now 0 l = q at *
        have hO := Lib.hid (fun A2 n2 c2 W (h2 : LQ W A2 n2 c2 q) => POwn_any A2 n2 c2 q W h2 (by have := h2.len; omega))
        have hS := Lib.hid (fun A2 n2 c2 A3 c3 W (h2 : LQ W A2 n2 c2 q) (h3 : LQ W A3 n2 c3 q) => PSameL_any q A2 n2 c2 A3 c3 W h2 h3 (by have := h2.len; omega))
        replace hT := Lib.hid hT
        replace hRT := Lib.hid hRT
        replace hC := Lib.hid hC
        replace hall := 0
        clear hM hW ha hfew hdat hlen
        go_wp2_with (first
          | (go_at_call 47; refine (hT.out _ hB).mono ?_; rintro e w2 ⟨A2, n2, c2, rfl, ho2, hB2⟩; have hb2 := Lib.hid (hB.trans (hB2.mono hB.size)); have hq2 := Lib.hid ho2.lq; replace ho2 := 0; replace hB2 := 0)
          | (go_at_call 39; refine (hC.out _ _ _ _ hq2.out).mono ?_; rintro e w3 ⟨A3, n3, c3, rfl, hr3, hB3⟩; have hb3 := Lib.hid (hb2.out.trans (hB3.mono hb2.out.size)); have hq3 := Lib.hid (hq2.out.below hB3); replace hr3 := 0; replace hB3 := 0)
          | (go_at_call 41; refine (hO.out _ _ _ _ hq3.out).mono ?_; rintro e w4 ⟨A4, c4, rfl, hq4, hB4⟩; have hb4 := Lib.hid (hb3.out.trans (hB4.mono hb3.out.size)); replace hq4 := Lib.hid hq4; replace hB4 := 0)
          | (go_at_call 48; refine (hRT.out _ hb4.out).mono ?_; rintro e w5 ⟨A5, n5, c5, rfl, ho5, hB5⟩; have hb5 := Lib.hid (hb4.out.trans (hB5.mono hb4.out.size)); have hq45 := Lib.hid (hq4.out.below hB5); have hq5 := ho5.lq; obtain rfl : n5 = n2 := hq5.len.symm.trans hq45.out.len; replace hq5 := Lib.hid hq5; replace ho5 := 0; replace hB5 := 0)
          | (go_at_call 43; refine (hS.out _ _ _ _ _ _ hq45.out hq5.out).mono ?_; rintro e w6 ⟨rfl, hB6⟩; have hb6 := Lib.hid (hb5.out.trans (hB6.mono hb5.out.size)); replace hB6 := 0)
          | (go_at_call 38; refine (awake45 _).mono ?_; rintro e w7 ⟨rfl, hB7⟩; have hb7 := Lib.hid (hb6.out.trans (hB7.mono hb6.out.size)); replace hB7 := 0)
          | fail)
        go_ret
        exact ⟨by first | rfl | simp, hb7.out⟩
end Go.Proofs.Ytbbdkfadcafpfaa
