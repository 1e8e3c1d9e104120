/- Captures (the reference): walk of Build. -/
import Derived.Test.YtbbdkfadcafpfaaPcapB
set_option linter.unusedVariables false
namespace Go.Proofs.Ytbbdkfadcafpfaa
open Go Go.RowKit

theorem recP_steps (q : QP) (m : Nat) (h : q.data.length = m) (bs : List Int) : bs ++ digL q.x 4 ++ digL q.y 4 ++ digL (m : Int) 4 ++ digL q.z 4 ++ q.data = bs ++ recP q := by
  unfold recP; rw [h]; simp
set_option maxRecDepth 100000 in
set_option maxHeartbeats 1000000 in
theorem RefPBuild_any (A : Option Addr) (n c : Nat) (l : List QP) (w : World) (h : LQ w A n c l) (hf : fewR l) :
    Calls Try.prog 40 #[.slice A n c] w (TwoOut w (builtR l) (codeR l)) := by
  have hbt := Lib.hid (Below.refl w.heap.size w)
  have hM := Lib.hid (fun i (hi : i < n) => h.mid hi)
  have hl := Lib.hid h.len
  have hnc := h.nc
  have hsm := Lib.hid (flatR_small hf)
  have hn40 : n ≤ 40 := by have := hf.1; rw [h.len] at this; exact this
  have hdat := Lib.hid hf.2
  have hz := Lib.hid (flatR_zero l)
  have hHd := Lib.hid (fun W => RefPHead_any W)
  clear h hf
  go_enter Try.func40, Try.ntmps40
  go_wp2_with (first
    | (go_at_call 63; refine (hHd.out _).mono ?_; rintro e w0 ⟨A0, c0, rfl, ho0, hB0⟩; replace hB0 := Lib.hid hB0; replace ho0 := Lib.hid ho0)
    | fail)
  go_loopw [4, 5, 6] (fun vo i _ wr => ∃ (k : Nat) (A2 : Option Addr) (n2 c2 : Nat), k ≤ n ∧ i = .int .i64 k ∧ vo = .slice A2 n2 c2 ∧ OB wr w.heap.size A2 n2 c2 (flatR (l.take k)) ∧ (∀ j q, j < k → l[j]? = some q → goodR q = true) ∧ Below w.heap.size w wr) (fun _ i _ _ => n - (intOf i).toNat)
  case atStart => exact ⟨0, A0, 24, c0, by omega, rfl, rfl, by rw [hz.out]; exact ho0.out, fun j q hj => absurd hj (by omega), hB0.out⟩
  case round =>
    obtain ⟨k, A2, n2, c2, hk, rfl, rfl, ho, hall, hB⟩ := hrel
    replace hall := Lib.hid hall
    by_cases hlt : k < n
    · obtain ⟨b, off, q, A1, m, c1, rfl, hbl, hq, hr, hd⟩ := hM.out k hlt
      have hrr := Lib.hid (rangeAt_below hr hB hbl)
      have hdl := hd.len
      have hm : m ≤ 2000 := by have := hdat.out q (List.mem_of_getElem? hq); omega
      have hn2 : n2 ≤ 80664 := by have := hsm.out k; rw [ho.len] at this; exact this
      have hMay := Lib.hid (fun W => RefPMay_any q A1 m c1 W (by omega))
      have hg : goodR q = mayB q m := by unfold goodR; rw [hdl]
      have hdW := Lib.hid (fun W (hW : Below w.heap.size w W) => hd.below hW)
      replace hr := 0
      replace hd := 0
      replace ho := Lib.hid ho
      cases hmb : mayB q m
      · rw [hmb] at hMay
        have hno := Lib.hid (allR_no hq (hg.trans hmb))
        clear hdl hq hg hmb
        go_wp2_with (first
          | (refine wpList_load_mid rfl 90 (.tmp 16) rfl b (off + k * 4) rfl [.int .i64 q.x, .int .i64 q.y, .int .i64 q.z, .slice A1 m c1] _ hrr.out Try.underlying90 rfl info_rrec ?_)
          | (refine wpList_store_S rfl (.tmp 6) (.tmp 17) rfl wr.heap.size (cellsQ q A1 m c1) rfl rfl _ (Blk.new wr zeroQc 90) rfl rfl (one_Q _ _ _ _) ?_; have hbe : Below wr.heap.size wr ((wr.alloc (.cells zeroQc 90)).setRow wr.heap.size (cellsQ q A1 m c1)) := below_row ((Below.refl _ wr).alloc (Nat.le_refl _) _) (Nat.le_refl _) _; have k1 : Blk ((wr.alloc (.cells zeroQc 90)).setRow wr.heap.size (cellsQ q A1 m c1)) wr.heap.size (cellsQ q A1 m c1) 90 := ⟨setRow_heap _ _ _ _ _ _ (Blk.new wr zeroQc 90).at_⟩; generalize (wr.alloc (.cells zeroQc 90)).setRow wr.heap.size (cellsQ q A1 m c1) = ws at *; (have hbs := Lib.hid (hB.trans (hbe.mono hB.size))); replace hbe := 0; replace k1 := Lib.hid k1)
          | (refine wpList_load_S rfl (.tmp 6) rfl wr.heap.size rfl (cellsQ q A1 m c1) k1.out rfl ?_)
          | (go_at_call 64; refine (hMay.out _).mono ?_; rintro e w2 ⟨rfl, hB2⟩; have hb2 := Lib.hid (hbs.out.trans (hB2.mono hbs.out.size)); replace hB2 := 0)
          | fail)
        go_ret2
        unfold TwoOut builtR codeR
        rw [hno.out]
        exact ⟨none, 0, 0, by first | rfl | simp, RB.nil _, hb2.out⟩
      · rw [hmb] at hMay
        have hall2 := Lib.hid (show ∀ j q, j < k + 1 → l[j]? = some q → goodR q = true from fun j q' hj hq' => by
          rcases Nat.lt_or_ge j k with h | h
          · exact hall.out j q' h hq'
          · obtain rfl : j = k := by omega
            rw [hq] at hq'
            obtain rfl := Option.some.inj hq'
            exact hg.trans hmb)
        have hsu := Lib.hid ((flatR_succ hq).trans (recP_steps q m hdl (flatR (l.take k))).symm)
        obtain ⟨⟨h1, h2⟩, ⟨h3, h4⟩, ⟨h5, h6⟩, h7, h8⟩ := may_ok hmb
        have fx := Lib.hid (fit4 h1 h2)
        have fy := Lib.hid (fit4 h3 (show q.y < 4294967296 by omega))
        have fm := Lib.hid (fit4 (show (0 : Int) ≤ (m : Int) by omega) (by omega))
        have fz := Lib.hid (fit4 h5 h6)
        clear hdl hq hg hmb h1 h2 h3 h4 h5 h6 h7 h8
        go_wp2_with (first
          | (refine wpList_load_mid rfl 90 (.tmp 16) rfl b (off + k * 4) rfl [.int .i64 q.x, .int .i64 q.y, .int .i64 q.z, .slice A1 m c1] _ hrr.out Try.underlying90 rfl info_rrec ?_)
          | (refine wpList_store_S rfl (.tmp 6) (.tmp 17) rfl wr.heap.size (cellsQ q A1 m c1) rfl rfl _ (Blk.new wr zeroQc 90) rfl rfl (one_Q _ _ _ _) ?_; have hbe : Below wr.heap.size wr ((wr.alloc (.cells zeroQc 90)).setRow wr.heap.size (cellsQ q A1 m c1)) := below_row ((Below.refl _ wr).alloc (Nat.le_refl _) _) (Nat.le_refl _) _; have k1 : Blk ((wr.alloc (.cells zeroQc 90)).setRow wr.heap.size (cellsQ q A1 m c1)) wr.heap.size (cellsQ q A1 m c1) 90 := ⟨setRow_heap _ _ _ _ _ _ (Blk.new wr zeroQc 90).at_⟩; generalize (wr.alloc (.cells zeroQc 90)).setRow wr.heap.size (cellsQ q A1 m c1) = ws at *; (have hbs := Lib.hid (hB.trans (hbe.mono hB.size)); have hos := Lib.hid (ho.out.below hbe)); replace hbe := 0; replace k1 := Lib.hid k1)
          | (refine wpList_load_S rfl (.tmp 6) rfl wr.heap.size rfl (cellsQ q A1 m c1) k1.out rfl ?_)
          | (go_at_call 64; refine (hMay.out _).mono ?_; rintro e w2 ⟨rfl, hB2⟩; have hb2 := Lib.hid (hbs.out.trans (hB2.mono hbs.out.size)); have ho2 := Lib.hid (hos.out.below hB2); have k2 := Lib.hid (k1.out.to hB2); replace hB2 := 0)
          | fail)
        have hF := Lib.hid (show ∀ W, Below w2.heap.size w2 W → (W.cell? ⟨wr.heap.size, 0, none⟩ = some (.int .i64 q.x) ∧ W.cell? ⟨wr.heap.size, 1, none⟩ = some (.int .i64 q.y) ∧ W.cell? ⟨wr.heap.size, 2, none⟩ = some (.int .i64 q.z) ∧ W.cell? ⟨wr.heap.size, 3, none⟩ = some (.slice A1 m c1)) from fun W hW => qcells (k2.out.to hW))
        have hP1 := Lib.hid (fun W (hW : Below w2.heap.size w2 W) => RefPut_yes A2 n2 c2 (flatR (l.take k)) q.x 4 W (ho2.out.rb.below hW) (by omega) fx.out)
        have hb2s := Lib.hid hb2.out.size
        replace k2 := 0
        replace k1 := 0
        replace hos := 0
        replace ho2 := 0
        go_region_held3 (fun W => (W.cell? ⟨wr.heap.size, 0, none⟩ = some (.int .i64 q.x) ∧ W.cell? ⟨wr.heap.size, 1, none⟩ = some (.int .i64 q.y) ∧ W.cell? ⟨wr.heap.size, 2, none⟩ = some (.int .i64 q.z) ∧ W.cell? ⟨wr.heap.size, 3, none⟩ = some (.slice A1 m c1)) ∧ Below w2.heap.size w2 W)
          (first | assumption | exact held0 hF.out | exact heldAl hF.out _ (by assumption))
          (first
          | (go_at_call_of 51 (Value.int IntKind.i64 q.x); refine Calls.mono (hP1.out _ ?_) ?_; exact held0 hF.out |>.2; rintro e w3 ⟨A3, c3, rfl, ho3, hb3⟩; have hS3 := heldTo hF.out (held0 hF.out) hb3; replace ho3 := Lib.hid ho3; clear hb3)
          | (go_at_call_of 51 (Value.int IntKind.i64 q.y); refine Calls.mono (RefPut_yes A3 (n2 + 4) c3 (flatR (l.take k) ++ digL q.x 4) q.y 4 _ ho3.out.rb (by omega) fy.out) ?_; rintro e w4 ⟨A4, c4, rfl, ho4, hb4⟩; have hS4 := heldTo hF.out hS3 hb4; replace ho4 := Lib.hid ho4; clear hb4)
          | fail)
        go_wp2
        go_region_held3 (fun W => (W.cell? ⟨wr.heap.size, 0, none⟩ = some (.int .i64 q.x) ∧ W.cell? ⟨wr.heap.size, 1, none⟩ = some (.int .i64 q.y) ∧ W.cell? ⟨wr.heap.size, 2, none⟩ = some (.int .i64 q.z) ∧ W.cell? ⟨wr.heap.size, 3, none⟩ = some (.slice A1 m c1)) ∧ Below w2.heap.size w2 W)
          (first | assumption | exact heldDr hF.out hS4 | exact heldAl hF.out _ (by assumption))
          (first
          | (go_at_call_of 51 (Value.int IntKind.i64 (m : Int)); refine Calls.mono (RefPut_yes A4 (n2 + 4 + 4) c4 (flatR (l.take k) ++ digL q.x 4 ++ digL q.y 4) (m : Int) 4 _ ho4.out.rb.drew (by omega) fm.out) ?_; rintro e w5 ⟨A5, c5, rfl, ho5, hb5⟩; have hS5 := heldTo hF.out (heldDr hF.out hS4) hb5; replace ho5 := Lib.hid ho5; clear hb5)
          | (go_at_call_of 51 (Value.int IntKind.i64 q.z); refine Calls.mono (RefPut_yes A5 (n2 + 4 + 4 + 4) c5 (flatR (l.take k) ++ digL q.x 4 ++ digL q.y 4 ++ digL (m : Int) 4) q.z 4 _ ho5.out.rb (by omega) fz.out) ?_; rintro e w6 ⟨A6, c6, rfl, ho6, hb6⟩; have hS6 := heldTo hF.out hS5 hb6; have hz5 := hS5.2.size; replace ho6 := Lib.hid ho6; clear hb6)
          | fail)
        have e3 := hS6.1.2.2.2
        have hB6 := Lib.hid (hb2.out.trans (hS6.2.mono hb2s.out))
        have ho6w := Lib.hid (ho6.out.mono (Nat.le_trans hb2s.out hz5))
        clear hS3 hS4 hS5 hS6 hz5
        go_wp2_with (first
          | (at_builtin; refine wpList_append_bytes _ rfl (.tmp 36) (.tmp 38) rfl rfl rfl ho6w.out (hdW.out _ hB6.out) (by omega) hB6.out.size ?_; intro A7 c7 w7 ho7 hg7 hr7)
          | fail)
        go_roundw
        case rel => exact ⟨k + 1, A7, n2 + 4 + 4 + 4 + 4 + m, c7, by omega, by go_num, rfl, by rw [hsu.out]; exact ho7, hall2.out, hB6.out.grown hg7 hB6.out.size (fun k1 hk1 => (ho6w.out.blk hk1).1)⟩
        case measure => simp [intOf]; omega
    · obtain rfl : k = n := by omega
      have hfin : flatR (l.take k) = flatR l := by rw [List.take_of_length_le (by rw [hl.out]; exact Nat.le_refl _)]
      rw [hfin] at ho
      clear hfin
      have hyes := Lib.hid (allR_yes (l := l) fun j q hj hq => hall.out j q (by rw [hl.out] at hj; exact hj) hq)
      replace ho := Lib.hid ho
      go_wp2
      go_ret2
      unfold TwoOut builtR codeR
      rw [hyes.out]
      exact ⟨A2, n2, c2, by first | rfl | simp, ho.out.rb, hB⟩
end Go.Proofs.Ytbbdkfadcafpfaa
