/- Events: the law's few, the lists' bytes; the law EventCodes. -/
import Derived.Test.YtccdbelngjonaaaEventPl
import Derived.Test.YtccdbelngjonaaaEventL
import Derived.Test.YtccdbelngjonaaaLoose
set_option linter.unusedVariables false
namespace Go.Proofs.Ytccdbelngjonaaa
open Go.RowKit

def BytR (bs : List Int) : Rl := fun u W => ∃ A n c, u = .slice A n c ∧ RB W A n c bs
theorem BytR.stable (bs : List Int) : StableR (BytR bs) := fun u w w' ⟨A, n, c, h1, h2⟩ hb => ⟨A, n, c, h1, h2.below hb⟩
theorem fewL_yes {l : List QP} (h1 : l.length ≤ 60) (h2 : ∀ j q, j < l.length → l[j]? = some q → q.data.length ≤ 1000) : fewL l = true :=
  decide_eq_true ⟨h1, fun q hq => by
    obtain ⟨j, hj⟩ := List.getElem?_of_mem hq
    exact h2 j q (List.getElem?_eq_some_iff.1 hj).1 hj⟩
theorem fewL_no1 {l : List QP} (h : 60 < l.length) : fewL l = false := decide_eq_false (fun h' => by omega)
theorem fewL_no2 {l : List QP} {k : Nat} {q : QP} (hq : l[k]? = some q) (h : 1000 < q.data.length) : fewL l = false :=
  decide_eq_false (fun h' => by have := h'.2 q (List.mem_of_getElem? hq); omega)

set_option maxRecDepth 100000 in
set_option maxHeartbeats 2000000 in
theorem EvFew_any (A : Option Addr) (n c : Nat) (l : List QP) (w : World) (h : LQ w A n c l) :
    Calls Try.prog 23 #[.slice A n c] w fun e w' => e = .returned (.bool (fewL l)) ∧ Below w.heap.size w w' := by
  have hbt := Lib.hid (Below.refl w.heap.size w)
  have hM := Lib.hid (fun i (hi : i < n) => h.mid hi)
  have hl := Lib.hid h.len
  have hnc := h.nc
  clear h
  go_enter Try.func23, Try.ntmps23
  go_wp2
  go_loopw [3, 4, 7] (fun _ _ i wr => ∃ k : Nat, k ≤ n ∧ k ≤ 60 ∧ i = .int .i64 k ∧ (∀ j q, j < k → l[j]? = some q → q.data.length ≤ 1000) ∧ Below w.heap.size w wr) (fun _ _ i _ => 61 - (intOf i).toNat)
  case atStart => exact ⟨0, by omega, by omega, rfl, fun j q hj => absurd hj (by omega), hbt.out⟩
  case round =>
    obtain ⟨k, hk, hk60, rfl, hall, hB⟩ := hrel
    replace hall := Lib.hid hall
    by_cases hlt : k < n
    · obtain ⟨b, off, q, A1, m, c1, rfl, hbl, hq, hr, hd⟩ := hM.out k hlt
      have hrr := Lib.hid (rangeAt_below hr hB hbl)
      have hdl := hd.len
      replace hr := 0
      replace hd := 0
      by_cases h60 : 60 ≤ k
      · have hf := Lib.hid (fewL_no1 (l := l) (by rw [hl.out]; omega))
        have hd60 : decide ((60 : Int) ≤ (k : Int)) = true := by simp; omega
        clear hdl hq
        go_wp2_with (first
          | (refine wpList_load_mid rfl 25 (.tmp 10) rfl b (off + k * 4) rfl [.int .i64 q.x, .int .i64 q.y, .int .i64 q.z, .slice A1 m c1] _ hrr.out Try.underlying25 rfl info_event ?_)
          | (refine wpList_store_E rfl (.tmp 4) (.tmp 11) rfl wr.heap.size (cellsQ q A1 m c1) rfl rfl _ (Blk.new wr zeroQc 25) rfl rfl (one_Q _ _ _ _) ?_; have hbe : Below wr.heap.size wr ((wr.alloc (.cells zeroQc 25)).setRow wr.heap.size (cellsQ q A1 m c1)) := below_row ((Below.refl _ wr).alloc (Nat.le_refl _) _) (Nat.le_refl _) _; have k1 : Blk ((wr.alloc (.cells zeroQc 25)).setRow wr.heap.size (cellsQ q A1 m c1)) wr.heap.size (cellsQ q A1 m c1) 25 := ⟨setRow_heap _ _ _ _ _ _ (Blk.new wr zeroQc 25).at_⟩; generalize (wr.alloc (.cells zeroQc 25)).setRow wr.heap.size (cellsQ q A1 m c1) = ws at *; (have hbs := Lib.hid (hB.trans (hbe.mono hB.size)); obtain ⟨r0, r1, r2, r3⟩ := qcells k1); replace hbe := 0; replace k1 := Lib.hid k1)
          | fail)
        go_ret
        exact ⟨ret_bool hf.out.symm, hbs.out⟩
      · have hd60 : decide ((60 : Int) ≤ (k : Int)) = false := by simp; omega
        by_cases hm : 1000 < m
        · have hf := Lib.hid (fewL_no2 hq (by rw [hdl]; exact hm))
          have hdm : decide ((1000 : Int) < (m : Int)) = true := by simp; omega
          clear hdl hq
          go_wp2_with (first
            | (refine wpList_load_mid rfl 25 (.tmp 10) rfl b (off + k * 4) rfl [.int .i64 q.x, .int .i64 q.y, .int .i64 q.z, .slice A1 m c1] _ hrr.out Try.underlying25 rfl info_event ?_)
            | (refine wpList_store_E rfl (.tmp 4) (.tmp 11) rfl wr.heap.size (cellsQ q A1 m c1) rfl rfl _ (Blk.new wr zeroQc 25) rfl rfl (one_Q _ _ _ _) ?_; have hbe : Below wr.heap.size wr ((wr.alloc (.cells zeroQc 25)).setRow wr.heap.size (cellsQ q A1 m c1)) := below_row ((Below.refl _ wr).alloc (Nat.le_refl _) _) (Nat.le_refl _) _; have k1 : Blk ((wr.alloc (.cells zeroQc 25)).setRow wr.heap.size (cellsQ q A1 m c1)) wr.heap.size (cellsQ q A1 m c1) 25 := ⟨setRow_heap _ _ _ _ _ _ (Blk.new wr zeroQc 25).at_⟩; generalize (wr.alloc (.cells zeroQc 25)).setRow wr.heap.size (cellsQ q A1 m c1) = ws at *; (have hbs := Lib.hid (hB.trans (hbe.mono hB.size)); obtain ⟨r0, r1, r2, r3⟩ := qcells k1); replace hbe := 0; replace k1 := Lib.hid k1)
            | fail)
          go_ret
          exact ⟨ret_bool hf.out.symm, hbs.out⟩
        · have hdm : decide ((1000 : Int) < (m : Int)) = false := by simp; omega
          have hall2 := Lib.hid (show ∀ j q, j < k + 1 → l[j]? = some q → q.data.length ≤ 1000 from fun j q' hj hq' => by
            rcases Nat.lt_or_ge j k with h | h
            · exact hall.out j q' h hq'
            · obtain rfl : j = k := by omega
              rw [hq] at hq'
              obtain rfl := Option.some.inj hq'
              omega)
          clear hdl hq
          go_wp2_with (first
            | (refine wpList_load_mid rfl 25 (.tmp 10) rfl b (off + k * 4) rfl [.int .i64 q.x, .int .i64 q.y, .int .i64 q.z, .slice A1 m c1] _ hrr.out Try.underlying25 rfl info_event ?_)
            | (refine wpList_store_E rfl (.tmp 4) (.tmp 11) rfl wr.heap.size (cellsQ q A1 m c1) rfl rfl _ (Blk.new wr zeroQc 25) rfl rfl (one_Q _ _ _ _) ?_; have hbe : Below wr.heap.size wr ((wr.alloc (.cells zeroQc 25)).setRow wr.heap.size (cellsQ q A1 m c1)) := below_row ((Below.refl _ wr).alloc (Nat.le_refl _) _) (Nat.le_refl _) _; have k1 : Blk ((wr.alloc (.cells zeroQc 25)).setRow wr.heap.size (cellsQ q A1 m c1)) wr.heap.size (cellsQ q A1 m c1) 25 := ⟨setRow_heap _ _ _ _ _ _ (Blk.new wr zeroQc 25).at_⟩; generalize (wr.alloc (.cells zeroQc 25)).setRow wr.heap.size (cellsQ q A1 m c1) = ws at *; (have hbs := Lib.hid (hB.trans (hbe.mono hB.size)); obtain ⟨r0, r1, r2, r3⟩ := qcells k1); replace hbe := 0; replace k1 := Lib.hid k1)
            | fail)
          go_roundw
          case rel => exact ⟨k + 1, by omega, by omega, by go_num, hall2.out, hbs.out⟩
          case measure => simp [intOf]; omega
    · obtain rfl : k = n := by omega
      have hf := Lib.hid (fewL_yes (l := l) (by rw [hl.out]; exact hk60) (fun j q hj hq => hall.out j q (by rw [hl.out] at hj; exact hj) hq))
      go_wp2
      go_ret
      exact ⟨ret_bool hf.out.symm, hB⟩

theorem fewL_ok {l : List QP} (h : fewL l = true) : l.length ≤ 60 ∧ ∀ q ∈ l, q.data.length ≤ 1000 := of_decide_eq_true h
theorem codes_take {l : List QP} {k : Nat} {q : QP} (hq : l[k]? = some q) : codesE (l.take (k + 1)) = codesE (l.take k) ++ codeE q q.data.length := by
  rw [List.take_add_one, hq, Option.toList_some, codesE_snoc]
theorem codes_small {l : List QP} (h : fewL l = true) (k : Nat) : (codesE (l.take k)).length ≤ 60480 := by
  obtain ⟨h1, h2⟩ := fewL_ok h
  have h3 := codesE_len (l.take k) (fun q hq => h2 q (List.mem_of_mem_take hq))
  have h4 : (l.take k).length ≤ 60 := by rw [List.length_take]; omega
  omega

set_option maxRecDepth 100000 in
set_option maxHeartbeats 4000000 in
theorem EvPut_any (A : Option Addr) (n c : Nat) (l : List QP) (w : World) (h : LQ w A n c l) (hf : fewL l = true) :
    Calls Try.prog 29 #[.slice A n c] w (PutOut w (codesE l)) := by
  have hbt := Lib.hid (Below.refl w.heap.size w)
  have hM := Lib.hid (fun i (hi : i < n) => h.mid hi)
  have hl := Lib.hid h.len
  have hnc := h.nc
  have hsm := Lib.hid (codes_small hf)
  have hn60 : n ≤ 60 := by have := (fewL_ok hf).1; rw [h.len] at this; exact this
  have hdat := Lib.hid (fewL_ok hf).2
  clear h hf
  go_enter Try.func29, Try.ntmps29
  go_wp2
  go_loopw [3, 5, 8] (fun vo _ i wr => ∃ (k : Nat) (A2 : Option Addr) (n2 c2 : Nat), k ≤ n ∧ i = .int .i64 k ∧ vo = .slice A2 n2 c2 ∧ OB wr w.heap.size A2 n2 c2 (codesE (l.take k)) ∧ Below w.heap.size w wr) (fun _ _ i _ => n - (intOf i).toNat)
  case atStart => exact ⟨0, none, 0, 0, by omega, rfl, rfl, OB.nil _ _, hbt.out⟩
  case round =>
    obtain ⟨k, A2, n2, c2, hk, rfl, rfl, ho, hB⟩ := hrel
    by_cases hlt : k < n
    · obtain ⟨b, off, q, A1, m, c1, rfl, hbl, hq, hr, hd⟩ := hM.out k hlt
      have hrr := Lib.hid (rangeAt_below hr hB hbl)
      have hdl := hd.len
      have hm : m ≤ 1000 := by have := hdat.out q (List.mem_of_getElem? hq); omega
      have hn2 : n2 ≤ 60480 := by have := hsm.out k; rw [ho.len] at this; exact this
      have hC := Lib.hid (fun W (hW : Below w.heap.size w W) => EvCode_any q A1 m c1 W (hd.below hW) (by omega))
      have htk := codes_take hq
      rw [hdl] at htk
      have hcl : (codeE q m).length ≤ 1008 := by
        cases hg : goodE q
        · have := codeE_bad hg; rw [hdl] at this; rw [this]; simp
        · have := code_len hg; rw [hdl] at this; omega
      replace htk := Lib.hid htk
      replace hr := 0
      replace hd := 0
      replace ho := Lib.hid ho
      clear hdl hq
      go_wp2_with (first
        | (refine wpList_load_mid rfl 25 (.tmp 10) rfl b (off + k * 4) rfl [.int .i64 q.x, .int .i64 q.y, .int .i64 q.z, .slice A1 m c1] _ hrr.out Try.underlying25 rfl info_event ?_)
        | (refine wpList_store_E rfl (.tmp 5) (.tmp 11) rfl wr.heap.size (cellsQ q A1 m c1) rfl rfl _ (Blk.new wr zeroQc 25) rfl rfl (one_Q _ _ _ _) ?_; have hbe : Below wr.heap.size wr ((wr.alloc (.cells zeroQc 25)).setRow wr.heap.size (cellsQ q A1 m c1)) := below_row ((Below.refl _ wr).alloc (Nat.le_refl _) _) (Nat.le_refl _) _; have k1 : Blk ((wr.alloc (.cells zeroQc 25)).setRow wr.heap.size (cellsQ q A1 m c1)) wr.heap.size (cellsQ q A1 m c1) 25 := ⟨setRow_heap _ _ _ _ _ _ (Blk.new wr zeroQc 25).at_⟩; generalize (wr.alloc (.cells zeroQc 25)).setRow wr.heap.size (cellsQ q A1 m c1) = ws at *; (have hbs := Lib.hid (hB.trans (hbe.mono hB.size)); have hos := Lib.hid (ho.out.below hbe)); replace hbe := 0; replace k1 := Lib.hid k1)
        | (refine wpList_load_E rfl (.tmp 5) rfl wr.heap.size rfl (cellsQ q A1 m c1) k1.out rfl ?_)
        | (go_at_call 27; refine (hC.out _ hbs.out).mono ?_; rintro e w2 ⟨A3, n3, c3, rfl, hr3, hB2⟩; have hb2 := Lib.hid (hbs.out.trans (hB2.mono hbs.out.size)); have ho2 := Lib.hid (hos.out.below hB2); have hl3 := hr3.len; replace hr3 := Lib.hid hr3; replace hB2 := 0)
        | (at_builtin; refine wpList_append_bytes _ rfl (.tmp 12) (.tmp 14) rfl rfl rfl ho2.out hr3.out (by omega) hb2.out.size ?_; intro A4 c4 w4 ho4 hg4 hr4)
        | fail)
      go_roundw
      case rel => exact ⟨k + 1, A4, n2 + n3, c4, by omega, by go_num, rfl, by rw [htk.out]; exact ho4, hb2.out.grown hg4 hb2.out.size (fun k1 hk1 => (ho2.out.blk hk1).1)⟩
      case measure => simp [intOf]; omega
    · obtain rfl : k = n := by omega
      have hfin : codesE (l.take k) = codesE l := by rw [List.take_of_length_le (by rw [hl.out]; exact Nat.le_refl _)]
      rw [hfin] at ho
      clear hfin
      replace ho := Lib.hid ho
      go_wp2
      go_ret
      exact ⟨A2, n2, c2, rfl, ho.out.rb, hB⟩

set_option maxRecDepth 100000 in
set_option maxHeartbeats 4000000 in
theorem RefEvPut_any (A : Option Addr) (n c : Nat) (l : List QP) (w : World) (h : LQ w A n c l) (hf : fewL l = true) :
    Calls Try.prog 30 #[.slice A n c] w (PutOut w (codesE l)) := by
  have hbt := Lib.hid (Below.refl w.heap.size w)
  have hM := Lib.hid (fun i (hi : i < n) => h.mid hi)
  have hl := Lib.hid h.len
  have hnc := h.nc
  have hsm := Lib.hid (codes_small hf)
  have hn60 : n ≤ 60 := by have := (fewL_ok hf).1; rw [h.len] at this; exact this
  have hdat := Lib.hid (fewL_ok hf).2
  clear h hf
  go_enter Try.func30, Try.ntmps30
  go_wp2
  go_loopw [3, 4] (fun vo i wr => ∃ (k : Nat) (A2 : Option Addr) (n2 c2 : Nat), k ≤ n ∧ i = .int .i64 k ∧ vo = .slice A2 n2 c2 ∧ OB wr w.heap.size A2 n2 c2 (codesE (l.take k)) ∧ Below w.heap.size w wr) (fun _ i _ => n - (intOf i).toNat)
  case atStart => exact ⟨0, none, 0, 0, by omega, rfl, rfl, OB.nil _ _, hbt.out⟩
  case round =>
    obtain ⟨k, A2, n2, c2, hk, rfl, rfl, ho, hB⟩ := hrel
    by_cases hlt : k < n
    · obtain ⟨b, off, q, A1, m, c1, rfl, hbl, hq, hr, hd⟩ := hM.out k hlt
      have hrr := Lib.hid (rangeAt_below hr hB hbl)
      have hdl := hd.len
      have hm : m ≤ 1000 := by have := hdat.out q (List.mem_of_getElem? hq); omega
      have hn2 : n2 ≤ 60480 := by have := hsm.out k; rw [ho.len] at this; exact this
      have hC := Lib.hid (fun W (hW : Below w.heap.size w W) => RefEvCode_any q A1 m c1 W (hd.below hW) (by omega))
      have htk := codes_take hq
      rw [hdl] at htk
      have hcl : (codeE q m).length ≤ 1008 := by
        cases hg : goodE q
        · have := codeE_bad hg; rw [hdl] at this; rw [this]; simp
        · have := code_len hg; rw [hdl] at this; omega
      replace htk := Lib.hid htk
      replace hr := 0
      replace hd := 0
      replace ho := Lib.hid ho
      clear hdl hq
      go_wp2_with (first
        | (refine wpList_load_mid rfl 25 (.tmp 14) rfl b (off + k * 4) rfl [.int .i64 q.x, .int .i64 q.y, .int .i64 q.z, .slice A1 m c1] _ hrr.out Try.underlying25 rfl info_event ?_)
        | (go_at_call 28; refine (hC.out _ hB).mono ?_; rintro e w2 ⟨A3, n3, c3, rfl, hr3, hB2⟩; have hb2 := Lib.hid (hB.trans (hB2.mono hB.size)); have ho2 := Lib.hid (ho.out.below hB2); have hl3 := hr3.len; replace hr3 := Lib.hid hr3; replace hB2 := 0)
        | (at_builtin; refine wpList_append_bytes _ rfl (.tmp 11) (.tmp 16) rfl rfl rfl ho2.out hr3.out (by omega) hb2.out.size ?_; intro A4 c4 w4 ho4 hg4 hr4)
        | fail)
      go_roundw
      case rel => exact ⟨k + 1, A4, n2 + n3, c4, by omega, by go_num, rfl, by rw [htk.out]; exact ho4, hb2.out.grown hg4 hb2.out.size (fun k1 hk1 => (ho2.out.blk hk1).1)⟩
      case measure => simp [intOf]; omega
    · obtain rfl : k = n := by omega
      have hfin : codesE (l.take k) = codesE l := by rw [List.take_of_length_le (by rw [hl.out]; exact Nat.le_refl _)]
      rw [hfin] at ho
      clear hfin
      replace ho := Lib.hid ho
      go_wp2
      go_ret
      exact ⟨A2, n2, c2, rfl, ho.out.rb, hB⟩

theorem en_EvCheck (args : Array Value) (w : World) : (callFunc 24 args).run Try.prog w = .ok (.enter 24 args) w := enters Try.func24 (by kernel_rfl) (by kernel_rfl) args w
theorem en_EvRCheck (args : Array Value) (w : World) : (callFunc 25 args).run Try.prog w = .ok (.enter 25 args) w := enters Try.func25 (by kernel_rfl) (by kernel_rfl) args w
theorem en_EvCode (args : Array Value) (w : World) : (callFunc 27 args).run Try.prog w = .ok (.enter 27 args) w := enters Try.func27 (by kernel_rfl) (by kernel_rfl) args w
theorem en_EvRCode (args : Array Value) (w : World) : (callFunc 28 args).run Try.prog w = .ok (.enter 28 args) w := enters Try.func28 (by kernel_rfl) (by kernel_rfl) args w
theorem en_EvPut (args : Array Value) (w : World) : (callFunc 29 args).run Try.prog w = .ok (.enter 29 args) w := enters Try.func29 (by kernel_rfl) (by kernel_rfl) args w
theorem en_EvRPut (args : Array Value) (w : World) : (callFunc 30 args).run Try.prog w = .ok (.enter 30 args) w := enters Try.func30 (by kernel_rfl) (by kernel_rfl) args w
theorem en_EvEqual (args : Array Value) (w : World) : (callFunc 26 args).run Try.prog w = .ok (.enter 26 args) w := enters Try.func26 (by kernel_rfl) (by kernel_rfl) args w
theorem en_EvAwake (args : Array Value) (w : World) : (callFunc 15 args).run Try.prog w = .ok (.enter 15 args) w := enters Try.func15 (by kernel_rfl) (by kernel_rfl) args w
set_option maxRecDepth 100000 in
set_option maxHeartbeats 4000000 in
theorem EventCodes_walk (A : Option Addr) (n c : Nat) (l : List QP) (q : QP) (B : Option Addr) (m d : Nat) (w : World) (hL : LQ w A n c l) (hr : RB w B m d q.data) :
    Calls Try.prog 4 #[.slice A n c, .agg (cellsQ q B m d)] w fun e w' => e = .returned (.bool true) ∧ Below w.heap.size w w' := by
  have hb := Lib.hid ((Below.refl _ w).alloc (Nat.le_refl _) (.cells (cellsQ q B m d) 25))
  have k1 := Lib.hid (Blk.new w (cellsQ q B m d) 25)
  have hFew := Lib.hid (fun W (hW : Below w.heap.size w W) => EvFew_any A n c l W (hL.below hW))
  cases hf : fewL l
  · rw [hf] at hFew
    clear hL hr hf
    go_enter Try.func4, Try.ntmps4
    go_wp2_with (first
      | (go_at_call 23; refine (hFew.out _ hb.out).mono ?_; rintro e w1 ⟨rfl, hb1⟩; have hB1 := Lib.hid (hb.out.trans (hb1.mono hb.out.size)); have l1 := k1.out.to hb1; obtain ⟨r0, r1, r2, r3⟩ := qcells l1; replace l1 := Lib.hid l1; replace hb1 := 0)
      | (go_at_call 15; refine (awake36 _).mono ?_; rintro e w' ⟨rfl, hb2⟩)
      | fail)
    go_ret
    exact ⟨rfl, hB1.out.trans (hb2.mono hB1.out.size)⟩
  · rw [hf] at hFew
    by_cases hm : 2000 < m
    · have hdm : decide ((2000 : Int) < (m : Int)) = true := by simp; omega
      clear hL hr hf
      go_enter Try.func4, Try.ntmps4
      go_wp2_with (first
        | (go_at_call 23; refine (hFew.out _ hb.out).mono ?_; rintro e w1 ⟨rfl, hb1⟩; have hB1 := Lib.hid (hb.out.trans (hb1.mono hb.out.size)); have l1 := k1.out.to hb1; obtain ⟨r0, r1, r2, r3⟩ := qcells l1; replace l1 := Lib.hid l1; replace hb1 := 0)
        | (go_at_call 15; refine (awake36 _).mono ?_; rintro e w' ⟨rfl, hb2⟩)
        | fail)
      go_ret
      exact ⟨rfl, hB1.out.trans (hb2.mono hB1.out.size)⟩
    · have hdm : decide ((2000 : Int) < (m : Int)) = false := by simp; omega
      have hCk := Lib.hid (fun W => EvCheck_any q B m d W (by omega))
      have hRCk := Lib.hid (fun W => RefEvCheck_any q B m d W (by omega))
      have hCd := Lib.hid (fun W (hW : Below w.heap.size w W) => EvCode_any q B m d W (hr.below hW) (by omega))
      have hRCd := Lib.hid (fun W (hW : Below w.heap.size w W) => RefEvCode_any q B m d W (hr.below hW) (by omega))
      have hPt := Lib.hid (fun W (hW : Below w.heap.size w W) => EvPut_any A n c l W (hL.below hW) hf)
      have hRPt := Lib.hid (fun W (hW : Below w.heap.size w W) => RefEvPut_any A n c l W (hL.below hW) hf)
      generalize codesE l = cl at *
      generalize codeE q m = cq at *
      generalize checkE q m = ck at *
      clear hL hr hf
      have hi1 := Lib.hid info_event
      go_enter Try.func4, Try.ntmps4
      go_wp2_with (first
        | (go_at_call 23; refine (hFew.out _ hb.out).mono ?_; rintro e w1 ⟨rfl, hb1⟩; have hB1 := Lib.hid (hb.out.trans (hb1.mono hb.out.size)); have l1 := k1.out.to hb1; obtain ⟨r0, r1, r2, r3⟩ := qcells l1; replace l1 := Lib.hid l1; replace hb1 := 0)
        | (go_at_call 15; refine (awake36 _).mono ?_; rintro e w' ⟨rfl, hb2⟩)
        | fail)
      have hK : ∀ W W', (Blk W w.heap.size (cellsQ q B m d) 25 ∧ Below w.heap.size w W) → Below W.heap.size W W' → (Blk W' w.heap.size (cellsQ q B m d) 25 ∧ Below w.heap.size w W') := fun W W' ⟨a1, a5⟩ hW =>
        ⟨a1.to hW, a5.trans (hW.mono a5.size)⟩
      have hS0 := hK w1 w1.drew ⟨l1.out, hB1.out⟩ (Below.refl _ _).drew
      replace hK := Lib.hid hK
      clear r0 r1 r2 r3
      refine wp_region_loose (fun W => Blk W w.heap.size (cellsQ q B m d) 25 ∧ Below w.heap.size w W) (by kernel_rfl) (by kernel_rfl) (by kernel_rfl) hS0 ?_
      repeat (first
        | (refine looseL_skip (by rfl) (by rfl) rfl ?_; simp only [putV, List.setIfInBounds_toArray, List.set_cons_zero, List.set_cons_succ])
        | (refine looseL_row (by rfl) (by rfl) (by rfl) rfl 25 (.tmp 3) rfl w.heap.size rfl _ (cellsQ q B m d) _ _ (fun W hS => hS.1.at_) Try.underlying25 rfl hi1.out ?_; simp only [putV, List.setIfInBounds_toArray, List.set_cons_zero, List.set_cons_succ])
        | (refine looseL_call1 (v := .bool ck) (by rfl) rfl 24 (.tmp 15) _ rfl en_EvCheck (by rfl) ?_ ?_; (intro vx W hS hx; cases hx; exact (hCk.out W).mono fun e W' ⟨he, hb⟩ => ⟨he, hK.out W W' hS hb, hb⟩); simp only [putV, List.setIfInBounds_toArray, List.set_cons_zero, List.set_cons_succ])
        | (refine looseL_call1 (v := .bool ck) (by rfl) rfl 25 (.tmp 17) _ rfl en_EvRCheck (by rfl) ?_ ?_; (intro vx W hS hx; cases hx; exact (hRCk.out W).mono fun e W' ⟨he, hb⟩ => ⟨he, hK.out W W' hS hb, hb⟩); simp only [putV, List.setIfInBounds_toArray, List.set_cons_zero, List.set_cons_succ])
        | (refine looseL_call1E (d := 22) (BytR cq) (by rfl) rfl 27 (.tmp 21) _ rfl en_EvCode rfl (BytR.stable cq) ?_ ?_; (intro vx W hS hx; cases hx; exact (hCd.out W hS.2).mono fun e W' ⟨A9, n9, c9, he, ho, hb⟩ => ⟨⟨_, he, A9, n9, c9, rfl, ho⟩, hK.out W W' hS hb, hb⟩))
        | (refine looseL_call1E (d := 24) (BytR cq) (by rfl) rfl 28 (.tmp 23) _ rfl en_EvRCode rfl (BytR.stable cq) ?_ ?_; (intro vx W hS hx; cases hx; exact (hRCd.out W hS.2).mono fun e W' ⟨A9, n9, c9, he, ho, hb⟩ => ⟨⟨_, he, A9, n9, c9, rfl, ho⟩, hK.out W W' hS hb, hb⟩))
        | (refine looseL_call2 (v := .bool true) (by rfl) rfl 26 (.tmp 22) (.tmp 24) _ rfl en_EvEqual (by rfl) ?_ ?_; (intro vx vy W hS hx hy; obtain ⟨A8, n8, c8, rfl, r8⟩ := hx; obtain ⟨A9, n9, c9, rfl, r9⟩ := hy; exact (toB (Equal_same _ _ _ _ _ _ _ W r8 r9)).mono fun e W' ⟨he, hb⟩ => ⟨he, hK.out W W' hS hb, hb⟩); simp only [putV, List.setIfInBounds_toArray, List.set_cons_zero, List.set_cons_succ])
        | (refine looseL_call1E (d := 29) (BytR cl) (by rfl) rfl 29 (.tmp 28) _ rfl en_EvPut rfl (BytR.stable cl) ?_ ?_; (intro vx W hS hx; cases hx; exact (hPt.out W hS.2).mono fun e W' ⟨A9, n9, c9, he, ho, hb⟩ => ⟨⟨_, he, A9, n9, c9, rfl, ho⟩, hK.out W W' hS hb, hb⟩))
        | (refine looseL_call1E (d := 31) (BytR cl) (by rfl) rfl 30 (.tmp 30) _ rfl en_EvRPut rfl (BytR.stable cl) ?_ ?_; (intro vx W hS hx; cases hx; exact (hRPt.out W hS.2).mono fun e W' ⟨A9, n9, c9, he, ho, hb⟩ => ⟨⟨_, he, A9, n9, c9, rfl, ho⟩, hK.out W W' hS hb, hb⟩))
        | (refine looseL_call2 (v := .bool true) (by rfl) rfl 26 (.tmp 29) (.tmp 31) _ rfl en_EvEqual (by rfl) ?_ ?_; (intro vx vy W hS hx hy; obtain ⟨A8, n8, c8, rfl, r8⟩ := hx; obtain ⟨A9, n9, c9, rfl, r9⟩ := hy; exact (toB (Equal_same _ _ _ _ _ _ _ W r8 r9)).mono fun e W' ⟨he, hb⟩ => ⟨he, hK.out W W' hS hb, hb⟩); simp only [putV, List.setIfInBounds_toArray, List.set_cons_zero, List.set_cons_succ])
        | (refine looseL_call0 (v := .bool true) (by rfl) rfl 15 _ rfl en_EvAwake (by rfl) ?_ ?_; (intro W hS; exact (awake36 W).mono fun e W' ⟨he, hb⟩ => ⟨he, hK.out W W' hS hb, hb⟩); simp only [putV, List.setIfInBounds_toArray, List.set_cons_zero, List.set_cons_succ])
        | (refine looseL_val (v := ?_) (by rfl) (by rfl) (by rfl) rfl (fun W hS => ?_) ?_; rotate_left; (· (clear hS; go_simp; try with_reducible rfl)); simp only [putV, List.setIfInBounds_toArray, List.set_cons_zero, List.set_cons_succ]))
      refine looseL_nil fun a W hS hsz hds hR => ?_
      have hfin : a.tmps.getD 4 undef = .bool true := hR 4 (by simp)
      obtain ⟨T, D⟩ := a
      have hD : D = [] := hds
      subst hD
      have hfin2 : T[4]?.getD undef = .bool true := by simpa using hfin
      clear hR hsz hds
      go_wp2
      exact bodyPost_ret (v := .bool true) (by simp [results, Try.results4, go_sem, hfin2]) rfl ⟨rfl, hS.2⟩
end Go.Proofs.Ytccdbelngjonaaa
