/- Packets of IPv4: v4.open, what a reader reads. -/
import Derived.Test.YtmbmmpbfmakfbaaV4C
import Derived.Test.YtmbmmpbfmakfbaaRow4
set_option linter.unusedVariables false
namespace Go.Proofs.Ytmbmmpbfmakfbaa
open Go Go.RowKit

abbrev cellsO (A : Option Addr) (n c : Nat) (h s : Int) : Array Value := #[.slice A n c, .int .i64 h, .int .i64 s]
set_option maxHeartbeats 1000000 in
theorem Rnum_any (A : Option Addr) (n c : Nat) (bs : List Int) (h s a k : Int) (W : World) (hr : RB W A n c bs) (hn : n ≤ 100000) :
    Calls Try.prog 84 #[.agg (cellsO A n c h s), .int .i64 a, .int .i64 k] W fun e w' => e = .returned (.int .i64 (getV bs a k).1) ∧ Below W.heap.size W w' := by
  have hb := Lib.hid ((Below.refl _ W).alloc (Nat.le_refl _) (.cells (cellsO A n c h s) 100))
  have hG := Lib.hid (fun X (hX : Below W.heap.size W X) => Get_any A n c bs a k X (hr.below hX) hn)
  clear hr
  go_enter Try.func84, Try.ntmps84
  go_wp2_with (go_at_call 49; refine (hG.out _ hb.out).mono ?_; rintro e w' ⟨rfl, rfl⟩)
  go_ret
  exact ⟨rfl, hb.out⟩
theorem info_rd : (Try.prog.info? 100).map (·.size) = some 3 := by kernel_rfl
theorem run_load_RD {W : World} {B : Nat} {cs : Array Value} (h : Blk W B cs 100) (hs : cs.size = 3) : (loadVar 100 ⟨B, 0, none⟩).run Try.prog W = .ok (.agg cs) W :=
  run_loadVar_row W B 100 100 cs _ _ h.at_ Try.underlying100 rfl (by rw [info_rd, hs])
theorem wpList_load_RD {ops : Array Oper} {rest : List Oper} {op : Oper} {a : Act} {W : World} {Q : Exit → Act → World → Prop} (hgd : Region.wanted op (yielded ops a.tmps) = true) (x : Operand) (ho : op.op = .load 100 x)
    (g : Nat) (hx : a.eval x = .pointer (some ⟨g, 0, none⟩)) (cs : Array Value) (hk : Blk W g cs 100) (hs : cs.size = 3)
    (h : wpList Try.prog ops Q rest (a.put op.dst (.agg cs)) W) : wpList Try.prog ops Q (op :: rest) a W :=
  BigFrame.wpList_want hgd fun _ hK => by
    unfold Oper.wp execOp
    simp only [ho, hx, Instr.loadAt, Instr.sureAddr, Sem.run_bind, Sem.run_pure, Result.andThen_ok, run_load_RD hk hs]
    exact hK _ _ h
theorem wpList_store_RD {ops : Array Oper} {rest : List Oper} {op : Oper} {a : Act} {W : World} {Q : Exit → Act → World → Prop} (hgd : op.guard = none) (x y : Operand) (ho : op.op = .store 100 x y)
    (g : Nat) (cells : Array Value) (hx : a.eval x = .pointer (some ⟨g, 0, none⟩)) (hy : a.eval y = .agg cells) (old : Array Value) (hk : Blk W g old 100) (ho' : old.size = 3) (hs : cells.size = 3) (h1 : cells.all (·.oneCell') = true)
    (h : wpList Try.prog ops Q rest (a.put op.dst undef) (W.setRow g cells)) : wpList Try.prog ops Q (op :: rest) a W :=
  wpList_store_row hgd 100 x y ho g cells hx hy 100 old hk.at_ (by rw [info_rd, hs]) (by rw [ho', hs]) h1 h
theorem one_rd (A : Option Addr) (n c : Nat) (h s : Int) : (cellsO A n c h s).all (·.oneCell') = true := by simp [cellsO, Value.oneCell']
def OpenOutK (w : World) (A : Option Addr) (n c : Nat) (k h s : Int) (e : Ending) (w' : World) : Prop :=
  e = .returned (.tuple #[.agg (if k = 0 then cellsO A n c h s else cellsO none 0 0 0 0), .int .i64 k]) ∧ Below w.heap.size w w'
def OpenOut (w : World) (A : Option Addr) (n c : Nat) (q : Bool) (bs : List Int) : Ending → World → Prop := OpenOutK w A n c (codeO q bs) (hd4 bs) (sz4 bs)
theorem OpenOutK.bad {w w' : World} {A : Option Addr} {n c : Nat} {k h s e0 : Int} (hk : k = e0) (h0 : e0 ≠ 0) (hb : Below w.heap.size w w') : OpenOutK w A n c k h s (.returned (.tuple #[.agg (cellsO none 0 0 0 0), .int .i64 e0])) w' := by
  subst hk
  unfold OpenOutK
  rw [if_neg h0]
  exact ⟨rfl, hb⟩
theorem OpenOutK.good {w w' : World} {A : Option Addr} {n c : Nat} {k h s : Int} (hk : k = 0) (hb : Below w.heap.size w w') : OpenOutK w A n c k h s (.returned (.tuple #[.agg (cellsO A n c h s), .int .i64 0])) w' := by
  subst hk
  unfold OpenOutK
  rw [if_pos rfl]
  exact ⟨rfl, hb⟩
set_option maxRecDepth 100000 in
set_option maxHeartbeats 2000000 in
theorem Open4_any (A : Option Addr) (n c : Nat) (bs : List Int) (q : Bool) (w : World) (hr : RB w A n c bs) (hn : n ≤ 100000) :
    Calls Try.prog 76 #[.slice A n c, .bool q] w (OpenOut w A n c q bs) := by
  have hb0 := Lib.hid ((Below.refl _ w).alloc (Nat.le_refl _) (.cells (cellsO none 0 0 0 0) 100))
  have hlen := hr.len
  by_cases h20 : n < 20
  · have hc : codeO q bs = 3 := by unfold codeO; rw [hlen, if_pos h20]
    have d1 : decide ((n : Int) < 20) = true := decide_eq_true (by omega)
    replace hc := Lib.hid hc
    unfold OpenOut
    clear hr hlen
    go_enter Try.func76, Try.ntmps76
    go_wp2
    exact bodyPost_ret (v := .tuple #[.agg (cellsO none 0 0 0 0), .int .i64 3]) (by simp [results, Try.results76, go_sem]) rfl (OpenOutK.bad hc.out (by decide) hb0.out)
  have d1 : decide ((n : Int) < 20) = false := decide_eq_false (by omega)
  obtain ⟨b, off, rfl, hbl, hc⟩ := hr.mem (by omega)
  have hc0 := hc 0 (by omega)
  rw [Nat.add_zero] at hc0
  have hx0 := hr.byt.get 0
  have hhd := hd4_nat hr.byt
  have hs2 := getV2_in hr.byt 2
  have hs6 := getV2_in hr.byt 6
  have hcode : codeO q bs = if bs[0]?.getD 0 / 16 ≠ 4 ∨ hd4 bs < 20 then 4 else if n < hd4 bs ∨ ((n : Int) < (getV bs 2 2).1 ∧ q = false) then 3 else if (getV bs 2 2).1 < hd4 bs ∨ 32768 ≤ (getV bs 6 2).1 then 4 else 0 := by
    unfold codeO; rw [hlen, if_neg h20]; rfl
  unfold OpenOut
  rw [show sz4 bs = (getV bs 2 2).1 from rfl]
  have hN2 := Lib.hid (fun h s W (hW : Below w.heap.size w W) => Rnum_any (some ⟨b, off, none⟩) n c bs h s 2 2 W (hr.below hW) hn)
  have hN6 := Lib.hid (fun h s W (hW : Below w.heap.size w W) => Rnum_any (some ⟨b, off, none⟩) n c bs h s 6 2 W (hr.below hW) hn)
  have hnc := hr.nc
  generalize (getV bs 2 2).1 = sz at *
  generalize (getV bs 6 2).1 = fl at *
  generalize hd4 bs = hd at *
  generalize codeO q bs = k at *
  generalize bs[0]?.getD 0 = x0 at *
  have hand := u8_low15 x0 hx0.1 (by omega)
  have hbit := bit15 fl hs6.1 hs6.2
  have hi0 : (0 : Int) < n := by omega
  have hi1 : 0 < n := by omega
  have hw1 : IntKind.i64.wrap (x0 % 16) = x0 % 16 := by rw [IntKind.wrap_i64]; omega
  have hw2 : IntKind.i64.wrap (x0 % 16 * 4) = x0 % 16 * 4 := by rw [IntKind.wrap_i64]; omega
  have hcode' := Lib.hid hcode
  have hhd' := Lib.hid hhd
  clear hc hr hlen hcode
  obtain ⟨w0, hw0⟩ : ∃ w0, (w.alloc (.cells (cellsO none 0 0 0 0) 100)).alloc (.cells (cellsO (some ⟨b, off, none⟩) n c (x0 % 16 * 4) 0) 100) = w0 := ⟨_, rfl⟩
  have hb0' : Below w.heap.size w w0 := by rw [← hw0]; exact hb0.out.alloc hb0.out.size _
  have kZ0 : Blk w0 w.heap.size (cellsO none 0 0 0 0) 100 := by rw [← hw0]; exact (Blk.new w _ _).alloc _
  have kR0 : Blk w0 (w.heap.size + 1) (cellsO (some ⟨b, off, none⟩) n c (x0 % 16 * 4) 0) 100 := by
    rw [← hw0]
    have := Blk.new (w.alloc (.cells (cellsO none 0 0 0 0) 100)) (cellsO (some ⟨b, off, none⟩) n c (x0 % 16 * 4) 0) 100
    rwa [World.size_alloc] at this
  replace hb0' := Lib.hid hb0'
  replace kZ0 := Lib.hid kZ0
  replace kR0 := Lib.hid kR0
  replace hw0 := Lib.hid hw0
  go_enter Try.func76, Try.ntmps76
  go_upto_region 5 with (first
    | (rw [hw0.out]; go_at_call 84; refine (hN2.out _ _ _ hb0'.out).mono ?_; rintro e w1 ⟨rfl, hB1⟩; have kR1 := kR0.out.to hB1; have c2 := kR1.cell 2 _ rfl; have f2 := kR1.frz 2; replace kR1 := Lib.hid kR1; replace hB1 := Lib.hid hB1)
    | fail)
  obtain ⟨w2, hw2⟩ : ∃ w2, w1.setCell ⟨w.heap.size + 1, 2, none⟩ (.int .i64 sz) = w2 := ⟨_, rfl⟩
  have kR2 : Blk w2 (w.heap.size + 1) (cellsO (some ⟨b, off, none⟩) n c hd sz) 100 := by rw [← hw2, hhd'.out]; simpa using kR1.out.set 2 (.int .i64 sz)
  have kZ2 : Blk w2 w.heap.size (cellsO none 0 0 0 0) 100 := by rw [← hw2]; exact (kZ0.out.to hB1.out).far (by omega) 2 _
  have hb2 : Below w.heap.size w w2 := by rw [← hw2]; exact (hb0'.out.trans (hB1.out.mono hb0'.out.size)).setCell (p := ⟨w.heap.size + 1, 2, none⟩) (by simp) _
  have hcb := (hb2.cell (p := ⟨b, off, none⟩) hbl).trans hc0
  rw [hw2, ← hhd'.out]
  have r1 := kR2.cell 1 _ rfl
  have r2 := kR2.cell 2 _ rfl
  replace kR2 := Lib.hid kR2
  replace kZ2 := Lib.hid kZ2
  replace hb2 := Lib.hid hb2
  have hsh : x0.tdiv 16 = x0 / 16 := Int.tdiv_eq_ediv_of_nonneg (by omega)
  have hw8 : IntKind.u8.wrap (x0 / 16) = x0 / 16 := by rw [IntKind.wrap_u8]; omega
  replace kR0 := 0
  replace kZ0 := 0
  replace kR1 := 0
  clear hw2 c2 f2 hc0 hhd
  by_cases c4 : x0 / 16 = 4
  rotate_left
  · have hne : (x0 / 16 != 4) = true := by simpa using c4
    have hk := Lib.hid (show k = 4 by rw [hcode'.out]; rw [if_pos (Or.inl c4)])
    replace hcode' := 0
    replace hhd' := 0
    go_wp2_with (first
      | (refine wpList_store_RD rfl (.tmp 4) (.tmp 31) rfl w.heap.size (cellsO none 0 0 0 0) rfl rfl _ kZ2.out rfl rfl (one_rd _ _ _ _ _) ?_; rw [setRow_self _ _ _ _ _ kZ2.out.at_])
      | fail)
    refine bodyPost_ret (results_ct Try.results76 rfl (run_load_RD kZ2.out rfl)) rfl ?_
    exact OpenOutK.bad hk.out (by decide) hb2.out
  have hne : (x0 / 16 != 4) = false := by simpa using c4
  have hc4 := Lib.hid c4
  clear c4
  by_cases c5 : hd < 20
  · have d5 : decide ((hd : Int) < 20) = true := decide_eq_true (by omega)
    have hk := Lib.hid (show k = 4 by rw [hcode'.out]; rw [if_pos (Or.inr c5)])
    replace hcode' := 0
    replace hhd' := 0
    go_wp2_with (first
      | (refine wpList_store_RD rfl (.tmp 4) (.tmp 31) rfl w.heap.size (cellsO none 0 0 0 0) rfl rfl _ kZ2.out rfl rfl (one_rd _ _ _ _ _) ?_; rw [setRow_self _ _ _ _ _ kZ2.out.at_])
      | fail)
    refine bodyPost_ret (results_ct Try.results76 rfl (run_load_RD kZ2.out rfl)) rfl ?_
    exact OpenOutK.bad hk.out (by decide) hb2.out
  have d5 : decide ((hd : Int) < 20) = false := decide_eq_false (by omega)
  have hor1 := Lib.hid (show ¬ (x0 / 16 ≠ 4 ∨ hd < 20) from fun h => by rcases h with h | h; exact h hc4.out; exact c5 h)
  by_cases c6 : n < hd
  · have d6 : decide ((n : Int) < (hd : Int)) = true := decide_eq_true (by omega)
    have hk := Lib.hid (show k = 3 by rw [hcode'.out]; rw [if_neg hor1.out, if_pos (Or.inl c6)])
    replace hcode' := 0
    replace hhd' := 0
    go_wp2_with (first
      | (refine wpList_store_RD rfl (.tmp 4) (.tmp 47) rfl w.heap.size (cellsO none 0 0 0 0) rfl rfl _ kZ2.out rfl rfl (one_rd _ _ _ _ _) ?_; rw [setRow_self _ _ _ _ _ kZ2.out.at_])
      | fail)
    refine bodyPost_ret (results_ct Try.results76 rfl (run_load_RD kZ2.out rfl)) rfl ?_
    exact OpenOutK.bad hk.out (by decide) hb2.out
  have d6 : decide ((n : Int) < (hd : Int)) = false := decide_eq_false (by omega)
  have d6n : decide (n < hd) = false := decide_eq_false c6
  by_cases c7 : (n : Int) < sz ∧ q = false
  · obtain ⟨c7a, rfl⟩ := c7
    have d7 : decide ((n : Int) < sz) = true := decide_eq_true c7a
    have hk := Lib.hid (show k = 3 by rw [hcode'.out]; rw [if_neg hor1.out, if_pos (Or.inr ⟨c7a, rfl⟩)])
    replace hcode' := 0
    replace hhd' := 0
    go_wp2_with (first
      | (refine wpList_store_RD rfl (.tmp 4) (.tmp 47) rfl w.heap.size (cellsO none 0 0 0 0) rfl rfl _ kZ2.out rfl rfl (one_rd _ _ _ _ _) ?_; rw [setRow_self _ _ _ _ _ kZ2.out.at_])
      | fail)
    refine bodyPost_ret (results_ct Try.results76 rfl (run_load_RD kZ2.out rfl)) rfl ?_
    exact OpenOutK.bad hk.out (by decide) hb2.out
  have hor2 := Lib.hid (show ¬ (n < hd ∨ (n : Int) < sz ∧ q = false) from fun h => by rcases h with h | h; exact c6 h; exact c7 h)
  by_cases h7 : (n : Int) < sz
  · cases q
    · exact absurd ⟨h7, rfl⟩ c7
    have d7 : decide ((n : Int) < sz) = true := decide_eq_true h7
    clear h7 c7
    by_cases c8 : sz < hd
    · have d8 : decide (sz < (hd : Int)) = true := decide_eq_true c8
      have hk := Lib.hid (show k = 4 by rw [hcode'.out]; rw [if_neg hor1.out, if_neg hor2.out, if_pos (Or.inl c8)])
      replace hcode' := 0
      replace hhd' := 0
      go_wp2_with (first
        | (refine wpList_store_RD rfl (.tmp 4) (.tmp 58) rfl w.heap.size (cellsO none 0 0 0 0) rfl rfl _ kZ2.out rfl rfl (one_rd _ _ _ _ _) ?_; rw [setRow_self _ _ _ _ _ kZ2.out.at_])
        | fail)
      refine bodyPost_ret (results_ct Try.results76 rfl (run_load_RD kZ2.out rfl)) rfl ?_
      exact OpenOutK.bad hk.out (by decide) hb2.out
    have d8 : decide (sz < (hd : Int)) = false := decide_eq_false c8
    go_upto_region 12 with fail
    by_cases c9 : 32768 ≤ fl
    · have hk := Lib.hid (show k = 4 by rw [hcode'.out, if_neg hor1.out, if_neg hor2.out, if_pos (Or.inr c9)])
      have hq15 : fl / 32768 % 2 = 1 := by omega
      rw [if_pos hq15] at hbit
      clear c9 hq15
      go_wp2_with (first
        | (refine wpList_store_RD rfl (.tmp 4) (.tmp 58) rfl w.heap.size (cellsO none 0 0 0 0) rfl rfl _ kZ3.out rfl rfl (one_rd _ _ _ _ _) ?_; rw [setRow_self _ _ _ _ _ kZ3.out.at_])
        | (refine wpList_load_RD rfl (.tmp 6) rfl (w.heap.size + 1) rfl _ kR2.out rfl ?_)
        | (go_at_call 84; refine (hN6.out _ _ _ hb2.out).mono ?_; rintro e w3 ⟨rfl, hB3⟩; have kZ3 := Lib.hid (kZ2.out.to hB3); have hb3 := Lib.hid (hb2.out.trans (hB3.mono hb2.out.size)); replace hB3 := 0)
        | fail)
      refine bodyPost_ret (results_ct Try.results76 rfl (run_load_RD kZ3.out rfl)) rfl ?_
      exact OpenOutK.bad hk.out (by decide) hb3.out
    · have hk := Lib.hid (show k = 0 by rw [hcode'.out, if_neg hor1.out, if_neg hor2.out, if_neg (by rintro (h | h); exact c8 h; exact c9 h)])
      have hq15 : ¬ fl / 32768 % 2 = 1 := by omega
      rw [if_neg hq15] at hbit
      clear c9 hq15
      go_wp2_with (first
        | (refine wpList_store_RD rfl (.tmp 4) (.tmp 59) rfl w.heap.size (cellsO (some ⟨b, off, none⟩) n c hd sz) rfl rfl _ kZ3.out rfl rfl (one_rd _ _ _ _ _) ?_)
        | (refine wpList_load_RD rfl (.tmp 6) rfl (w.heap.size + 1) rfl _ kR3.out rfl ?_)
        | (refine wpList_load_RD rfl (.tmp 6) rfl (w.heap.size + 1) rfl _ kR2.out rfl ?_)
        | (go_at_call 84; refine (hN6.out _ _ _ hb2.out).mono ?_; rintro e w3 ⟨rfl, hB3⟩; have kZ3 := Lib.hid (kZ2.out.to hB3); have kR3 := Lib.hid (kR2.out.to hB3); have hb3 := Lib.hid (hb2.out.trans (hB3.mono hb2.out.size)); replace hB3 := 0)
        | fail)
      refine bodyPost_ret (results_ct Try.results76 rfl (run_load_RD (Blk.mk (setRow_heap _ _ _ _ _ _ kZ3.out.at_)) rfl)) rfl ?_
      exact OpenOutK.good hk.out (below_setRow hb3.out (Nat.le_refl _) _)
  · have d7 : decide ((n : Int) < sz) = false := decide_eq_false h7
    clear h7 c7
    by_cases c8 : sz < hd
    · have d8 : decide (sz < (hd : Int)) = true := decide_eq_true c8
      have hk := Lib.hid (show k = 4 by rw [hcode'.out]; rw [if_neg hor1.out, if_neg hor2.out, if_pos (Or.inl c8)])
      replace hcode' := 0
      replace hhd' := 0
      go_wp2_with (first
        | (refine wpList_store_RD rfl (.tmp 4) (.tmp 58) rfl w.heap.size (cellsO none 0 0 0 0) rfl rfl _ kZ2.out rfl rfl (one_rd _ _ _ _ _) ?_; rw [setRow_self _ _ _ _ _ kZ2.out.at_])
        | fail)
      refine bodyPost_ret (results_ct Try.results76 rfl (run_load_RD kZ2.out rfl)) rfl ?_
      exact OpenOutK.bad hk.out (by decide) hb2.out
    have d8 : decide (sz < (hd : Int)) = false := decide_eq_false c8
    go_upto_region 12 with fail
    by_cases c9 : 32768 ≤ fl
    · have hk := Lib.hid (show k = 4 by rw [hcode'.out, if_neg hor1.out, if_neg hor2.out, if_pos (Or.inr c9)])
      have hq15 : fl / 32768 % 2 = 1 := by omega
      rw [if_pos hq15] at hbit
      clear c9 hq15
      go_wp2_with (first
        | (refine wpList_store_RD rfl (.tmp 4) (.tmp 58) rfl w.heap.size (cellsO none 0 0 0 0) rfl rfl _ kZ3.out rfl rfl (one_rd _ _ _ _ _) ?_; rw [setRow_self _ _ _ _ _ kZ3.out.at_])
        | (refine wpList_load_RD rfl (.tmp 6) rfl (w.heap.size + 1) rfl _ kR2.out rfl ?_)
        | (go_at_call 84; refine (hN6.out _ _ _ hb2.out).mono ?_; rintro e w3 ⟨rfl, hB3⟩; have kZ3 := Lib.hid (kZ2.out.to hB3); have hb3 := Lib.hid (hb2.out.trans (hB3.mono hb2.out.size)); replace hB3 := 0)
        | fail)
      refine bodyPost_ret (results_ct Try.results76 rfl (run_load_RD kZ3.out rfl)) rfl ?_
      exact OpenOutK.bad hk.out (by decide) hb3.out
    · have hk := Lib.hid (show k = 0 by rw [hcode'.out, if_neg hor1.out, if_neg hor2.out, if_neg (by rintro (h | h); exact c8 h; exact c9 h)])
      have hq15 : ¬ fl / 32768 % 2 = 1 := by omega
      rw [if_neg hq15] at hbit
      clear c9 hq15
      go_wp2_with (first
        | (refine wpList_store_RD rfl (.tmp 4) (.tmp 59) rfl w.heap.size (cellsO (some ⟨b, off, none⟩) n c hd sz) rfl rfl _ kZ3.out rfl rfl (one_rd _ _ _ _ _) ?_)
        | (refine wpList_load_RD rfl (.tmp 6) rfl (w.heap.size + 1) rfl _ kR3.out rfl ?_)
        | (refine wpList_load_RD rfl (.tmp 6) rfl (w.heap.size + 1) rfl _ kR2.out rfl ?_)
        | (go_at_call 84; refine (hN6.out _ _ _ hb2.out).mono ?_; rintro e w3 ⟨rfl, hB3⟩; have kZ3 := Lib.hid (kZ2.out.to hB3); have kR3 := Lib.hid (kR2.out.to hB3); have hb3 := Lib.hid (hb2.out.trans (hB3.mono hb2.out.size)); replace hB3 := 0)
        | fail)
      refine bodyPost_ret (results_ct Try.results76 rfl (run_load_RD (Blk.mk (setRow_heap _ _ _ _ _ _ kZ3.out.at_)) rfl)) rfl ?_
      exact OpenOutK.good hk.out (below_setRow hb3.out (Nat.le_refl _) _)
end Go.Proofs.Ytmbmmpbfmakfbaa
