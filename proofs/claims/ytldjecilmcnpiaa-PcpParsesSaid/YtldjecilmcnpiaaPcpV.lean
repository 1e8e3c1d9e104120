/- The bytes of what is asked (the reference of pcp): walks of check, tail. -/
import Derived.Test.YtldjecilmcnpiaaPcpU
import Derived.Test.YtldjecilmcnpiaaRefPut
set_option linter.unusedVariables false
namespace Go.Proofs.Ytldjecilmcnpiaa
open Go Go.RowKit

theorem info_ask43 : (Try.prog.info? 54).map (·.size) = some 33 := by kernel_rfl
theorem info_told43 : (Try.prog.info? 62).map (·.size) = some 35 := by kernel_rfl
theorem run_load_RK {W : World} {B : Nat} {cs : Array Value} (h : Blk W B cs 54) (hs : cs.size = 33) : (loadVar 54 ⟨B, 0, none⟩).run Try.prog W = .ok (.agg cs) W :=
  run_loadVar_row W B 54 54 cs _ _ h.at_ Try.underlying54 rfl (by rw [info_ask43, hs])
theorem wpList_load_RK {ops : Array Oper} {rest : List Oper} {op : Oper} {a : Act} {W : World} {Q : Exit → Act → World → Prop} (hgd : Region.wanted op (yielded ops a.tmps) = true) (x : Operand) (ho : op.op = .load 54 x)
    (g : Nat) (hx : a.eval x = .pointer (some ⟨g, 0, none⟩)) (cs : Array Value) (hk : Blk W g cs 54) (hs : cs.size = 33)
    (h : wpList Try.prog ops Q rest (a.put op.dst (.agg cs)) W) : wpList Try.prog ops Q (op :: rest) a W :=
  BigFrame.wpList_want hgd fun _ hK => by
    unfold Oper.wp execOp
    simp only [ho, hx, Instr.loadAt, Instr.sureAddr, Sem.run_bind, Sem.run_pure, Result.andThen_ok, run_load_RK hk hs]
    exact hK _ _ h
theorem wpList_store_RK {ops : Array Oper} {rest : List Oper} {op : Oper} {a : Act} {W : World} {Q : Exit → Act → World → Prop} (hgd : op.guard = none) (x y : Operand) (ho : op.op = .store 54 x y)
    (g : Nat) (cells : Array Value) (hx : a.eval x = .pointer (some ⟨g, 0, none⟩)) (hy : a.eval y = .agg cells) (old : Array Value) (hk : Blk W g old 54) (ho' : old.size = 33) (hs : cells.size = 33) (h1 : cells.all (·.oneCell') = true)
    (h : wpList Try.prog ops Q rest (a.put op.dst undef) (W.setRow g cells)) : wpList Try.prog ops Q (op :: rest) a W :=
  wpList_store_row hgd 54 x y ho g cells hx hy 54 old hk.at_ (by rw [info_ask43, hs]) (by rw [ho', hs]) h1 h
theorem run_load_RT {W : World} {B : Nat} {cs : Array Value} (h : Blk W B cs 62) (hs : cs.size = 35) : (loadVar 62 ⟨B, 0, none⟩).run Try.prog W = .ok (.agg cs) W :=
  run_loadVar_row W B 62 62 cs _ _ h.at_ Try.underlying62 rfl (by rw [info_told43, hs])
theorem wpList_load_RT {ops : Array Oper} {rest : List Oper} {op : Oper} {a : Act} {W : World} {Q : Exit → Act → World → Prop} (hgd : Region.wanted op (yielded ops a.tmps) = true) (x : Operand) (ho : op.op = .load 62 x)
    (g : Nat) (hx : a.eval x = .pointer (some ⟨g, 0, none⟩)) (cs : Array Value) (hk : Blk W g cs 62) (hs : cs.size = 35)
    (h : wpList Try.prog ops Q rest (a.put op.dst (.agg cs)) W) : wpList Try.prog ops Q (op :: rest) a W :=
  BigFrame.wpList_want hgd fun _ hK => by
    unfold Oper.wp execOp
    simp only [ho, hx, Instr.loadAt, Instr.sureAddr, Sem.run_bind, Sem.run_pure, Result.andThen_ok, run_load_RT hk hs]
    exact hK _ _ h
theorem wpList_store_RT {ops : Array Oper} {rest : List Oper} {op : Oper} {a : Act} {W : World} {Q : Exit → Act → World → Prop} (hgd : op.guard = none) (x y : Operand) (ho : op.op = .store 62 x y)
    (g : Nat) (cells : Array Value) (hx : a.eval x = .pointer (some ⟨g, 0, none⟩)) (hy : a.eval y = .agg cells) (old : Array Value) (hk : Blk W g old 62) (ho' : old.size = 35) (hs : cells.size = 35) (h1 : cells.all (·.oneCell') = true)
    (h : wpList Try.prog ops Q rest (a.put op.dst undef) (W.setRow g cells)) : wpList Try.prog ops Q (op :: rest) a W :=
  wpList_store_row hgd 62 x y ho g cells hx hy 62 old hk.at_ (by rw [info_told43, hs]) (by rw [ho', hs]) h1 h
theorem codeAsk_and (a : AskP) : codeAsk a = if fitsB a.life 4 = false then 1 else if fitsB a.pr 1 = false then 1 else if fitsB a.port 2 = false then 1 else if fitsB a.outer 2 = false then 1 else if fitsB a.addr 4 = false then 1 else 0 := by
  unfold codeAsk mayB fitL mayL
  simp only [List.all_cons, List.all_nil, Bool.and_true]
  show (if (fitsB a.life 4 && (fitsB a.pr 1 && (fitsB a.port 2 && (fitsB a.outer 2 && fitsB a.addr 4)))) = true then (0 : Int) else 1) = _
  cases fitsB a.life 4 <;> cases fitsB a.pr 1 <;> cases fitsB a.port 2 <;> cases fitsB a.outer 2 <;> cases fitsB a.addr 4 <;> rfl
set_option maxRecDepth 100000 in
set_option maxHeartbeats 2000000 in
theorem RefCheck43_any (P : Array Value) (a : AskP) (h : KA P a) (w : World) : Calls Try.prog 79 #[.agg P] w fun e w' => e = .returned (.int .i64 (codeAsk a)) ∧ Below w.heap.size w w' := by
  have hk := Blk.new w P 54
  have hb := Lib.hid ((Below.refl _ w).alloc (Nat.le_refl _) (.cells P 54))
  have c0 := hk.cell 0 _ h.h0
  have c29 := hk.cell 29 _ h.h29
  have c30 := hk.cell 30 _ h.h30
  have c31 := hk.cell 31 _ h.h31
  have c32 := hk.cell 32 _ h.h32
  have F1 := Lib.hid (fun W => RefFits_any a.life 4 W)
  have F2 := Lib.hid (fun W => RefFits_any a.pr 1 W)
  have F3 := Lib.hid (fun W => RefFits_any a.port 2 W)
  have F4 := Lib.hid (fun W => RefFits_any a.outer 2 W)
  have F5 := Lib.hid (fun W => RefFits_any a.addr 4 W)
  rw [codeAsk_and]
  clear hk h
  generalize fitsB a.life 4 = q1 at *
  generalize fitsB a.pr 1 = q2 at *
  generalize fitsB a.port 2 = q3 at *
  generalize fitsB a.outer 2 = q4 at *
  generalize fitsB a.addr 4 = q5 at *
  obtain ⟨life, cl, no, pr, port, outer, addr⟩ := a
  dsimp only at *
  cases q1
  rotate_left
  cases q2
  rotate_left
  cases q3
  rotate_left
  cases q4
  rotate_left
  cases q5
  all_goals
    go_enter Try.func79, Try.ntmps79
    go_wp2_with (first
      | (go_at_call_of 83 (Value.int IntKind.i64 life); refine (F1.out _).mono ?_; rintro e w' ⟨rfl, rfl⟩)
      | (go_at_call_of 83 (Value.int IntKind.i64 pr); refine (F2.out _).mono ?_; rintro e w' ⟨rfl, rfl⟩)
      | (go_at_call_of 83 (Value.int IntKind.i64 port); refine (F3.out _).mono ?_; rintro e w' ⟨rfl, rfl⟩)
      | (go_at_call_of 83 (Value.int IntKind.i64 outer); refine (F4.out _).mono ?_; rintro e w' ⟨rfl, rfl⟩)
      | (go_at_call_of 83 (Value.int IntKind.i64 addr); refine (F5.out _).mono ?_; rintro e w' ⟨rfl, rfl⟩)
      | fail)
    go_ret
    exact ⟨rfl, hb.out⟩
end Go.Proofs.Ytldjecilmcnpiaa
