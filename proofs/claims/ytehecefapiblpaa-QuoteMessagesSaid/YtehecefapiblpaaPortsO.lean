/- Ports of a packet: what a payload tells, ports.Of. -/
import Derived.Test.YtehecefapiblpaaPorts
import Derived.Laws.CopyRow
set_option linter.unusedVariables false
namespace Go.Proofs.Ytehecefapiblpaa
open Go Go.RowKit

/-- A packet's ports: protocol, source, destination. -/
def portsP (p : V4P) : Int × Int × Int :=
  if codeP p ≠ 0 then (0, 0, 0) else if p.pr = 17 then (17, (readU p.src p.dst p.data).s, (readU p.src p.dst p.data).d) else if p.pr = 6 then (6, (readT p.src p.dst p.data).s, (readT p.src p.dst p.data).d)
  else (1, idI (readI p.data), idI (readI p.data))
abbrev cellsPo (x : Int × Int × Int) : Array Value := #[.int .i64 x.1, .int .i64 x.2.1, .int .i64 x.2.2]
theorem info_po : (Try.prog.info? 41).map (·.size) = some 3 := by kernel_rfl
theorem run_load_PO {W : World} {B : Nat} {cs : Array Value} (h : Blk W B cs 41) (hs : cs.size = 3) : (loadVar 41 ⟨B, 0, none⟩).run Try.prog W = .ok (.agg cs) W :=
  run_loadVar_row W B 41 41 cs _ _ h.at_ Try.underlying41 rfl (by rw [info_po, hs])
theorem wpList_load_PO {ops : Array Oper} {rest : List Oper} {op : Oper} {a : Act} {W : World} {Q : Exit → Act → World → Prop} (hgd : Region.wanted op (yielded ops a.tmps) = true) (x : Operand) (ho : op.op = .load 41 x)
    (g : Nat) (hx : a.eval x = .pointer (some ⟨g, 0, none⟩)) (cs : Array Value) (hk : Blk W g cs 41) (hs : cs.size = 3)
    (h : wpList Try.prog ops Q rest (a.put op.dst (.agg cs)) W) : wpList Try.prog ops Q (op :: rest) a W :=
  BigFrame.wpList_want hgd fun _ hK => by
    unfold Oper.wp execOp
    simp only [ho, hx, Instr.loadAt, Instr.sureAddr, Sem.run_bind, Sem.run_pure, Result.andThen_ok, run_load_PO hk hs]
    exact hK _ _ h
theorem wpList_store_PO {ops : Array Oper} {rest : List Oper} {op : Oper} {a : Act} {W : World} {Q : Exit → Act → World → Prop} (hgd : op.guard = none) (x y : Operand) (ho : op.op = .store 41 x y)
    (g : Nat) (cells : Array Value) (hx : a.eval x = .pointer (some ⟨g, 0, none⟩)) (hy : a.eval y = .agg cells) (old : Array Value) (hk : Blk W g old 41) (ho' : old.size = 3) (hs : cells.size = 3) (h1 : cells.all (·.oneCell') = true)
    (h : wpList Try.prog ops Q rest (a.put op.dst undef) (W.setRow g cells)) : wpList Try.prog ops Q (op :: rest) a W :=
  wpList_store_row hgd 41 x y ho g cells hx hy 41 old hk.at_ (by rw [info_po, hs]) (by rw [ho', hs]) h1 h
theorem one_po (x : Int × Int × Int) : (cellsPo x).all (·.oneCell') = true := by simp [cellsPo, Value.oneCell']
set_option maxHeartbeats 1000000 in
theorem PortsU_any (u : UdpP) (A : Option Addr) (n c : Nat) (w : World) :
    Calls Try.prog 141 #[.agg (cellsU u A n c)] w fun e w' => e = .returned (.agg #[.int .i64 17, .int .i64 u.s, .int .i64 u.d]) ∧ Below w.heap.size w w' := by
  have hb := Lib.hid ((Below.refl _ w).alloc (Nat.le_refl _) (.cells (cellsU u A n c) 132))
  go_enter Try.func141, Try.ntmps141
  go_wp2
  exact bodyPost_ret (v := .agg #[.int .i64 17, .int .i64 u.s, .int .i64 u.d]) (by simp [results, Try.results141, go_sem]) rfl ⟨rfl, hb.out.alloc hb.out.size _⟩
set_option maxHeartbeats 1000000 in
theorem PortsT_any (u : TcpP) (Ao : Option Addr) (no co : Nat) (A : Option Addr) (n c : Nat) (w : World) :
    Calls Try.prog 148 #[.agg (cellsT u Ao no co A n c)] w fun e w' => e = .returned (.agg #[.int .i64 6, .int .i64 u.s, .int .i64 u.d]) ∧ Below w.heap.size w w' := by
  have hb := Lib.hid ((Below.refl _ w).alloc (Nat.le_refl _) (.cells (cellsT u Ao no co A n c) 134))
  go_enter Try.func148, Try.ntmps148
  go_wp2
  exact bodyPost_ret (v := .agg #[.int .i64 6, .int .i64 u.s, .int .i64 u.d]) (by simp [results, Try.results148, go_sem]) rfl ⟨rfl, hb.out.alloc hb.out.size _⟩
set_option maxHeartbeats 1000000 in
theorem PortsI_any (u : IcmpP) (A : Option Addr) (n c : Nat) (w : World) :
    Calls Try.prog 151 #[.agg (cellsI u A n c)] w fun e w' => e = .returned (.agg #[.int .i64 1, .int .i64 (idI u), .int .i64 (idI u)]) ∧ Below w.heap.size w w' := by
  obtain ⟨w0, hw0⟩ : ∃ w0, (w.alloc (.cells (cellsI u A n c) 137)).alloc (.cells (cellsPo (0, 0, 0)) 41) = w0 := ⟨_, rfl⟩
  have hb0 := (Below.refl _ w).alloc (Nat.le_refl _) (.cells (cellsI u A n c) 137)
  have hb := Lib.hid (show Below w.heap.size w w0 by rw [← hw0]; exact hb0.alloc hb0.size _)
  have kZ := Lib.hid (show Blk w0 (w.heap.size + 1) (cellsPo (0, 0, 0)) 41 by
    rw [← hw0]
    have := Blk.new (w.alloc (.cells (cellsI u A n c) 137)) (cellsPo (0, 0, 0)) 41
    rwa [World.size_alloc] at this)
  replace hw0 := Lib.hid hw0
  clear hb0
  go_enter Try.func151, Try.ntmps151
  go_wp2_with (first
    | (refine wpList_store_PO rfl (.tmp 2) (.tmp 9) rfl (w.heap.size + 1) (cellsPo (1, idI u, idI u)) rfl rfl _ k1.out rfl rfl (one_po _) ?_)
    | (go_at_call 154; rw [hw0.out]; refine (IcmpID_any u A n c _).mono ?_; rintro e w1 ⟨rfl, hB1⟩; have k1 := Lib.hid (kZ.out.to hB1); have hb1 := Lib.hid (hb.out.trans (hB1.mono hb.out.size)); replace hB1 := 0)
    | fail)
  refine bodyPost_ret (results_c Try.results151 rfl (run_load_PO (Blk.mk (setRow_heap _ _ _ _ _ _ k1.out.at_)) rfl)) rfl ?_
  exact ⟨rfl, below_setRow hb1.out (Nat.le_succ _) _⟩
def PortsOut (w : World) (p : V4P) (e : Ending) (w' : World) : Prop := e = .returned (.tuple #[.agg (cellsPo (portsP p)), .int .i64 (codeP p)]) ∧ Below w.heap.size w w'
theorem PortsOut.no {w w' : World} {p : V4P} {k : Int} (hk : codeP p = k) (h0 : k ≠ 0) (hb : Below w.heap.size w w') : PortsOut w p (.returned (.tuple #[.agg (cellsPo (0, 0, 0)), .int .i64 k])) w' := by
  have hp : portsP p = (0, 0, 0) := by unfold portsP; rw [if_pos (by rw [hk]; exact h0)]
  exact ⟨by rw [hp, hk], hb⟩
theorem PortsOut.yes {w w' : World} {p : V4P} {x : Int × Int × Int} (hk : codeP p = 0) (hx : portsP p = x) (hb : Below w.heap.size w w') : PortsOut w p (.returned (.tuple #[.agg (cellsPo x), .int .i64 0])) w' :=
  ⟨by rw [hx, hk], hb⟩
set_option maxRecDepth 100000 in
set_option maxHeartbeats 2000000 in
theorem PortsOf_any (p : V4P) (ao : Option Addr) (no co : Nat) (a : Option Addr) (n c : Nat) (w : World) (hro : RB w ao no co p.opts) (hr : RB w a n c p.data) (hno : no ≤ 100000) (hn : n ≤ 100000) :
    Calls Try.prog 27 #[.agg (cells4 p ao no co a n c)] w (PortsOut w p) := by
  obtain ⟨w0, hw0⟩ : ∃ w0, (w.alloc (.cells (cells4 p ao no co a n c) 32)).alloc (.cells (cellsPo (0, 0, 0)) 41) = w0 := ⟨_, rfl⟩
  have hb0 := (Below.refl _ w).alloc (Nat.le_refl _) (.cells (cells4 p ao no co a n c) 32)
  have hb := Lib.hid (show Below w.heap.size w w0 by rw [← hw0]; exact hb0.alloc hb0.size _)
  have kB := Lib.hid (show Blk w0 w.heap.size (cells4 p ao no co a n c) 32 by rw [← hw0]; exact (Blk.new w _ _).alloc _)
  have kZ := Lib.hid (show Blk w0 (w.heap.size + 1) (cellsPo (0, 0, 0)) 41 by
    rw [← hw0]
    have := Blk.new (w.alloc (.cells (cells4 p ao no co a n c) 32)) (cellsPo (0, 0, 0)) 41
    rwa [World.size_alloc] at this)
  have hW := fun W (hW : Below w.heap.size w W) => Within_any p ao no co a n c W (hro.below hW) (hr.below hW) hno hn
  unfold WithinOut at hW
  have hpp : codeP p = 0 → portsP p = if p.pr = 17 then (17, (readU p.src p.dst p.data).s, (readU p.src p.dst p.data).d) else if p.pr = 6 then (6, (readT p.src p.dst p.data).s, (readT p.src p.dst p.data).d) else (1, idI (readI p.data), idI (readI p.data)) := fun h => by
    unfold portsP; rw [if_neg (by omega)]
  replace hw0 := Lib.hid hw0
  clear hb0 hro hr
  by_cases hk : codeP p = 0
  · have hp := hpp hk
    rw [hk] at hW
    have hk' := Lib.hid hk
    replace hW := Lib.hid hW
    clear hpp hk
    go_enter Try.func27, Try.ntmps27
    go_upto_region 4 with (first
      | (rw [hw0.out]; refine wpList_load_4 rfl (.tmp 1) rfl w.heap.size rfl _ kB.out rfl ?_)
      | (go_at_call 54; refine (hW.out _ hb.out).mono ?_; rintro e w1 ⟨v, rfl, hpay, hB1⟩; have kZ1 := Lib.hid (kZ.out.to hB1); have hb1 := Lib.hid (hb.out.trans (hB1.mono hb.out.size)); replace hB1 := 0; replace hpay := Lib.hid hpay)
      | fail)
    rcases hpay.out trivial with ⟨e17, A3, n3, c3, rfl, hr3⟩ | ⟨e6, A4, n4, c4, A3, n3, c3, rfl, hr4, hr3⟩ | ⟨e1, A3, n3, c3, rfl, hr3⟩
    · have hp2 := Lib.hid (hp.trans (if_pos e17))
      replace hpay := 0
      clear hp e17 hr3
      generalize readU p.src p.dst p.data = u at *
      go_wp2_with (first
        | (refine wpList_store_PO rfl (.tmp 2) (.tmp 16) rfl (w.heap.size + 1) (cellsPo (17, u.s, u.d)) rfl rfl _ kZ2.out rfl rfl (one_po _) ?_)
        | (go_at_call 141; refine (PortsU_any _ A3 n3 c3 _).mono ?_; rintro e w2 ⟨rfl, hB2⟩; have kZ2 := Lib.hid (kZ1.out.to hB2); have hb2 := Lib.hid (hb1.out.trans (hB2.mono hb1.out.size)); replace hB2 := 0)
        | fail)
      refine bodyPost_ret (results_ct Try.results27 rfl (run_load_PO (Blk.mk (setRow_heap _ _ _ _ _ _ kZ2.out.at_)) rfl)) rfl ?_
      exact PortsOut.yes hk'.out hp2.out (below_setRow hb2.out (Nat.le_succ _) _)
    · have hp2 := Lib.hid ((hp.trans (if_neg (by omega))).trans (if_pos e6))
      replace hpay := 0
      clear hp e6 hr3 hr4
      generalize readT p.src p.dst p.data = u at *
      go_wp2_with (first
        | (refine wpList_store_PO rfl (.tmp 2) (.tmp 16) rfl (w.heap.size + 1) (cellsPo (6, u.s, u.d)) rfl rfl _ kZ2.out rfl rfl (one_po _) ?_)
        | (go_at_call 148; refine (PortsT_any _ A4 n4 c4 A3 n3 c3 _).mono ?_; rintro e w2 ⟨rfl, hB2⟩; have kZ2 := Lib.hid (kZ1.out.to hB2); have hb2 := Lib.hid (hb1.out.trans (hB2.mono hb1.out.size)); replace hB2 := 0)
        | fail)
      refine bodyPost_ret (results_ct Try.results27 rfl (run_load_PO (Blk.mk (setRow_heap _ _ _ _ _ _ kZ2.out.at_)) rfl)) rfl ?_
      exact PortsOut.yes hk'.out hp2.out (below_setRow hb2.out (Nat.le_succ _) _)
    · have hp2 := Lib.hid ((hp.trans (if_neg (by omega))).trans (if_neg (by omega)))
      replace hpay := 0
      clear hp e1 hr3
      generalize readI p.data = u at *
      go_wp2_with (first
        | (refine wpList_store_PO rfl (.tmp 2) (.tmp 16) rfl (w.heap.size + 1) (cellsPo (1, idI u, idI u)) rfl rfl _ kZ2.out rfl rfl (one_po _) ?_)
        | (go_at_call 151; refine (PortsI_any _ A3 n3 c3 _).mono ?_; rintro e w2 ⟨rfl, hB2⟩; have kZ2 := Lib.hid (kZ1.out.to hB2); have hb2 := Lib.hid (hb1.out.trans (hB2.mono hb1.out.size)); replace hB2 := 0)
        | fail)
      refine bodyPost_ret (results_ct Try.results27 rfl (run_load_PO (Blk.mk (setRow_heap _ _ _ _ _ _ kZ2.out.at_)) rfl)) rfl ?_
      exact PortsOut.yes hk'.out hp2.out (below_setRow hb2.out (Nat.le_succ _) _)
  · have hkn : (codeP p != 0) = true := by simpa using hk
    have hno := Lib.hid (fun w' k (h : codeP p = k) (h0 : k ≠ 0) hb => @PortsOut.no w w' p k h h0 hb)
    have hk' := Lib.hid hk
    obtain ⟨k, hke⟩ : ∃ k, codeP p = k := ⟨_, rfl⟩
    have hke' := Lib.hid hke
    rw [hke] at hW hkn hk'
    replace hW := Lib.hid hW
    clear hpp hk hke
    go_enter Try.func27, Try.ntmps27
    go_wp2_with (first
      | (rw [hw0.out]; refine wpList_load_4 rfl (.tmp 1) rfl w.heap.size rfl _ kB.out rfl ?_)
      | (refine wpList_store_PO rfl (.tmp 2) (.tmp 13) rfl (w.heap.size + 1) (cellsPo (0, 0, 0)) rfl rfl _ kZ1.out rfl rfl (one_po _) ?_; rw [setRow_self _ _ _ _ _ kZ1.out.at_])
      | (go_at_call 54; refine (hW.out _ hb.out).mono ?_; rintro e w1 ⟨v, rfl, hpay, hB1⟩; have kZ1 := Lib.hid (kZ.out.to hB1); have hb1 := Lib.hid (hb.out.trans (hB1.mono hb.out.size)); replace hB1 := 0; clear hpay)
      | fail)
    refine bodyPost_ret (results_ct Try.results27 rfl (run_load_PO kZ1.out rfl)) rfl ?_
    exact hno.out _ _ hke'.out hk'.out hb1.out
end Go.Proofs.Ytehecefapiblpaa
