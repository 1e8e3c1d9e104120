/- Ports of a packet: walks of ports.Flags, and the reference's. -/
import Derived.Test.YtehecefapiblpaaGreatPortsG
set_option linter.unusedVariables false
namespace Go.Proofs.YtehecefapiblpaaGreat
open Go Go.RowKit
attribute [local go_sem] Oper.semAt_some

/-- A segment's flags. -/
def flagsP (p : V4P) : Int := if codeP p = 0 ∧ p.pr = 6 then (readT p.src p.dst p.data).f else 0
theorem run_load_SG {W : World} {B : Nat} {cs : Array Value} (h : Blk W B cs 65) (hs : cs.size = 10) : (loadVar 65 ⟨B, 0, none⟩).run Tryz.prog W = .ok (.agg cs) W :=
  run_loadVar_row W B 65 65 cs _ _ h.at_ Tryz.underlying65 rfl (by rw [info_sgm, hs])
theorem wpList_load_SG {ops : Array Oper} {rest : List Oper} {op : Oper} {a : Act} {W : World} {Q : Exit → Act → World → Prop} (hgd : Region.wanted op (yielded ops a.tmps) = true) (x : Operand) (ho : op.op = .load 65 x)
    (g : Nat) (hx : a.eval x = .pointer (some ⟨g, 0, none⟩)) (cs : Array Value) (hk : Blk W g cs 65) (hs : cs.size = 10)
    (h : wpList Tryz.prog ops Q rest (a.put op.dst (.agg cs)) W) : wpList Tryz.prog ops Q (op :: rest) a W :=
  BigFrame.wpList_want hgd fun _ hK => by
    unfold Oper.wp execOp
    simp only [ho, hx, Instr.loadAt, Instr.sureAddr, Sem.run_bind, Sem.run_pure, Result.andThen_ok, run_load_SG hk hs]
    exact hK _ _ h
theorem wpList_store_SG {ops : Array Oper} {rest : List Oper} {op : Oper} {a : Act} {W : World} {Q : Exit → Act → World → Prop} (hgd : op.guard = none) (x y : Operand) (ho : op.op = .store 65 x y)
    (g : Nat) (cells : Array Value) (hx : a.eval x = .pointer (some ⟨g, 0, none⟩)) (hy : a.eval y = .agg cells) (old : Array Value) (hk : Blk W g old 65) (ho' : old.size = 10) (hs : cells.size = 10) (h1 : cells.all (·.oneCell') = true)
    (h : wpList Tryz.prog ops Q rest (a.put op.dst undef) (W.setRow g cells)) : wpList Tryz.prog ops Q (op :: rest) a W :=
  wpList_store_row hgd 65 x y ho g cells hx hy 65 old hk.at_ (by rw [info_sgm, hs]) (by rw [ho', hs]) h1 h
theorem asert_U (v : Value) (w : World) : (Instr.typeAssert (.iface 79 v) 48 65 true).run Tryz.prog w = .ok (.tuple #[.agg zeroT, .bool false]) w := by kernel_rfl
theorem asert_I (v : Value) (w : World) : (Instr.typeAssert (.iface 85 v) 48 65 true).run Tryz.prog w = .ok (.tuple #[.agg zeroT, .bool false]) w := by kernel_rfl
theorem asert_T (v : Value) (w : World) : (Instr.typeAssert (.iface 65 v) 48 65 true).run Tryz.prog w = .ok (.tuple #[v, .bool true]) w := by kernel_rfl
set_option maxRecDepth 100000 in
set_option maxHeartbeats 4000000 in
theorem PortsFlags_any (p : V4P) (ao : Option Addr) (no co : Nat) (a : Option Addr) (n c : Nat) (w : World) (hro : RB w ao no co p.opts) (hr : RB w a n c p.data) (hno : no ≤ 100000) (hn : n ≤ 100000) :
    Calls Tryz.prog 15 #[.agg (cells4 p ao no co a n c)] w fun e w' => e = .returned (.int .i64 (flagsP p)) ∧ Below w.heap.size w w' := by
  have hb := Lib.hid ((Below.refl _ w).alloc (Nat.le_refl _) (.cells (cells4 p ao no co a n c) 25))
  have kB := Lib.hid (Blk.new w (cells4 p ao no co a n c) 25)
  have hW := fun W (hW : Below w.heap.size w W) => Within_any p ao no co a n c W (hro.below hW) (hr.below hW) hno hn
  unfold WithinOut at hW
  clear hro hr
  by_cases hc : codeP p = 0
  rotate_left
  · have hF := Lib.hid (show flagsP p = 0 by unfold flagsP; rw [if_neg (fun h => hc h.1)])
    have hcn : (codeP p != 0) = true := by simpa using hc
    obtain ⟨k, hk⟩ : ∃ k, codeP p = k := ⟨_, rfl⟩
    rw [hk] at hW hcn
    replace hW := Lib.hid hW
    clear hc hk
    go_enter Tryz.func15, Tryz.ntmps15
    go_wp2_with (first
      | (refine wpList_load_4 rfl (.tmp 1) rfl w.heap.size rfl _ kB.out rfl ?_)
      | (go_at_call 22; refine (hW.out _ hb.out).mono ?_; rintro e w1 ⟨v, rfl, hpay, hB1⟩; have hb1 := Lib.hid (hb.out.trans (hB1.mono hb.out.size)); replace hB1 := 0; clear hpay)
      | fail)
    go_ret
    exact ⟨by rw [hF.out]; rfl, hb1.out⟩
  rw [hc] at hW
  rcases (codeP_zero hc).2.2 with ⟨e17, _⟩ | ⟨e6, _⟩ | ⟨e1, _⟩
  · have hF := Lib.hid (show flagsP p = 0 by unfold flagsP; rw [if_neg (fun h => by omega)])
    have hW2 : ∀ W (hW : Below w.heap.size w W), Calls Tryz.prog 22 #[.agg (cells4 p ao no co a n c)] W (fun e w' => ∃ u A3 n3 c3, e = .returned (.tuple #[.iface 79 (.agg (cellsU u A3 n3 c3)), .int .i64 0]) ∧ Below W.heap.size W w') := fun W hX => (hW W hX).mono (fun e w' ⟨v, he, hp, hB⟩ => by
      rcases hp rfl with ⟨_, A3, n3, c3, rfl, hr3⟩ | ⟨h, _⟩ | ⟨h, _⟩
      · exact ⟨_, A3, n3, c3, he, hB⟩
      · omega
      · omega)
    replace hW := Lib.hid hW2
    have hA := asert_U
    clear hW2 e17 hc
    go_enter Tryz.func15, Tryz.ntmps15
    go_wp2_with (first
      | (refine wpList_load_4 rfl (.tmp 1) rfl w.heap.size rfl _ kB.out rfl ?_)
      | (go_at_call 22; refine (hW.out _ hb.out).mono ?_; rintro e w1 ⟨u, A3, n3, c3, rfl, hB1⟩; have hb1 := Lib.hid (hb.out.trans (hB1.mono hb.out.size)); replace hB1 := 0; have hb2 := Lib.hid (hb1.out.alloc hb1.out.size (.cells zeroT 65)))
      | (refine wpList_store_SG rfl (.tmp 5) (.tmp 17) rfl w1.heap.size zeroT rfl rfl _ (Blk.new _ zeroT 65) rfl rfl rfl ?_; rw [World.setRow_alloc_new])
      | fail)
    go_ret
    exact ⟨by rw [hF.out]; rfl, hb2.out⟩
  · have hF := Lib.hid (show flagsP p = (readT p.src p.dst p.data).f by unfold flagsP; rw [if_pos ⟨hc, e6⟩])
    have hW2 : ∀ W (hW : Below w.heap.size w W), Calls Tryz.prog 22 #[.agg (cells4 p ao no co a n c)] W (fun e w' => ∃ A4 n4 c4 A3 n3 c3, e = .returned (.tuple #[.iface 65 (.agg (cellsT (readT p.src p.dst p.data) A4 n4 c4 A3 n3 c3)), .int .i64 0]) ∧ Below W.heap.size W w') := fun W hX => (hW W hX).mono (fun e w' ⟨v, he, hp, hB⟩ => by
      rcases hp rfl with ⟨h, _⟩ | ⟨_, A4, n4, c4, A3, n3, c3, rfl, hr4, hr3⟩ | ⟨h, _⟩
      · omega
      · exact ⟨A4, n4, c4, A3, n3, c3, he, hB⟩
      · omega)
    replace hW := Lib.hid hW2
    generalize readT p.src p.dst p.data = u at *
    have hA := asert_T
    clear hW2 e6 hc
    go_enter Tryz.func15, Tryz.ntmps15
    go_wp2_with (first
      | (refine wpList_load_4 rfl (.tmp 1) rfl w.heap.size rfl _ kB.out rfl ?_)
      | (go_at_call 22; refine (hW.out _ hb.out).mono ?_; rintro e w1 ⟨A4, n4, c4, A3, n3, c3, rfl, hB1⟩; have hb1 := Lib.hid (hb.out.trans (hB1.mono hb.out.size)); replace hB1 := 0; have hb2 := Lib.hid (hb1.out.alloc hb1.out.size (.cells (cellsT u A4 n4 c4 A3 n3 c3) 65)); have x5 := (Blk.new w1 (cellsT u A4 n4 c4 A3 n3 c3) 65).cell 5 (.int .i64 u.f) rfl)
      | (refine wpList_store_SG rfl (.tmp 5) (.tmp 17) rfl w1.heap.size (cellsT u A4 n4 c4 A3 n3 c3) rfl rfl _ (Blk.new _ zeroT 65) rfl rfl (one_T _ _ _ _ _ _ _) ?_; rw [World.setRow_alloc_new])
      | fail)
    go_ret
    exact ⟨by rw [hF.out]; rfl, hb2.out⟩
  · have hF := Lib.hid (show flagsP p = 0 by unfold flagsP; rw [if_neg (fun h => by omega)])
    have hW2 : ∀ W (hW : Below w.heap.size w W), Calls Tryz.prog 22 #[.agg (cells4 p ao no co a n c)] W (fun e w' => ∃ u A3 n3 c3, e = .returned (.tuple #[.iface 85 (.agg (cellsI u A3 n3 c3)), .int .i64 0]) ∧ Below W.heap.size W w') := fun W hX => (hW W hX).mono (fun e w' ⟨v, he, hp, hB⟩ => by
      rcases hp rfl with ⟨h, _⟩ | ⟨h, _⟩ | ⟨_, A3, n3, c3, rfl, hr3⟩
      · omega
      · omega
      · exact ⟨_, A3, n3, c3, he, hB⟩)
    replace hW := Lib.hid hW2
    have hA := asert_I
    clear hW2 e1 hc
    go_enter Tryz.func15, Tryz.ntmps15
    go_wp2_with (first
      | (refine wpList_load_4 rfl (.tmp 1) rfl w.heap.size rfl _ kB.out rfl ?_)
      | (go_at_call 22; refine (hW.out _ hb.out).mono ?_; rintro e w1 ⟨u, A3, n3, c3, rfl, hB1⟩; have hb1 := Lib.hid (hb.out.trans (hB1.mono hb.out.size)); replace hB1 := 0; have hb2 := Lib.hid (hb1.out.alloc hb1.out.size (.cells zeroT 65)))
      | (refine wpList_store_SG rfl (.tmp 5) (.tmp 17) rfl w1.heap.size zeroT rfl rfl _ (Blk.new _ zeroT 65) rfl rfl rfl ?_; rw [World.setRow_alloc_new])
      | fail)
    go_ret
    exact ⟨by rw [hF.out]; rfl, hb2.out⟩
set_option maxRecDepth 100000 in
set_option maxHeartbeats 4000000 in
theorem RefPortsFlags_any (p : V4P) (ao : Option Addr) (no co : Nat) (a : Option Addr) (n c : Nat) (w : World) (hro : RB w ao no co p.opts) (hr : RB w a n c p.data) (hno : no ≤ 100000) (hn : n ≤ 100000) :
    Calls Tryz.prog 16 #[.agg (cells4 p ao no co a n c)] w fun e w' => e = .returned (.int .i64 (flagsP p)) ∧ Below w.heap.size w w' := by
  have hb := Lib.hid ((Below.refl _ w).alloc (Nat.le_refl _) (.cells (cells4 p ao no co a n c) 25))
  have kB := Lib.hid (Blk.new w (cells4 p ao no co a n c) 25)
  have hO := fun W (hW : Below w.heap.size w W) => RefPortsOf_any p ao no co a n c W (hro.below hW) (hr.below hW) hno hn
  unfold PortsOut at hO
  have hU := fun W (hW : Below w.heap.size w W) => RefTcpParse_any p.src p.dst a n c p.data W (hr.below hW)
  unfold TcpOut at hU
  clear hro hr
  generalize portsP p = xx at *
  by_cases hc : codeP p = 0
  rotate_left
  · have hF := Lib.hid (show flagsP p = 0 by unfold flagsP; rw [if_neg (fun h => hc h.1)])
    have hcn : (codeP p != 0) = true := by simpa using hc
    obtain ⟨k, hk⟩ : ∃ k, codeP p = k := ⟨_, rfl⟩
    rw [hk] at hO hcn
    replace hO := Lib.hid hO
    clear hc hk hU
    go_enter Tryz.func16, Tryz.ntmps16
    go_wp2_with (first
      | (refine wpList_load_4 rfl (.tmp 1) rfl w.heap.size rfl _ kB.out rfl ?_)
      | (go_at_call 8; refine (hO.out _ hb.out).mono ?_; rintro e w1 ⟨rfl, hB1⟩; have hb1 := Lib.hid (hb.out.trans (hB1.mono hb.out.size)); replace hB1 := 0; have hb2 := Lib.hid (hb1.out.alloc hb1.out.size (.cells (cellsPo xx) 30)))
      | fail)
    go_ret
    exact ⟨by rw [hF.out]; rfl, hb2.out⟩
  rw [hc] at hO
  replace hO := Lib.hid hO
  by_cases h6 : p.pr = 6
  rotate_left
  · have hF := Lib.hid (show flagsP p = 0 by unfold flagsP; rw [if_neg (fun h => h6 h.2)])
    have q6 : (p.pr != 6) = true := by simpa using h6
    clear hc h6 hU
    go_enter Tryz.func16, Tryz.ntmps16
    go_wp2_with (first
      | (refine wpList_load_4 rfl (.tmp 1) rfl w.heap.size rfl _ kB.out rfl ?_)
      | (go_at_call 8; refine (hO.out _ hb.out).mono ?_; rintro e w1 ⟨rfl, hB1⟩; have hb1 := Lib.hid (hb.out.trans (hB1.mono hb.out.size)); have hy1 := hB1.alloc hB1.size (.cells (cellsPo xx) 30); have x4 := (kB.out.to hy1).cell 4 (.int .i64 p.pr) rfl; replace hy1 := 0; replace hB1 := 0; have hb2 := Lib.hid (hb1.out.alloc hb1.out.size (.cells (cellsPo xx) 30)))
      | fail)
    go_ret
    exact ⟨by rw [hF.out]; rfl, hb2.out⟩
  have hF := Lib.hid (show flagsP p = (readT p.src p.dst p.data).f by unfold flagsP; rw [if_pos ⟨hc, h6⟩])
  obtain ⟨_, _, hk⟩ := codeP_six hc h6
  rw [hk] at hU
  have q6 : (p.pr != 6) = false := by simpa using h6
  generalize readT p.src p.dst p.data = u at *
  replace hU := Lib.hid hU
  clear hc h6 hk
  go_enter Tryz.func16, Tryz.ntmps16
  go_wp2_with (first
    | (refine wpList_load_4 rfl (.tmp 1) rfl w.heap.size rfl _ kB.out rfl ?_)
    | (go_at_call 8; refine (hO.out _ hb.out).mono ?_; rintro e w1 ⟨rfl, hB1⟩; have hb1 := Lib.hid (hb.out.trans (hB1.mono hb.out.size)); have hy1 := hB1.alloc hB1.size (.cells (cellsPo xx) 30); have k1 := kB.out.to hy1; have x4 := k1.cell 4 (.int .i64 p.pr) rfl; have x5 := k1.cell 5 (.int .i64 p.src) rfl; have x6 := k1.cell 6 (.int .i64 p.dst) rfl; have x10 := k1.cell 10 (.slice a n c) rfl; replace k1 := 0; replace hy1 := 0; replace hB1 := 0; have hb2 := Lib.hid (hb1.out.alloc hb1.out.size (.cells (cellsPo xx) 30)))
    | (go_at_call 26; refine (hU.out _ hb2.out).mono ?_; rintro e w3 ⟨A4, n4, c4, A3, n3, c3, rfl, ho4, ho3, hB3⟩; have hb3 := Lib.hid (hb2.out.trans (hB3.mono hb2.out.size)); have hb4 := Lib.hid (hb3.out.alloc hb3.out.size (.cells (cellsT u A4 n4 c4 A3 n3 c3) 57)); have y5 := (Blk.new w3 (cellsT u A4 n4 c4 A3 n3 c3) 57).cell 5 (.int .i64 u.f) rfl; clear ho4 ho3; replace hB3 := 0)
    | (refine wpList_store_T rfl (.tmp 5) (.tmp 27) rfl w3.heap.size (cellsT u A4 n4 c4 A3 n3 c3) rfl rfl _ (Blk.new _ zeroT 57) rfl rfl (one_T _ _ _ _ _ _ _) ?_; rw [World.setRow_alloc_new])
    | fail)
  go_ret
  exact ⟨by rw [hF.out]; rfl, hb4.out⟩
end Go.Proofs.YtehecefapiblpaaGreat
