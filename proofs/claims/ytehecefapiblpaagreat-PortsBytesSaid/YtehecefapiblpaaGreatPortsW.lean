/- Ports of a packet: walks of pick, and of what is within: with, build. -/
import Derived.Test.YtehecefapiblpaaGreatPortsM
import Derived.Test.YtehecefapiblpaaGreatConcat
import Derived.Deep.RegionWith
import Derived.Deep.DeepCutAuto
set_option linter.unusedVariables false
namespace Go.Proofs.YtehecefapiblpaaGreat
open Go Go.RowKit

set_option maxHeartbeats 1000000 in
theorem Pick_any (s x : Int) (w : World) : Calls Tryz.prog 113 #[.int .i64 s, .int .i64 x] w fun e w' => e = .returned (.int .i64 (pickI s x)) ∧ w = w' := by
  by_cases h : s = -1
  · have he := Lib.hid (show pickI s x = x from if_pos h)
    have hq : (s == -1) = true := by simpa using h
    clear h
    go_enter Tryz.func113, Tryz.ntmps113
    go_wp2
    go_ret
    exact ⟨by rw [he.out]; rfl, rfl⟩
  · have he := Lib.hid (show pickI s x = s from if_neg h)
    have hq : (s == -1) = false := by simpa using h
    clear h
    go_enter Tryz.func113, Tryz.ntmps113
    go_wp2
    go_ret
    exact ⟨by rw [he.out]; rfl, rfl⟩
theorem info_dgr : (Tryz.prog.info? 79).map (·.size) = some 4 := by kernel_rfl
theorem info_sgm : (Tryz.prog.info? 65).map (·.size) = some 10 := by kernel_rfl
theorem info_qry : (Tryz.prog.info? 85).map (·.size) = some 4 := by kernel_rfl
theorem info_udpW : (Tryz.prog.info? 53).map (·.size) = some 4 := by kernel_rfl
theorem info_tcpW : (Tryz.prog.info? 57).map (·.size) = some 10 := by kernel_rfl
theorem info_icmpW : (Tryz.prog.info? 81).map (·.size) = some 4 := by kernel_rfl

set_option maxRecDepth 100000 in
set_option maxHeartbeats 2000000 in
theorem WithU_any (u : UdpP) (s d : Int) (A : Option Addr) (n c : Nat) (w : World) :
    Calls Tryz.prog 123 #[.agg (cellsU u A n c), .int .i64 s, .int .i64 d] w fun e w' => e = .returned (.iface 79 (.agg (cellsU (newU u s d) A n c))) ∧ Below w.heap.size w w' := by
  obtain ⟨w0, hw0⟩ : ∃ w0, w.alloc (.cells (cellsU u A n c) 79) = w0 := ⟨_, rfl⟩
  have hb := show Below w.heap.size w w0 by rw [← hw0]; exact (Below.refl _ w).alloc (Nat.le_refl _) _
  have kB := show Blk w0 w.heap.size (cellsU u A n c) 79 by rw [← hw0]; exact Blk.new w _ _
  have e0 := kB.cell 0 _ rfl
  have e1 := kB.cell 1 _ rfl
  have f0 := kB.frz 0
  have f00 := kB.frz 1
  have c1 := (kB.set 0 (.int .i64 (pickI s u.s))).cell 1 _ rfl
  have f1 := (kB.set 0 (.int .i64 (pickI s u.s))).frz 1
  have kL := Lib.hid (show Blk ((w0.setCell ⟨w.heap.size, 0, none⟩ (.int .i64 (pickI s u.s))).setCell ⟨w.heap.size, 1, none⟩ (.int .i64 (pickI d u.d))).drew w.heap.size (cellsU (newU u s d) A n c) 79 from by simpa [newU] using ((kB.set 0 (.int .i64 (pickI s u.s))).set 1 (.int .i64 (pickI d u.d))).drew)
  have hbL := Lib.hid ((hb.setCell (p := ⟨w.heap.size, 0, none⟩) (Nat.le_refl _) (.int .i64 (pickI s u.s))).setCell (p := ⟨w.heap.size, 1, none⟩) (Nat.le_refl _) (.int .i64 (pickI d u.d))).drew
  have hi := Lib.hid (show (Tryz.prog.info? 79).map (·.size) = some (cellsU (newU u s d) A n c).size from info_dgr)
  replace hw0 := Lib.hid hw0
  clear hb kB
  go_enter Tryz.func123, Tryz.ntmps123
  go_upto_region 1 with fail
  rw [hw0.out]
  try simp only [Act.put]
  go_cut [] (fun wx => Blk wx w.heap.size (cellsU (newU u s d) A n c) 79 ∧ Below w.heap.size w wx)
  case first =>
    go_region_with (first
      | (go_at_call 113; refine (Pick_any _ _ _).mono ?_; rintro e w' ⟨rfl, rfl⟩)
      | fail)
    all_goals
      go_wp2_with fail
      go_meet
      exact ⟨kL.out, hbL.out⟩
  case rest =>
  obtain ⟨kL', hbL'⟩ := hcut
  obtain ⟨wL, rfl⟩ : ∃ wL, wL = wc := ⟨_, rfl⟩
  replace kL' := Lib.hid kL'
  replace hbL' := Lib.hid hbL'
  clear e0 e1 f0 c1 f1 kL hbL
  go_wp2_with (first
    | (refine wpList_load_row rfl 79 (.tmp 3) rfl w.heap.size rfl _ (cellsU (newU u s d) A n c) _ _ kL'.out.at_ Tryz.underlying79 rfl hi.out ?_)
    | fail)
  go_ret
  exact ⟨rfl, hbL'.out⟩
set_option maxRecDepth 100000 in
set_option maxHeartbeats 2000000 in
theorem WithT_any (u : TcpP) (s d : Int) (Ao : Option Addr) (no co : Nat) (A : Option Addr) (n c : Nat) (w : World) :
    Calls Tryz.prog 111 #[.agg (cellsT u Ao no co A n c), .int .i64 s, .int .i64 d] w fun e w' => e = .returned (.iface 65 (.agg (cellsT (newT u s d) Ao no co A n c))) ∧ Below w.heap.size w w' := by
  obtain ⟨w0, hw0⟩ : ∃ w0, w.alloc (.cells (cellsT u Ao no co A n c) 65) = w0 := ⟨_, rfl⟩
  have hb := show Below w.heap.size w w0 by rw [← hw0]; exact (Below.refl _ w).alloc (Nat.le_refl _) _
  have kB := show Blk w0 w.heap.size (cellsT u Ao no co A n c) 65 by rw [← hw0]; exact Blk.new w _ _
  have e0 := kB.cell 0 _ rfl
  have e1 := kB.cell 1 _ rfl
  have f0 := kB.frz 0
  have f00 := kB.frz 1
  have c1 := (kB.set 0 (.int .i64 (pickI s u.s))).cell 1 _ rfl
  have f1 := (kB.set 0 (.int .i64 (pickI s u.s))).frz 1
  have kL := Lib.hid (show Blk ((w0.setCell ⟨w.heap.size, 0, none⟩ (.int .i64 (pickI s u.s))).setCell ⟨w.heap.size, 1, none⟩ (.int .i64 (pickI d u.d))).drew w.heap.size (cellsT (newT u s d) Ao no co A n c) 65 from by simpa [newT] using ((kB.set 0 (.int .i64 (pickI s u.s))).set 1 (.int .i64 (pickI d u.d))).drew)
  have hbL := Lib.hid ((hb.setCell (p := ⟨w.heap.size, 0, none⟩) (Nat.le_refl _) (.int .i64 (pickI s u.s))).setCell (p := ⟨w.heap.size, 1, none⟩) (Nat.le_refl _) (.int .i64 (pickI d u.d))).drew
  have hi := Lib.hid (show (Tryz.prog.info? 65).map (·.size) = some (cellsT (newT u s d) Ao no co A n c).size from info_sgm)
  replace hw0 := Lib.hid hw0
  clear hb kB
  go_enter Tryz.func111, Tryz.ntmps111
  go_upto_region 1 with fail
  rw [hw0.out]
  try simp only [Act.put]
  go_cut [] (fun wx => Blk wx w.heap.size (cellsT (newT u s d) Ao no co A n c) 65 ∧ Below w.heap.size w wx)
  case first =>
    go_region_with (first
      | (go_at_call 113; refine (Pick_any _ _ _).mono ?_; rintro e w' ⟨rfl, rfl⟩)
      | fail)
    all_goals
      go_wp2_with fail
      go_meet
      exact ⟨kL.out, hbL.out⟩
  case rest =>
  obtain ⟨kL', hbL'⟩ := hcut
  obtain ⟨wL, rfl⟩ : ∃ wL, wL = wc := ⟨_, rfl⟩
  replace kL' := Lib.hid kL'
  replace hbL' := Lib.hid hbL'
  clear e0 e1 f0 c1 f1 kL hbL
  go_wp2_with (first
    | (refine wpList_load_row rfl 65 (.tmp 3) rfl w.heap.size rfl _ (cellsT (newT u s d) Ao no co A n c) _ _ kL'.out.at_ Tryz.underlying65 rfl hi.out ?_)
    | fail)
  go_ret
  exact ⟨rfl, hbL'.out⟩
set_option maxRecDepth 100000 in
set_option maxHeartbeats 2000000 in
theorem WithI_any (u : IcmpP) (s d : Int) (A : Option Addr) (n c : Nat) (w : World) (hd : RB w A n c u.data) (hn : n ≤ 100000) :
    Calls Tryz.prog 129 #[.agg (cellsI u A n c), .int .i64 s, .int .i64 d] w fun e w' => ∃ A2 n2 c2, e = .returned (.iface 85 (.agg (cellsI (newI u s d) A2 n2 c2))) ∧ RB w' A2 n2 c2 (newI u s d).data ∧ Below w.heap.size w w' := by
  obtain ⟨w0, hw0⟩ : ∃ w0, w.alloc (.cells (cellsI u A n c) 85) = w0 := ⟨_, rfl⟩
  have hb := show Below w.heap.size w w0 by rw [← hw0]; exact (Below.refl _ w).alloc (Nat.le_refl _) _
  have kB := show Blk w0 w.heap.size (cellsI u A n c) 85 by rw [← hw0]; exact Blk.new w _ _
  have e0 := kB.drew.cell 0 _ rfl
  have e1 := kB.drew.cell 1 _ rfl
  have e2 := kB.drew.cell 2 _ rfl
  have e3 := kB.drew.cell 3 _ rfl
  have hW := Lib.hid (fun W (hW : Below w.heap.size w W) => show Calls Tryz.prog 132 #[.agg (cellsI u A n c), .int .i64 (pickI s d)] W (IcmpOne W (newI u s d)) from IcmpWithID_any u (pickI s d) A n c W (hd.below hW) hn)
  have hbd := Lib.hid hb.drew
  have kd := Lib.hid kB.drew
  have hdata : (newI u s d).data = u.data := rfl
  unfold IcmpOne at hW
  generalize newI u s d = q at *
  replace hw0 := Lib.hid hw0
  replace hdata := Lib.hid hdata
  clear hb kB hd
  go_enter Tryz.func129, Tryz.ntmps129
  go_upto_region 1 with fail
  rw [hw0.out]
  try simp only [Act.put]
  go_region_with (first
    | (go_at_call 113; refine (Pick_any _ _ _).mono ?_; rintro e w' ⟨rfl, rfl⟩)
    | (go_at_call 132; refine (hW.out _ hbd.out).mono ?_; rintro e w3 ⟨A3, n3, c3, rfl, ho3, hB3⟩; have k3 := kd.out.to hB3; obtain ⟨⟨z0, z1, z2, z3⟩, f0, f1, f2, f3⟩ := k3.z4; have hb3 := Lib.hid (hbd.out.trans (hB3.mono hbd.out.size)); replace ho3 := Lib.hid ho3; replace k3 := Lib.hid k3; clear e0 e1 e2 e3; replace hB3 := 0)
    | fail)
  all_goals
    obtain ⟨wL, hwL⟩ : ∃ wL, (((w3.setCell ⟨w.heap.size, 0, none⟩ (.int .i64 q.t)).setCell ⟨w.heap.size, 1, none⟩ (.int .i64 q.cd)).setCell ⟨w.heap.size, 2, none⟩ (.int .i64 q.r)).setCell ⟨w.heap.size, 3, none⟩ (.slice A3 n3 c3) = wL := ⟨_, rfl⟩
    have kL := Lib.hid (show Blk wL w.heap.size (cellsI q A3 n3 c3) 85 by rw [← hwL]; simpa using (((k3.out.set 0 (.int .i64 q.t)).set 1 (.int .i64 q.cd)).set 2 (.int .i64 q.r)).set 3 (.slice A3 n3 c3))
    have hbL := Lib.hid (show Below w.heap.size w wL by rw [← hwL]; exact (((hb3.out.setCell (p := ⟨w.heap.size, 0, none⟩) (Nat.le_refl _) _).setCell (p := ⟨w.heap.size, 1, none⟩) (Nat.le_refl _) _).setCell (p := ⟨w.heap.size, 2, none⟩) (Nat.le_refl _) _).setCell (p := ⟨w.heap.size, 3, none⟩) (Nat.le_refl _) _)
    have hrL := Lib.hid (show RB wL A3 n3 c3 q.data by
      rw [← hwL]
      have n0 := k3.out.nobytes (fun v hv x => by simp at hv; rcases hv with rfl | rfl | rfl | rfl <;> simp)
      have n1 := (k3.out.set 0 (.int .i64 q.t)).nobytes (fun v hv x => by simp at hv; rcases hv with rfl | rfl | rfl | rfl <;> simp)
      have n2 := ((k3.out.set 0 (.int .i64 q.t)).set 1 (.int .i64 q.cd)).nobytes (fun v hv x => by simp at hv; rcases hv with rfl | rfl | rfl | rfl <;> simp)
      have n3 := (((k3.out.set 0 (.int .i64 q.t)).set 1 (.int .i64 q.cd)).set 2 (.int .i64 q.r)).nobytes (fun v hv x => by simp at hv; rcases hv with rfl | rfl | rfl | rfl <;> simp)
      exact (((ho3.out.rb.farN n0 0 _).farN n1 1 _).farN n2 2 _).farN n3 3 _)
    rw [hwL]
    have hi := Lib.hid (show (Tryz.prog.info? 85).map (·.size) = some (cellsI q A3 n3 c3).size from info_qry)
    clear z0 z1 z2 z3 f0 f1 f2 f3 hwL
    go_wp2_with (first
      | (refine wpList_load_row rfl 85 (.tmp 3) rfl w.heap.size rfl _ (cellsI q A3 n3 c3) _ _ kL.out.at_ Tryz.underlying85 rfl hi.out ?_)
      | fail)
    go_ret
    exact ⟨A3, n3, c3, rfl, hrL.out, hbL.out⟩

set_option maxRecDepth 100000 in
set_option maxHeartbeats 2000000 in
theorem BuildU_any (u : UdpP) (s d : Int) (A : Option Addr) (n c : Nat) (w : World) (hd : RB w A n c u.data) :
    Calls Tryz.prog 121 #[.agg (cellsU u A n c), .int .i64 s, .int .i64 d] w (TwoOut w (builtU? s d u n) (checkU u n)) := by
  have hb := Lib.hid ((Below.refl _ w).alloc (Nat.le_refl _) (.cells (cellsU u A n c) 79))
  have kB := Lib.hid (Blk.new w (cellsU u A n c) 79)
  have hP := fun W (hW : Below w.heap.size w W) => UdpBuild_any s d u A n c W (hd.below hW)
  have hi := Lib.hid (show (Tryz.prog.info? 53).map (·.size) = some (cellsU u A n c).size from info_udpW)
  unfold TwoOut at hP ⊢
  generalize builtU? s d u n = bs at *
  generalize checkU u n = k at *
  replace hP := Lib.hid hP
  go_enter Tryz.func121, Tryz.ntmps121
  go_wp2_with (first
    | (refine wpList_load_row rfl 53 (.tmp 10) rfl w.heap.size rfl _ (cellsU u A n c) _ _ kB.out.at_ Tryz.underlying53 rfl hi.out ?_)
    | (go_at_call 124; refine (hP.out _ hb.out).mono ?_; rintro e w3 ⟨A3, n3, c3, rfl, ho3, hB3⟩; have hb3 := Lib.hid (hb.out.trans (hB3.mono hb.out.size)); replace ho3 := Lib.hid ho3; replace hB3 := 0)
    | fail)
  go_ret2
  exact ⟨A3, n3, c3, rfl, ho3.out, hb3.out⟩
set_option maxRecDepth 100000 in
set_option maxHeartbeats 2000000 in
theorem BuildT_any (u : TcpP) (s d : Int) (Ao : Option Addr) (no co : Nat) (A : Option Addr) (n c : Nat) (w : World) (ho : RB w Ao no co u.opts) (hd : RB w A n c u.data) (hn : n ≤ 100000) :
    Calls Tryz.prog 109 #[.agg (cellsT u Ao no co A n c), .int .i64 s, .int .i64 d] w (TwoOut w (builtT? s d u no n) (checkT u no n)) := by
  have hb := Lib.hid ((Below.refl _ w).alloc (Nat.le_refl _) (.cells (cellsT u Ao no co A n c) 65))
  have kB := Lib.hid (Blk.new w (cellsT u Ao no co A n c) 65)
  have hP := fun W (hW : Below w.heap.size w W) => TcpBuild_any s d u Ao no co A n c W (ho.below hW) (hd.below hW) (by omega)
  have hi := Lib.hid (show (Tryz.prog.info? 57).map (·.size) = some (cellsT u Ao no co A n c).size from info_tcpW)
  unfold TwoOut at hP ⊢
  generalize builtT? s d u no n = bs at *
  generalize checkT u no n = k at *
  replace hP := Lib.hid hP
  go_enter Tryz.func109, Tryz.ntmps109
  go_wp2_with (first
    | (refine wpList_load_row rfl 57 (.tmp 10) rfl w.heap.size rfl _ (cellsT u Ao no co A n c) _ _ kB.out.at_ Tryz.underlying57 rfl hi.out ?_)
    | (go_at_call 112; refine (hP.out _ hb.out).mono ?_; rintro e w3 ⟨A3, n3, c3, rfl, ho3, hB3⟩; have hb3 := Lib.hid (hb.out.trans (hB3.mono hb.out.size)); replace ho3 := Lib.hid ho3; replace hB3 := 0)
    | fail)
  go_ret2
  exact ⟨A3, n3, c3, rfl, ho3.out, hb3.out⟩
set_option maxRecDepth 100000 in
set_option maxHeartbeats 2000000 in
theorem BuildI_any (u : IcmpP) (s d : Int) (A : Option Addr) (n c : Nat) (w : World) (hd : RB w A n c u.data) :
    Calls Tryz.prog 127 #[.agg (cellsI u A n c), .int .i64 s, .int .i64 d] w (TwoOut w (builtI? u n) (checkI u n)) := by
  have hb := Lib.hid ((Below.refl _ w).alloc (Nat.le_refl _) (.cells (cellsI u A n c) 85))
  have kB := Lib.hid (Blk.new w (cellsI u A n c) 85)
  have hP := fun W (hW : Below w.heap.size w W) => IcmpBuild_any u A n c W (hd.below hW)
  have hi := Lib.hid (show (Tryz.prog.info? 81).map (·.size) = some (cellsI u A n c).size from info_icmpW)
  unfold TwoOut at hP ⊢
  generalize builtI? u n = bs at *
  generalize checkI u n = k at *
  replace hP := Lib.hid hP
  go_enter Tryz.func127, Tryz.ntmps127
  go_wp2_with (first
    | (refine wpList_load_row rfl 81 (.tmp 8) rfl w.heap.size rfl _ (cellsI u A n c) _ _ kB.out.at_ Tryz.underlying81 rfl hi.out ?_)
    | (go_at_call 130; refine (hP.out _ hb.out).mono ?_; rintro e w3 ⟨A3, n3, c3, rfl, ho3, hB3⟩; have hb3 := Lib.hid (hb.out.trans (hB3.mono hb.out.size)); replace ho3 := Lib.hid ho3; replace hB3 := 0)
    | fail)
  go_ret2
  exact ⟨A3, n3, c3, rfl, ho3.out, hb3.out⟩
end Go.Proofs.YtehecefapiblpaaGreat
