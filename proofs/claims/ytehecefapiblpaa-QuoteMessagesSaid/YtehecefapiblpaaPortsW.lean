/- Ports of a packet: walks of pick, and of what is within: with, build. -/
import Derived.Test.YtehecefapiblpaaPortsM
import Derived.Test.YtehecefapiblpaaConcat
import Derived.Deep.RegionWith
import Derived.Deep.DeepCutAuto
set_option linter.unusedVariables false
namespace Go.Proofs.Ytehecefapiblpaa
open Go Go.RowKit

set_option maxHeartbeats 1000000 in
theorem Pick_any (s x : Int) (w : World) : Calls Try.prog 144 #[.int .i64 s, .int .i64 x] w fun e w' => e = .returned (.int .i64 (pickI s x)) ∧ w = w' := by
  by_cases h : s = -1
  · have he := Lib.hid (show pickI s x = x from if_pos h)
    have hq : (s == -1) = true := by simpa using h
    clear h
    go_enter Try.func144, Try.ntmps144
    go_wp2
    go_ret
    exact ⟨by rw [he.out]; rfl, rfl⟩
  · have he := Lib.hid (show pickI s x = s from if_neg h)
    have hq : (s == -1) = false := by simpa using h
    clear h
    go_enter Try.func144, Try.ntmps144
    go_wp2
    go_ret
    exact ⟨by rw [he.out]; rfl, rfl⟩
theorem info_dgr : (Try.prog.info? 132).map (·.size) = some 4 := by kernel_rfl
theorem info_sgm : (Try.prog.info? 134).map (·.size) = some 10 := by kernel_rfl
theorem info_qry : (Try.prog.info? 137).map (·.size) = some 4 := by kernel_rfl
theorem info_udpW : (Try.prog.info? 36).map (·.size) = some 4 := by kernel_rfl
theorem info_tcpW : (Try.prog.info? 78).map (·.size) = some 10 := by kernel_rfl
theorem info_icmpW : (Try.prog.info? 49).map (·.size) = some 4 := by kernel_rfl

set_option maxRecDepth 100000 in
set_option maxHeartbeats 2000000 in
theorem WithU_any (u : UdpP) (s d : Int) (A : Option Addr) (n c : Nat) (w : World) :
    Calls Try.prog 142 #[.agg (cellsU u A n c), .int .i64 s, .int .i64 d] w fun e w' => e = .returned (.iface 132 (.agg (cellsU (newU u s d) A n c))) ∧ Below w.heap.size w w' := by
  obtain ⟨w0, hw0⟩ : ∃ w0, w.alloc (.cells (cellsU u A n c) 132) = w0 := ⟨_, rfl⟩
  have hb := show Below w.heap.size w w0 by rw [← hw0]; exact (Below.refl _ w).alloc (Nat.le_refl _) _
  have kB := show Blk w0 w.heap.size (cellsU u A n c) 132 by rw [← hw0]; exact Blk.new w _ _
  have e0 := kB.cell 0 _ rfl
  have e1 := kB.cell 1 _ rfl
  have f0 := kB.frz 0
  have f00 := kB.frz 1
  have c1 := (kB.set 0 (.int .i64 (pickI s u.s))).cell 1 _ rfl
  have f1 := (kB.set 0 (.int .i64 (pickI s u.s))).frz 1
  have kL := Lib.hid (show Blk ((w0.setCell ⟨w.heap.size, 0, none⟩ (.int .i64 (pickI s u.s))).setCell ⟨w.heap.size, 1, none⟩ (.int .i64 (pickI d u.d))).drew w.heap.size (cellsU (newU u s d) A n c) 132 from by simpa [newU] using ((kB.set 0 (.int .i64 (pickI s u.s))).set 1 (.int .i64 (pickI d u.d))).drew)
  have hbL := Lib.hid ((hb.setCell (p := ⟨w.heap.size, 0, none⟩) (Nat.le_refl _) (.int .i64 (pickI s u.s))).setCell (p := ⟨w.heap.size, 1, none⟩) (Nat.le_refl _) (.int .i64 (pickI d u.d))).drew
  have hi := Lib.hid (show (Try.prog.info? 132).map (·.size) = some (cellsU (newU u s d) A n c).size from info_dgr)
  replace hw0 := Lib.hid hw0
  clear hb kB
  go_enter Try.func142, Try.ntmps142
  go_upto_region 1 with fail
  rw [hw0.out]
  try simp only [Act.put]
  go_cut [] (fun wx => Blk wx w.heap.size (cellsU (newU u s d) A n c) 132 ∧ Below w.heap.size w wx)
  case first =>
    go_region_with (first
      | (go_at_call 144; refine (Pick_any _ _ _).mono ?_; rintro e w' ⟨rfl, rfl⟩)
      | fail)
    all_goals
      go_wp2_with fail
      go_meet
      exact ⟨kL.out, hbL.out⟩
  case rest =>
  obtain ⟨kL', hbL'⟩ := hcut
  obtain ⟨wL, rfl⟩ : ∃ wL, wL = wc := ⟨_, rfl⟩
  replace kL' := Lib.hid kL'
  replace hbL' := Lib.hid hbL'
  clear e0 e1 f0 c1 f1 kL hbL
  go_wp2_with (first
    | (refine wpList_load_row rfl 132 (.tmp 3) rfl w.heap.size rfl _ (cellsU (newU u s d) A n c) _ _ kL'.out.at_ Try.underlying132 rfl hi.out ?_)
    | fail)
  go_ret
  exact ⟨rfl, hbL'.out⟩
set_option maxRecDepth 100000 in
set_option maxHeartbeats 2000000 in
theorem WithT_any (u : TcpP) (s d : Int) (Ao : Option Addr) (no co : Nat) (A : Option Addr) (n c : Nat) (w : World) :
    Calls Try.prog 149 #[.agg (cellsT u Ao no co A n c), .int .i64 s, .int .i64 d] w fun e w' => e = .returned (.iface 134 (.agg (cellsT (newT u s d) Ao no co A n c))) ∧ Below w.heap.size w w' := by
  obtain ⟨w0, hw0⟩ : ∃ w0, w.alloc (.cells (cellsT u Ao no co A n c) 134) = w0 := ⟨_, rfl⟩
  have hb := show Below w.heap.size w w0 by rw [← hw0]; exact (Below.refl _ w).alloc (Nat.le_refl _) _
  have kB := show Blk w0 w.heap.size (cellsT u Ao no co A n c) 134 by rw [← hw0]; exact Blk.new w _ _
  have e0 := kB.cell 0 _ rfl
  have e1 := kB.cell 1 _ rfl
  have f0 := kB.frz 0
  have f00 := kB.frz 1
  have c1 := (kB.set 0 (.int .i64 (pickI s u.s))).cell 1 _ rfl
  have f1 := (kB.set 0 (.int .i64 (pickI s u.s))).frz 1
  have kL := Lib.hid (show Blk ((w0.setCell ⟨w.heap.size, 0, none⟩ (.int .i64 (pickI s u.s))).setCell ⟨w.heap.size, 1, none⟩ (.int .i64 (pickI d u.d))).drew w.heap.size (cellsT (newT u s d) Ao no co A n c) 134 from by simpa [newT] using ((kB.set 0 (.int .i64 (pickI s u.s))).set 1 (.int .i64 (pickI d u.d))).drew)
  have hbL := Lib.hid ((hb.setCell (p := ⟨w.heap.size, 0, none⟩) (Nat.le_refl _) (.int .i64 (pickI s u.s))).setCell (p := ⟨w.heap.size, 1, none⟩) (Nat.le_refl _) (.int .i64 (pickI d u.d))).drew
  have hi := Lib.hid (show (Try.prog.info? 134).map (·.size) = some (cellsT (newT u s d) Ao no co A n c).size from info_sgm)
  replace hw0 := Lib.hid hw0
  clear hb kB
  go_enter Try.func149, Try.ntmps149
  go_upto_region 1 with fail
  rw [hw0.out]
  try simp only [Act.put]
  go_cut [] (fun wx => Blk wx w.heap.size (cellsT (newT u s d) Ao no co A n c) 134 ∧ Below w.heap.size w wx)
  case first =>
    go_region_with (first
      | (go_at_call 144; refine (Pick_any _ _ _).mono ?_; rintro e w' ⟨rfl, rfl⟩)
      | fail)
    all_goals
      go_wp2_with fail
      go_meet
      exact ⟨kL.out, hbL.out⟩
  case rest =>
  obtain ⟨kL', hbL'⟩ := hcut
  obtain ⟨wL, rfl⟩ : ∃ wL, wL = wc := ⟨_, rfl⟩
  replace kL' := Lib.hid kL'
  replace hbL' := Lib.hid hbL'
  clear e0 e1 f0 c1 f1 kL hbL
  go_wp2_with (first
    | (refine wpList_load_row rfl 134 (.tmp 3) rfl w.heap.size rfl _ (cellsT (newT u s d) Ao no co A n c) _ _ kL'.out.at_ Try.underlying134 rfl hi.out ?_)
    | fail)
  go_ret
  exact ⟨rfl, hbL'.out⟩
set_option maxRecDepth 100000 in
set_option maxHeartbeats 2000000 in
theorem WithI_any (u : IcmpP) (s d : Int) (A : Option Addr) (n c : Nat) (w : World) (hd : RB w A n c u.data) (hn : n ≤ 100000) :
    Calls Try.prog 152 #[.agg (cellsI u A n c), .int .i64 s, .int .i64 d] w fun e w' => ∃ A2 n2 c2, e = .returned (.iface 137 (.agg (cellsI (newI u s d) A2 n2 c2))) ∧ RB w' A2 n2 c2 (newI u s d).data ∧ Below w.heap.size w w' := by
  obtain ⟨w0, hw0⟩ : ∃ w0, w.alloc (.cells (cellsI u A n c) 137) = w0 := ⟨_, rfl⟩
  have hb := show Below w.heap.size w w0 by rw [← hw0]; exact (Below.refl _ w).alloc (Nat.le_refl _) _
  have kB := show Blk w0 w.heap.size (cellsI u A n c) 137 by rw [← hw0]; exact Blk.new w _ _
  have e0 := kB.drew.cell 0 _ rfl
  have e1 := kB.drew.cell 1 _ rfl
  have e2 := kB.drew.cell 2 _ rfl
  have e3 := kB.drew.cell 3 _ rfl
  have hW := Lib.hid (fun W (hW : Below w.heap.size w W) => show Calls Try.prog 155 #[.agg (cellsI u A n c), .int .i64 (pickI s d)] W (IcmpOne W (newI u s d)) from IcmpWithID_any u (pickI s d) A n c W (hd.below hW) hn)
  have hbd := Lib.hid hb.drew
  have kd := Lib.hid kB.drew
  have hdata : (newI u s d).data = u.data := rfl
  unfold IcmpOne at hW
  generalize newI u s d = q at *
  replace hw0 := Lib.hid hw0
  replace hdata := Lib.hid hdata
  clear hb kB hd
  go_enter Try.func152, Try.ntmps152
  go_upto_region 1 with fail
  rw [hw0.out]
  try simp only [Act.put]
  go_region_with (first
    | (go_at_call 144; refine (Pick_any _ _ _).mono ?_; rintro e w' ⟨rfl, rfl⟩)
    | (go_at_call 155; refine (hW.out _ hbd.out).mono ?_; rintro e w3 ⟨A3, n3, c3, rfl, ho3, hB3⟩; have k3 := kd.out.to hB3; obtain ⟨⟨z0, z1, z2, z3⟩, f0, f1, f2, f3⟩ := k3.z4; have hb3 := Lib.hid (hbd.out.trans (hB3.mono hbd.out.size)); replace ho3 := Lib.hid ho3; replace k3 := Lib.hid k3; clear e0 e1 e2 e3; replace hB3 := 0)
    | fail)
  all_goals
    obtain ⟨wL, hwL⟩ : ∃ wL, (((w3.setCell ⟨w.heap.size, 0, none⟩ (.int .i64 q.t)).setCell ⟨w.heap.size, 1, none⟩ (.int .i64 q.cd)).setCell ⟨w.heap.size, 2, none⟩ (.int .i64 q.r)).setCell ⟨w.heap.size, 3, none⟩ (.slice A3 n3 c3) = wL := ⟨_, rfl⟩
    have kL := Lib.hid (show Blk wL w.heap.size (cellsI q A3 n3 c3) 137 by rw [← hwL]; simpa using (((k3.out.set 0 (.int .i64 q.t)).set 1 (.int .i64 q.cd)).set 2 (.int .i64 q.r)).set 3 (.slice A3 n3 c3))
    have hbL := Lib.hid (show Below w.heap.size w wL by rw [← hwL]; exact (((hb3.out.setCell (p := ⟨w.heap.size, 0, none⟩) (Nat.le_refl _) _).setCell (p := ⟨w.heap.size, 1, none⟩) (Nat.le_refl _) _).setCell (p := ⟨w.heap.size, 2, none⟩) (Nat.le_refl _) _).setCell (p := ⟨w.heap.size, 3, none⟩) (Nat.le_refl _) _)
    have hrL := Lib.hid (show RB wL A3 n3 c3 q.data by
      rw [← hwL]
      have n0 := k3.out.nobytes (fun v hv x => by simp at hv; rcases hv with rfl | rfl | rfl | rfl <;> simp)
      have n1 := (k3.out.set 0 (.int .i64 q.t)).nobytes (fun v hv x => by simp at hv; rcases hv with rfl | rfl | rfl | rfl <;> simp)
      have n2 := ((k3.out.set 0 (.int .i64 q.t)).set 1 (.int .i64 q.cd)).nobytes (fun v hv x => by simp at hv; rcases hv with rfl | rfl | rfl | rfl <;> simp)
      have n3 := (((k3.out.set 0 (.int .i64 q.t)).set 1 (.int .i64 q.cd)).set 2 (.int .i64 q.r)).nobytes (fun v hv x => by simp at hv; rcases hv with rfl | rfl | rfl | rfl <;> simp)
      exact (((ho3.out.rb.farN n0 0 _).farN n1 1 _).farN n2 2 _).farN n3 3 _)
    rw [hwL]
    have hi := Lib.hid (show (Try.prog.info? 137).map (·.size) = some (cellsI q A3 n3 c3).size from info_qry)
    clear z0 z1 z2 z3 f0 f1 f2 f3 hwL
    go_wp2_with (first
      | (refine wpList_load_row rfl 137 (.tmp 3) rfl w.heap.size rfl _ (cellsI q A3 n3 c3) _ _ kL.out.at_ Try.underlying137 rfl hi.out ?_)
      | fail)
    go_ret
    exact ⟨A3, n3, c3, rfl, hrL.out, hbL.out⟩

set_option maxRecDepth 100000 in
set_option maxHeartbeats 2000000 in
theorem BuildU_any (u : UdpP) (s d : Int) (A : Option Addr) (n c : Nat) (w : World) (hd : RB w A n c u.data) :
    Calls Try.prog 140 #[.agg (cellsU u A n c), .int .i64 s, .int .i64 d] w (TwoOut w (builtU? s d u n) (checkU u n)) := by
  have hb := Lib.hid ((Below.refl _ w).alloc (Nat.le_refl _) (.cells (cellsU u A n c) 132))
  have kB := Lib.hid (Blk.new w (cellsU u A n c) 132)
  have hP := fun W (hW : Below w.heap.size w W) => UdpBuild_any s d u A n c W (hd.below hW)
  have hi := Lib.hid (show (Try.prog.info? 36).map (·.size) = some (cellsU u A n c).size from info_udpW)
  unfold TwoOut at hP ⊢
  generalize builtU? s d u n = bs at *
  generalize checkU u n = k at *
  replace hP := Lib.hid hP
  go_enter Try.func140, Try.ntmps140
  go_wp2_with (first
    | (refine wpList_load_row rfl 36 (.tmp 10) rfl w.heap.size rfl _ (cellsU u A n c) _ _ kB.out.at_ Try.underlying36 rfl hi.out ?_)
    | (go_at_call 143; refine (hP.out _ hb.out).mono ?_; rintro e w3 ⟨A3, n3, c3, rfl, ho3, hB3⟩; have hb3 := Lib.hid (hb.out.trans (hB3.mono hb.out.size)); replace ho3 := Lib.hid ho3; replace hB3 := 0)
    | fail)
  go_ret2
  exact ⟨A3, n3, c3, rfl, ho3.out, hb3.out⟩
set_option maxRecDepth 100000 in
set_option maxHeartbeats 2000000 in
theorem BuildT_any (u : TcpP) (s d : Int) (Ao : Option Addr) (no co : Nat) (A : Option Addr) (n c : Nat) (w : World) (ho : RB w Ao no co u.opts) (hd : RB w A n c u.data) (hn : n ≤ 100000) :
    Calls Try.prog 147 #[.agg (cellsT u Ao no co A n c), .int .i64 s, .int .i64 d] w (TwoOut w (builtT? s d u no n) (checkT u no n)) := by
  have hb := Lib.hid ((Below.refl _ w).alloc (Nat.le_refl _) (.cells (cellsT u Ao no co A n c) 134))
  have kB := Lib.hid (Blk.new w (cellsT u Ao no co A n c) 134)
  have hP := fun W (hW : Below w.heap.size w W) => TcpBuild_any s d u Ao no co A n c W (ho.below hW) (hd.below hW) (by omega)
  have hi := Lib.hid (show (Try.prog.info? 78).map (·.size) = some (cellsT u Ao no co A n c).size from info_tcpW)
  unfold TwoOut at hP ⊢
  generalize builtT? s d u no n = bs at *
  generalize checkT u no n = k at *
  replace hP := Lib.hid hP
  go_enter Try.func147, Try.ntmps147
  go_wp2_with (first
    | (refine wpList_load_row rfl 78 (.tmp 10) rfl w.heap.size rfl _ (cellsT u Ao no co A n c) _ _ kB.out.at_ Try.underlying78 rfl hi.out ?_)
    | (go_at_call 53; refine (hP.out _ hb.out).mono ?_; rintro e w3 ⟨A3, n3, c3, rfl, ho3, hB3⟩; have hb3 := Lib.hid (hb.out.trans (hB3.mono hb.out.size)); replace ho3 := Lib.hid ho3; replace hB3 := 0)
    | fail)
  go_ret2
  exact ⟨A3, n3, c3, rfl, ho3.out, hb3.out⟩
set_option maxRecDepth 100000 in
set_option maxHeartbeats 2000000 in
theorem BuildI_any (u : IcmpP) (s d : Int) (A : Option Addr) (n c : Nat) (w : World) (hd : RB w A n c u.data) :
    Calls Try.prog 150 #[.agg (cellsI u A n c), .int .i64 s, .int .i64 d] w (TwoOut w (builtI? u n) (checkI u n)) := by
  have hb := Lib.hid ((Below.refl _ w).alloc (Nat.le_refl _) (.cells (cellsI u A n c) 137))
  have kB := Lib.hid (Blk.new w (cellsI u A n c) 137)
  have hP := fun W (hW : Below w.heap.size w W) => IcmpBuild_any u A n c W (hd.below hW)
  have hi := Lib.hid (show (Try.prog.info? 49).map (·.size) = some (cellsI u A n c).size from info_icmpW)
  unfold TwoOut at hP ⊢
  generalize builtI? u n = bs at *
  generalize checkI u n = k at *
  replace hP := Lib.hid hP
  go_enter Try.func150, Try.ntmps150
  go_wp2_with (first
    | (refine wpList_load_row rfl 49 (.tmp 8) rfl w.heap.size rfl _ (cellsI u A n c) _ _ kB.out.at_ Try.underlying49 rfl hi.out ?_)
    | (go_at_call 153; refine (hP.out _ hb.out).mono ?_; rintro e w3 ⟨A3, n3, c3, rfl, ho3, hB3⟩; have hb3 := Lib.hid (hb.out.trans (hB3.mono hb.out.size)); replace ho3 := Lib.hid ho3; replace hB3 := 0)
    | fail)
  go_ret2
  exact ⟨A3, n3, c3, rfl, ho3.out, hb3.out⟩
end Go.Proofs.Ytehecefapiblpaa
