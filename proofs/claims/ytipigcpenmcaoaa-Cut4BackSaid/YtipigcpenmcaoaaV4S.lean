/- Packets of IPv4: v4.flags, v4.fields. -/
import Derived.Test.YtipigcpenmcaoaaV4
set_option linter.unusedVariables false
namespace Go.Proofs.Ytipigcpenmcaoaa
open Go Go.RowKit

def dfB (p : V4P) : Int := if p.df = true then bits .or .i64 (wrap64 (p.off.tdiv 8)) 16384 else wrap64 (p.off.tdiv 8)
def flagsB (p : V4P) : Int := if p.mf = true then bits .or .i64 (dfB p) 8192 else dfB p
section
variable (p : V4P) (Ao : Option Addr) (no co : Nat) (A : Option Addr) (n c : Nat) (w : World)
set_option maxRecDepth 100000 in
set_option maxHeartbeats 1000000 in
theorem Flags4_any : Calls Try.prog 70 #[.agg (cells4 p Ao no co A n c)] w fun e w' => e = .returned (.int .i64 (flagsB p)) ∧ Below w.heap.size w w' := by
  have hb := Lib.hid ((Below.refl _ w).alloc (Nat.le_refl _) (.cells (cells4 p Ao no co A n c) 24))
  cases hd : p.df <;> cases hm : p.mf
  all_goals
    go_enter Try.func70, Try.ntmps70
    go_wp2
    go_ret
    refine ⟨?_, hb.out⟩
    unfold flagsB dfB
    rw [hd, hm]
    rfl
theorem en_V4Flags (args : Array Value) (w : World) : (callFunc 70 args).run Try.prog w = .ok (.enter 70 args) w := enters Try.func70 (by kernel_rfl) (by kernel_rfl) args w
theorem en_V4Size (args : Array Value) (w : World) : (callFunc 23 args).run Try.prog w = .ok (.enter 23 args) w := enters Try.func23 (by kernel_rfl) (by kernel_rfl) args w
def headB (no : Nat) : Int := bits .or .i64 64 ((20 + (no : Int)) / 4)
abbrev flds4 (p : V4P) (no n : Nat) : Array Value := #[.int .i64 (headB no), .int .i64 1, .int .i64 p.tos, .int .i64 1, .int .i64 (20 + no + n), .int .i64 2, .int .i64 p.id, .int .i64 2, .int .i64 (flagsB p), .int .i64 2, .int .i64 p.ttl, .int .i64 1, .int .i64 p.pr, .int .i64 1, .int .i64 0, .int .i64 2, .int .i64 p.src, .int .i64 4, .int .i64 p.dst, .int .i64 4]
set_option maxRecDepth 100000 in
set_option maxHeartbeats 4000000 in
theorem Fields4_any (hno : no ≤ 100000) (hn : n ≤ 100000) : Calls Try.prog 69 #[.agg (cells4 p Ao no co A n c)] w fun e w' =>
    ∃ g, e = .returned (.slice (some ⟨g, 0, none⟩) 10 10) ∧ Blk w' g (flds4 p no n) 93 ∧ Below w.heap.size w w' := by
  have hb := Lib.hid ((Below.refl _ w).alloc (Nat.le_refl _) (.cells (cells4 p Ao no co A n c) 24))
  have kB := Lib.hid (Blk.new w (cells4 p Ao no co A n c) 24)
  have hq : (20 + (no : Int)).tdiv 4 = (20 + (no : Int)) / 4 := Int.tdiv_eq_ediv_of_nonneg (by omega)
  have hwq : IntKind.i64.wrap ((20 + (no : Int)) / 4) = (20 + (no : Int)) / 4 := by rw [IntKind.wrap_i64]; omega
  obtain ⟨w0, hw0⟩ : ∃ w0, w.alloc (.cells (cells4 p Ao no co A n c) 24) = w0 := ⟨_, rfl⟩
  have hsz : w.heap.size + 1 = w0.heap.size := by rw [← hw0]; simp
  rw [hw0] at hb kB
  have hK := Lib.hid (show ∀ W W', (fun W => Below w0.heap.size w0 W) W → Below W.heap.size W W' → (fun W => Below w0.heap.size w0 W) W' from fun W W' h1 h2 => h1.trans (h2.mono h1.size))
  have hA := Lib.hid (fun W (hW : Below w0.heap.size w0 W) => (kB.out.to hW).at_)
  have hV := Lib.hid (show (Try.prog.info? 24).map (·.size) = some (cells4 p Ao no co A n c).size from info_v4)
  have hC1 := Lib.hid (show ∀ W, (fun W => Below w0.heap.size w0 W) W → ((W.cell? ⟨w.heap.size, 0, none⟩ = some (.int .i64 p.tos) ∧ W.cell? ⟨w.heap.size, 1, none⟩ = some (.int .i64 p.id)) ∧ (W.cell? ⟨w.heap.size, 3, none⟩ = some (.int .i64 p.ttl) ∧ W.cell? ⟨w.heap.size, 4, none⟩ = some (.int .i64 p.pr)) ∧ W.cell? ⟨w.heap.size, 5, none⟩ = some (.int .i64 p.src) ∧ W.cell? ⟨w.heap.size, 6, none⟩ = some (.int .i64 p.dst)) from fun W hW => ⟨⟨(kB.out.to hW).cell 0 _ rfl, (kB.out.to hW).cell 1 _ rfl⟩, ⟨(kB.out.to hW).cell 3 _ rfl, (kB.out.to hW).cell 4 _ rfl⟩, (kB.out.to hW).cell 5 _ rfl, (kB.out.to hW).cell 6 _ rfl⟩)
  replace hsz := Lib.hid hsz
  go_enter Try.func69, Try.ntmps69
  go_wp2
  refine wp_region_loose (fun W => Below w0.heap.size w0 W) (by kernel_rfl) (by kernel_rfl) (by kernel_rfl) (Below.refl _ _).drew ?_
  repeat (first
    | (refine looseL_skip (by rfl) (by rfl) rfl ?_; simp only [putV, List.setIfInBounds_toArray, List.set_cons_zero, List.set_cons_succ])
    | (refine looseL_row (by rfl) (by rfl) (by rfl) rfl 24 (.tmp 1) rfl w.heap.size rfl _ (cells4 p Ao no co A n c) _ _ (fun W hS => hA.out W hS) Try.underlying24 rfl hV.out ?_; simp only [putV, List.setIfInBounds_toArray, List.set_cons_zero, List.set_cons_succ])
    | (refine looseL_call1 (v := .int .i64 (20 + no)) (by rfl) rfl 64 (.tmp 3) _ rfl en_V4Head (by rfl) ?_ ?_; (intro vx W hS hx; cases hx; exact (Head4_any p Ao no co A n c W hno).mono fun e W' ⟨he, hb⟩ => ⟨he, hK.out W W' hS hb, hb⟩); simp only [putV, List.setIfInBounds_toArray, List.set_cons_zero, List.set_cons_succ])
    | (refine looseL_call1 (v := .int .i64 (20 + no + n)) (by rfl) rfl 23 (.tmp 11) _ rfl en_V4Size (by rfl) ?_ ?_; (intro vx W hS hx; cases hx; exact (Size4_any p Ao no co A n c W hno hn).mono fun e W' ⟨he, hb⟩ => ⟨he, hK.out W W' hS hb, hb⟩); simp only [putV, List.setIfInBounds_toArray, List.set_cons_zero, List.set_cons_succ])
    | (refine looseL_call1 (v := .int .i64 (flagsB p)) (by rfl) rfl 70 (.tmp 17) _ rfl en_V4Flags (by rfl) ?_ ?_; (intro vx W hS hx; cases hx; exact (Flags4_any p Ao no co A n c W).mono fun e W' ⟨he, hb⟩ => ⟨he, hK.out W W' hS hb, hb⟩); simp only [putV, List.setIfInBounds_toArray, List.set_cons_zero, List.set_cons_succ])
    | (refine looseL_mv (d := 2) (e := 33) (LitP 10 (flds4 p no n) 93) rfl (by rfl) rfl rfl (List.elem_iff.1 rfl) rfl (LitP.stable _ _ _) ?_)
    | (refine looseL_lit (d := 33) (k := 10) (C := flds4 p no n) (T := 93) (by rfl) (by rfl) rfl rfl (fun W o' h => h.alloc h.size o') (fun W hS => ?_) ?_; (clear hS; go_simp; try rfl))
    | (refine looseL_val (v := ?_) (by rfl) (by rfl) (by rfl) rfl (fun W hS => ?_) ?_; rotate_left; (· (obtain ⟨⟨g0, g1⟩, ⟨g2, g3⟩, g4, g5⟩ := hC1.out W hS; clear hS; go_simp; try with_reducible rfl)); simp only [putV, List.setIfInBounds_toArray, List.set_cons_zero, List.set_cons_succ]))
  refine looseL_nil fun a W hS hsz2 hds hR => ?_
  have h33 : LitP 10 (flds4 p no n) 93 (a.tmps.getD 2 undef) W := hR 2 (by simp)
  have hT := tmps_lse (T := a.tmps) [2, 33] hsz2 (by rw [hsz2]; rfl) (by rw [hsz2]; rfl) hR
  rw [List.foldl_cons, List.foldl_cons, List.foldl_nil] at hT
  obtain ⟨g, e33, hk33⟩ := h33
  generalize a.tmps.getD 33 undef = u33 at hT
  rw [e33] at hT
  simp only [List.setIfInBounds_toArray, List.set_cons_zero, List.set_cons_succ] at hT
  clear hR hsz2
  obtain ⟨T, D⟩ := a
  have hD' : D = [] := hds
  subst hD'
  dsimp only at hT
  subst hT
  clear hds
  replace hS := Lib.hid hS
  replace hk33 := Lib.hid hk33
  replace e33 := 0
  go_wp2
  go_ret
  exact ⟨g, by first | rfl | simp, hk33.out, hb.out.trans (hS.out.mono hb.out.size)⟩
end
end Go.Proofs.Ytipigcpenmcaoaa
