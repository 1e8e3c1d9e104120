/- Packets of IPv4: their cells; v4.Head, Size, Whole; four.Right; the references. -/
import Derived.Test.YtipigcpenmcaoaaBools
import Derived.Test.YtipigcpenmcaoaaFits
set_option linter.unusedVariables false
namespace Go.Proofs.Ytipigcpenmcaoaa
open Go Go.RowKit

structure V4P where
  tos : Int
  id : Int
  off : Int
  ttl : Int
  pr : Int
  src : Int
  dst : Int
  df : Bool
  mf : Bool
  opts : List Int
  data : List Int
abbrev cells4 (p : V4P) (Ao : Option Addr) (no co : Nat) (A : Option Addr) (n c : Nat) : Array Value :=
  #[.int .i64 p.tos, .int .i64 p.id, .int .i64 p.off, .int .i64 p.ttl, .int .i64 p.pr, .int .i64 p.src, .int .i64 p.dst, .bool p.df, .bool p.mf, .slice Ao no co, .slice A n c]
abbrev zero4c : Array Value := #[.int .i64 0, .int .i64 0, .int .i64 0, .int .i64 0, .int .i64 0, .int .i64 0, .int .i64 0, .bool false, .bool false, .slice none 0 0, .slice none 0 0]
def zero4 : V4P := ⟨0, 0, 0, 0, 0, 0, 0, false, false, [], []⟩
theorem info_v4 : (Try.prog.info? 24).map (·.size) = some 11 := by kernel_rfl
theorem info_v4z : (Try.prog.info? 24).map (fun i => (i.zero, i.size, i.bytes)) = some (some (.agg zero4c), 11, 112) := by kernel_rfl
def rightB (x : Int) : Bool := decide (0 ≤ x ∧ x < 4294967296)

section
variable (p : V4P) (Ao : Option Addr) (no co : Nat) (A : Option Addr) (n c : Nat) (w : World)
set_option maxHeartbeats 1000000 in
theorem Right_any (x : Int) : Calls Try.prog 67 #[.int .i64 x] w fun e w' => e = .returned (.bool (rightB x)) ∧ w = w' := by
  by_cases h0 : 0 ≤ x
  · by_cases h1 : x < 4294967296
    · have he := Lib.hid (show rightB x = true from decide_eq_true ⟨h0, h1⟩)
      go_enter Try.func67, Try.ntmps67
      go_wp2
      go_ret
      exact ⟨ret_bool he.out.symm, rfl⟩
    · have he := Lib.hid (show rightB x = false from decide_eq_false (fun h => h1 h.2))
      go_enter Try.func67, Try.ntmps67
      go_wp2
      go_ret
      exact ⟨ret_bool he.out.symm, rfl⟩
  · have he := Lib.hid (show rightB x = false from decide_eq_false (fun h => h0 h.1))
    have h0' : decide (0 ≤ x) = false := decide_eq_false h0
    go_enter Try.func67, Try.ntmps67
    go_wp2
    go_ret
    exact ⟨ret_bool he.out.symm, rfl⟩
set_option maxHeartbeats 1000000 in
theorem RefRight_any (x : Int) : Calls Try.prog 104 #[.int .i64 x] w fun e w' => e = .returned (.bool (rightB x)) ∧ w = w' := by
  by_cases h0 : 0 ≤ x
  · by_cases h1 : x < 4294967296
    · have he := Lib.hid (show rightB x = true from decide_eq_true ⟨h0, h1⟩)
      go_enter Try.func104, Try.ntmps104
      go_wp2
      go_ret
      exact ⟨ret_bool he.out.symm, rfl⟩
    · have he := Lib.hid (show rightB x = false from decide_eq_false (fun h => h1 h.2))
      go_enter Try.func104, Try.ntmps104
      go_wp2
      go_ret
      exact ⟨ret_bool he.out.symm, rfl⟩
  · have he := Lib.hid (show rightB x = false from decide_eq_false (fun h => h0 h.1))
    have h0' : decide (0 ≤ x) = false := decide_eq_false h0
    go_enter Try.func104, Try.ntmps104
    go_wp2
    go_ret
    exact ⟨ret_bool he.out.symm, rfl⟩
theorem Head4_any (hno : no ≤ 100000) : Calls Try.prog 64 #[.agg (cells4 p Ao no co A n c)] w fun e w' => e = .returned (.int .i64 (20 + no)) ∧ Below w.heap.size w w' := by
  have hb := Lib.hid ((Below.refl _ w).alloc (Nat.le_refl _) (.cells (cells4 p Ao no co A n c) 24))
  go_enter Try.func64, Try.ntmps64
  go_wp2
  go_ret
  exact ⟨by first | rfl | simp, hb.out⟩
theorem RefHead4_any (hno : no ≤ 100000) : Calls Try.prog 58 #[.agg (cells4 p Ao no co A n c)] w fun e w' => e = .returned (.int .i64 (20 + no)) ∧ Below w.heap.size w w' := by
  have hb := Lib.hid ((Below.refl _ w).alloc (Nat.le_refl _) (.cells (cells4 p Ao no co A n c) 24))
  go_enter Try.func58, Try.ntmps58
  go_wp2
  go_ret
  exact ⟨by first | rfl | simp, hb.out⟩
theorem en_V4Head (args : Array Value) (w : World) : (callFunc 64 args).run Try.prog w = .ok (.enter 64 args) w := enters Try.func64 (by kernel_rfl) (by kernel_rfl) args w
theorem en_RV4Head (args : Array Value) (w : World) : (callFunc 58 args).run Try.prog w = .ok (.enter 58 args) w := enters Try.func58 (by kernel_rfl) (by kernel_rfl) args w
set_option maxHeartbeats 1000000 in
theorem Size4_any (hno : no ≤ 100000) (hn : n ≤ 100000) : Calls Try.prog 23 #[.agg (cells4 p Ao no co A n c)] w fun e w' => e = .returned (.int .i64 (20 + no + n)) ∧ Below w.heap.size w w' := by
  have hb := Lib.hid ((Below.refl _ w).alloc (Nat.le_refl _) (.cells (cells4 p Ao no co A n c) 24))
  have kB := Lib.hid (Blk.new w (cells4 p Ao no co A n c) 24)
  have hwr : IntKind.i64.wrap (20 + (no : Int) + n) = 20 + no + n := by rw [IntKind.wrap_i64]; omega
  obtain ⟨w0, hw0⟩ : ∃ w0, w.alloc (.cells (cells4 p Ao no co A n c) 24) = w0 := ⟨_, rfl⟩
  rw [hw0] at hb kB
  have hK := Lib.hid (show ∀ W W', (fun W => Below w0.heap.size w0 W) W → Below W.heap.size W W' → (fun W => Below w0.heap.size w0 W) W' from fun W W' h1 h2 => h1.trans (h2.mono h1.size))
  have hC1 := Lib.hid (show ∀ W, (fun W => Below w0.heap.size w0 W) W → W.cell? ⟨w.heap.size, 10, none⟩ = some (.slice A n c) ∧ True ∧ True from fun W hW => ⟨(kB.out.to hW).cell 10 _ rfl, trivial, trivial⟩)
  have hA := Lib.hid (fun W (hW : Below w0.heap.size w0 W) => (kB.out.to hW).at_)
  have hV := Lib.hid (show (Try.prog.info? 24).map (·.size) = some (cells4 p Ao no co A n c).size from info_v4)
  go_enter Try.func23, Try.ntmps23
  go_wp2
  refine wp_region_tame (fun W => Below w0.heap.size w0 W) (by kernel_rfl) (by kernel_rfl) (Below.refl _ _).drew ?_
  repeat (first
    | (refine tameL_skip rfl ?_; simp only [Act.put, List.setIfInBounds_toArray, List.set_cons_zero, List.set_cons_succ])
    | (refine tameL_row rfl 24 (.tmp 1) rfl w.heap.size rfl _ (cells4 p Ao no co A n c) _ _ (fun W hS => hA.out W hS) Try.underlying24 rfl hV.out ?_; simp only [Act.put, List.setIfInBounds_toArray, List.set_cons_zero, List.set_cons_succ])
    | (refine tameL_call1 (v := .int .i64 (20 + no)) rfl 64 (.tmp 3) _ rfl en_V4Head rfl ?_ ?_; exact fun W hS => (Head4_any p Ao no co A n c W hno).mono fun e W' ⟨he, hb⟩ => ⟨he, hK.out W W' hS hb⟩; simp only [Act.put, List.setIfInBounds_toArray, List.set_cons_zero, List.set_cons_succ])
    | (refine tameL_val (v := ?_) rfl (fun W hS => ?_) ?_; rotate_left; (· (obtain ⟨g0, g1, g2⟩ := hC1.out W hS; clear hS; go_simp; try with_reducible rfl)); simp only [Act.put, List.setIfInBounds_toArray, List.set_cons_zero, List.set_cons_succ]))
  refine tameL_nil fun W hS => ?_
  go_wp2
  go_ret
  exact ⟨by first | rfl | simp [hwr], hb.out.trans (hS.mono hb.out.size)⟩
set_option maxHeartbeats 1000000 in
theorem RefSize4_any (hno : no ≤ 100000) (hn : n ≤ 100000) : Calls Try.prog 57 #[.agg (cells4 p Ao no co A n c)] w fun e w' => e = .returned (.int .i64 (20 + no + n)) ∧ Below w.heap.size w w' := by
  have hb := Lib.hid ((Below.refl _ w).alloc (Nat.le_refl _) (.cells (cells4 p Ao no co A n c) 24))
  have kB := Lib.hid (Blk.new w (cells4 p Ao no co A n c) 24)
  have hwr : IntKind.i64.wrap (20 + (no : Int) + n) = 20 + no + n := by rw [IntKind.wrap_i64]; omega
  obtain ⟨w0, hw0⟩ : ∃ w0, w.alloc (.cells (cells4 p Ao no co A n c) 24) = w0 := ⟨_, rfl⟩
  rw [hw0] at hb kB
  have hK := Lib.hid (show ∀ W W', (fun W => Below w0.heap.size w0 W) W → Below W.heap.size W W' → (fun W => Below w0.heap.size w0 W) W' from fun W W' h1 h2 => h1.trans (h2.mono h1.size))
  have hC1 := Lib.hid (show ∀ W, (fun W => Below w0.heap.size w0 W) W → W.cell? ⟨w.heap.size, 10, none⟩ = some (.slice A n c) ∧ True ∧ True from fun W hW => ⟨(kB.out.to hW).cell 10 _ rfl, trivial, trivial⟩)
  have hA := Lib.hid (fun W (hW : Below w0.heap.size w0 W) => (kB.out.to hW).at_)
  have hV := Lib.hid (show (Try.prog.info? 24).map (·.size) = some (cells4 p Ao no co A n c).size from info_v4)
  go_enter Try.func57, Try.ntmps57
  go_wp2
  refine wp_region_tame (fun W => Below w0.heap.size w0 W) (by kernel_rfl) (by kernel_rfl) (Below.refl _ _).drew ?_
  repeat (first
    | (refine tameL_skip rfl ?_; simp only [Act.put, List.setIfInBounds_toArray, List.set_cons_zero, List.set_cons_succ])
    | (refine tameL_row rfl 24 (.tmp 1) rfl w.heap.size rfl _ (cells4 p Ao no co A n c) _ _ (fun W hS => hA.out W hS) Try.underlying24 rfl hV.out ?_; simp only [Act.put, List.setIfInBounds_toArray, List.set_cons_zero, List.set_cons_succ])
    | (refine tameL_call1 (v := .int .i64 (20 + no)) rfl 58 (.tmp 3) _ rfl en_RV4Head rfl ?_ ?_; exact fun W hS => (RefHead4_any p Ao no co A n c W hno).mono fun e W' ⟨he, hb⟩ => ⟨he, hK.out W W' hS hb⟩; simp only [Act.put, List.setIfInBounds_toArray, List.set_cons_zero, List.set_cons_succ])
    | (refine tameL_val (v := ?_) rfl (fun W hS => ?_) ?_; rotate_left; (· (obtain ⟨g0, g1, g2⟩ := hC1.out W hS; clear hS; go_simp; try with_reducible rfl)); simp only [Act.put, List.setIfInBounds_toArray, List.set_cons_zero, List.set_cons_succ]))
  refine tameL_nil fun W hS => ?_
  go_wp2
  go_ret
  exact ⟨by first | rfl | simp [hwr], hb.out.trans (hS.mono hb.out.size)⟩
end
end Go.Proofs.Ytipigcpenmcaoaa
