/- The law V6Builds: its walk. -/
import Derived.Test.YtbbdkfadcafpfaaRefBuild
import Derived.Test.YtbbdkfadcafpfaaSame6R
import Derived.Test.YtbbdkfadcafpfaaAwake06
set_option linter.unusedVariables false
namespace Go.Proofs.Ytbbdkfadcafpfaa
open Go.RowKit

theorem en_Equal (args : Array Value) (w : World) : (callFunc 16 args).run Try.prog w = .ok (.enter 16 args) w := enters Try.func16 (by kernel_rfl) (by kernel_rfl) args w
theorem en_V6Size (args : Array Value) (w : World) : (callFunc 17 args).run Try.prog w = .ok (.enter 17 args) w := enters Try.func17 (by kernel_rfl) (by kernel_rfl) args w
theorem en_RV6Size (args : Array Value) (w : World) : (callFunc 18 args).run Try.prog w = .ok (.enter 18 args) w := enters Try.func18 (by kernel_rfl) (by kernel_rfl) args w
theorem en_V6Check (args : Array Value) (w : World) : (callFunc 19 args).run Try.prog w = .ok (.enter 19 args) w := enters Try.func19 (by kernel_rfl) (by kernel_rfl) args w
theorem en_RV6Check (args : Array Value) (w : World) : (callFunc 20 args).run Try.prog w = .ok (.enter 20 args) w := enters Try.func20 (by kernel_rfl) (by kernel_rfl) args w
theorem en_V6Same (args : Array Value) (w : World) : (callFunc 21 args).run Try.prog w = .ok (.enter 21 args) w := enters Try.func21 (by kernel_rfl) (by kernel_rfl) args w
theorem en_RV6Same (args : Array Value) (w : World) : (callFunc 22 args).run Try.prog w = .ok (.enter 22 args) w := enters Try.func22 (by kernel_rfl) (by kernel_rfl) args w
theorem en_Awake06 (args : Array Value) (w : World) : (callFunc 13 args).run Try.prog w = .ok (.enter 13 args) w := enters Try.func13 (by kernel_rfl) (by kernel_rfl) args w

set_option maxRecDepth 100000 in
set_option maxHeartbeats 4000000 in
theorem V6Builds_walk (P : Array Value) (p : V6P) (A : Option Addr) (n c : Nat) (P' : Array Value) (q : V6P) (A' : Option Addr) (n' c' : Nat) (w : World) (h : V6V P p A n c) (hr : RB w A n c p.data) (h' : V6V P' q A' n' c') (hr' : RB w A' n' c' q.data) :
    Calls Try.prog 3 #[.agg P, .agg P'] w fun e w' => e = .returned (.bool true) ∧ Below w.heap.size w w' := by
  have hb := ((Below.refl _ w).alloc (Nat.le_refl _) (.cells P 26)).alloc (by simp) (.cells P' 26)
  have hv1 := (VBox.new w P 26).alloc (.cells P' 26)
  have hv2 := VBox.new (w.alloc (.cells P 26)) P' 26
  have hz : (w.alloc (.cells P 26)).heap.size = w.heap.size + 1 := by simp
  rw [hz] at hv2
  have x6 := hv1.at_ _ _ h.h36
  have y6 := hv2.at_ _ _ h'.h36
  have k1 : ((w.alloc (.cells P 26)).alloc (.cells P' 26)).heap[w.heap.size]? = some (.cells P 26) := by
    rw [Below.heap_alloc _ _ _ (by simp)]; exact World.alloc_heap_new w _
  have k2 : ((w.alloc (.cells P 26)).alloc (.cells P' 26)).heap[w.heap.size + 1]? = some (.cells P' 26) := by
    have := World.alloc_heap_new (w.alloc (.cells P 26)) (.cells P' 26)
    rwa [hz] at this
  clear hz hv1 hv2
  have hi1 : (Try.prog.info? 26).map (·.size) = some P.size := by rw [h.size]; exact info_v6
  have hi2 : (Try.prog.info? 26).map (·.size) = some P'.size := by rw [h'.size]; exact info_v6
  replace hi1 := Lib.hid hi1
  replace hi2 := Lib.hid hi2
  replace hb := Lib.hid hb
  replace k1 := Lib.hid k1
  replace k2 := Lib.hid k2
  by_cases hn : 3000 < n
  · go_enter Try.func3, Try.ntmps3
    go_wp2_with (go_at_call 13; refine (awake06 _).mono ?_; rintro e w' ⟨rfl, hb1⟩)
    go_ret
    exact ⟨rfl, hb.out.trans (hb1.mono hb.out.size)⟩
  · by_cases hn' : 3000 < n'
    · go_enter Try.func3, Try.ntmps3
      go_wp2_with (go_at_call 13; refine (awake06 _).mono ?_; rintro e w' ⟨rfl, hb1⟩)
      go_ret
      exact ⟨rfl, hb.out.trans (hb1.mono hb.out.size)⟩
    · have hB := Lib.hid (fun w' (hw : Below w.heap.size w w') => V6Build_any P p A n c w' h (hr.below hw))
      have hRB := Lib.hid (fun w' (hw : Below w.heap.size w w') => RefV6Build_any P p A n c w' h (hr.below hw))
      generalize (if checkV p n = 0 then bytesV p else []) = r at *
      go_enter Try.func3, Try.ntmps3
      go_wp2_with (first
        | (refine wpList_load_row rfl 26 (.tmp 2) rfl w.heap.size rfl _ P _ _ k1.out Try.underlying26 rfl hi1.out ?_)
        | (refine wpList_load_row rfl 26 (.tmp 2) rfl w.heap.size rfl _ P _ _ l1.out Try.underlying26 rfl hi1.out ?_)
        | (go_at_call 14; refine (hB.out _ hb.out).mono ?_; rintro e w1 ⟨A1, n1, c1, rfl, r1, hb1⟩; have hB1 := hb.out.trans (hb1.mono hb.out.size); have l1 := Lib.hid ((hb1.block w.heap.size (by simp; omega)).trans k1.out); have l2 := Lib.hid ((hb1.block (w.heap.size + 1) (by simp)).trans k2.out); replace hb1 := 0)
        | (go_at_call 15; refine (hRB.out _ hB1).mono ?_; rintro e w2 ⟨A2, n2, c2, rfl, r2, hb2⟩; replace r1 := r1.below hb2; have hB2 := hB1.trans (hb2.mono hB1.size); have m1 := (hb2.block w.heap.size (Array.getElem?_eq_some_iff.1 l1.out).1).trans l1.out; have m2 := (hb2.block (w.heap.size + 1) (Array.getElem?_eq_some_iff.1 l2.out).1).trans l2.out; replace hb2 := 0; clear l1 l2)
        | fail)
      have hK : ∀ W W', (W.heap[w.heap.size]? = some (.cells P 26) ∧ W.heap[w.heap.size + 1]? = some (.cells P' 26) ∧ RB W A1 n1 c1 r ∧ RB W A2 n2 c2 r ∧ Below w.heap.size w W) → Below W.heap.size W W' →
          (W'.heap[w.heap.size]? = some (.cells P 26) ∧ W'.heap[w.heap.size + 1]? = some (.cells P' 26) ∧ RB W' A1 n1 c1 r ∧ RB W' A2 n2 c2 r ∧ Below w.heap.size w W') := fun W W' ⟨a1, a2, a3, a4, a5⟩ hW =>
        ⟨(hW.block _ (Array.getElem?_eq_some_iff.1 a1).1).trans a1, (hW.block _ (Array.getElem?_eq_some_iff.1 a2).1).trans a2, a3.below hW, a4.below hW, a5.trans (hW.mono a5.size)⟩
      have hS0 := hK w2 w2.drew ⟨m1, m2, r1, r2, hB2⟩ (Below.refl _ _).drew
      replace hK := Lib.hid hK
      replace h := Lib.hid h
      replace h' := Lib.hid h'
      have hCk := Lib.hid (fun w' => V6Check_any P p A n c w' h.out)
      have hRCk := Lib.hid (fun w' => RefV6Check_any P p A n c w' h.out)
      have hSm := Lib.hid (fun w' (hw : Below w.heap.size w w') => V6Same_any P P' p q A A' n c n' c' w' h.out h'.out (hr.below hw) (hr'.below hw))
      have hRSm := Lib.hid (fun w' (hw : Below w.heap.size w w') => RefV6Same_any P P' p q A A' n c n' c' w' h.out h'.out (hr.below hw) (hr'.below hw))
      generalize sameV p q = sm at *
      generalize checkV p n = ck at *
      clear m1 m2 r1 r2 hB2 hB1 hB hRB k1 k2 x6 y6
      refine wp_region_tame (fun W => W.heap[w.heap.size]? = some (.cells P 26) ∧ W.heap[w.heap.size + 1]? = some (.cells P' 26) ∧ RB W A1 n1 c1 r ∧ RB W A2 n2 c2 r ∧ Below w.heap.size w W) (by kernel_rfl) (by kernel_rfl) hS0 ?_
      repeat (first
        | (refine tameL_skip rfl ?_; simp only [Act.put, List.setIfInBounds_toArray, List.set_cons_zero, List.set_cons_succ])
        | (refine tameL_row rfl 26 (.tmp 2) rfl w.heap.size rfl _ P _ _ (fun W hS => hS.1) Try.underlying26 rfl hi1.out ?_; simp only [Act.put, List.setIfInBounds_toArray, List.set_cons_zero, List.set_cons_succ])
        | (refine tameL_row rfl 26 (.tmp 3) rfl (w.heap.size + 1) rfl _ P' _ _ (fun W hS => hS.2.1) Try.underlying26 rfl hi2.out ?_; simp only [Act.put, List.setIfInBounds_toArray, List.set_cons_zero, List.set_cons_succ])
        | (refine tameL_call2 (v := .bool true) rfl 16 (.tmp 34) (.tmp 35) _ rfl en_Equal rfl rfl  ?_ ?_; exact fun W hS => (Equal_same _ _ _ _ _ _ _ W hS.2.2.1 hS.2.2.2.1).mono fun e W' ⟨he, hb⟩ => ⟨he, hK.out W W' hS (by subst hb; exact Below.refl _ _)⟩; simp only [Act.put, List.setIfInBounds_toArray, List.set_cons_zero, List.set_cons_succ])
        | (refine tameL_call1 (v := .int .i64 (40 + n)) rfl 17 (.tmp 39) _ rfl en_V6Size rfl  ?_ ?_; exact fun W hS => (V6Size_any P p A n c W h.out (by omega)).mono fun e W' ⟨he, hb⟩ => ⟨he, hK.out W W' hS hb⟩; simp only [Act.put, List.setIfInBounds_toArray, List.set_cons_zero, List.set_cons_succ])
        | (refine tameL_call1 (v := .int .i64 (40 + n)) rfl 18 (.tmp 41) _ rfl en_RV6Size rfl  ?_ ?_; exact fun W hS => (RefV6Size_any P p A n c W h.out (by omega)).mono fun e W' ⟨he, hb⟩ => ⟨he, hK.out W W' hS hb⟩; simp only [Act.put, List.setIfInBounds_toArray, List.set_cons_zero, List.set_cons_succ])
        | (refine tameL_call1 (v := .int .i64 ck) rfl 19 (.tmp 46) _ rfl en_V6Check rfl  ?_ ?_; exact fun W hS => (hCk.out W).mono fun e W' ⟨he, hb⟩ => ⟨he, hK.out W W' hS hb⟩; simp only [Act.put, List.setIfInBounds_toArray, List.set_cons_zero, List.set_cons_succ])
        | (refine tameL_call1 (v := .int .i64 ck) rfl 20 (.tmp 48) _ rfl en_RV6Check rfl  ?_ ?_; exact fun W hS => (hRCk.out W).mono fun e W' ⟨he, hb⟩ => ⟨he, hK.out W W' hS hb⟩; simp only [Act.put, List.setIfInBounds_toArray, List.set_cons_zero, List.set_cons_succ])
        | (refine tameL_call2 (v := .bool sm) rfl 21 (.tmp 53) (.tmp 54) _ rfl en_V6Same rfl rfl  ?_ ?_; exact fun W hS => (hSm.out W hS.2.2.2.2).mono fun e W' ⟨he, hb⟩ => ⟨he, hK.out W W' hS hb⟩; simp only [Act.put, List.setIfInBounds_toArray, List.set_cons_zero, List.set_cons_succ])
        | (refine tameL_call2 (v := .bool sm) rfl 22 (.tmp 56) (.tmp 57) _ rfl en_RV6Same rfl rfl  ?_ ?_; exact fun W hS => (hRSm.out W hS.2.2.2.2).mono fun e W' ⟨he, hb⟩ => ⟨he, hK.out W W' hS hb⟩; simp only [Act.put, List.setIfInBounds_toArray, List.set_cons_zero, List.set_cons_succ])
        | (refine tameL_call0 (v := .bool true) rfl 13  _ rfl en_Awake06   ?_ ?_; exact fun W hS => (awake06 W).mono fun e W' ⟨he, hb⟩ => ⟨he, hK.out W W' hS hb⟩; simp only [Act.put, List.setIfInBounds_toArray, List.set_cons_zero, List.set_cons_succ])
        | (refine tameL_val (v := ?_) rfl (fun W hS => ?_) ?_; rotate_left; (· (clear hS; go_simp; try with_reducible rfl)); simp only [Act.put, List.setIfInBounds_toArray, List.set_cons_zero, List.set_cons_succ]))
      refine tameL_nil fun W hS => ?_
      go_wp2
      go_ret
      exact ⟨rfl, hS.2.2.2.2⟩
end Go.Proofs.Ytbbdkfadcafpfaa
