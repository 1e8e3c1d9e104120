/- Packets of IPv6: whether two are the same, the reference: walk. -/
import Derived.Test.YtbbdkfadcafpfaaSame6
set_option linter.unusedVariables false
namespace Go.Proofs.Ytbbdkfadcafpfaa
open Go.RowKit

set_option maxRecDepth 100000 in
set_option maxHeartbeats 8000000 in
theorem RefV6Same_any (P P' : Array Value) (p q : V6P) (A A' : Option Addr) (n c n' c' : Nat) (w : World) (h : V6V P p A n c) (h' : V6V P' q A' n' c') (hr : RB w A n c p.data) (hr' : RB w A' n' c' q.data) :
    Calls Try.prog 22 #[.agg P, .agg P'] w fun e w' => e = .returned (.bool (sameV p q)) ∧ Below w.heap.size w w' := by
  have hb := ((Below.refl _ w).alloc (Nat.le_refl _) (.cells P 26)).alloc (by simp) (.cells P' 26)
  have hv1 := (VBox.new w P 26).alloc (.cells P' 26)
  have hv2 := VBox.new (w.alloc (.cells P 26)) P' 26
  have hz : (w.alloc (.cells P 26)).heap.size = w.heap.size + 1 := by simp
  rw [hz] at hv2
  clear hz
  replace hr := (hr.alloc (.cells P 26)).alloc (.cells P' 26)
  replace hr' := (hr'.alloc (.cells P 26)).alloc (.cells P' 26)
  have hs1 := Lib.hid (fun j hj => hv1.at_ _ _ (h.hs j hj))
  have hs2 := Lib.hid (fun j hj => hv2.at_ _ _ (h'.hs j hj))
  have hs3 := Lib.hid (fun j hj => hv1.at_ _ _ (h.hd j hj))
  have hs4 := Lib.hid (fun j hj => hv2.at_ _ _ (h'.hd j hj))
  have x0 := hv1.at_ _ _ h.h0
  have x1 := hv1.at_ _ _ h.h1
  have x2 := hv1.at_ _ _ h.h2
  have x3 := hv1.at_ _ _ h.h3
  have x6 := hv1.at_ _ _ h.h36
  have y0 := hv2.at_ _ _ h'.h0
  have y1 := hv2.at_ _ _ h'.h1
  have y2 := hv2.at_ _ _ h'.h2
  have y3 := hv2.at_ _ _ h'.h3
  have y6 := hv2.at_ _ _ h'.h36
  replace h := Lib.hid h
  replace h' := Lib.hid h'
  replace hb := Lib.hid hb
  replace hr := Lib.hid hr
  replace hr' := Lib.hid hr'
  clear hv1 hv2
  have e1 := conv_bytes hr.out
  have e2 := conv_bytes hr'.out
  have hq := str_beq hr.out.byt hr'.out.byt
  cases n0 : (p.t == q.t)
  · have m0 := Lib.hid (ne_of_beq_false n0)
    go_enter Try.func22, Try.ntmps22
    go_upto_region 1 with (fail)
    refine wp_region_seqT (fun W => W = (w.alloc (.cells P 26)).alloc (.cells P' 26)) rfl ?_
    repeat (first
      | (refine tameL_skip rfl ?_; simp only [Act.put, List.setIfInBounds_toArray, List.set_cons_zero, List.set_cons_succ])
      | (refine tameL_load_six rfl (.tmp 32) rfl w.heap.size 4 rfl p.src h.out.ls (fun W hS => by subst hS; exact hs1.out) ?_; simp only [Act.put, List.setIfInBounds_toArray, List.set_cons_zero, List.set_cons_succ])
      | (refine tameL_load_six rfl (.tmp 34) rfl (w.heap.size + 1) 4 rfl q.src h'.out.ls (fun W hS => by subst hS; exact hs2.out) ?_; simp only [Act.put, List.setIfInBounds_toArray, List.set_cons_zero, List.set_cons_succ])
      | (refine tameL_load_six rfl (.tmp 39) rfl w.heap.size 20 rfl p.dst h.out.ld (fun W hS => by subst hS; exact hs3.out) ?_; simp only [Act.put, List.setIfInBounds_toArray, List.set_cons_zero, List.set_cons_succ])
      | (refine tameL_load_six rfl (.tmp 41) rfl (w.heap.size + 1) 20 rfl q.dst h'.out.ld (fun W hS => by subst hS; exact hs4.out) ?_; simp only [Act.put, List.setIfInBounds_toArray, List.set_cons_zero, List.set_cons_succ])
      | (refine tameL_eql_six rfl (.tmp 33) (.tmp 35) rfl p.src q.src rfl rfl h.out.ls h'.out.ls h.out.bs h'.out.bs ?_; rw [b1.out]; simp only [Act.put, List.setIfInBounds_toArray, List.set_cons_zero, List.set_cons_succ])
      | (refine tameL_eql_six rfl (.tmp 40) (.tmp 42) rfl p.dst q.dst rfl rfl h.out.ld h'.out.ld h.out.bd h'.out.bd ?_; rw [b2.out]; simp only [Act.put, List.setIfInBounds_toArray, List.set_cons_zero, List.set_cons_succ])
      | (refine tameL_val (v := ?_) rfl (fun W hS => ?_) ?_; rotate_left; (· (subst hS; go_simp; try with_reducible rfl)); simp only [Act.put, List.setIfInBounds_toArray, List.set_cons_zero, List.set_cons_succ]))
    refine tameL_nil fun W hS => ?_
    subst hS
    go_wp2
    go_ret
    exact ⟨ret_bool (by unfold sameV; have := m0.out; simp [this]), hb.out⟩
  · have m0 := Lib.hid (eq_of_beq n0)
    cases n1 : (p.fl == q.fl)
    · have m1 := Lib.hid (ne_of_beq_false n1)
      go_enter Try.func22, Try.ntmps22
      go_upto_region 1 with (fail)
      refine wp_region_seqT (fun W => W = (w.alloc (.cells P 26)).alloc (.cells P' 26)) rfl ?_
      repeat (first
        | (refine tameL_skip rfl ?_; simp only [Act.put, List.setIfInBounds_toArray, List.set_cons_zero, List.set_cons_succ])
        | (refine tameL_load_six rfl (.tmp 32) rfl w.heap.size 4 rfl p.src h.out.ls (fun W hS => by subst hS; exact hs1.out) ?_; simp only [Act.put, List.setIfInBounds_toArray, List.set_cons_zero, List.set_cons_succ])
        | (refine tameL_load_six rfl (.tmp 34) rfl (w.heap.size + 1) 4 rfl q.src h'.out.ls (fun W hS => by subst hS; exact hs2.out) ?_; simp only [Act.put, List.setIfInBounds_toArray, List.set_cons_zero, List.set_cons_succ])
        | (refine tameL_load_six rfl (.tmp 39) rfl w.heap.size 20 rfl p.dst h.out.ld (fun W hS => by subst hS; exact hs3.out) ?_; simp only [Act.put, List.setIfInBounds_toArray, List.set_cons_zero, List.set_cons_succ])
        | (refine tameL_load_six rfl (.tmp 41) rfl (w.heap.size + 1) 20 rfl q.dst h'.out.ld (fun W hS => by subst hS; exact hs4.out) ?_; simp only [Act.put, List.setIfInBounds_toArray, List.set_cons_zero, List.set_cons_succ])
        | (refine tameL_eql_six rfl (.tmp 33) (.tmp 35) rfl p.src q.src rfl rfl h.out.ls h'.out.ls h.out.bs h'.out.bs ?_; rw [b1.out]; simp only [Act.put, List.setIfInBounds_toArray, List.set_cons_zero, List.set_cons_succ])
        | (refine tameL_eql_six rfl (.tmp 40) (.tmp 42) rfl p.dst q.dst rfl rfl h.out.ld h'.out.ld h.out.bd h'.out.bd ?_; rw [b2.out]; simp only [Act.put, List.setIfInBounds_toArray, List.set_cons_zero, List.set_cons_succ])
        | (refine tameL_val (v := ?_) rfl (fun W hS => ?_) ?_; rotate_left; (· (subst hS; go_simp; try with_reducible rfl)); simp only [Act.put, List.setIfInBounds_toArray, List.set_cons_zero, List.set_cons_succ]))
      refine tameL_nil fun W hS => ?_
      subst hS
      go_wp2
      go_ret
      exact ⟨ret_bool (by unfold sameV; have := m1.out; simp [this]), hb.out⟩
    · have m1 := Lib.hid (eq_of_beq n1)
      cases n2 : (p.nx == q.nx)
      · have m2 := Lib.hid (ne_of_beq_false n2)
        go_enter Try.func22, Try.ntmps22
        go_upto_region 1 with (fail)
        refine wp_region_seqT (fun W => W = (w.alloc (.cells P 26)).alloc (.cells P' 26)) rfl ?_
        repeat (first
          | (refine tameL_skip rfl ?_; simp only [Act.put, List.setIfInBounds_toArray, List.set_cons_zero, List.set_cons_succ])
          | (refine tameL_load_six rfl (.tmp 32) rfl w.heap.size 4 rfl p.src h.out.ls (fun W hS => by subst hS; exact hs1.out) ?_; simp only [Act.put, List.setIfInBounds_toArray, List.set_cons_zero, List.set_cons_succ])
          | (refine tameL_load_six rfl (.tmp 34) rfl (w.heap.size + 1) 4 rfl q.src h'.out.ls (fun W hS => by subst hS; exact hs2.out) ?_; simp only [Act.put, List.setIfInBounds_toArray, List.set_cons_zero, List.set_cons_succ])
          | (refine tameL_load_six rfl (.tmp 39) rfl w.heap.size 20 rfl p.dst h.out.ld (fun W hS => by subst hS; exact hs3.out) ?_; simp only [Act.put, List.setIfInBounds_toArray, List.set_cons_zero, List.set_cons_succ])
          | (refine tameL_load_six rfl (.tmp 41) rfl (w.heap.size + 1) 20 rfl q.dst h'.out.ld (fun W hS => by subst hS; exact hs4.out) ?_; simp only [Act.put, List.setIfInBounds_toArray, List.set_cons_zero, List.set_cons_succ])
          | (refine tameL_eql_six rfl (.tmp 33) (.tmp 35) rfl p.src q.src rfl rfl h.out.ls h'.out.ls h.out.bs h'.out.bs ?_; rw [b1.out]; simp only [Act.put, List.setIfInBounds_toArray, List.set_cons_zero, List.set_cons_succ])
          | (refine tameL_eql_six rfl (.tmp 40) (.tmp 42) rfl p.dst q.dst rfl rfl h.out.ld h'.out.ld h.out.bd h'.out.bd ?_; rw [b2.out]; simp only [Act.put, List.setIfInBounds_toArray, List.set_cons_zero, List.set_cons_succ])
          | (refine tameL_val (v := ?_) rfl (fun W hS => ?_) ?_; rotate_left; (· (subst hS; go_simp; try with_reducible rfl)); simp only [Act.put, List.setIfInBounds_toArray, List.set_cons_zero, List.set_cons_succ]))
        refine tameL_nil fun W hS => ?_
        subst hS
        go_wp2
        go_ret
        exact ⟨ret_bool (by unfold sameV; have := m2.out; simp [this]), hb.out⟩
      · have m2 := Lib.hid (eq_of_beq n2)
        cases n3 : (p.hp == q.hp)
        · have m3 := Lib.hid (ne_of_beq_false n3)
          go_enter Try.func22, Try.ntmps22
          go_upto_region 1 with (fail)
          refine wp_region_seqT (fun W => W = (w.alloc (.cells P 26)).alloc (.cells P' 26)) rfl ?_
          repeat (first
            | (refine tameL_skip rfl ?_; simp only [Act.put, List.setIfInBounds_toArray, List.set_cons_zero, List.set_cons_succ])
            | (refine tameL_load_six rfl (.tmp 32) rfl w.heap.size 4 rfl p.src h.out.ls (fun W hS => by subst hS; exact hs1.out) ?_; simp only [Act.put, List.setIfInBounds_toArray, List.set_cons_zero, List.set_cons_succ])
            | (refine tameL_load_six rfl (.tmp 34) rfl (w.heap.size + 1) 4 rfl q.src h'.out.ls (fun W hS => by subst hS; exact hs2.out) ?_; simp only [Act.put, List.setIfInBounds_toArray, List.set_cons_zero, List.set_cons_succ])
            | (refine tameL_load_six rfl (.tmp 39) rfl w.heap.size 20 rfl p.dst h.out.ld (fun W hS => by subst hS; exact hs3.out) ?_; simp only [Act.put, List.setIfInBounds_toArray, List.set_cons_zero, List.set_cons_succ])
            | (refine tameL_load_six rfl (.tmp 41) rfl (w.heap.size + 1) 20 rfl q.dst h'.out.ld (fun W hS => by subst hS; exact hs4.out) ?_; simp only [Act.put, List.setIfInBounds_toArray, List.set_cons_zero, List.set_cons_succ])
            | (refine tameL_eql_six rfl (.tmp 33) (.tmp 35) rfl p.src q.src rfl rfl h.out.ls h'.out.ls h.out.bs h'.out.bs ?_; rw [b1.out]; simp only [Act.put, List.setIfInBounds_toArray, List.set_cons_zero, List.set_cons_succ])
            | (refine tameL_eql_six rfl (.tmp 40) (.tmp 42) rfl p.dst q.dst rfl rfl h.out.ld h'.out.ld h.out.bd h'.out.bd ?_; rw [b2.out]; simp only [Act.put, List.setIfInBounds_toArray, List.set_cons_zero, List.set_cons_succ])
            | (refine tameL_val (v := ?_) rfl (fun W hS => ?_) ?_; rotate_left; (· (subst hS; go_simp; try with_reducible rfl)); simp only [Act.put, List.setIfInBounds_toArray, List.set_cons_zero, List.set_cons_succ]))
          refine tameL_nil fun W hS => ?_
          subst hS
          go_wp2
          go_ret
          exact ⟨ret_bool (by unfold sameV; have := m3.out; simp [this]), hb.out⟩
        · have m3 := Lib.hid (eq_of_beq n3)
          cases b1 : (p.src == q.src)
          all_goals cases b2 : (p.dst == q.dst)
          all_goals replace b1 := Lib.hid b1
          all_goals replace b2 := Lib.hid b2
          · skip
            go_enter Try.func22, Try.ntmps22
            go_upto_region 1 with (fail)
            refine wp_region_seqT (fun W => W = (w.alloc (.cells P 26)).alloc (.cells P' 26)) rfl ?_
            repeat (first
              | (refine tameL_skip rfl ?_; simp only [Act.put, List.setIfInBounds_toArray, List.set_cons_zero, List.set_cons_succ])
              | (refine tameL_load_six rfl (.tmp 32) rfl w.heap.size 4 rfl p.src h.out.ls (fun W hS => by subst hS; exact hs1.out) ?_; simp only [Act.put, List.setIfInBounds_toArray, List.set_cons_zero, List.set_cons_succ])
              | (refine tameL_load_six rfl (.tmp 34) rfl (w.heap.size + 1) 4 rfl q.src h'.out.ls (fun W hS => by subst hS; exact hs2.out) ?_; simp only [Act.put, List.setIfInBounds_toArray, List.set_cons_zero, List.set_cons_succ])
              | (refine tameL_load_six rfl (.tmp 39) rfl w.heap.size 20 rfl p.dst h.out.ld (fun W hS => by subst hS; exact hs3.out) ?_; simp only [Act.put, List.setIfInBounds_toArray, List.set_cons_zero, List.set_cons_succ])
              | (refine tameL_load_six rfl (.tmp 41) rfl (w.heap.size + 1) 20 rfl q.dst h'.out.ld (fun W hS => by subst hS; exact hs4.out) ?_; simp only [Act.put, List.setIfInBounds_toArray, List.set_cons_zero, List.set_cons_succ])
              | (refine tameL_eql_six rfl (.tmp 33) (.tmp 35) rfl p.src q.src rfl rfl h.out.ls h'.out.ls h.out.bs h'.out.bs ?_; rw [b1.out]; simp only [Act.put, List.setIfInBounds_toArray, List.set_cons_zero, List.set_cons_succ])
              | (refine tameL_eql_six rfl (.tmp 40) (.tmp 42) rfl p.dst q.dst rfl rfl h.out.ld h'.out.ld h.out.bd h'.out.bd ?_; rw [b2.out]; simp only [Act.put, List.setIfInBounds_toArray, List.set_cons_zero, List.set_cons_succ])
              | (refine tameL_val (v := ?_) rfl (fun W hS => ?_) ?_; rotate_left; (· (subst hS; go_simp; try with_reducible rfl)); simp only [Act.put, List.setIfInBounds_toArray, List.set_cons_zero, List.set_cons_succ]))
            refine tameL_nil fun W hS => ?_
            subst hS
            go_wp2
            go_ret
            exact ⟨ret_bool (by unfold sameV; rw [b1.out]; rfl), hb.out⟩
          · skip
            go_enter Try.func22, Try.ntmps22
            go_upto_region 1 with (fail)
            refine wp_region_seqT (fun W => W = (w.alloc (.cells P 26)).alloc (.cells P' 26)) rfl ?_
            repeat (first
              | (refine tameL_skip rfl ?_; simp only [Act.put, List.setIfInBounds_toArray, List.set_cons_zero, List.set_cons_succ])
              | (refine tameL_load_six rfl (.tmp 32) rfl w.heap.size 4 rfl p.src h.out.ls (fun W hS => by subst hS; exact hs1.out) ?_; simp only [Act.put, List.setIfInBounds_toArray, List.set_cons_zero, List.set_cons_succ])
              | (refine tameL_load_six rfl (.tmp 34) rfl (w.heap.size + 1) 4 rfl q.src h'.out.ls (fun W hS => by subst hS; exact hs2.out) ?_; simp only [Act.put, List.setIfInBounds_toArray, List.set_cons_zero, List.set_cons_succ])
              | (refine tameL_load_six rfl (.tmp 39) rfl w.heap.size 20 rfl p.dst h.out.ld (fun W hS => by subst hS; exact hs3.out) ?_; simp only [Act.put, List.setIfInBounds_toArray, List.set_cons_zero, List.set_cons_succ])
              | (refine tameL_load_six rfl (.tmp 41) rfl (w.heap.size + 1) 20 rfl q.dst h'.out.ld (fun W hS => by subst hS; exact hs4.out) ?_; simp only [Act.put, List.setIfInBounds_toArray, List.set_cons_zero, List.set_cons_succ])
              | (refine tameL_eql_six rfl (.tmp 33) (.tmp 35) rfl p.src q.src rfl rfl h.out.ls h'.out.ls h.out.bs h'.out.bs ?_; rw [b1.out]; simp only [Act.put, List.setIfInBounds_toArray, List.set_cons_zero, List.set_cons_succ])
              | (refine tameL_eql_six rfl (.tmp 40) (.tmp 42) rfl p.dst q.dst rfl rfl h.out.ld h'.out.ld h.out.bd h'.out.bd ?_; rw [b2.out]; simp only [Act.put, List.setIfInBounds_toArray, List.set_cons_zero, List.set_cons_succ])
              | (refine tameL_val (v := ?_) rfl (fun W hS => ?_) ?_; rotate_left; (· (subst hS; go_simp; try with_reducible rfl)); simp only [Act.put, List.setIfInBounds_toArray, List.set_cons_zero, List.set_cons_succ]))
            refine tameL_nil fun W hS => ?_
            subst hS
            go_wp2
            go_ret
            exact ⟨ret_bool (by unfold sameV; rw [b1.out]; rfl), hb.out⟩
          · skip
            go_enter Try.func22, Try.ntmps22
            go_upto_region 1 with (fail)
            refine wp_region_seqT (fun W => W = (w.alloc (.cells P 26)).alloc (.cells P' 26)) rfl ?_
            repeat (first
              | (refine tameL_skip rfl ?_; simp only [Act.put, List.setIfInBounds_toArray, List.set_cons_zero, List.set_cons_succ])
              | (refine tameL_load_six rfl (.tmp 32) rfl w.heap.size 4 rfl p.src h.out.ls (fun W hS => by subst hS; exact hs1.out) ?_; simp only [Act.put, List.setIfInBounds_toArray, List.set_cons_zero, List.set_cons_succ])
              | (refine tameL_load_six rfl (.tmp 34) rfl (w.heap.size + 1) 4 rfl q.src h'.out.ls (fun W hS => by subst hS; exact hs2.out) ?_; simp only [Act.put, List.setIfInBounds_toArray, List.set_cons_zero, List.set_cons_succ])
              | (refine tameL_load_six rfl (.tmp 39) rfl w.heap.size 20 rfl p.dst h.out.ld (fun W hS => by subst hS; exact hs3.out) ?_; simp only [Act.put, List.setIfInBounds_toArray, List.set_cons_zero, List.set_cons_succ])
              | (refine tameL_load_six rfl (.tmp 41) rfl (w.heap.size + 1) 20 rfl q.dst h'.out.ld (fun W hS => by subst hS; exact hs4.out) ?_; simp only [Act.put, List.setIfInBounds_toArray, List.set_cons_zero, List.set_cons_succ])
              | (refine tameL_eql_six rfl (.tmp 33) (.tmp 35) rfl p.src q.src rfl rfl h.out.ls h'.out.ls h.out.bs h'.out.bs ?_; rw [b1.out]; simp only [Act.put, List.setIfInBounds_toArray, List.set_cons_zero, List.set_cons_succ])
              | (refine tameL_eql_six rfl (.tmp 40) (.tmp 42) rfl p.dst q.dst rfl rfl h.out.ld h'.out.ld h.out.bd h'.out.bd ?_; rw [b2.out]; simp only [Act.put, List.setIfInBounds_toArray, List.set_cons_zero, List.set_cons_succ])
              | (refine tameL_val (v := ?_) rfl (fun W hS => ?_) ?_; rotate_left; (· (subst hS; go_simp; try with_reducible rfl)); simp only [Act.put, List.setIfInBounds_toArray, List.set_cons_zero, List.set_cons_succ]))
            refine tameL_nil fun W hS => ?_
            subst hS
            go_wp2
            go_ret
            exact ⟨ret_bool (by unfold sameV; rw [b1.out, b2.out]; rfl), hb.out⟩
          · skip
            go_enter Try.func22, Try.ntmps22
            go_upto_region 1 with (fail)
            refine wp_region_seqT (fun W => W = (w.alloc (.cells P 26)).alloc (.cells P' 26)) rfl ?_
            repeat (first
              | (refine tameL_skip rfl ?_; simp only [Act.put, List.setIfInBounds_toArray, List.set_cons_zero, List.set_cons_succ])
              | (refine tameL_load_six rfl (.tmp 32) rfl w.heap.size 4 rfl p.src h.out.ls (fun W hS => by subst hS; exact hs1.out) ?_; simp only [Act.put, List.setIfInBounds_toArray, List.set_cons_zero, List.set_cons_succ])
              | (refine tameL_load_six rfl (.tmp 34) rfl (w.heap.size + 1) 4 rfl q.src h'.out.ls (fun W hS => by subst hS; exact hs2.out) ?_; simp only [Act.put, List.setIfInBounds_toArray, List.set_cons_zero, List.set_cons_succ])
              | (refine tameL_load_six rfl (.tmp 39) rfl w.heap.size 20 rfl p.dst h.out.ld (fun W hS => by subst hS; exact hs3.out) ?_; simp only [Act.put, List.setIfInBounds_toArray, List.set_cons_zero, List.set_cons_succ])
              | (refine tameL_load_six rfl (.tmp 41) rfl (w.heap.size + 1) 20 rfl q.dst h'.out.ld (fun W hS => by subst hS; exact hs4.out) ?_; simp only [Act.put, List.setIfInBounds_toArray, List.set_cons_zero, List.set_cons_succ])
              | (refine tameL_eql_six rfl (.tmp 33) (.tmp 35) rfl p.src q.src rfl rfl h.out.ls h'.out.ls h.out.bs h'.out.bs ?_; rw [b1.out]; simp only [Act.put, List.setIfInBounds_toArray, List.set_cons_zero, List.set_cons_succ])
              | (refine tameL_eql_six rfl (.tmp 40) (.tmp 42) rfl p.dst q.dst rfl rfl h.out.ld h'.out.ld h.out.bd h'.out.bd ?_; rw [b2.out]; simp only [Act.put, List.setIfInBounds_toArray, List.set_cons_zero, List.set_cons_succ])
              | (refine tameL_val (v := ?_) rfl (fun W hS => ?_) ?_; rotate_left; (· (subst hS; go_simp; try with_reducible rfl)); simp only [Act.put, List.setIfInBounds_toArray, List.set_cons_zero, List.set_cons_succ]))
            refine tameL_nil fun W hS => ?_
            subst hS
            go_wp2
            go_ret
            exact ⟨ret_bool (by unfold sameV; rw [b1.out, b2.out, m0.out, m1.out, m2.out, m3.out]; first | rfl | simp | (simp; done)), hb.out⟩
end Go.Proofs.Ytbbdkfadcafpfaa
