/- Packets of IPv6: whether two are the same: walks, program and reference. -/
import Derived.Test.YtbbdkfadcafpfaaEqArr
import Derived.Test.YtbbdkfadcafpfaaV6B
import Derived.Test.YtbbdkfadcafpfaaTame
import Derived.Deep.Cut
set_option linter.unusedVariables false
namespace Go.Proofs.Ytbbdkfadcafpfaa
open Go.RowKit

section
variable {ops : Array Oper} {Q : Exit → Act → World → Prop} {S : World → Prop} {a : Act} {rest : List Oper} {op : Oper}
theorem tameL_load_six (hw : Region.wanted op (yielded ops a.tmps) = true) (x : Operand) (ho : op.op = .load 23 x)
    (b o : Nat) (hx : a.eval x = .pointer (some ⟨b, o, none⟩)) (bs : List Int) (hl : bs.length = 16) (hc : ∀ w, S w → ∀ j, j < 16 → w.cell? ⟨b, o + j, none⟩ = some (.int .u8 (bs[j]?.getD 0)))
    (h : tameL Try.prog ops Q S rest (a.put op.dst (.agg (u8s bs).toArray))) : tameL Try.prog ops Q S (op :: rest) a :=
  tameL_val hw (fun w hS => by
    unfold execOp
    have hr : w.rangeAt b o (u8s bs) := fun j v hv => by
      have hj : j < bs.length := by have := (List.getElem?_eq_some_iff.1 hv).1; rwa [u8s_length] at this
      rw [u8s_get bs j hj] at hv
      rw [hc w hS j (by omega), ← hv]
    simp only [ho, hx, Instr.loadAt, Instr.sureAddr, Sem.run_bind, Sem.run_pure, Result.andThen_ok, run_loadVar_mid w b o 23 (u8s bs) _ hr Try.underlying23 rfl (by rw [info_six, u8s_length, hl])]) h
theorem tameL_eql_six (hw : Region.wanted op (yielded ops a.tmps) = true) (x y : Operand) (ho : op.op = .binOp .eql 23 x y 23)
    (xs ys : List Int) (ex : a.eval x = .agg (u8s xs).toArray) (ey : a.eval y = .agg (u8s ys).toArray) (hx : xs.length = 16) (hy : ys.length = 16) (bx : Byts xs) (bY : Byts ys)
    (h : tameL Try.prog ops Q S rest (a.put op.dst (.bool (xs == ys)))) : tameL Try.prog ops Q S (op :: rest) a :=
  tameL_val hw (fun w hS => by
    unfold execOp
    have hm : Try.prog.eqGuardType Try.prog.depth 23 = false := by kernel_rfl
    simp only [ho, ex, ey, Sem.run_bind, run_eqGuard_agg w _ _ _ _ _ _ hm, run_eql_struct, equalIn_six w hx hy bx bY, Result.andThen_ok, Sem.run_pure]) h
end

/-- Whether two packets are the same. -/
def sameV (p q : V6P) : Bool := p.src == q.src && p.dst == q.dst && ([p.t, p.fl, p.nx, p.hp] == [q.t, q.fl, q.nx, q.hp]) && p.data == q.data


set_option maxRecDepth 100000 in
set_option maxHeartbeats 1000000 in
theorem V6Same_any (P P' : Array Value) (p q : V6P) (A A' : Option Addr) (n c n' c' : Nat) (w : World) (h : V6V P p A n c) (h' : V6V P' q A' n' c') (hr : RB w A n c p.data) (hr' : RB w A' n' c' q.data) :
    Calls Try.prog 21 #[.agg P, .agg P'] w fun e w' => e = .returned (.bool (sameV p q)) ∧ Below w.heap.size w w' := by
  have hb := ((Below.refl _ w).alloc (Nat.le_refl _) (.cells P 26)).alloc (by simp) (.cells P' 26)
  have hv1 := (VBox.new w P 26).alloc (.cells P' 26)
  have hv2 := VBox.new (w.alloc (.cells P 26)) P' 26
  have hz : (w.alloc (.cells P 26)).heap.size = w.heap.size + 1 := by simp
  rw [hz] at hv2
  clear hz
  replace hr := (hr.alloc (.cells P 26)).alloc (.cells P' 26)
  replace hr' := (hr'.alloc (.cells P 26)).alloc (.cells P' 26)
  have hs1 := Lib.hid (fun j hj => hv1.at_ _ _ (h.hs j hj))
  have hs2 := Lib.hid (fun j hj => hv2.at_ _ _ (h'.hs j hj))
  have hs3 := Lib.hid (fun j hj => hv1.at_ _ _ (h.hd j hj))
  have hs4 := Lib.hid (fun j hj => hv2.at_ _ _ (h'.hd j hj))
  have x0 := hv1.at_ _ _ h.h0
  have x1 := hv1.at_ _ _ h.h1
  have x2 := hv1.at_ _ _ h.h2
  have x3 := hv1.at_ _ _ h.h3
  have x6 := hv1.at_ _ _ h.h36
  have y0 := hv2.at_ _ _ h'.h0
  have y1 := hv2.at_ _ _ h'.h1
  have y2 := hv2.at_ _ _ h'.h2
  have y3 := hv2.at_ _ _ h'.h3
  have y6 := hv2.at_ _ _ h'.h36
  replace h := Lib.hid h
  replace h' := Lib.hid h'
  replace hb := Lib.hid hb
  replace hr := Lib.hid hr
  replace hr' := Lib.hid hr'
  clear hv1 hv2
  have hm4 := Lib.hid (show Try.prog.eqGuardType Try.prog.depth 79 = false by kernel_rfl)
  cases b1 : (p.src == q.src)
  all_goals cases b2 : (p.dst == q.dst)
  all_goals replace b1 := Lib.hid b1
  all_goals replace b2 := Lib.hid b2
  · skip
    go_enter Try.func21, Try.ntmps21
    go_wp2_with (first
      | (refine wpList_load_six rfl (.tmp 6) rfl w.heap.size 4 rfl p.src h.out.ls hs1.out ?_)
      | (refine wpList_load_six rfl (.tmp 8) rfl (w.heap.size + 1) 4 rfl q.src h'.out.ls hs2.out ?_)
      | (refine wpList_load_six rfl (.tmp 12) rfl w.heap.size 20 rfl p.dst h.out.ld hs3.out ?_)
      | (refine wpList_load_six rfl (.tmp 14) rfl (w.heap.size + 1) 20 rfl q.dst h'.out.ld hs4.out ?_)
      | (refine wpList_neq_six rfl (.tmp 7) (.tmp 9) rfl p.src q.src rfl rfl h.out.ls h'.out.ls h.out.bs h'.out.bs ?_; rw [b1.out])
      | (refine wpList_neq_six rfl (.tmp 13) (.tmp 15) rfl p.dst q.dst rfl rfl h.out.ld h'.out.ld h.out.bd h'.out.bd ?_; rw [b2.out])
      | (refine wpList_eql_ints rfl 79 (.tmp 26) (.tmp 35) rfl 4 Try.underlying79 hm4.out [p.t, p.fl, p.nx, p.hp] [q.t, q.fl, q.nx, q.hp] rfl rfl rfl rfl ?_; first | rw [b3.out] | skip)
      | (go_at_call 16; refine (Equal_any _ _ _ _ _ _ _ _ _ hr.out hr'.out).mono ?_; rintro e w' ⟨rfl, rfl⟩)
      | fail)
    go_ret
    exact ⟨ret_bool (by simp [sameV, b1.out]), hb.out⟩
  · skip
    go_enter Try.func21, Try.ntmps21
    go_wp2_with (first
      | (refine wpList_load_six rfl (.tmp 6) rfl w.heap.size 4 rfl p.src h.out.ls hs1.out ?_)
      | (refine wpList_load_six rfl (.tmp 8) rfl (w.heap.size + 1) 4 rfl q.src h'.out.ls hs2.out ?_)
      | (refine wpList_load_six rfl (.tmp 12) rfl w.heap.size 20 rfl p.dst h.out.ld hs3.out ?_)
      | (refine wpList_load_six rfl (.tmp 14) rfl (w.heap.size + 1) 20 rfl q.dst h'.out.ld hs4.out ?_)
      | (refine wpList_neq_six rfl (.tmp 7) (.tmp 9) rfl p.src q.src rfl rfl h.out.ls h'.out.ls h.out.bs h'.out.bs ?_; rw [b1.out])
      | (refine wpList_neq_six rfl (.tmp 13) (.tmp 15) rfl p.dst q.dst rfl rfl h.out.ld h'.out.ld h.out.bd h'.out.bd ?_; rw [b2.out])
      | (refine wpList_eql_ints rfl 79 (.tmp 26) (.tmp 35) rfl 4 Try.underlying79 hm4.out [p.t, p.fl, p.nx, p.hp] [q.t, q.fl, q.nx, q.hp] rfl rfl rfl rfl ?_; first | rw [b3.out] | skip)
      | (go_at_call 16; refine (Equal_any _ _ _ _ _ _ _ _ _ hr.out hr'.out).mono ?_; rintro e w' ⟨rfl, rfl⟩)
      | fail)
    go_ret
    exact ⟨ret_bool (by simp [sameV, b1.out]), hb.out⟩
  · skip
    go_enter Try.func21, Try.ntmps21
    go_wp2_with (first
      | (refine wpList_load_six rfl (.tmp 6) rfl w.heap.size 4 rfl p.src h.out.ls hs1.out ?_)
      | (refine wpList_load_six rfl (.tmp 8) rfl (w.heap.size + 1) 4 rfl q.src h'.out.ls hs2.out ?_)
      | (refine wpList_load_six rfl (.tmp 12) rfl w.heap.size 20 rfl p.dst h.out.ld hs3.out ?_)
      | (refine wpList_load_six rfl (.tmp 14) rfl (w.heap.size + 1) 20 rfl q.dst h'.out.ld hs4.out ?_)
      | (refine wpList_neq_six rfl (.tmp 7) (.tmp 9) rfl p.src q.src rfl rfl h.out.ls h'.out.ls h.out.bs h'.out.bs ?_; rw [b1.out])
      | (refine wpList_neq_six rfl (.tmp 13) (.tmp 15) rfl p.dst q.dst rfl rfl h.out.ld h'.out.ld h.out.bd h'.out.bd ?_; rw [b2.out])
      | (refine wpList_eql_ints rfl 79 (.tmp 26) (.tmp 35) rfl 4 Try.underlying79 hm4.out [p.t, p.fl, p.nx, p.hp] [q.t, q.fl, q.nx, q.hp] rfl rfl rfl rfl ?_; first | rw [b3.out] | skip)
      | (go_at_call 16; refine (Equal_any _ _ _ _ _ _ _ _ _ hr.out hr'.out).mono ?_; rintro e w' ⟨rfl, rfl⟩)
      | fail)
    go_ret
    exact ⟨ret_bool (by simp [sameV, b1.out, b2.out]), hb.out⟩
  · cases b3 : ([p.t, p.fl, p.nx, p.hp] == [q.t, q.fl, q.nx, q.hp])
    all_goals replace b3 := Lib.hid b3
    · skip
      go_enter Try.func21, Try.ntmps21
      go_wp2_with (first
        | (refine wpList_load_six rfl (.tmp 6) rfl w.heap.size 4 rfl p.src h.out.ls hs1.out ?_)
        | (refine wpList_load_six rfl (.tmp 8) rfl (w.heap.size + 1) 4 rfl q.src h'.out.ls hs2.out ?_)
        | (refine wpList_load_six rfl (.tmp 12) rfl w.heap.size 20 rfl p.dst h.out.ld hs3.out ?_)
        | (refine wpList_load_six rfl (.tmp 14) rfl (w.heap.size + 1) 20 rfl q.dst h'.out.ld hs4.out ?_)
        | (refine wpList_neq_six rfl (.tmp 7) (.tmp 9) rfl p.src q.src rfl rfl h.out.ls h'.out.ls h.out.bs h'.out.bs ?_; rw [b1.out])
        | (refine wpList_neq_six rfl (.tmp 13) (.tmp 15) rfl p.dst q.dst rfl rfl h.out.ld h'.out.ld h.out.bd h'.out.bd ?_; rw [b2.out])
        | (refine wpList_eql_ints rfl 79 (.tmp 26) (.tmp 35) rfl 4 Try.underlying79 hm4.out [p.t, p.fl, p.nx, p.hp] [q.t, q.fl, q.nx, q.hp] rfl rfl rfl rfl ?_; first | rw [b3.out] | skip)
        | (go_at_call 16; refine (Equal_any _ _ _ _ _ _ _ _ _ hr.out hr'.out).mono ?_; rintro e w' ⟨rfl, rfl⟩)
        | fail)
      go_ret
      exact ⟨ret_bool (by unfold sameV; rw [b1.out, b2.out, b3.out]; rfl), hb.out⟩
    · skip
      go_enter Try.func21, Try.ntmps21
      go_wp2_with (first
        | (refine wpList_load_six rfl (.tmp 6) rfl w.heap.size 4 rfl p.src h.out.ls hs1.out ?_)
        | (refine wpList_load_six rfl (.tmp 8) rfl (w.heap.size + 1) 4 rfl q.src h'.out.ls hs2.out ?_)
        | (refine wpList_load_six rfl (.tmp 12) rfl w.heap.size 20 rfl p.dst h.out.ld hs3.out ?_)
        | (refine wpList_load_six rfl (.tmp 14) rfl (w.heap.size + 1) 20 rfl q.dst h'.out.ld hs4.out ?_)
        | (refine wpList_neq_six rfl (.tmp 7) (.tmp 9) rfl p.src q.src rfl rfl h.out.ls h'.out.ls h.out.bs h'.out.bs ?_; rw [b1.out])
        | (refine wpList_neq_six rfl (.tmp 13) (.tmp 15) rfl p.dst q.dst rfl rfl h.out.ld h'.out.ld h.out.bd h'.out.bd ?_; rw [b2.out])
        | (refine wpList_eql_ints rfl 79 (.tmp 26) (.tmp 35) rfl 4 Try.underlying79 hm4.out [p.t, p.fl, p.nx, p.hp] [q.t, q.fl, q.nx, q.hp] rfl rfl rfl rfl ?_; first | rw [b3.out] | skip)
        | (go_at_call 16; refine (Equal_any _ _ _ _ _ _ _ _ _ hr.out hr'.out).mono ?_; rintro e w' ⟨rfl, rfl⟩)
        | fail)
      go_ret
      exact ⟨ret_bool (by unfold sameV; rw [b1.out, b2.out, b3.out]; rfl), hb.out⟩
end Go.Proofs.Ytbbdkfadcafpfaa
