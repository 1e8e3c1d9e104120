/- Addresses of IPv4 as ones of IPv6 (the reference): walk of Plain; num; check. -/
import Derived.Test.YtldjecilmcnpiaaPcpQ
import Derived.Test.YtldjecilmcnpiaaPcpL
import Derived.Test.YtldjecilmcnpiaaPcpJ
import Derived.Test.YtldjecilmcnpiaaRefl
set_option linter.unusedVariables false
namespace Go.Proofs.Ytldjecilmcnpiaa
open Go Go.RowKit

def numS (s : List Int) : Int := s[12]?.getD 0 * 16777216 + s[13]?.getD 0 * 65536 + s[14]?.getD 0 * 256 + s[15]?.getD 0
theorem plainV_ref (s : List Int) (hs : Six s) : plainV s = if (mapL (numS s) == s) = true then (numS s, true) else (0, false) := by
  have hn : (getV s 12 4).1 = numS s := by
    have hl := hs.len
    unfold getV
    rw [if_neg (by omega), if_neg (by omega)]
    show beNum (cutI s 12 4) = _
    unfold cutI numS
    revert hl
    refine fun hl => sixteen (P := fun s => beNum ((s.drop 12).take 4) = s[12]?.getD 0 * 16777216 + s[13]?.getD 0 * 65536 + s[14]?.getD 0 * 256 + s[15]?.getD 0) ?_ s hl
    intro x0 x1 x2 x3 x4 x5 x6 x7 x8 x9 x10 x11 x12 x13 x14 x15
    simp [beNum]
    omega
  have hmp := map_plain s hs
  unfold plainV at hmp ⊢
  by_cases hp : s.take 12 = pre12
  · rw [if_pos hp] at hmp ⊢
    have := hmp rfl
    rw [hn] at this ⊢
    rw [if_pos (by rw [this]; simp)]
  · rw [if_neg hp]
    rw [if_neg]
    intro h
    rw [beq_iff_eq] at h
    apply hp
    rw [← h]
    unfold mapL
    exact List.take_left' rfl
theorem exec_neq_six {op : Oper} {a : Act} {w : World} (x y : Operand) (ho : op.op = .binOp .neq 44 x y 44) (xs ys : List Int) (ex : a.eval x = .agg (cells6 xs)) (ey : a.eval y = .agg (cells6 ys)) (hx : Six xs) (hy : Six ys) (q : Bool) (hq : (!(xs == ys)) = q) :
    (execOp a.eval op).run Try.prog w = .ok (.value (.bool q)) w := by
  unfold execOp
  have hm : Try.prog.eqGuardType Try.prog.depth 44 = false := by kernel_rfl
  simp only [ho, ex, ey, Sem.run_bind, run_eqGuard_agg w _ _ _ _ _ _ hm, run_neq_struct, equalIn_six w hx.len hy.len hx.byt hy.byt, Result.andThen_ok, Sem.run_pure, hq]
theorem en_RMapped (args : Array Value) (w : World) : (callFunc 39 args).run Try.prog w = .ok (.enter 39 args) w := enters Try.func39 (by kernel_rfl) (by kernel_rfl) args w
set_option maxRecDepth 100000 in
set_option maxHeartbeats 1000000 in
theorem RefPlain_any (s : List Int) (hs : Six s) (w : World) : Calls Try.prog 38 #[.agg (cells6 s)] w fun e w' => e = .returned (.tuple #[.int .i64 (plainV s).1, .bool (plainV s).2]) ∧ Below w.heap.size w w' := by
  have hk := Blk.new w (cells6 s) 44
  have hb := Lib.hid ((Below.refl _ w).alloc (Nat.le_refl _) (.cells (cells6 s) 44))
  have hc : ∀ j, j < 16 → (w.alloc (.cells (cells6 s) 44)).cell? ⟨w.heap.size, j, none⟩ = some (.int .u8 (s[j]?.getD 0)) := fun j hj => hk.cell j _ (by rw [List.getElem?_toArray]; exact u8s_get s j (by rw [hs.len]; exact hj))
  have c12 := hc 12 (by omega)
  have c13 := hc 13 (by omega)
  have c14 := hc 14 (by omega)
  have c15 := hc 15 (by omega)
  have y12 := hs.byt.get 12
  have y13 := hs.byt.get 13
  have y14 := hs.byt.get 14
  have y15 := hs.byt.get 15
  have hpl := plainV_ref s hs
  have hnS : numS s = s[12]?.getD 0 * 16777216 + s[13]?.getD 0 * 65536 + s[14]?.getD 0 * 256 + s[15]?.getD 0 := rfl
  generalize numS s = n at *
  generalize s[12]?.getD 0 = x12 at *
  generalize s[13]?.getD 0 = x13 at *
  generalize s[14]?.getD 0 = x14 at *
  generalize s[15]?.getD 0 = x15 at *
  subst hnS
  have h16 := Lib.hid (show (cells6 s).size = 16 by simp [u8s_length, hs.len])
  have hV := Lib.hid (show (Try.prog.info? 44).map (·.size) = some (cells6 s).size by rw [h16.out]; exact info_six)
  have hM := Lib.hid (fun W => RefMapped_any (x12 * 16777216 + x13 * 65536 + x14 * 256 + x15) W)
  have hms := Lib.hid (mapL_six (x12 * 16777216 + x13 * 65536 + x14 * 256 + x15))
  have hs' := Lib.hid hs
  replace hpl := Lib.hid hpl
  replace hk := Lib.hid hk
  clear hc hs
  generalize mapL (x12 * 16777216 + x13 * 65536 + x14 * 256 + x15) = m at *
  go_enter Try.func38, Try.ntmps38
  go_wp2_with fail
  obtain ⟨w0, hw0⟩ : ∃ w0, w.alloc (.cells (cells6 s) 44) = w0 := ⟨_, rfl⟩
  rw [hw0] at hk hb ⊢
  clear c12 c13 c14 c15 hw0
  have hK := Lib.hid (show ∀ W W', (fun W => Below w0.heap.size w0 W) W → Below W.heap.size W W' → (fun W => Below w0.heap.size w0 W) W' from fun W W' h1 h2 => h1.trans (h2.mono h1.size))
  have hA := Lib.hid (fun W (hW : Below w0.heap.size w0 W) => (hk.out.to hW).at_)
  obtain ⟨q, hmq⟩ : ∃ q, (m == s) = q := ⟨_, rfl⟩
  have hqn := Lib.hid (show (!(m == s)) = !q by rw [hmq])
  have hpl2 := hpl.out
  rw [hmq] at hpl2
  replace hpl := Lib.hid hpl2
  clear hpl2
  replace hmq := Lib.hid hmq
  refine wp_region_tame (fun W => Below w0.heap.size w0 W) (by kernel_rfl) (by kernel_rfl) (Below.refl _ _).drew ?_
  repeat (first
    | (refine tameL_skip rfl ?_; simp only [Act.put, List.setIfInBounds_toArray, List.set_cons_zero, List.set_cons_succ])
    | (refine tameL_call1 (v := .agg (cells6 m)) rfl 39 (.tmp 23) _ rfl en_RMapped rfl ?_ ?_; exact fun W hS => (hM.out W).mono fun e W' ⟨he, hb⟩ => ⟨he, hK.out W W' hS hb⟩; simp only [Act.put, List.setIfInBounds_toArray, List.set_cons_zero, List.set_cons_succ])
    | (refine tameL_row rfl 44 (.tmp 1) rfl w.heap.size rfl _ (cells6 s) _ _ (fun W hS => hA.out W hS) Try.underlying44 rfl hV.out ?_; simp only [Act.put, List.setIfInBounds_toArray, List.set_cons_zero, List.set_cons_succ])
    | (refine tameL_val (v := .bool (!q)) rfl (fun W hS => exec_neq_six (.tmp 24) (.tmp 25) rfl m s rfl rfl hms.out hs'.out (!q) hqn.out) ?_; simp only [Act.put, List.setIfInBounds_toArray, List.set_cons_zero, List.set_cons_succ])
    | (refine tameL_val (v := ?_) rfl (fun W hS => ?_) ?_; rotate_left; (· (clear hS; go_simp; try with_reducible rfl)); simp only [Act.put, List.setIfInBounds_toArray, List.set_cons_zero, List.set_cons_succ]))
  refine tameL_nil fun W hS => ?_
  cases q
  · go_wp2
    go_ret2
    exact ⟨by rw [hpl.out]; rfl, hb.out.trans (hS.mono hb.out.size)⟩
  · go_wp2
    go_ret2
    exact ⟨by rw [hpl.out]; rfl, hb.out.trans (hS.mono hb.out.size)⟩
set_option maxHeartbeats 1000000 in
theorem RNum43_any (A : Option Addr) (n c : Nat) (bs : List Int) (a s : Int) (w : World) (h : RB w A n c bs) (hn : n ≤ 100000) :
    Calls Try.prog 75 #[.slice A n c, .int .i64 a, .int .i64 s] w fun e w' => e = .returned (.int .i64 (getV bs a s).1) ∧ w = w' := by
  have hG := Lib.hid (RefGet_any A n c bs a s w h hn)
  clear h
  go_enter Try.func75, Try.ntmps75
  go_wp2_with (first
    | (go_at_call 107; refine (hG.out).mono ?_; rintro e w' ⟨rfl, rfl⟩)
    | fail)
  go_ret
  exact ⟨rfl, rfl⟩
end Go.Proofs.Ytldjecilmcnpiaa
