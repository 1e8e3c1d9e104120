/- Slices of bytes are compared (slices.Equal): walk. -/
import Derived.Test.YtldjecilmcnpiaaMem
import Derived.Test.YtldjecilmcnpiaaTame
set_option linter.unusedVariables false
namespace Go.Proofs.Ytldjecilmcnpiaa
open Go Go.RowKit
attribute [local go_sem] Oper.semAt_some

theorem take_succ_eq {xs ys : List Int} {j : Nat} (h : xs.take j = ys.take j) (hx : j < xs.length) (hy : j < ys.length) (e : xs[j]?.getD 0 = ys[j]?.getD 0) : xs.take (j + 1) = ys.take (j + 1) := by
  rw [List.take_add_one, List.take_add_one, h]
  rw [List.getElem?_eq_getElem hx, List.getElem?_eq_getElem hy, Option.getD_some, Option.getD_some] at e
  rw [List.getElem?_eq_getElem hx, List.getElem?_eq_getElem hy, e]
set_option maxRecDepth 100000 in
set_option maxHeartbeats 1000000 in
theorem EqualB_any (A A' : Option Addr) (n c n' c' : Nat) (bs ys : List Int) (w : World) (h : RB w A n c bs) (h' : RB w A' n' c' ys) (hn : n ≤ 100000) (hn' : n' ≤ 100000) :
    Calls Try.prog 70 #[.slice A n c, .slice A' n' c'] w fun e w' => e = .returned (.bool (bs == ys)) ∧ Below w.heap.size w w' := by
  have hl := h.len
  have hl' := h'.len
  by_cases hne : n = n'
  · subst hne
    have hbt := Lib.hid (Below.refl w.heap.size w)
    replace h := Lib.hid h
    replace h' := Lib.hid h'
    go_enter Try.func70, Try.ntmps70
    go_wp2
    go_loopw [13] (fun i wr => ∃ j : Nat, j ≤ n ∧ i = .int .i64 j ∧ bs.take j = ys.take j ∧ Below w.heap.size w wr) (fun i _ => n - (intOf i).toNat)
    case atStart => exact ⟨0, Nat.zero_le _, rfl, rfl, hbt.out⟩
    case round =>
      obtain ⟨j, hj, rfl, htk, hBl⟩ := hrel
      by_cases hlt : j < n
      · obtain ⟨b, off, rfl, hlb, hc⟩ := h.out.mem (by omega)
        obtain ⟨b', off', rfl, hlb', hc'⟩ := h'.out.mem (by omega)
        have g1 := hc j hlt
        have g2 := hc' j hlt
        have hC1 := Lib.hid (show ∀ W, (fun W => Below w.heap.size w W) W → W.cell? ⟨b, off + j, none⟩ = some (.int .u8 (bs[j]?.getD 0)) ∧ W.cell? ⟨b', off' + j, none⟩ = some (.int .u8 (ys[j]?.getD 0)) ∧ True from fun W hW => ⟨(hW.cell (p := ⟨b, off + j, none⟩) hlb).trans g1, (hW.cell (p := ⟨b', off' + j, none⟩) hlb').trans g2, trivial⟩)
        have hnx := Lib.hid (fun e => take_succ_eq htk (by omega) (by omega) e)
        have hno := Lib.hid (fun (e : bs = ys) => show bs[j]?.getD 0 = ys[j]?.getD 0 by rw [e])
        have hge : decide ((n : Int) ≤ (j : Int)) = false := by simp; omega
        have hge2 : decide (n ≤ j) = false := by simp; omega
        have hlti : (j : Int) < (n : Int) := by omega
        clear hc hc' g1 g2 hl hl' htk
        generalize bs[j]?.getD 0 = x at *
        generalize ys[j]?.getD 0 = y at *
        have hbn : x ≠ y → (bs == ys) = false := fun hq => by
          rw [beq_eq_false_iff_ne]
          exact fun e => hq (hno.out e)
        replace hbn := Lib.hid hbn
        clear hno
        by_cases hxy : x = y
        · subst hxy
          clear hbn
          go_wp2
          refine wp_region_tame (fun W => Below w.heap.size w W) (by kernel_rfl) (by kernel_rfl) hBl.drew ?_
          repeat (first
            | (refine tameL_skip rfl ?_; simp only [Act.put, List.setIfInBounds_toArray, List.set_cons_zero, List.set_cons_succ])
            | (refine tameL_val (v := ?_) rfl (fun W hS => ?_) ?_; rotate_left; (· (obtain ⟨g0, g1, g2⟩ := hC1.out W hS; clear hS; go_simp; try with_reducible rfl)); simp only [Act.put, List.setIfInBounds_toArray, List.set_cons_zero, List.set_cons_succ]))
          refine tameL_nil fun W hS => ?_
          go_wp2
          go_roundw
          case rel => exact ⟨j + 1, by omega, by go_num, hnx.out (by first | rfl | trivial), hS⟩
          case measure => simp [intOf]; omega
        · have hq := hbn.out hxy
          have hxb : (x != y) = true := by simpa using hxy
          clear hbn hxy hnx
          replace hq := Lib.hid hq
          go_wp2
          refine wp_region_tame (fun W => Below w.heap.size w W) (by kernel_rfl) (by kernel_rfl) hBl.drew ?_
          repeat (first
            | (refine tameL_skip rfl ?_; simp only [Act.put, List.setIfInBounds_toArray, List.set_cons_zero, List.set_cons_succ])
            | (refine tameL_val (v := ?_) rfl (fun W hS => ?_) ?_; rotate_left; (· (obtain ⟨g0, g1, g2⟩ := hC1.out W hS; clear hS; go_simp; try with_reducible rfl)); simp only [Act.put, List.setIfInBounds_toArray, List.set_cons_zero, List.set_cons_succ]))
          refine tameL_nil fun W hS => ?_
          go_wp2
          go_ret
          exact ⟨by rw [hq.out]; rfl, hS⟩
      · obtain rfl : j = n := by omega
        rw [List.take_of_length_le (by omega), List.take_of_length_le (by omega)] at htk
        have hq := Lib.hid (show (bs == ys) = true by rw [htk]; simp)
        clear htk
        go_wp2
        go_ret
        exact ⟨by rw [hq.out]; rfl, hBl⟩
  · have hq := Lib.hid (show (bs == ys) = false by rw [beq_eq_false_iff_ne]; intro e; rw [e] at hl; omega)
    have hnb : ((n : Int) != (n' : Int)) = true := by simp; omega
    clear h h' hl hl'
    go_enter Try.func70, Try.ntmps70
    go_wp2
    go_ret
    exact ⟨by rw [hq.out]; rfl, Below.refl _ _⟩
end Go.Proofs.Ytldjecilmcnpiaa
