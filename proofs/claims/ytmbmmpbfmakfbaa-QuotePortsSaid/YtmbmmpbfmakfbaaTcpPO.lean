/- Segments (tcp): walk of Parse where bytes are one. -/
import Derived.Test.YtmbmmpbfmakfbaaWrit
set_option linter.unusedVariables false
namespace Go.Proofs.Ytmbmmpbfmakfbaa
open Go.RowKit

section
variable {P : Program}
theorem exec_clo2 {o : Oper} {a : Act} (fn : Nat) (hcf : ∀ args w, (callFunc fn args).run P w = .ok (.enter fn args) w) (t : Tmp) (x y : Operand) (T : Array TypeId) (hop : o.op = .call { callee := .value (.tmp t), args := #[x, y], argTypes := T }) {vx vy : Value} {cs : Array Value} (ht : a.eval (.tmp t) = .func (.func fn) #[] cs) (hx : a.eval x = vx) (hy : a.eval y = vy) {args : Array Value} (ha : #[vx, vy] ++ cs = args) (w : World) :
    (execOp a.eval o).run P w = .ok (.enter fn args) w := by
  subst ha
  simp [execOp, hop, resolve, invoke, ht, hx, hy, Deferred.ofValue, hcf]
/-- The slots, behind a region all of whose slots are known. -/
theorem tmps_eq {T V : Array Value} {En : Env} {W : World} (hV : V.size = T.size) (hEn : (List.range T.size).all (fun t => (look En t).isNone) = true) (hR : ∀ t, Rt V En t (T.getD t undef) W) : T = V := by
  apply Array.ext hV.symm
  intro i h1 h2
  have h3 := Rt_none (List.all_eq_true.1 hEn i (List.mem_range.2 h1)) (hR i)
  simpa [h1, h2] using h3
end
theorem tmps_eq2 {T V : Array Value} {En : Env} {W : World} (d1 d2 : Nat) (hV : V.size = T.size) (hEn : (List.range T.size).all (fun t => Nat.beq t d1 || Nat.beq t d2 || (look En t).isNone) = true) (hR : ∀ t, Rt V En t (T.getD t undef) W) : T = (V.setIfInBounds d1 (T.getD d1 undef)).setIfInBounds d2 (T.getD d2 undef) := by
  apply Array.ext_getElem?
  intro i
  by_cases h1 : i < T.size
  · have h3 := List.all_eq_true.1 hEn i (List.mem_range.2 h1)
    simp only [Bool.or_eq_true, Nat.beq_eq] at h3
    have hi : i < V.size := by omega
    by_cases e2 : i = d2
    · subst e2; simp [h1, hi]
    · rw [Array.getElem?_setIfInBounds_ne (Ne.symm e2)]
      by_cases e1 : i = d1
      · subst e1
        simp [h1, hi]
      · rw [Array.getElem?_setIfInBounds_ne (Ne.symm e1)]
        have h4 : (look En i).isNone = true := by rcases h3 with (h | h) | h; exact absurd h e1; exact absurd h e2; exact h
        have h5 := Rt_none h4 (hR i)
        rw [Array.getElem?_eq_getElem h1, Array.getElem?_eq_getElem hi]
        simp only [Array.getD_eq_getD_getElem?, Array.getElem?_eq_getElem h1, Array.getElem?_eq_getElem hi, Option.getD_some] at h5
        rw [h5]
  · rw [Array.getElem?_eq_none (by omega), Array.getElem?_eq_none (by simp; omega)]
theorem arr10 {cs : Array Value} {a0 a1 a2 a3 a4 a5 a6 a7 a8 a9 : Value} (hs : cs.size = 10) (h0 : cs[0]? = some a0) (h1 : cs[1]? = some a1) (h2 : cs[2]? = some a2) (h3 : cs[3]? = some a3) (h4 : cs[4]? = some a4) (h5 : cs[5]? = some a5) (h6 : cs[6]? = some a6) (h7 : cs[7]? = some a7) (h8 : cs[8]? = some a8) (h9 : cs[9]? = some a9) : cs = #[a0, a1, a2, a3, a4, a5, a6, a7, a8, a9] := by
  apply Array.ext_getElem?
  intro i
  rcases Nat.lt_or_ge i 10 with h | h
  · have : i = 0 ∨ i = 1 ∨ i = 2 ∨ i = 3 ∨ i = 4 ∨ i = 5 ∨ i = 6 ∨ i = 7 ∨ i = 8 ∨ i = 9 := by omega
    rcases this with rfl | rfl | rfl | rfl | rfl | rfl | rfl | rfl | rfl | rfl <;> first | exact h0 | exact h1 | exact h2 | exact h3 | exact h4 | exact h5 | exact h6 | exact h7 | exact h8 | exact h9
  · rw [Array.getElem?_eq_none (by omega), Array.getElem?_eq_none (by simpa using h)]
theorem en_TcpClone (args : Array Value) (w : World) : (callFunc 67 args).run Try.prog w = .ok (.enter 67 args) w := enters Try.func67 (by kernel_rfl) (by kernel_rfl) args w

end Go.Proofs.Ytmbmmpbfmakfbaa
