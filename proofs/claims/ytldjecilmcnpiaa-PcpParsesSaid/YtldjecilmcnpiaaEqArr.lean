/- Arrays of bytes, and of numbers: loaded, compared. -/
import Derived.Test.YtldjecilmcnpiaaArr
import Derived.Test.YtldjecilmcnpiaaTame
import Derived.Deep.Cut
set_option linter.unusedVariables false
namespace Go.Proofs.Ytldjecilmcnpiaa
open Go.RowKit

theorem info_six : (Try.prog.info? 44).map (·.size) = some 16 := by kernel_rfl
theorem size_u8 (w : World) : (sizeOf 5).run Try.prog w = .ok 1 w := by
  have h : (Try.prog.info? 5).map (·.size) = some 1 := by kernel_rfl
  cases e : Try.prog.info? 5 with
  | none => simp [e] at h
  | some i =>
    have : i.size = 1 := by simpa [e] using h
    simp [sizeOf, typeInfo, e, this]

/-- An array of bytes is loaded. -/
theorem wpList_load_six {ops : Array Oper} {rest : List Oper} {op : Oper} {a : Act} {w : World} {Q : Exit → Act → World → Prop} (hgd : Region.wanted op (yielded ops a.tmps) = true) (x : Operand) (ho : op.op = .load 44 x)
    (b o : Nat) (hx : a.eval x = .pointer (some ⟨b, o, none⟩)) (bs : List Int) (hl : bs.length = 16) (hc : ∀ j, j < 16 → w.cell? ⟨b, o + j, none⟩ = some (.int .u8 (bs[j]?.getD 0)))
    (h : wpList Try.prog ops Q rest (a.put op.dst (.agg (u8s bs).toArray)) w) : wpList Try.prog ops Q (op :: rest) a w :=
  BigFrame.wpList_want hgd fun _ hK => wp_load_mid 44 x ho b o hx (u8s bs) _ (fun j v hv => by
    have hj : j < bs.length := by have := (List.getElem?_eq_some_iff.1 hv).1; rwa [u8s_length] at this
    rw [u8s_get bs j hj] at hv
    rw [hc j (by omega), ← hv]) Try.underlying44 rfl (by rw [info_six, u8s_length, hl]) (hK _ _ h)
theorem equalIn_six (w : World) {xs ys : List Int} (hx : xs.length = 16) (hy : ys.length = 16) (bx : Byts xs) (bY : Byts ys) : (Op.equalIn 10000 44 (.agg (u8s xs).toArray) (.agg (u8s ys).toArray)).run Try.prog w = .ok (xs == ys) w := by
  rw [← cells_u8of bx, ← cells_u8of bY, run_equalIn_bytes w 9998 44 5 16 Try.underlying44 Try.underlying5 size_u8 _ _ (by simpa using hx) (by simpa using hy), map_u8of_beq bx bY]
/-- Two arrays of bytes are compared. -/
theorem wpList_eql_six {ops : Array Oper} {rest : List Oper} {op : Oper} {a : Act} {w : World} {Q : Exit → Act → World → Prop} (hgd : Region.wanted op (yielded ops a.tmps) = true) (x y : Operand) (ho : op.op = .binOp .eql 44 x y 44)
    (xs ys : List Int) (ex : a.eval x = .agg (u8s xs).toArray) (ey : a.eval y = .agg (u8s ys).toArray) (hx : xs.length = 16) (hy : ys.length = 16) (bx : Byts xs) (bY : Byts ys)
    (h : wpList Try.prog ops Q rest (a.put op.dst (.bool (xs == ys))) w) : wpList Try.prog ops Q (op :: rest) a w :=
  BigFrame.wpList_want hgd fun _ hK => by
    unfold Oper.wp execOp
    have hm : Try.prog.eqGuardType Try.prog.depth 44 = false := by kernel_rfl
    simp only [ho, ex, ey, Sem.run_bind, run_eqGuard_agg w _ _ _ _ _ _ hm, run_eql_struct, equalIn_six w hx hy bx bY, Result.andThen_ok, Sem.run_pure]
    exact hK _ _ h
theorem wpList_neq_six {ops : Array Oper} {rest : List Oper} {op : Oper} {a : Act} {w : World} {Q : Exit → Act → World → Prop} (hgd : Region.wanted op (yielded ops a.tmps) = true) (x y : Operand) (ho : op.op = .binOp .neq 44 x y 44)
    (xs ys : List Int) (ex : a.eval x = .agg (u8s xs).toArray) (ey : a.eval y = .agg (u8s ys).toArray) (hx : xs.length = 16) (hy : ys.length = 16) (bx : Byts xs) (bY : Byts ys)
    (h : wpList Try.prog ops Q rest (a.put op.dst (.bool (!(xs == ys)))) w) : wpList Try.prog ops Q (op :: rest) a w :=
  BigFrame.wpList_want hgd fun _ hK => by
    unfold Oper.wp execOp
    have hm : Try.prog.eqGuardType Try.prog.depth 44 = false := by kernel_rfl
    simp only [ho, ex, ey, Sem.run_bind, run_eqGuard_agg w _ _ _ _ _ _ hm, run_neq_struct, equalIn_six w hx hy bx bY, Result.andThen_ok, Sem.run_pure]
    exact hK _ _ h

theorem all_range_int : ∀ (xs ys : List Int), xs.length = ys.length → ((List.range xs.length).all fun i => xs.getD i 0 == ys.getD i 0) = (xs == ys)
  | [], [], _ => rfl
  | x :: xs, y :: ys, h => by
    have ih := all_range_int xs ys (by simpa using h)
    rw [List.length_cons, List.range_succ_eq_map, List.all_cons, List.all_map]
    simp only [List.getD_cons_zero, Function.comp_def, List.getD_cons_succ, ih]
    simp [List.cons_beq_cons]
  | [], _ :: _, h => by simp at h
  | _ :: _, [], h => by simp at h
theorem size_int (w : World) : (sizeOf 3).run Try.prog w = .ok 1 w := by
  have h : (Try.prog.info? 3).map (·.size) = some 1 := by kernel_rfl
  cases e : Try.prog.info? 3 with
  | none => simp [e] at h
  | some i =>
    have : i.size = 1 := by simpa [e] using h
    simp [sizeOf, typeInfo, e, this]
theorem equalIn_ints (w : World) (d : Nat) (t : TypeId) (n : Nat) (ht : Try.prog.underlying t = some (.array n 3)) (xs ys : List Int) (hx : xs.length = n) (hy : ys.length = n) :
    (Op.equalIn (d + 2) t (.agg (xs.map (Value.int .i64)).toArray) (.agg (ys.map (Value.int .i64)).toArray)).run Try.prog w = .ok (xs == ys) w := by
  rw [← all_range_int xs ys (hx.trans hy.symm), hx, List.range_eq_range', Op.equalIn]
  simp only [Sem.run_bind, run_underlying ht, Result.andThen_ok, size_int, Std.Legacy.Range.forIn_eq_forIn_range', Std.Legacy.Range.size, Nat.sub_zero, Nat.add_sub_cancel, Nat.div_one]
  have hl : ∀ i ∈ List.range' 0 n 1, i < n := fun i hi => by simpa using (List.mem_range'_1.1 hi).2
  generalize List.range' 0 n 1 = l at hl ⊢
  induction l with
  | nil => simp
  | cons i l ih =>
    have hi : i < n := hl i (by simp)
    have he := Try.underlying3
    have px : (part 3 (xs.map (Value.int .i64)).toArray (i * 1)).run Try.prog w = .ok (.int .i64 (xs.getD i 0)) w := by
      simp [part, isAgg, run_underlying he, List.getD, List.getElem?_eq_getElem (show i < xs.length by omega)]
    have py : (part 3 (ys.map (Value.int .i64)).toArray (i * 1)).run Try.prog w = .ok (.int .i64 (ys.getD i 0)) w := by
      simp [part, isAgg, run_underlying he, List.getD, List.getElem?_eq_getElem (show i < ys.length by omega)]
    have pe : (Op.equalIn (d + 1) 3 (.int .i64 (xs.getD i 0)) (.int .i64 (ys.getD i 0))).run Try.prog w = .ok (xs.getD i 0 == ys.getD i 0) w := run_equalIn_int w d _ .i64 .i64 _ _ he
    simp only [List.forIn_cons, Sem.run_bind, px, py, pe, Result.andThen_ok, List.all_cons]
    cases hb : (xs.getD i 0 == ys.getD i 0)
    · simp
    · simp only [Bool.not_true, Bool.false_eq_true, if_false, Sem.run_pure, Result.andThen_ok, Bool.true_and]
      exact ih fun j hj => hl j (by simp [hj])
theorem wpList_eql_ints {ops : Array Oper} {rest : List Oper} {op : Oper} {a : Act} {w : World} {Q : Exit → Act → World → Prop} (hgd : Region.wanted op (yielded ops a.tmps) = true) (t : TypeId) (x y : Operand) (ho : op.op = .binOp .eql t x y t) (n : Nat) (ht : Try.prog.underlying t = some (.array n 3))
    (hm : Try.prog.eqGuardType Try.prog.depth t = false) (xs ys : List Int) (ex : a.eval x = .agg (xs.map (Value.int .i64)).toArray) (ey : a.eval y = .agg (ys.map (Value.int .i64)).toArray) (hx : xs.length = n) (hy : ys.length = n)
    (h : wpList Try.prog ops Q rest (a.put op.dst (.bool (xs == ys))) w) : wpList Try.prog ops Q (op :: rest) a w :=
  BigFrame.wpList_want hgd fun _ hK => by
    unfold Oper.wp execOp
    simp only [ho, ex, ey, Sem.run_bind, run_eqGuard_agg w _ _ _ _ _ _ hm, run_eql_struct, equalIn_ints w 9998 t n ht xs ys hx hy, Result.andThen_ok, Sem.run_pure]
    exact hK _ _ h
end Go.Proofs.Ytldjecilmcnpiaa
