/- A struct of numbers, whatever its depth, is equal to itself. -/
import Derived.Test.YtldjecilmcnpiaaHand
import Derived.DeepKeys
set_option linter.unusedVariables false
namespace Go.Proofs.Ytldjecilmcnpiaa
open Go Go.RowKit

/-- A type of numbers alone. -/
def intTy (P : Program) : Nat → TypeId → Bool
  | 0, _ => false
  | m + 1, t => match P.underlying t with
    | some (.int _) => P.cellsOf t == 1
    | some (.array n e) => intTy P m e && decide (n * P.cellsOf e ≤ P.cellsOf t)
    | some (.struct fs) => fs.toList.all (fun f => f.name != "_" && intTy P m f.type && decide (f.offset + P.cellsOf f.type ≤ P.cellsOf t)) && !P.stoodInHeld t
    | _ => false
def Num (u : Value) : Prop := ∃ k n, u = .int k n
def IsNum (P : Program) (t : TypeId) (x : Value) : Prop := (∃ q, P.underlying t = some (.int q)) ∧ Num x ∨ (¬ ∃ q, P.underlying t = some (.int q)) ∧ ∃ xs : Array Value, x = .agg xs ∧ P.cellsOf t ≤ xs.size ∧ ∀ u ∈ xs.toList, Num u
theorem info_size {P : Program} {t : TypeId} {d : TypeDesc} (h : P.underlying t = some d) : ∃ i, P.info? t = some i ∧ P.cellsOf t = i.size := by
  obtain ⟨i, hi⟩ := info_of_underlying h
  exact ⟨i, hi, by simp [Program.cellsOf, hi]⟩
theorem part_num {P : Program} (w : World) {m : Nat} {e : TypeId} {xs : Array Value} {off : Nat} (he : intTy P m e = true) (ho : off + P.cellsOf e ≤ xs.size) (hx : ∀ u ∈ xs.toList, Num u) :
    ∃ a, (part e xs off).run P w = .ok a w ∧ IsNum P e a := by
  cases m with
  | zero => simp [intTy] at he
  | succ m =>
    unfold intTy at he
    cases hu : P.underlying e with
    | none => simp [hu] at he
    | some d =>
      obtain ⟨i, hi, hc⟩ := info_size hu
      have hmem : ∀ j, j < xs.size → Num (xs[j]?.getD undef) := fun j hj => by
        rw [Array.getElem?_eq_getElem hj, Option.getD_some]
        exact hx _ (by simp)
      cases d
      case int q =>
        simp only [hu, beq_iff_eq] at he
        have hlt : off < xs.size := by omega
        refine ⟨xs[off]?.getD undef, ?_, .inl ⟨⟨q, hu⟩, hmem off hlt⟩⟩
        simp [part, isAgg, run_underlying hu, Array.getElem?_eq_getElem hlt]
      case array n e' =>
        refine ⟨.agg (xs.extract off (off + i.size)), ?_, .inr ⟨(by rw [hu]; rintro ⟨q, hq⟩; cases hq), _, rfl, (by rw [hc] at ho ⊢; simp; omega), fun u hu' => ?_⟩⟩
        · simp [part, isAgg, run_underlying hu, sizeOf, typeInfo, hi]
        · simp only [Array.toList_extract, List.extract_eq_take_drop] at hu'
          exact hx u (List.mem_of_mem_drop (List.mem_of_mem_take hu'))
      case struct fs =>
        refine ⟨.agg (xs.extract off (off + i.size)), ?_, .inr ⟨(by rw [hu]; rintro ⟨q, hq⟩; cases hq), _, rfl, (by rw [hc] at ho ⊢; simp; omega), fun u hu' => ?_⟩⟩
        · simp [part, isAgg, run_underlying hu, sizeOf, typeInfo, hi]
        · simp only [Array.toList_extract, List.extract_eq_take_drop] at hu'
          exact hx u (List.mem_of_mem_drop (List.mem_of_mem_take hu'))
      all_goals (simp [hu] at he)
theorem eqFields_same {P : Program} (w : World) (d : Nat) (xs : Array Value) : ∀ (fs : List Field), (∀ f ∈ fs, f.name ≠ "_" ∧ ∃ a, (part f.type xs f.offset).run P w = .ok a w ∧ (Op.equalIn d f.type a a).run P w = .ok true w) → (Op.eqFields d xs xs fs).run P w = .ok true w
  | [], _ => by simp [Op.eqFields]
  | f :: fs, h => by
    obtain ⟨hn, a, h1, h2⟩ := h f (List.mem_cons_self ..)
    have := eqFields_same w d xs fs (fun g hg => h g (List.mem_cons_of_mem _ hg))
    simp [Op.eqFields, hn, Sem.run_bind, h1, h2, this]
theorem eqItems_same {P : Program} (w : World) (d : Nat) (e : TypeId) (c : Nat) (xs : Array Value) : ∀ (is : List Nat), (∀ i ∈ is, ∃ a, (part e xs (i * c)).run P w = .ok a w ∧ (Op.equalIn d e a a).run P w = .ok true w) → (Op.eqItems d e c xs xs is).run P w = .ok true w
  | [], _ => by simp [Op.eqItems]
  | i :: is, h => by
    obtain ⟨a, h1, h2⟩ := h i (List.mem_cons_self ..)
    have := eqItems_same w d e c xs is (fun j hj => h j (List.mem_cons_of_mem _ hj))
    simp [Op.eqItems, Sem.run_bind, h1, h2, this]
theorem equal_same {P : Program} (w : World) (d : Nat) : ∀ (m : Nat) (t : TypeId) (x : Value), intTy P m t = true → IsNum P t x → (Op.equalIn (d + m) t x x).run P w = .ok true w
  | 0, t, x, h, _ => by simp [intTy] at h
  | m + 1, t, x, h, hx => by
    have h0 := h
    unfold intTy at h
    rcases hx with ⟨⟨q, hu⟩, k, n, rfl⟩ | ⟨hni, xs, rfl, hsz, hxs⟩
    · rw [show d + (m + 1) = (d + m) + 1 from rfl, run_equalIn_int w (d + m) t k q n n hu]
      simp
    · cases hu : P.underlying t with
      | none => simp [hu] at h
      | some dd =>
        cases dd
        case int q => exact absurd ⟨q, hu⟩ hni
        case array n e =>
          simp only [hu, Bool.and_eq_true, decide_eq_true_eq] at h
          obtain ⟨h1, h2⟩ := h
          have hpe : ∃ i, P.info? e = some i := by
            cases m with
            | zero => simp [intTy] at h1
            | succ m' =>
              unfold intTy at h1
              cases hue : P.underlying e with
              | none => simp [hue] at h1
              | some _ => exact info_of_underlying hue
          obtain ⟨i, hi⟩ := hpe
          rw [show d + (m + 1) = (d + m) + 1 from rfl, run_equalIn_array w (d + m) xs xs hu hi]
          refine eqItems_same w (d + m) e _ xs _ fun j hj => ?_
          have hj : j < n := List.mem_range.1 hj
          have hle : (j + 1) * P.cellsOf e ≤ n * P.cellsOf e := Nat.mul_le_mul_right _ hj
          rw [Nat.add_mul, Nat.one_mul] at hle
          obtain ⟨a, p1, p2⟩ := part_num w (off := j * P.cellsOf e) h1 (by omega) hxs
          exact ⟨a, p1, equal_same w d m e a h1 p2⟩
        case struct fs =>
          simp only [hu, Bool.and_eq_true, Bool.not_eq_true', List.all_eq_true] at h
          obtain ⟨h1, h2⟩ := h
          have hfs : P.fieldsOf t = fs := by simp [Program.fieldsOf, hu]
          rw [show d + (m + 1) = (d + m) + 1 from rfl, run_equalIn_struct w (d + m) t xs xs (by rw [hfs]; exact hu) h2, hfs]
          refine eqFields_same w (d + m) xs _ fun f hf => ?_
          have h3 := h1 f hf
          simp only [bne_iff_ne, ne_eq, decide_eq_true_eq] at h3
          obtain ⟨⟨h4, h5⟩, h6⟩ := h3
          obtain ⟨a, p1, p2⟩ := part_num w (off := f.offset) h5 (by omega) hxs
          exact ⟨h4, a, p1, equal_same w d m f.type a h5 p2⟩
        all_goals (simp [hu] at h)
/-- Two structs of numbers that are the same are compared. -/
theorem wpList_eql_same {ops : Array Oper} {rest : List Oper} {op : Oper} {a : Act} {w : World} {Q : Exit → Act → World → Prop} (hgd : Region.wanted op (yielded ops a.tmps) = true) (t : TypeId) (x y : Operand) (ho : op.op = .binOp .eql t x y t)
    (xs : Array Value) (ex : a.eval x = .agg xs) (ey : a.eval y = .agg xs) (hm : Try.prog.eqGuardType Try.prog.depth t = false) (hi : intTy Try.prog 5 t = true) (hnu : ¬ ∃ q, Try.prog.underlying t = some (.int q)) (hs : Try.prog.cellsOf t ≤ xs.size) (hx : ∀ u ∈ xs.toList, Num u)
    (h : wpList Try.prog ops Q rest (a.put op.dst (.bool true)) w) : wpList Try.prog ops Q (op :: rest) a w :=
  BigFrame.wpList_want hgd fun _ hK => by
    unfold Oper.wp execOp
    have he := equal_same (P := Try.prog) w 9995 5 t (.agg xs) hi (.inr ⟨hnu, xs, rfl, hs, hx⟩)
    simp only [ho, ex, ey, Sem.run_bind, run_eqGuard_agg w _ _ _ _ _ _ hm, run_eql_struct, he, Result.andThen_ok, Sem.run_pure]
    exact hK _ _ h
theorem wpList_neq_same {ops : Array Oper} {rest : List Oper} {op : Oper} {a : Act} {w : World} {Q : Exit → Act → World → Prop} (hgd : Region.wanted op (yielded ops a.tmps) = true) (t : TypeId) (x y : Operand) (ho : op.op = .binOp .neq t x y t)
    (xs : Array Value) (ex : a.eval x = .agg xs) (ey : a.eval y = .agg xs) (hm : Try.prog.eqGuardType Try.prog.depth t = false) (hi : intTy Try.prog 5 t = true) (hnu : ¬ ∃ q, Try.prog.underlying t = some (.int q)) (hs : Try.prog.cellsOf t ≤ xs.size) (hx : ∀ u ∈ xs.toList, Num u)
    (h : wpList Try.prog ops Q rest (a.put op.dst (.bool false)) w) : wpList Try.prog ops Q (op :: rest) a w :=
  BigFrame.wpList_want hgd fun _ hK => by
    unfold Oper.wp execOp
    have he := equal_same (P := Try.prog) w 9995 5 t (.agg xs) hi (.inr ⟨hnu, xs, rfl, hs, hx⟩)
    simp only [ho, ex, ey, Sem.run_bind, run_eqGuard_agg w _ _ _ _ _ _ hm, run_neq_struct, he, Result.andThen_ok, Sem.run_pure, Bool.not_true]
    exact hK _ _ h
theorem exec_eql_same {op : Oper} {a : Act} {w : World} (t : TypeId) (x y : Operand) (ho : op.op = .binOp .eql t x y t)
    (xs : Array Value) (ex : a.eval x = .agg xs) (ey : a.eval y = .agg xs) (hm : Try.prog.eqGuardType Try.prog.depth t = false) (hi : intTy Try.prog 5 t = true) (hnu : ¬ ∃ q, Try.prog.underlying t = some (.int q)) (hs : Try.prog.cellsOf t ≤ xs.size) (hx : ∀ u ∈ xs.toList, Num u) :
    (execOp a.eval op).run Try.prog w = .ok (.value (.bool true)) w := by
  unfold execOp
  have he := equal_same (P := Try.prog) w 9995 5 t (.agg xs) hi (.inr ⟨hnu, xs, rfl, hs, hx⟩)
  simp only [ho, ex, ey, Sem.run_bind, run_eqGuard_agg w _ _ _ _ _ _ hm, run_eql_struct, he, Result.andThen_ok, Sem.run_pure]
end Go.Proofs.Ytldjecilmcnpiaa
