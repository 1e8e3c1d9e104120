/- A drawn region that stores into the fields of one known struct, each once, beside operations that make memory: whatever the order. -/
import Derived.Test.YtipigcpenmcaoaaWrit
import Derived.Test.YtipigcpenmcaoaaMem
import Derived.Deep.MidRow
set_option linter.unusedVariables false
namespace Go.Proofs.Ytipigcpenmcaoaa
open Go Go.RowKit

/-- Nothing that was there is changed but the block B. -/
def Keep (B : Nat) (w w' : World) : Prop := w.heap.size ≤ w'.heap.size ∧ ∀ b, b < w.heap.size → b ≠ B → w'.heap[b]? = w.heap[b]?
theorem Keep.refl (B : Nat) (w : World) : Keep B w w := ⟨Nat.le_refl _, fun _ _ _ => rfl⟩
theorem Keep.of {B : Nat} {w w' : World} (h : Below w.heap.size w w') : Keep B w w' := ⟨h.size, fun b hb _ => h.block b hb⟩
theorem Keep.set {B : Nat} (w : World) (j : Nat) (v : Value) : Keep B w (w.setCell ⟨B, j, none⟩ v) := ⟨by simp [World.setCell], fun b _ hb => Below.heap_setCell _ _ _ _ (fun e => hb e)⟩
theorem Blk.kept {W W' : World} {B B' : Nat} {P : Array Value} {T : TypeId} (h : Blk W B' P T) (hk : Keep B W W') (hB : B' ≠ B) : Blk W' B' P T := ⟨(hk.2 B' h.lt hB).trans h.at_⟩
theorem OB.kept {W W' : World} {B base : Nat} {A : Option Addr} {n c : Nat} {bs : List Int} (h : OB W base A n c bs) (hk : Keep B W W') (hB : B < base) : OB W' base A n c bs := by
  refine ⟨⟨h.own.1, ?_⟩, h.byt⟩
  rcases h.own.2 with h | ⟨g, cap, cur, e, hg, hh, r⟩
  · exact .inl h
  · exact .inr ⟨g, cap, cur, e, hg, (hk.2 g (Array.getElem?_eq_some_iff.1 hh).1 (by omega)).trans hh, r⟩

section
variable {P : Program}
theorem run_store1 (w : World) (B j : Nat) (ty : TypeId) (v : Value) (hc : (w.cell? ⟨B, j, none⟩).isSome = true) (hf : w.frozen? ⟨B, j, none⟩ = false) (hi : (P.info? ty).map (·.size) = some 1) (h1 : v.oneCell' = true) :
    (storeVar ty ⟨B, j, none⟩ v).run P w = .ok () (w.setCell ⟨B, j, none⟩ v) := by
  have := run_storeCells_cells (P := P) B j [v] 0 w (fun k hk => by simp at hk; subst hk; exact hc) (fun k hk => by simp at hk; subst hk; exact hf) (fun x hx => by simp at hx; subst hx; exact h1)
  have hcv : v.cells = #[v] := by cases v <;> first | rfl | cases h1
  cases hq : P.info? ty with
  | none => simp [hq] at hi
  | some i =>
    have hs : i.size = 1 := by simpa [hq] using hi
    simp only [Nat.add_zero, World.setCells] at this
    simp [storeVar, sizeOf, typeInfo, hq, hcv, hs, this]
end

section
variable (w00 : World) (B : Nat) (T : TypeId) (Z : Array Value) (Pj : Nat → Value → World → Prop) (C : World → Prop)
def SF (W : World) : Prop := Below w00.heap.size w00 W ∧ (∃ cs, Blk W B cs T ∧ cs.size = Z.size ∧ ∀ j, j < Z.size → cs[j]? = Z[j]? ∨ ∃ v, cs[j]? = some v ∧ Pj j v W) ∧ C W
def EF (w w' : World) : Prop := SF w00 B T Z Pj C w → SF w00 B T Z Pj C w' ∧ Keep B w w' ∧ ∀ j, w'.cell? ⟨B, j, none⟩ = w.cell? ⟨B, j, none⟩ ∨ ∃ v, w'.cell? ⟨B, j, none⟩ = some v ∧ Pj j v w'
def FF (j : Nat) : Rl := fun _ W => SF w00 B T Z Pj C W ∧ ∃ v, W.cell? ⟨B, j, none⟩ = some v ∧ Pj j v W
def KK (p : Rl) : Rl := fun u W => SF w00 B T Z Pj C W ∧ p u W
def StbK (p : Rl) : Prop := ∀ u w w', p u w → Keep B w w' → p u w'
end
section
variable {w00 : World} {B : Nat} {T : TypeId} {Z : Array Value} {Pj : Nat → Value → World → Prop} {C : World → Prop}
theorem EF.refl (w : World) : EF w00 B T Z Pj C w w := fun h => ⟨h, Keep.refl _ _, fun _ => .inl rfl⟩
theorem Blk.cell_eq {W : World} {B : Nat} {P : Array Value} {T : TypeId} (h : Blk W B P T) (j : Nat) : W.cell? ⟨B, j, none⟩ = P[j]? := by simp [World.cell?, h.at_]
theorem FF.stable (hP : ∀ j, StbK B (Pj j)) (j : Nat) : StbE (EF w00 B T Z Pj C) (FF w00 B T Z Pj C j) := by
  rintro u w w' ⟨hS, v, hv, hp⟩ hE
  obtain ⟨hS', hk, hc⟩ := hE hS
  refine ⟨hS', ?_⟩
  rcases hc j with h | h
  · exact ⟨v, h.trans hv, hP j _ _ _ hp hk⟩
  · exact h
theorem KK.stable {p : Rl} (hp : StbK B p) : StbE (EF w00 B T Z Pj C) (KK w00 B T Z Pj C p) := by
  rintro u w w' ⟨hS, h⟩ hE
  obtain ⟨hS', hk, _⟩ := hE hS
  exact ⟨hS', hp _ _ _ h hk⟩
theorem SF.below (hP : ∀ j, StbK B (Pj j)) (hC : ∀ w w', C w → Keep B w w' → C w') {w w' : World} (hS : SF w00 B T Z Pj C w) (hb : Below w.heap.size w w') : SF w00 B T Z Pj C w' ∧ EF w00 B T Z Pj C w w' := by
  obtain ⟨h1, ⟨cs, hcs, hsz, hj⟩, h3⟩ := hS
  have hk : Keep B w w' := Keep.of hb
  have hS' : SF w00 B T Z Pj C w' := ⟨h1.trans (hb.mono h1.size), ⟨cs, hcs.to hb, hsz, fun j hlt => by
    rcases hj j hlt with h | ⟨v, h, h'⟩
    · exact .inl h
    · exact .inr ⟨v, h, hP j _ _ _ h' hk⟩⟩, hC _ _ h3 hk⟩
  exact ⟨hS', fun _ => ⟨hS', hk, fun j => .inl (by rw [hcs.cell_eq, (hcs.to hb).cell_eq])⟩⟩
theorem SF.store (hP : ∀ j, StbK B (Pj j)) (hC : ∀ w w', C w → Keep B w w' → C w') (hB : w00.heap.size ≤ B) {w : World} (hS : SF w00 B T Z Pj C w) (j : Nat) (hj : j < Z.size) (v : Value) (hv : Pj j v w) :
    SF w00 B T Z Pj C (w.setCell ⟨B, j, none⟩ v) ∧ EF w00 B T Z Pj C w (w.setCell ⟨B, j, none⟩ v) ∧ FF w00 B T Z Pj C j undef (w.setCell ⟨B, j, none⟩ v) := by
  obtain ⟨h1, ⟨cs, hcs, hsz, hall⟩, h3⟩ := hS
  have hk : Keep B w (w.setCell ⟨B, j, none⟩ v) := Keep.set w j v
  have hset := hcs.set j v
  have hv' := hP j _ _ _ hv hk
  have hjs : j < cs.size := by omega
  have hS' : SF w00 B T Z Pj C (w.setCell ⟨B, j, none⟩ v) := ⟨h1.setCell (p := ⟨B, j, none⟩) hB v, ⟨_, hset, by simp [hsz], fun i hi => by
    by_cases e : j = i
    · subst e
      exact .inr ⟨v, by simp [hjs], hv'⟩
    · rw [Array.getElem?_setIfInBounds_ne e]
      rcases hall i hi with h | ⟨v', h, h'⟩
      · exact .inl h
      · exact .inr ⟨v', h, hP i _ _ _ h' hk⟩⟩, hC _ _ h3 hk⟩
  have hcell : (w.setCell ⟨B, j, none⟩ v).cell? ⟨B, j, none⟩ = some v := by rw [hset.cell_eq]; simp [hjs]
  refine ⟨hS', fun _ => ⟨hS', hk, fun i => ?_⟩, hS', v, hcell, hv'⟩
  by_cases e : j = i
  · subst e; exact .inr ⟨v, hcell, hv'⟩
  · exact .inl (by rw [hset.cell_eq, hcs.cell_eq, Array.getElem?_setIfInBounds_ne e])
theorem SF.there {w : World} (hS : SF w00 B T Z Pj C w) {j : Nat} (hj : j < Z.size) : (w.cell? ⟨B, j, none⟩).isSome = true ∧ w.frozen? ⟨B, j, none⟩ = false := by
  obtain ⟨h1, ⟨cs, hcs, hsz, hall⟩, h3⟩ := hS
  refine ⟨?_, hcs.frz j⟩
  rw [hcs.cell_eq, Array.getElem?_eq_getElem (by omega)]; rfl
end

section
variable {P : Program} {ops : Array Oper} {V0 : Array Value} {N : Nat} {Q : Exit → Act → World → Prop} {ds : List Deferred} {V : Array Value} {En : Env} {o : Oper} {rest : List Oper} {i : Nat}
variable {w00 : World} {B : Nat} {T : TypeId} {Z : Array Value} {Pj : Nat → Value → World → Prop} {C : World → Prop}
/-- A value that every world of the region gives. -/
theorem fld_val {v : Value} (hlk : (o.looksAt ops).all (fun t => (look En t).isNone) = true) (hs : notSel o = true) (hd : dfree En o = true) (hdn : o.dst.isSome = true) (hw : Region.wanted o (yielded ops V) = true)
    (hv : ∀ w, SF w00 B T Z Pj C w → (execOp (⟨V, []⟩ : Act).eval o).run P w = .ok (.value v) w) (h : writL P ops V0 N (fun _ => SF w00 B T Z Pj C) (EF w00 B T Z Pj C) Q ds (i + 1) rest (putV V o.dst v) En) : writL P ops V0 N (fun _ => SF w00 B T Z Pj C) (EF w00 B T Z Pj C) Q ds i (o :: rest) V En :=
  writL_val hlk hs hd hdn hw EF.refl (fun _ _ _ h => h) (fun _ w hS => hv w hS) h
theorem fld_skip (hg : (gslots ops o).all (fun t => (look En t).isNone) = true) (hd : dfree En o = true) (hw : Region.wanted o (yielded ops V) = false) (h : writL P ops V0 N (fun _ => SF w00 B T Z Pj C) (EF w00 B T Z Pj C) Q ds (i + 1) rest (putV V o.dst undef) En) : writL P ops V0 N (fun _ => SF w00 B T Z Pj C) (EF w00 B T Z Pj C) Q ds i (o :: rest) V En :=
  writL_skip hg hd hw (fun _ _ _ h => h) h
/-- A call, of whatever function value, whose answer is known, and which keeps what there was. -/
theorem fld_callv (v : Value) (hlk : (o.looksAt ops).all (fun t => (look En t).isNone) = true) (hs : notSel o = true) (hd : dfree En o = true) (hdn : o.dst.isSome = true) (hw : Region.wanted o (yielded ops V) = true) (hP : ∀ j, StbK B (Pj j)) (hC : ∀ w w', C w → Keep B w w' → C w')
    (fn : Nat) (args : Array Value) (hx : ∀ w, (execOp (⟨V, []⟩ : Act).eval o).run P w = .ok (.enter fn args) w) (hc : ∀ w, SF w00 B T Z Pj C w → Calls P fn args w fun e w' => e = .returned v ∧ Below w.heap.size w w')
    (h : writL P ops V0 N (fun _ => SF w00 B T Z Pj C) (EF w00 B T Z Pj C) Q ds (i + 1) rest (putV V o.dst v) En) : writL P ops V0 N (fun _ => SF w00 B T Z Pj C) (EF w00 B T Z Pj C) Q ds i (o :: rest) V En :=
  writL_opv v (List.all_eq_true.2 fun t ht => List.all_eq_true.1 hlk t (gslots_in ht)) hw hd hdn (fun a w hS _ _ hk => by
    rw [exec_agree hs fun t ht => Rt_none (List.all_eq_true.1 hlk t ht) (hk t ht), hx w]
    refine (hc w hS).mono fun e w' ⟨he, hb⟩ => ?_
    obtain ⟨h1, h2⟩ := hS.below hP hC hb
    refine ⟨v, he, ?_, h1, h2⟩
    cases e' : o.dst with
    | none => rw [e'] at hdn; cases hdn
    | some d => rfl) h
/-- A call whose answer is known by a relation; its arguments are known. -/
theorem fld_callr {d : Tmp} (p : Rl) (hlk : (o.looksAt ops).all (fun t => (look En t).isNone) = true) (hs : notSel o = true) (hd : o.dst = some d) (hw : Region.wanted o (yielded ops V) = true) (hP : ∀ j, StbK B (Pj j)) (hC : ∀ w w', C w → Keep B w w' → C w') (hst : StbK B p)
    (fn : Nat) (args : Array Value) (hx : ∀ w, (execOp (⟨V, []⟩ : Act).eval o).run P w = .ok (.enter fn args) w) (hc : ∀ w, SF w00 B T Z Pj C w → Calls P fn args w fun e w' => (∃ u, e = .returned u ∧ p u w') ∧ Below w.heap.size w w')
    (h : writL P ops V0 N (fun _ => SF w00 B T Z Pj C) (EF w00 B T Z Pj C) Q ds (i + 1) rest V ((d, KK w00 B T Z Pj C p) :: En)) : writL P ops V0 N (fun _ => SF w00 B T Z Pj C) (EF w00 B T Z Pj C) Q ds i (o :: rest) V En :=
  writL_op (KK w00 B T Z Pj C p) (List.all_eq_true.2 fun t ht => List.all_eq_true.1 hlk t (gslots_in ht)) hw (KK.stable hst) (fun a w hS _ _ hk => by
    rw [exec_agree hs fun t ht => Rt_none (List.all_eq_true.1 hlk t ht) (hk t ht), hx w]
    refine (hc w hS).mono fun e w' ⟨⟨u, he, hp⟩, hb⟩ => ?_
    obtain ⟨h1, h2⟩ := hS.below hP hC hb
    refine ⟨u, he, ?_, h1, h2⟩
    rw [hd]
    exact ⟨h1, hp⟩) (by rw [keyOf_some hd]; exact h)
/-- A store into a field. -/
theorem fld_store (hg : (gslots ops o).all (fun t => (look En t).isNone) = true) (hw : Region.wanted o (yielded ops V) = true) (hd : o.dst = none) (hP : ∀ j, StbK B (Pj j)) (hC : ∀ w w', C w → Keep B w w' → C w') (hB : w00.heap.size ≤ B)
    (ty : TypeId) (t : Tmp) (y : Operand) (ho : o.op = .store ty (.tmp t) y) (j : Nat) (hj : j < Z.size) (hx : V.getD t undef = .pointer (some ⟨B, j, none⟩)) (hl : (look En t).isNone = true) (hi : (P.info? ty).map (·.size) = some 1)
    (hy : ∀ vy w, SF w00 B T Z Pj C w → RtO V En y vy w → vy.oneCell' = true ∧ Pj j vy w)
    (h : writL P ops V0 N (fun _ => SF w00 B T Z Pj C) (EF w00 B T Z Pj C) Q ds (i + 1) rest V ((N + i, FF w00 B T Z Pj C j) :: En)) : writL P ops V0 N (fun _ => SF w00 B T Z Pj C) (EF w00 B T Z Pj C) Q ds i (o :: rest) V En :=
  writL_op (FF w00 B T Z Pj C j) hg hw (FF.stable hP j) (fun a w hS _ _ hk => by
    have hxv : a.eval (.tmp t) = .pointer (some ⟨B, j, none⟩) := (Rt_none hl (hin a w hk (.tmp t) (by simp [Op.operands, ho]))).trans hx
    obtain ⟨h1, h2⟩ := hy _ w hS (hin a w hk y (by simp [Op.operands, ho]))
    obtain ⟨hc, hf⟩ := hS.there hj
    unfold execOp
    simp only [ho, hxv, Instr.storeAt, Instr.sureAddr, Sem.run_bind, Sem.run_pure, Result.andThen_ok, run_store1 w B j ty _ hc hf hi h1]
    obtain ⟨k1, k2, k3⟩ := hS.store hP hC hB j hj _ h2
    exact ⟨hd, k3, k1, k2⟩) (by rw [keyOf_ge hd]; exact h)
end
end Go.Proofs.Ytipigcpenmcaoaa
