/- Segments whose greatest size is held (clamp): walks of held, Segment. -/
import Derived.Test.YtmbmmpbfmakfbaaTcpM
import Derived.Test.YtmbmmpbfmakfbaaAlc
import Derived.Test.YtmbmmpbfmakfbaaTcpPO
set_option linter.unusedVariables false
namespace Go.Proofs.Ytmbmmpbfmakfbaa
open Go.RowKit

theorem RB.kept {W W' : World} {B : Nat} {A : Option Addr} {n c : Nat} {bs : List Int} (h : RB W A n c bs) (hk : Keep B W W') (hB : 0 < n → ∀ k, ownBlk A = some k → k ≠ B) : RB W' A n c bs :=
  ⟨h.len, h.nc, h.cm, h.byt, h.niln, fun hn => by
    obtain ⟨b, off, e, hlt, hc⟩ := h.mem hn
    have hb := hB hn b (by rw [e]; rfl)
    refine ⟨b, off, e, Nat.lt_of_lt_of_le hlt hk.1, fun j hj => ?_⟩
    rw [← hc j hj]
    simp [World.cell?, hk.2 b hlt hb]⟩
/-- Bytes in a slot, none of them in block B. -/
def RByt (B n : Nat) (bs : List Int) : Rl := fun u W => ∃ A c, u = .slice A n c ∧ RB W A n c bs ∧ (0 < n → ∀ k, ownBlk A = some k → k ≠ B)
theorem RByt.stb (B n : Nat) (bs : List Int) : StbK B (RByt B n bs) := fun u w w' ⟨A, c, h1, h2, h3⟩ hk => ⟨A, c, h1, h2.kept hk h3, h3⟩
section
variable {ops : Array Oper} {V0 : Array Value} {N : Nat} {Q : Exit → Act → World → Prop} {ds : List Deferred} {V : Array Value} {En : Env} {o : Oper} {rest : List Oper} {i : Nat}
variable {w00 : World} {B : Nat} {T : TypeId} {Z : Array Value} {Pj : Nat → Value → World → Prop} {C : World → Prop}
/-- A field's slice is loaded: the one that it had, or the one that was stored. -/
theorem fld_loadr {d : Tmp} (p : Rl) (hlk : (o.looksAt ops).all (fun t => (look En t).isNone) = true) (hs : notSel o = true) (hd : o.dst = some d) (hw : Region.wanted o (yielded ops V) = true) (hst : StbK B p)
    (t : Tmp) (ho : o.op = .load 24 (.tmp t)) (j : Nat) (hj : j < Z.size) (hx : V.getD t undef = .pointer (some ⟨B, j, none⟩)) (hZ : ∀ v w, SF w00 B T Z Pj C w → Z[j]? = some v → p v w) (hP : ∀ v w, SF w00 B T Z Pj C w → Pj j v w → p v w)
    (h : writL Try.prog ops V0 N (fun _ => SF w00 B T Z Pj C) (EF w00 B T Z Pj C) Q ds (i + 1) rest V ((d, KK w00 B T Z Pj C p) :: En)) : writL Try.prog ops V0 N (fun _ => SF w00 B T Z Pj C) (EF w00 B T Z Pj C) Q ds i (o :: rest) V En :=
  writL_op (KK w00 B T Z Pj C p) (List.all_eq_true.2 fun t ht => List.all_eq_true.1 hlk t (gslots_in ht)) hw (KK.stable hst) (fun a w hS _ _ hk => by
    rw [exec_agree hs fun t ht => Rt_none (List.all_eq_true.1 hlk t ht) (hk t ht)]
    have hxv : (⟨V, []⟩ : Act).eval (.tmp t) = .pointer (some ⟨B, j, none⟩) := hx
    have hS2 := hS
    obtain ⟨h1, ⟨cs, hcs, hsz, hall⟩, h3⟩ := hS2
    obtain ⟨v, hv⟩ : ∃ v, cs[j]? = some v := ⟨_, Array.getElem?_eq_getElem (by omega)⟩
    have hcell : w.cell? ⟨B, j, none⟩ = some v := by rw [hcs.cell_eq, hv]
    have hp : p v w := by
      rcases hall j hj with e | ⟨v', e, e'⟩
      · exact hZ v w hS (by rw [← e, hv])
      · rw [hv] at e; cases e; exact hP v w hS e'
    have hrun : (execOp (⟨V, []⟩ : Act).eval o).run Try.prog w = .ok (.value v) w := by
      have hx2 : V[t]?.getD undef = .pointer (some ⟨B, j, none⟩) := by simpa using hx
      unfold execOp
      rw [ho]
      simp [go_sem, hx2, hcell]
    rw [hrun]
    refine ⟨?_, hS, EF.refl w⟩
    rw [hd]
    exact ⟨hS, hp⟩) (by rw [keyOf_some hd]; exact h)
/-- A call with one argument, known by a relation. -/
theorem fld_call1r {d : Tmp} (p : Rl) (hg : (gslots ops o).all (fun t => (look En t).isNone) = true) (hd : o.dst = some d) (hw : Region.wanted o (yielded ops V) = true) (hP : ∀ j, StbK B (Pj j)) (hC : ∀ w w', C w → Keep B w w' → C w') (hst : StbK B p)
    (fn : Nat) (x : Operand) (Ty : Array TypeId) (hop : o.op = .call { callee := .value (.func fn), args := #[x], argTypes := Ty }) (hcf : ∀ args w, (callFunc fn args).run Try.prog w = .ok (.enter fn args) w)
    (hc : ∀ (vx : Value) w, SF w00 B T Z Pj C w → RtO V En x vx w → Calls Try.prog fn #[vx] w fun e w' => (∃ u, e = .returned u ∧ p u w') ∧ Below w.heap.size w w')
    (h : writL Try.prog ops V0 N (fun _ => SF w00 B T Z Pj C) (EF w00 B T Z Pj C) Q ds (i + 1) rest V ((d, KK w00 B T Z Pj C p) :: En)) : writL Try.prog ops V0 N (fun _ => SF w00 B T Z Pj C) (EF w00 B T Z Pj C) Q ds i (o :: rest) V En :=
  writL_op (KK w00 B T Z Pj C p) hg hw (KK.stable hst) (fun a w hS _ _ hk => by
    rw [exec_call1 fn hcf x Ty hop rfl w]
    refine (hc _ w hS (hin a w hk x (by simp [Op.operands, Call.operands, hop]))).mono fun e w' ⟨⟨u, he, hp⟩, hb⟩ => ?_
    obtain ⟨h1, h2⟩ := hS.below hP hC hb
    refine ⟨u, he, ?_, h1, h2⟩
    rw [hd]
    exact ⟨h1, hp⟩) (by rw [keyOf_some hd]; exact h)
end

/-- Whether a segment's greatest size is to be held, and where it stands. -/
def heldT (m : TcpP) (bound : Int) : Int × Bool :=
  if bits .and .i64 m.f 2 == 0 then (0, false) else if fitsB bound 2 = false then (0, false) else ((mssT m.opts).2.1, (mssT m.opts).2.2 && decide (bound < (mssT m.opts).1))
theorem mssF_true {bs : List Int} : ∀ {l : List Nat}, (mssF bs l).2.2 = true → ∃ a : Nat, a ∈ l ∧ mssF bs l = ((getV bs ((a : Int) + 2) 2).1, (a : Int), true) ∧ bs[a]?.getD 0 = 2 ∧ optL bs a = 4
  | [], h => by simp [mssF] at h
  | x :: l, h => by
    unfold mssF at h ⊢
    split
    · rename_i hx
      exact ⟨x, List.mem_cons_self .., rfl, hx.1, hx.2⟩
    · rename_i hx
      rw [if_neg hx] at h
      obtain ⟨a, h1, h2⟩ := mssF_true h
      exact ⟨a, List.mem_cons_of_mem _ h1, h2⟩
theorem heldT_true {m : TcpP} {bound : Int} (h : (heldT m bound).2 = true) : ∃ a : Nat, a ∈ places m.opts ∧ mssT m.opts = ((getV m.opts ((a : Int) + 2) 2).1, (a : Int), true) ∧ m.opts[a]?.getD 0 = 2 ∧ optL m.opts a = 4 ∧ (heldT m bound).1 = a ∧ bound < (getV m.opts ((a : Int) + 2) 2).1 ∧ fitsP bound ((2 : Nat) : Int) ∧ (bits .and .i64 m.f 2 == 0) = false := by
  unfold heldT at h ⊢
  cases hf : (bits .and .i64 m.f 2 == 0)
  · rw [hf] at h
    cases hg : fitsB bound 2
    · rw [hg] at h; simp at h
    · rw [hg] at h
      simp only [Bool.false_eq_true, if_false, Bool.true_eq_false, Bool.and_eq_true, decide_eq_true_eq] at h ⊢
      obtain ⟨a, h1, h2, h3, h4⟩ := mssF_true (bs := m.opts) (l := places m.opts) h.1
      have h2' : mssT m.opts = ((getV m.opts ((a : Int) + 2) 2).1, (a : Int), true) := h2
      exact ⟨a, h1, h2', h3, h4, by rw [h2'], by have := h.2; rw [h2'] at this; exact this, of_decide_eq_true hg, trivial⟩
  · rw [hf] at h; simp at h

/-- A segment whose greatest size is held. -/
def segT (m : TcpP) (bound : Int) : TcpP := if (heldT m bound).2 = true then { m with opts := setN m.opts ((heldT m bound).1 + 2).toNat (digL bound 2) 2 } else m

end Go.Proofs.Ytmbmmpbfmakfbaa
