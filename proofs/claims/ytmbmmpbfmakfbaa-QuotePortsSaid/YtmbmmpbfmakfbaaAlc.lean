/- Two more laws for drawn regions: an append to nothing, beside stores into a struct's fields; and a region that reads, makes one struct's variable, and stores the struct into it. -/
import Derived.Test.YtmbmmpbfmakfbaaWrit
import Derived.Test.YtmbmmpbfmakfbaaTame
set_option linter.unusedVariables false
namespace Go.Proofs.Ytmbmmpbfmakfbaa
open Go Go.RowKit

section
variable {ops : Array Oper} {V0 : Array Value} {N : Nat} {Q : Exit → Act → World → Prop} {ds : List Deferred} {V : Array Value} {En : Env} {o : Oper} {rest : List Oper} {i : Nat}
variable {w00 : World} {B : Nat} {T : TypeId} {Z : Array Value} {Pj : Nat → Value → World → Prop} {C : World → Prop}
/-- Bytes of the call's own, in a slot. -/
def OwnR (base n : Nat) (bs : List Int) : Rl := fun u W => ∃ A c, u = .slice A n c ∧ OB W base A n c bs
theorem OwnR.stb {B base n : Nat} {bs : List Int} (h : B < base) : StbK B (OwnR base n bs) := fun u w w' ⟨A, c, h2, h3⟩ hk => ⟨A, c, h2, h3.kept hk h⟩
theorem fld_append {d : Tmp} (base m : Nat) (ys : List Int) (hlk : (o.looksAt ops).all (fun t => (look En t).isNone) = true) (hs : notSel o = true) (hd : o.dst = some d) (hw : Region.wanted o (yielded ops V) = true) (hP : ∀ j, StbK B (Pj j)) (hC : ∀ w w', C w → Keep B w w' → C w') (hB : B < base)
    (x : Operand) (hop : o.op = .call { callee := .builtin .append, args := #[.const (.slice none 0 0), x], argTypes := #[24, 24] }) {A' : Option Addr} {c' : Nat} (hx : (⟨V, []⟩ : Act).eval x = .slice A' m c')
    (hr : ∀ w, SF w00 B T Z Pj C w → RB w A' m c' ys) (hm : m ≤ 140737488355328) (hb : ∀ w, SF w00 B T Z Pj C w → base ≤ w.heap.size)
    (h : writL Try.prog ops V0 N (fun _ => SF w00 B T Z Pj C) (EF w00 B T Z Pj C) Q ds (i + 1) rest V ((d, KK w00 B T Z Pj C (OwnR base m ys)) :: En)) : writL Try.prog ops V0 N (fun _ => SF w00 B T Z Pj C) (EF w00 B T Z Pj C) Q ds i (o :: rest) V En :=
  writL_op (KK w00 B T Z Pj C (OwnR base m ys)) (List.all_eq_true.2 fun t ht => List.all_eq_true.1 hlk t (gslots_in ht)) hw (KK.stable (OwnR.stb hB)) (fun a w hS _ _ hk => by
    rw [exec_agree hs fun t ht => Rt_none (List.all_eq_true.1 hlk t ht) (hk t ht)]
    obtain ⟨A2, c2, w2, h1, h2, h3, h4⟩ := run_append_bytes w (OB.nil w w.heap.size) (hr w hS) (by omega) (Nat.le_refl _) o.type
    have hbl := (Below.refl w.heap.size w).grown h3 (Nat.le_refl _) (fun k hk => by simp [ownBlk] at hk)
    obtain ⟨k1, k2⟩ := hS.below hP hC hbl
    have hv : (⟨V, []⟩ : Act).eval (.const (.slice none 0 0)) = .slice none 0 0 := rfl
    simp [execOp, hop, resolve, invoke, builtin, hv, hx, h1, Result.andThen, YldW]
    refine ⟨?_, k1, k2⟩
    rw [hd]
    rw [Nat.zero_add, List.nil_append] at h2
    exact ⟨k1, A2, c2, by first | rfl | simp [ofDst], h2.mono (hb w hS)⟩) (by rw [keyOf_some hd]; exact h)
end

section
variable (w00 : World) (H : Nat) (Ty : TypeId) (zs : Nat) (F : Array Value) (d0 : Tmp) (C : World → Prop)
def JA (T : Array Value) (W : World) : Prop :=
  Below w00.heap.size w00 W ∧ C W ∧ ((T.getD d0 undef = undef ∧ W.heap.size = H) ∨ (T.getD d0 undef = .pointer (some ⟨H, 0, none⟩) ∧ ∃ cs, Blk W H cs Ty ∧ cs.size = zs))
def EA (w w' : World) : Prop := Blk w H F Ty → Blk w' H F Ty
end
section
variable {P : Program} {ops : Array Oper} {V0 : Array Value} {N : Nat} {Q : Exit → Act → World → Prop} {ds : List Deferred} {V : Array Value} {En : Env} {o : Oper} {rest : List Oper} {i : Nat}
variable {w00 : World} {H : Nat} {Ty : TypeId} {zs : Nat} {F : Array Value} {d0 : Tmp} {C : World → Prop}
theorem EA.refl (w : World) : EA H Ty F w w := fun h => h
theorem JA.put {T : Array Value} {W : World} (h : JA w00 H Ty zs d0 C T W) {d : Option Tmp} (hd : d ≠ some d0) (u : Value) : JA w00 H Ty zs d0 C (putV T d u) W := by
  have e : (putV T d u).getD d0 undef = T.getD d0 undef := by
    cases d with
    | none => rfl
    | some d =>
      have : d ≠ d0 := fun e => hd (by rw [e])
      simp [putV, Array.getElem?_setIfInBounds_ne this]
  unfold JA
  rw [e]; exact h
theorem alc_val {v : Value} (hlk : (o.looksAt ops).all (fun t => (look En t).isNone) = true) (hs : notSel o = true) (hd : dfree En o = true) (hdn : o.dst.isSome = true) (hw : Region.wanted o (yielded ops V) = true) (hne : o.dst ≠ some d0)
    (hv : ∀ w, (Below w00.heap.size w00 w ∧ C w) → (execOp (⟨V, []⟩ : Act).eval o).run P w = .ok (.value v) w) (h : writL P ops V0 N (JA w00 H Ty zs d0 C) (EA H Ty F) Q ds (i + 1) rest (putV V o.dst v) En) : writL P ops V0 N (JA w00 H Ty zs d0 C) (EA H Ty F) Q ds i (o :: rest) V En :=
  writL_val hlk hs hd hdn hw EA.refl (fun T u w hJ => hJ.put hne u) (fun T w hJ => hv w ⟨hJ.1, hJ.2.1⟩) h
theorem alc_call (v : Value) (hlk : (o.looksAt ops).all (fun t => (look En t).isNone) = true) (hs : notSel o = true) (hd : dfree En o = true) (hdn : o.dst.isSome = true) (hw : Region.wanted o (yielded ops V) = true) (hne : o.dst ≠ some d0)
    (fn : Nat) (args : Array Value) (hx : ∀ w, (execOp (⟨V, []⟩ : Act).eval o).run P w = .ok (.enter fn args) w) (hc : ∀ w, Below w00.heap.size w00 w → Calls P fn args w fun e w' => e = .returned v ∧ w = w')
    (h : writL P ops V0 N (JA w00 H Ty zs d0 C) (EA H Ty F) Q ds (i + 1) rest (putV V o.dst v) En) : writL P ops V0 N (JA w00 H Ty zs d0 C) (EA H Ty F) Q ds i (o :: rest) V En :=
  writL_opv v (List.all_eq_true.2 fun t ht => List.all_eq_true.1 hlk t (gslots_in ht)) hw hd hdn (fun a w hS _ _ hk => by
    rw [exec_agree hs fun t ht => Rt_none (List.all_eq_true.1 hlk t ht) (hk t ht), hx w]
    refine (hc w hS.1).mono fun e w' ⟨he, hww⟩ => ?_
    subst hww
    refine ⟨v, he, ?_, hS.put hne v, EA.refl _⟩
    cases e' : o.dst with
    | none => rw [e'] at hdn; cases hdn
    | some d => rfl) h
theorem alc_alloc (hg : (gslots ops o).all (fun t => (look En t).isNone) = true) (hd : o.dst = some d0) (hdf : dfree En o = true) (hw : Region.wanted o (yielded ops V) = true) (Zc : Array Value) (hz : Zc.size = zs) (hV0 : V0.getD d0 undef = undef) (hdN : d0 < N) (hH : w00.heap.size ≤ H)
    (hC : ∀ w w', C w → Keep H w w' → C w') (hF : w00.heap.size ≤ H)
    (hx : ∀ (a : Act) w, (execOp a.eval o).run P w = .ok (.value (.pointer (some ⟨w.heap.size, 0, none⟩))) (w.alloc (.cells Zc Ty)))
    (h : writL P ops V0 N (JA w00 H Ty zs d0 C) (EA H Ty F) Q ds (i + 1) rest (putV V o.dst (.pointer (some ⟨H, 0, none⟩))) En) : writL P ops V0 N (JA w00 H Ty zs d0 C) (EA H Ty F) Q ds i (o :: rest) V En :=
  writL_opv (.pointer (some ⟨H, 0, none⟩)) hg hw hdf (by rw [hd]; rfl) (fun a w hS hsz hpe hk => by
    have h0 := (hpe d0 hd).trans hV0
    obtain ⟨h1, h2, h3⟩ := hS
    rcases h3 with ⟨_, h3⟩ | ⟨h3, _⟩
    · rw [hx a w]
      subst h3
      have hk : Keep w.heap.size w (w.alloc (.cells Zc Ty)) := Keep.of ((Below.refl _ w).alloc (Nat.le_refl _) _)
      refine ⟨?_, ⟨h1.alloc h1.size _, hC _ _ h2 hk, .inr ⟨?_, Zc, Blk.new w Zc Ty, hz⟩⟩, fun hb => hb.alloc _⟩
      · rw [hd]; rfl
      · rw [hd]; simp [putV, hsz, hdN]
    · rw [h0] at h3; cases h3) h
theorem alc_store (hg : (gslots ops o).all (fun t => (look En t).isNone) = true) (hw : Region.wanted o (yielded ops V) = true) (hd : o.dst = none) (hH : w00.heap.size ≤ H) (hC : ∀ w w', C w → Keep H w w' → C w')
    (hlk : (o.looksAt ops).all (fun t => (look En t).isNone) = true) (y : Operand) (ho : o.op = .store Ty (.tmp d0) y) (hx : V.getD d0 undef = .pointer (some ⟨H, 0, none⟩)) (hy : (⟨V, []⟩ : Act).eval y = .agg F) (hi : (P.info? Ty).map (·.size) = some F.size) (hzF : zs = F.size) (h1 : F.all (·.oneCell') = true)
    (h : writL P ops V0 N (JA w00 H Ty zs d0 C) (EA H Ty F) Q ds (i + 1) rest V ((N + i, fun _ W => Blk W H F Ty) :: En)) : writL P ops V0 N (JA w00 H Ty zs d0 C) (EA H Ty F) Q ds i (o :: rest) V En :=
  writL_op (fun _ W => Blk W H F Ty) hg hw (fun u w w' h hE => hE h) (fun a w hS _ _ hk => by
    have hin' : ∀ t ∈ o.looksAt ops, a.tmps.getD t undef = V.getD t undef := fun t ht => Rt_none (List.all_eq_true.1 hlk t ht) (hk t ht)
    have ht0 : d0 ∈ o.looksAt ops := List.mem_append_left _ (List.mem_filterMap.2 ⟨.tmp d0, by simp [Op.operands, ho], rfl⟩)
    have h0 : a.tmps.getD d0 undef = .pointer (some ⟨H, 0, none⟩) := (hin' d0 ht0).trans hx
    rw [exec_agree (by rw [notSel, ho]) hin']
    have hxv : (⟨V, []⟩ : Act).eval (.tmp d0) = .pointer (some ⟨H, 0, none⟩) := hx
    obtain ⟨k1, k2, k3⟩ := hS
    rcases k3 with ⟨e, _⟩ | ⟨_, cs, hcs, hcz⟩
    · rw [h0] at e; cases e
    · unfold execOp
      simp only [ho, hxv, hy, Instr.storeAt, Instr.sureAddr, Sem.run_bind, Sem.run_pure, Result.andThen_ok, run_storeVar_row w H Ty Ty cs F hcs.at_ hi (by rw [hcz, hzF]) h1]
      have hk : Keep H w (w.setRow H F) := ⟨by simp, fun b _ hb => by unfold World.setRow; simp only [Array.getElem?_modify]; rw [if_neg (fun e => hb e.symm)]⟩
      have hblk : Blk (w.setRow H F) H F Ty := ⟨setRow_heap w H cs F Ty _ hcs.at_⟩
      have hbel : Below w00.heap.size w00 (w.setRow H F) := ⟨k1.os, k1.tape, k1.output, by rw [setRow_size]; exact k1.size, fun j hj => by
        unfold World.setRow
        simp only [Array.getElem?_modify]
        rw [if_neg (by omega)]; exact k1.block j hj⟩
      exact ⟨hd, hblk, ⟨hbel, hC _ _ k2 hk, .inr ⟨h0, F, hblk, hzF.symm⟩⟩, fun _ => hblk⟩) (by rw [keyOf_ge hd]; exact h)
end
end Go.Proofs.Ytmbmmpbfmakfbaa
