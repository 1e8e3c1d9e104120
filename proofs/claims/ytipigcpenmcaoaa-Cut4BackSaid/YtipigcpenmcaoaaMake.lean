/- A drawn region that reads, calls, makes ONE struct's variable, and stores the struct into it: whatever the order, the variable holds the struct in the end. -/
import Derived.Test.YtipigcpenmcaoaaWriL
import Derived.Test.YtipigcpenmcaoaaAlc
set_option linter.unusedVariables false
namespace Go.Proofs.Ytipigcpenmcaoaa
open Go Go.RowKit

/-- The slots, behind a region some of whose slots are known by relations. -/
theorem slots_set {T : Array Value} : ∀ (ls : List Nat) (V : Array Value), V.size = T.size → (∀ i, i < T.size → i ∉ ls → T[i]? = V[i]?) → T = ls.foldl (fun v d => v.setIfInBounds d (T.getD d undef)) V
  | [], V, hV, h => by
    show T = V
    apply Array.ext_getElem?
    intro i
    by_cases hi : i < T.size
    · exact h i hi (by simp)
    · rw [Array.getElem?_eq_none (by omega), Array.getElem?_eq_none (by omega)]
  | d :: ls, V, hV, h => by
    refine slots_set ls (V.setIfInBounds d (T.getD d undef)) (by simp [hV]) fun i hi hn => ?_
    by_cases e : i = d
    · subst e
      have : i < V.size := by omega
      simp [hi, this]
    · rw [Array.getElem?_setIfInBounds_ne (Ne.symm e)]
      exact h i hi (by simp [e, hn])
theorem tmps_eql {T V : Array Value} {En : Env} {W : World} (ls : List Nat) (hV : V.size = T.size) (hEn : (List.range T.size).all (fun t => ls.contains t || (look En t).isNone) = true) (hR : ∀ t, Rt V En t (T.getD t undef) W) : T = ls.foldl (fun v d => v.setIfInBounds d (T.getD d undef)) V :=
  slots_set ls V hV fun i hi hn => by
    have h3 := List.all_eq_true.1 hEn i (List.mem_range.2 hi)
    simp only [Bool.or_eq_true] at h3
    have h4 : (look En i).isNone = true := by rcases h3 with h | h; exact absurd (by simpa using h) hn; exact h
    have h5 := Rt_none h4 (hR i)
    have hi' : i < V.size := by omega
    rw [Array.getElem?_eq_getElem hi, Array.getElem?_eq_getElem hi']
    simp only [Array.getD_eq_getD_getElem?, Array.getElem?_eq_getElem hi, Array.getElem?_eq_getElem hi', Option.getD_some] at h5
    rw [h5]

/-- Blocks of other types stay. -/
def StayT (Ty : TypeId) (w w' : World) : Prop := w.heap.size ≤ w'.heap.size ∧ ∀ (k : Nat) (cs : Array Value) (T' : TypeId) (fz : Nat × Nat), T' ≠ Ty → w.heap[k]? = some (Obj.cells cs T' fz) → w'.heap[k]? = some (Obj.cells cs T' fz)
theorem StayT.refl (Ty : TypeId) (w : World) : StayT Ty w w := ⟨Nat.le_refl _, fun _ _ _ _ _ h => h⟩
theorem StayT.of {Ty : TypeId} {w w' : World} (h : Below w.heap.size w w') : StayT Ty w w' := ⟨h.size, fun k cs T' fz _ hk => (h.block k (Array.getElem?_eq_some_iff.1 hk).1).trans hk⟩
theorem OB.stay {Ty : TypeId} {w w' : World} {base : Nat} {A : Option Addr} {n c : Nat} {bs : List Int} (h : OB w base A n c bs) (hs : StayT Ty w w') (ht : 5 ≠ Ty) : OB w' base A n c bs := by
  refine ⟨⟨h.own.1, ?_⟩, h.byt⟩
  rcases h.own.2 with h | ⟨g, cap, cur, e, hg, hh, r⟩
  · exact .inl h
  · exact .inr ⟨g, cap, cur, e, hg, hs.2 _ _ _ _ ht hh, r⟩
theorem OwnR.stay {Ty : TypeId} {base n : Nat} {bs : List Int} (ht : 5 ≠ Ty) : StbE (StayT Ty) (OwnR base n bs) := fun u w w' ⟨A, c, h1, h2⟩ hs => ⟨A, c, h1, h2.stay hs ht⟩
theorem row_ne (w : World) (g b : Nat) (cs : Array Value) (hb : b ≠ g) : (w.setRow g cs).heap[b]? = w.heap[b]? := by
  unfold World.setRow
  simp only [Array.getElem?_modify]
  rw [if_neg (fun e => hb e.symm)]
theorem below_row {w0 w : World} {N B : Nat} (h : Below N w0 w) (hB : N ≤ B) (P' : Array Value) : Below N w0 (w.setRow B P') :=
  ⟨h.os, h.tape, h.output, by rw [setRow_size]; exact h.size, fun j hj => (row_ne w B j P' (by omega)).trans (h.block j hj)⟩
theorem StayT.row {Ty : TypeId} {w : World} {g : Nat} {old : Array Value} (h : Blk w g old Ty) (F : Array Value) : StayT Ty w (w.setRow g F) := ⟨by rw [setRow_size]; exact Nat.le_refl _, fun k c T' fz hT hk => by
  have : k ≠ g := fun e => by
    subst e
    rw [h.at_] at hk
    cases hk
    exact hT rfl
  rw [row_ne w g k F this]; exact hk⟩
theorem Blk.upto {W W' : World} {B N : Nat} {P : Array Value} {T : TypeId} (h : Blk W B P T) (hb : Below N W W') (hB : B < N) : Blk W' B P T := ⟨(hb.block B hB).trans h.at_⟩

section
variable (w00 : World) (H ia ist : Nat) (d0 : Tmp) (Ty : TypeId) (zs : Nat) (C : World → Prop) (okF : Array Value → World → Prop)
def JM (L : Array Bool) (T : Array Value) (W : World) : Prop :=
  Below w00.heap.size w00 W ∧ H ≤ W.heap.size ∧ C W ∧ (L.getD ia true = false → T.getD d0 undef = undef ∧ L.getD ist true = false) ∧
    (L.getD ia true = true → ∃ g cs, T.getD d0 undef = .pointer (some ⟨g, 0, none⟩) ∧ H ≤ g ∧ Blk W g cs Ty ∧ cs.size = zs ∧ (L.getD ist true = true → okF cs W))
structure MkH : Prop where
  hC : ∀ W W', C W → Below H W W' → C W'
  hF : ∀ cs, StbE (StayT Ty) (fun _ W => okF cs W)
  hH : w00.heap.size ≤ H
end
section
variable {P : Program} {ops : Array Oper} {V0 : Array Value} {N : Nat} {Q : Exit → Act → World → Prop} {ds : List Deferred} {V : Array Value} {En : Env} {o : Oper} {rest : List Oper} {i : Nat}
variable {w00 : World} {H ia ist : Nat} {d0 : Tmp} {Ty : TypeId} {zs : Nat} {C : World → Prop} {okF : Array Value → World → Prop}
theorem putV_ne {T : Array Value} {d : Option Tmp} (hd : d ≠ some d0) (u : Value) : (putV T d u).getD d0 undef = T.getD d0 undef := by
  cases d with
  | none => rfl
  | some d =>
    have : d ≠ d0 := fun e => hd (by rw [e])
    simp [putV, Array.getElem?_setIfInBounds_ne this]
theorem JM.go {L : Array Bool} {T : Array Value} {W W' : World} (h : JM w00 H ia ist d0 Ty zs C okF L T W) (hM : MkH w00 H Ty C okF) (hb : Below W.heap.size W W') {d : Option Tmp} (hd : d ≠ some d0) (h1 : i ≠ ia) (h2 : i ≠ ist) (u : Value) :
    JM w00 H ia ist d0 Ty zs C okF (L.setIfInBounds i true) (putV T d u) W' := by
  obtain ⟨k1, k2, k3, k4, k5⟩ := h
  refine ⟨k1.trans (hb.mono k1.size), Nat.le_trans k2 hb.size, hM.hC _ _ k3 (hb.mono k2), fun h => ?_, fun h => ?_⟩
  · rw [getD_set_ne true h1] at h
    rw [putV_ne hd, getD_set_ne true h2]
    exact k4 h
  · rw [getD_set_ne true h1] at h
    obtain ⟨g, cs, e1, e2, e3, e4, e5⟩ := k5 h
    refine ⟨g, cs, by rw [putV_ne hd]; exact e1, e2, e3.to hb, e4, fun h => ?_⟩
    rw [getD_set_ne true h2] at h
    exact hM.hF cs undef _ _ (e5 h) (StayT.of hb)
theorem mk_val {v : Value} (hlk : (o.looksAt ops).all (fun t => (look En t).isNone) = true) (hs : notSel o = true) (hd : dfree En o = true) (hdn : o.dst.isSome = true) (hw : Region.wanted o (yielded ops V) = true) (hne : o.dst ≠ some d0) (h1 : i ≠ ia) (h2 : i ≠ ist) (hM : MkH w00 H Ty C okF)
    (hv : ∀ w, (Below w00.heap.size w00 w ∧ C w) → (execOp (⟨V, []⟩ : Act).eval o).run P w = .ok (.value v) w) (h : lstL P ops V0 N (JM w00 H ia ist d0 Ty zs C okF) (StayT Ty) Q ds (i + 1) rest (putV V o.dst v) En) : lstL P ops V0 N (JM w00 H ia ist d0 Ty zs C okF) (StayT Ty) Q ds i (o :: rest) V En :=
  lstL_opv v (List.all_eq_true.2 fun t ht => List.all_eq_true.1 hlk t (gslots_in ht)) hw hd hdn (fun L a w hS _ _ _ hk => by
    rw [exec_agree hs fun t ht => Rt_none (List.all_eq_true.1 hlk t ht) (hk t ht), hv w ⟨hS.1, hS.2.2.1⟩]
    refine ⟨?_, hS.go hM (Below.refl _ _) hne h1 h2 v, StayT.refl _ _⟩
    cases e : o.dst with
    | none => rw [e] at hdn; cases hdn
    | some d => rfl) h
theorem mk_callv (v : Value) (hlk : (o.looksAt ops).all (fun t => (look En t).isNone) = true) (hs : notSel o = true) (hd : dfree En o = true) (hdn : o.dst.isSome = true) (hw : Region.wanted o (yielded ops V) = true) (hne : o.dst ≠ some d0) (h1 : i ≠ ia) (h2 : i ≠ ist) (hM : MkH w00 H Ty C okF)
    (fn : Nat) (args : Array Value) (hx : ∀ w, (execOp (⟨V, []⟩ : Act).eval o).run P w = .ok (.enter fn args) w) (hc : ∀ w, (Below w00.heap.size w00 w ∧ C w) → Calls P fn args w fun e w' => e = .returned v ∧ Below w.heap.size w w')
    (h : lstL P ops V0 N (JM w00 H ia ist d0 Ty zs C okF) (StayT Ty) Q ds (i + 1) rest (putV V o.dst v) En) : lstL P ops V0 N (JM w00 H ia ist d0 Ty zs C okF) (StayT Ty) Q ds i (o :: rest) V En :=
  lstL_opv v (List.all_eq_true.2 fun t ht => List.all_eq_true.1 hlk t (gslots_in ht)) hw hd hdn (fun L a w hS _ _ _ hk => by
    rw [exec_agree hs fun t ht => Rt_none (List.all_eq_true.1 hlk t ht) (hk t ht), hx w]
    refine (hc w ⟨hS.1, hS.2.2.1⟩).mono fun e w' ⟨he, hb⟩ => ?_
    refine ⟨v, he, ?_, hS.go hM hb hne h1 h2 v, StayT.of hb⟩
    cases e' : o.dst with
    | none => rw [e'] at hdn; cases hdn
    | some d => rfl) h
/-- A call whose answer is known by a relation; its arguments are known. -/
theorem mk_callr {d : Tmp} (p : Rl) (hlk : (o.looksAt ops).all (fun t => (look En t).isNone) = true) (hs : notSel o = true) (hd : o.dst = some d) (hw : Region.wanted o (yielded ops V) = true) (hne : o.dst ≠ some d0) (h1 : i ≠ ia) (h2 : i ≠ ist) (hM : MkH w00 H Ty C okF) (hst : StbE (StayT Ty) p)
    (fn : Nat) (args : Array Value) (hx : ∀ w, (execOp (⟨V, []⟩ : Act).eval o).run P w = .ok (.enter fn args) w) (hc : ∀ w, (Below w00.heap.size w00 w ∧ C w) → H ≤ w.heap.size → Calls P fn args w fun e w' => (∃ u, e = .returned u ∧ p u w') ∧ Below w.heap.size w w')
    (h : lstL P ops V0 N (JM w00 H ia ist d0 Ty zs C okF) (StayT Ty) Q ds (i + 1) rest V ((d, p) :: En)) : lstL P ops V0 N (JM w00 H ia ist d0 Ty zs C okF) (StayT Ty) Q ds i (o :: rest) V En :=
  lstL_op p (List.all_eq_true.2 fun t ht => List.all_eq_true.1 hlk t (gslots_in ht)) hw hst (fun L a w hS _ _ _ hk => by
    rw [exec_agree hs fun t ht => Rt_none (List.all_eq_true.1 hlk t ht) (hk t ht), hx w]
    refine (hc w ⟨hS.1, hS.2.2.1⟩ hS.2.1).mono fun e w' ⟨⟨u, he, hp⟩, hb⟩ => ?_
    refine ⟨u, he, ?_, hS.go hM hb hne h1 h2 u, StayT.of hb⟩
    rw [hd]; exact hp) (by rw [keyOf_some hd]; exact h)
/-- An append to nothing. -/
theorem mk_append {d : Tmp} (m : Nat) (ys : List Int) (hlk : (o.looksAt ops).all (fun t => (look En t).isNone) = true) (hs : notSel o = true) (hd : o.dst = some d) (hw : Region.wanted o (yielded ops V) = true) (hne : o.dst ≠ some d0) (h1 : i ≠ ia) (h2 : i ≠ ist) (hM : MkH w00 H Ty C okF) (ht : 5 ≠ Ty)
    (x : Operand) (hop : o.op = .call { callee := .builtin .append, args := #[.const (.slice none 0 0), x], argTypes := #[22, 22] }) {A' : Option Addr} {c' : Nat} (hx : (⟨V, []⟩ : Act).eval x = .slice A' m c')
    (hr : ∀ w, (Below w00.heap.size w00 w ∧ C w) → RB w A' m c' ys) (hm : m ≤ 140737488355328)
    (h : lstL Try.prog ops V0 N (JM w00 H ia ist d0 Ty zs C okF) (StayT Ty) Q ds (i + 1) rest V ((d, OwnR H m ys) :: En)) : lstL Try.prog ops V0 N (JM w00 H ia ist d0 Ty zs C okF) (StayT Ty) Q ds i (o :: rest) V En :=
  lstL_op (OwnR H m ys) (List.all_eq_true.2 fun t ht => List.all_eq_true.1 hlk t (gslots_in ht)) hw (OwnR.stay ht) (fun L a w hS _ _ _ hk => by
    rw [exec_agree hs fun t ht => Rt_none (List.all_eq_true.1 hlk t ht) (hk t ht)]
    obtain ⟨A2, c2, w2, q1, q2, q3, q4⟩ := run_append_bytes w (OB.nil w w.heap.size) (hr w ⟨hS.1, hS.2.2.1⟩) (by omega) (Nat.le_refl _) o.type
    have hbl := (Below.refl w.heap.size w).grown q3 (Nat.le_refl _) (fun k hk => by simp [ownBlk] at hk)
    have hv : (⟨V, []⟩ : Act).eval (.const (.slice none 0 0)) = .slice none 0 0 := rfl
    simp [execOp, hop, resolve, invoke, builtin, hv, hx, q1, Result.andThen, YldW]
    refine ⟨?_, hS.go hM hbl hne h1 h2 _, StayT.of hbl⟩
    rw [hd]
    rw [Nat.zero_add, List.nil_append] at q2
    exact ⟨A2, c2, by first | rfl | simp [ofDst], q2.mono hS.2.1⟩) (by rw [keyOf_some hd]; exact h)
/-- A value made out of one slot that is known by a relation. -/
theorem mk_from {d e : Tmp} (p q : Rl) (hg : (gslots ops o).all (fun t => (look En t).isNone) = true) (hlk : (o.looksAt ops).all (fun t => t == e || (look En t).isNone) = true) (he : look En e = some p) (hV : e < V.size) (hs : notSel o = true) (hd : o.dst = some d) (hw : Region.wanted o (yielded ops V) = true) (hne : o.dst ≠ some d0) (h1 : i ≠ ia) (h2 : i ≠ ist) (hM : MkH w00 H Ty C okF) (hst : StbE (StayT Ty) q) (hin : e ∈ o.looksAt ops)
    (hx : ∀ u w, p u w → ∃ v, (execOp (⟨V.setIfInBounds e u, []⟩ : Act).eval o).run P w = .ok (.value v) w ∧ q v w)
    (h : lstL P ops V0 N (JM w00 H ia ist d0 Ty zs C okF) (StayT Ty) Q ds (i + 1) rest V ((d, q) :: En)) : lstL P ops V0 N (JM w00 H ia ist d0 Ty zs C okF) (StayT Ty) Q ds i (o :: rest) V En :=
  lstL_op q hg hw hst (fun L a w hS _ _ _ hk => by
    have hp : p (a.tmps.getD e undef) w := by
      have := hk e hin
      unfold Rt at this
      rw [he] at this; exact this
    obtain ⟨v, hv1, hv2⟩ := hx _ w hp
    rw [exec_agree (V := V.setIfInBounds e (a.tmps.getD e undef)) hs fun t ht => by
      by_cases hte : t = e
      · subst hte; simp [hV]
      · rw [show (V.setIfInBounds e (a.tmps.getD e undef)).getD t undef = V.getD t undef from by simp [Array.getElem?_setIfInBounds_ne (fun h => hte h.symm)]]
        refine Rt_none ?_ (hk t ht)
        have := List.all_eq_true.1 hlk t ht
        have hne : (t == e) = false := by simpa using hte
        rw [hne, Bool.false_or] at this
        exact this, hv1]
    exact ⟨by rw [hd]; exact hv2, hS.go hM (Below.refl _ _) hne h1 h2 v, StayT.refl _ _⟩) (by rw [keyOf_some hd]; exact h)
/-- The variable is made. -/
theorem mk_alloc (hg : (gslots ops o).all (fun t => (look En t).isNone) = true) (hd : o.dst = some d0) (hw : Region.wanted o (yielded ops V) = true) (Zc : Array Value) (hz : Zc.size = zs) (hdN : d0 < N) (h1 : i = ia) (h2 : i ≠ ist) (hM : MkH w00 H Ty C okF)
    (hx : ∀ (a : Act) w, (execOp a.eval o).run P w = .ok (.value (.pointer (some ⟨w.heap.size, 0, none⟩))) (w.alloc (.cells Zc Ty)))
    (h : lstL P ops V0 N (JM w00 H ia ist d0 Ty zs C okF) (StayT Ty) Q ds (i + 1) rest V ((d0, fun u _ => ∃ g, u = .pointer (some ⟨g, 0, none⟩)) :: En)) : lstL P ops V0 N (JM w00 H ia ist d0 Ty zs C okF) (StayT Ty) Q ds i (o :: rest) V En :=
  lstL_op (fun u _ => ∃ g, u = .pointer (some ⟨g, 0, none⟩)) hg hw (fun u w w' h _ => h) (fun L a w hS h0 hsz hpe hk => by
    subst h1
    obtain ⟨k1, k2, k3, k4, k5⟩ := hS
    have hb : Below w.heap.size w (w.alloc (.cells Zc Ty)) := (Below.refl _ w).alloc (Nat.le_refl _) _
    rw [hx a w]
    refine ⟨by rw [hd]; exact ⟨_, rfl⟩, ⟨k1.trans (hb.mono k1.size), Nat.le_trans k2 hb.size, hM.hC _ _ k3 (hb.mono k2), fun h => ?_, fun h => ?_⟩, StayT.of hb⟩
    · exfalso
      rcases Nat.lt_or_ge i L.size with hl | hl
      · simp [hl] at h
      · have : L.getD i true = true := by simp [Array.getElem?_eq_none hl]
        rw [this] at h0; cases h0
    · refine ⟨w.heap.size, Zc, by rw [hd]; simp [putV, hsz, hdN], k2, Blk.new w Zc Ty, hz, fun h' => ?_⟩
      rw [getD_set_ne true h2, (k4 h0).2] at h'
      cases h') (by rw [keyOf_some hd]; exact h)
/-- The struct is stored. -/
theorem mk_store {e : Tmp} (hg : (gslots ops o).all (fun t => (look En t).isNone) = true) (hw : Region.wanted o (yielded ops V) = true) (hd : o.dst = none) (h1 : i ≠ ia) (h2 : i = ist) (hM : MkH w00 H Ty C okF) (ho : o.op = .store Ty (.tmp d0) (.tmp e))
    (hl0 : look En d0 = some (fun u _ => ∃ g, u = .pointer (some ⟨g, 0, none⟩))) (hle : look En e = some (fun u W => ∃ F, u = .agg F ∧ F.size = zs ∧ F.all (·.oneCell') = true ∧ okF F W)) (hi : (P.info? Ty).map (·.size) = some zs)
    (h : lstL P ops V0 N (JM w00 H ia ist d0 Ty zs C okF) (StayT Ty) Q ds (i + 1) rest V ((N + i, fun _ _ => True) :: En)) : lstL P ops V0 N (JM w00 H ia ist d0 Ty zs C okF) (StayT Ty) Q ds i (o :: rest) V En :=
  lstL_op (fun _ _ => True) hg hw (fun _ _ _ _ _ => trivial) (fun L a w hS h0 hsz hpe hk => by
    subst h2
    obtain ⟨k1, k2, k3, k4, k5⟩ := hS
    have hd0 : d0 ∈ o.looksAt ops := List.mem_append_left _ (List.mem_filterMap.2 ⟨.tmp d0, by simp [Op.operands, ho], rfl⟩)
    have hde : e ∈ o.looksAt ops := List.mem_append_left _ (List.mem_filterMap.2 ⟨.tmp e, by simp [Op.operands, ho], rfl⟩)
    obtain ⟨g, hgp⟩ : ∃ g, a.tmps.getD d0 undef = .pointer (some ⟨g, 0, none⟩) := by have := hk d0 hd0; unfold Rt at this; rw [hl0] at this; exact this
    obtain ⟨F, hF1, hF2, hF3, hF4⟩ : ∃ F, a.tmps.getD e undef = .agg F ∧ F.size = zs ∧ F.all (·.oneCell') = true ∧ okF F w := by have := hk e hde; unfold Rt at this; rw [hle] at this; exact this
    have hLa : L.getD ia true = true := by
      cases hl : L.getD ia true with
      | true => rfl
      | false => have := (k4 hl).1; rw [hgp] at this; cases this
    obtain ⟨g', cs, e1, e2, e3, e4, e5⟩ := k5 hLa
    rw [hgp] at e1
    cases e1
    have hxv : a.eval (.tmp d0) = .pointer (some ⟨g, 0, none⟩) := hgp
    have hyv : a.eval (.tmp e) = .agg F := hF1
    unfold execOp
    simp only [ho, hxv, hyv, Instr.storeAt, Instr.sureAddr, Sem.run_bind, Sem.run_pure, Result.andThen_ok, run_storeVar_row w g Ty Ty cs F e3.at_ (by rw [hi, hF2]) (by rw [e4, hF2]) hF3]
    have hst : StayT Ty w (w.setRow g F) := ⟨by rw [setRow_size]; exact Nat.le_refl _, fun k c T' fz hT hk => by
      have : k ≠ g := fun e => by
        subst e
        rw [e3.at_] at hk
        cases hk
        exact hT rfl
      rw [row_ne w g k F this]; exact hk⟩
    have hbH : Below H w (w.setRow g F) := below_row (Below.mono (Below.refl _ w) (Nat.le_trans e2 (Nat.le_of_lt e3.lt))) e2 F
    refine ⟨hd, trivial, ⟨below_row k1 (Nat.le_trans hM.hH e2) F, by rw [setRow_size]; exact k2, hM.hC _ _ k3 hbH, fun h => ?_, fun _ => ?_⟩, hst⟩
    · rw [getD_set_ne true h1, hLa] at h; cases h
    · exact ⟨g, F, hgp, e2, ⟨setRow_heap w g cs F Ty _ e3.at_⟩, hF2, fun _ => hM.hF F undef _ _ hF4 hst⟩) (by rw [keyOf_ge hd]; exact h)
end
end Go.Proofs.Ytipigcpenmcaoaa
