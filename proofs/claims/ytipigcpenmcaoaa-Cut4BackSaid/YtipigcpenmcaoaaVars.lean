/- A drawn region that makes several struct variables of one type ('x, y := a, b'): whatever the order, each holds its value in the end. -/
import Derived.Test.YtipigcpenmcaoaaMake
set_option linter.unusedVariables false
namespace Go.Proofs.Ytipigcpenmcaoaa
open Go Go.RowKit

/-- A variable: the place of its making, of its store, its slot, what is stored. -/
structure Vr where
  ia : Nat
  ist : Nat
  d : Tmp
  C : Array Value
def V1 (H : Nat) (Ty : TypeId) (zs : Nat) (v : Vr) (L : Array Bool) (T : Array Value) (W : World) : Prop :=
  (L.getD v.ia true = false → T.getD v.d undef = undef ∧ L.getD v.ist true = false) ∧
    (L.getD v.ia true = true → ∃ g cs, T.getD v.d undef = .pointer (some ⟨g, 0, none⟩) ∧ H ≤ g ∧ Blk W g cs Ty ∧ cs.size = zs ∧ (L.getD v.ist true = true → cs = v.C))
def JV (w00 : World) (H : Nat) (Ty : TypeId) (zs : Nat) (vs : List Vr) (L : Array Bool) (T : Array Value) (W : World) : Prop :=
  Below w00.heap.size w00 W ∧ H ≤ W.heap.size ∧ (∀ v ∈ vs, V1 H Ty zs v L T W) ∧
    (∀ v ∈ vs, ∀ v' ∈ vs, v.d ≠ v'.d → L.getD v.ia true = true → L.getD v'.ia true = true → T.getD v.d undef ≠ T.getD v'.d undef)
section
variable {P : Program} {ops : Array Oper} {V0 : Array Value} {N : Nat} {Q : Exit → Act → World → Prop} {ds : List Deferred} {V : Array Value} {En : Env} {o : Oper} {rest : List Oper} {i : Nat}
variable {w00 : World} {H : Nat} {Ty : TypeId} {zs : Nat} {vs : List Vr}
theorem V1.go {v : Vr} {L : Array Bool} {T : Array Value} {W W' : World} (h : V1 H Ty zs v L T W) (hb : Below W.heap.size W W') {d : Option Tmp} (hd : d ≠ some v.d) (h1 : i ≠ v.ia) (h2 : i ≠ v.ist) (u : Value) :
    V1 H Ty zs v (L.setIfInBounds i true) (putV T d u) W' := by
  obtain ⟨k4, k5⟩ := h
  refine ⟨fun h => ?_, fun h => ?_⟩
  · rw [getD_set_ne true h1] at h
    rw [putV_ne hd, getD_set_ne true h2]
    exact k4 h
  · rw [getD_set_ne true h1] at h
    obtain ⟨g, cs, e1, e2, e3, e4, e5⟩ := k5 h
    refine ⟨g, cs, by rw [putV_ne hd]; exact e1, e2, e3.to hb, e4, fun h => ?_⟩
    rw [getD_set_ne true h2] at h
    exact e5 h
theorem vr_val {v : Value} (hlk : (o.looksAt ops).all (fun t => (look En t).isNone) = true) (hs : notSel o = true) (hd : dfree En o = true) (hdn : o.dst.isSome = true) (hw : Region.wanted o (yielded ops V) = true) (hne : ∀ x ∈ vs, o.dst ≠ some x.d ∧ i ≠ x.ia ∧ i ≠ x.ist)
    (hv : ∀ w, Below w00.heap.size w00 w → (execOp (⟨V, []⟩ : Act).eval o).run P w = .ok (.value v) w) (h : lstL P ops V0 N (JV w00 H Ty zs vs) (StayT Ty) Q ds (i + 1) rest (putV V o.dst v) En) : lstL P ops V0 N (JV w00 H Ty zs vs) (StayT Ty) Q ds i (o :: rest) V En :=
  lstL_opv v (List.all_eq_true.2 fun t ht => List.all_eq_true.1 hlk t (gslots_in ht)) hw hd hdn (fun L a w hS _ _ _ hk => by
    rw [exec_agree hs fun t ht => Rt_none (List.all_eq_true.1 hlk t ht) (hk t ht), hv w hS.1]
    obtain ⟨k1, k2, k3, k4⟩ := hS
    refine ⟨?_, ⟨k1, k2, fun x hx => (k3 x hx).go (Below.refl _ _) (hne x hx).1 (hne x hx).2.1 (hne x hx).2.2 v, fun x hx y hy hxy lx ly => ?_⟩, StayT.refl _ _⟩
    · cases e : o.dst with
      | none => rw [e] at hdn; cases hdn
      | some d => rfl
    · rw [getD_set_ne true (hne x hx).2.1] at lx
      rw [getD_set_ne true (hne y hy).2.1] at ly
      rw [putV_ne (hne x hx).1, putV_ne (hne y hy).1]
      exact k4 x hx y hy hxy lx ly) h
theorem vr_row (hlk : (o.looksAt ops).all (fun t => (look En t).isNone) = true) (hs : notSel o = true) (hd : dfree En o = true) (hdn : o.dst.isSome = true) (hw : Region.wanted o (yielded ops V) = true) (hne : ∀ x ∈ vs, o.dst ≠ some x.d ∧ i ≠ x.ia ∧ i ≠ x.ist)
    (ty : TypeId) (x : Operand) (ho : o.op = .load ty x) (g : Nat) (hx : (⟨V, []⟩ : Act).eval x = .pointer (some ⟨g, 0, none⟩)) (t : TypeId) (cs : Array Value) (d : TypeDesc) (hh : ∀ w, Below w00.heap.size w00 w → Blk w g cs t)
    (hu : P.underlying ty = some d) (hdd : (match d with | .struct _ | .array _ _ => true | _ => false) = true) (hi : (P.info? ty).map (·.size) = some cs.size) (h : lstL P ops V0 N (JV w00 H Ty zs vs) (StayT Ty) Q ds (i + 1) rest (putV V o.dst (.agg cs)) En) : lstL P ops V0 N (JV w00 H Ty zs vs) (StayT Ty) Q ds i (o :: rest) V En :=
  vr_val hlk hs hd hdn hw hne (fun w hS => by
    unfold execOp
    simp only [ho, hx, Instr.loadAt, Instr.sureAddr, Sem.run_bind, Sem.run_pure, Result.andThen_ok, run_loadVar_row w g t ty cs _ d (hh w hS).at_ hu hdd hi]) h
theorem vr_alloc (x : Vr) (hx : x ∈ vs) (hg : (gslots ops o).all (fun t => (look En t).isNone) = true) (hd : o.dst = some x.d) (hw : Region.wanted o (yielded ops V) = true) (Zc : Array Value) (hz : Zc.size = zs) (hdN : x.d < N) (h1 : i = x.ia) (h2 : ∀ y ∈ vs, i ≠ y.ist ∧ (y.d = x.d → y = x) ∧ (y.d ≠ x.d → i ≠ y.ia))
    (hr : ∀ (a : Act) w, (execOp a.eval o).run P w = .ok (.value (.pointer (some ⟨w.heap.size, 0, none⟩))) (w.alloc (.cells Zc Ty)))
    (h : lstL P ops V0 N (JV w00 H Ty zs vs) (StayT Ty) Q ds (i + 1) rest V ((x.d, fun u _ => ∃ g, u = .pointer (some ⟨g, 0, none⟩)) :: En)) : lstL P ops V0 N (JV w00 H Ty zs vs) (StayT Ty) Q ds i (o :: rest) V En :=
  lstL_op (fun u _ => ∃ g, u = .pointer (some ⟨g, 0, none⟩)) hg hw (fun u w w' h _ => h) (fun L a w hS h0 hsz hpe hk => by
    obtain ⟨k1, k2, k3, k4⟩ := hS
    have hb : Below w.heap.size w (w.alloc (.cells Zc Ty)) := (Below.refl _ w).alloc (Nat.le_refl _) _
    have hnew : (putV a.tmps o.dst (.pointer (some ⟨w.heap.size, 0, none⟩))).getD x.d undef = .pointer (some ⟨w.heap.size, 0, none⟩) := by rw [hd]; simp [putV, hsz, hdN]
    have hold : ∀ y ∈ vs, y.d ≠ x.d → (putV a.tmps o.dst (.pointer (some ⟨w.heap.size, 0, none⟩))).getD y.d undef = a.tmps.getD y.d undef := fun y _ hy => putV_ne (by rw [hd]; exact fun e => hy (Option.some.inj e).symm) _
    have hlt : ∀ y ∈ vs, y.d ≠ x.d → L.getD y.ia true = true → a.tmps.getD y.d undef ≠ .pointer (some ⟨w.heap.size, 0, none⟩) := fun y hy hyx hl e => by
      obtain ⟨g, cs, e1, e2, e3, _⟩ := (k3 y hy).2 hl
      rw [e1] at e
      have := e3.lt
      cases e
      omega
    rw [hr a w]
    refine ⟨by rw [hd]; exact ⟨_, rfl⟩, ⟨k1.trans (hb.mono k1.size), Nat.le_trans k2 hb.size, fun y hy => ?_, fun y hy z hz' hyz ly lz => ?_⟩, StayT.of hb⟩
    · by_cases e : y.d = x.d
      · obtain rfl := (h2 y hy).2.1 e
        refine ⟨fun h => ?_, fun h => ?_⟩
        · exfalso
          rw [← h1] at h
          rcases Nat.lt_or_ge i L.size with hl | hl
          · simp [hl] at h
          · have : L.getD i true = true := by simp [Array.getElem?_eq_none hl]
            rw [this] at h0; cases h0
        · refine ⟨w.heap.size, Zc, hnew, k2, Blk.new w Zc Ty, hz, fun h' => ?_⟩
          rw [getD_set_ne true (h2 y hy).1] at h'
          have := ((k3 y hy).1 (by rw [← h1]; exact h0)).2
          rw [this] at h'; cases h'
      · exact (k3 y hy).go hb (by rw [hd]; exact fun e' => e (Option.some.inj e').symm) ((h2 y hy).2.2 e) (h2 y hy).1 _
    · by_cases e : y.d = x.d
      · have hzx : z.d ≠ x.d := fun e' => hyz (e.trans e'.symm)
        rw [getD_set_ne true ((h2 z hz').2.2 hzx)] at lz
        rw [e, hnew, hold z hz' hzx]
        exact fun e' => hlt z hz' hzx lz e'.symm
      · rw [getD_set_ne true ((h2 y hy).2.2 e)] at ly
        by_cases e2 : z.d = x.d
        · rw [e2, hnew, hold y hy e]
          exact hlt y hy e ly
        · rw [getD_set_ne true ((h2 z hz').2.2 e2)] at lz
          rw [hold y hy e, hold z hz' e2]
          exact k4 y hy z hz' hyz ly lz) (by rw [keyOf_some hd]; exact h)
theorem vr_store (x : Vr) (hx : x ∈ vs) {e : Tmp} (hg : (gslots ops o).all (fun t => (look En t).isNone) = true) (hw : Region.wanted o (yielded ops V) = true) (hd : o.dst = none) (h1 : i = x.ist) (h2 : ∀ y ∈ vs, i ≠ y.ia ∧ (y.d = x.d → y = x) ∧ (y.d ≠ x.d → i ≠ y.ist)) (hH : w00.heap.size ≤ H) (ho : o.op = .store Ty (.tmp x.d) (.tmp e))
    (hl0 : look En x.d = some (fun u _ => ∃ g, u = .pointer (some ⟨g, 0, none⟩))) (hle : (look En e).isNone = true) (hVe : V.getD e undef = .agg x.C) (hCz : x.C.size = zs) (hC1 : x.C.all (·.oneCell') = true) (hi : (P.info? Ty).map (·.size) = some zs)
    (h : lstL P ops V0 N (JV w00 H Ty zs vs) (StayT Ty) Q ds (i + 1) rest V ((N + i, fun _ _ => True) :: En)) : lstL P ops V0 N (JV w00 H Ty zs vs) (StayT Ty) Q ds i (o :: rest) V En :=
  lstL_op (fun _ _ => True) hg hw (fun _ _ _ _ _ => trivial) (fun L a w hS h0 hsz hpe hk => by
    obtain ⟨k1, k2, k3, k4⟩ := hS
    have hd0 : x.d ∈ o.looksAt ops := List.mem_append_left _ (List.mem_filterMap.2 ⟨.tmp x.d, by simp [Op.operands, ho], rfl⟩)
    have hde : e ∈ o.looksAt ops := List.mem_append_left _ (List.mem_filterMap.2 ⟨.tmp e, by simp [Op.operands, ho], rfl⟩)
    obtain ⟨g, hgp⟩ : ∃ g, a.tmps.getD x.d undef = .pointer (some ⟨g, 0, none⟩) := by have := hk x.d hd0; unfold Rt at this; rw [hl0] at this; exact this
    have hF1 : a.tmps.getD e undef = .agg x.C := (Rt_none hle (hk e hde)).trans hVe
    have hLa : L.getD x.ia true = true := by
      cases hl : L.getD x.ia true with
      | true => rfl
      | false => have := ((k3 x hx).1 hl).1; rw [hgp] at this; cases this
    obtain ⟨g', cs, e1, e2, e3, e4, e5⟩ := (k3 x hx).2 hLa
    rw [hgp] at e1
    cases e1
    have hxv : a.eval (.tmp x.d) = .pointer (some ⟨g, 0, none⟩) := hgp
    have hyv : a.eval (.tmp e) = .agg x.C := hF1
    unfold execOp
    simp only [ho, hxv, hyv, Instr.storeAt, Instr.sureAddr, Sem.run_bind, Sem.run_pure, Result.andThen_ok, run_storeVar_row w g Ty Ty cs x.C e3.at_ (by rw [hi, hCz]) (by rw [e4, hCz]) hC1]
    have hst : StayT Ty w (w.setRow g x.C) := ⟨by rw [setRow_size]; exact Nat.le_refl _, fun k c T' fz hT hk => by
      have : k ≠ g := fun e => by
        subst e
        rw [e3.at_] at hk
        cases hk
        exact hT rfl
      rw [row_ne w g k x.C this]; exact hk⟩
    refine ⟨hd, trivial, ⟨below_row k1 (Nat.le_trans hH e2) x.C, by rw [setRow_size]; exact k2, fun y hy => ?_, fun y hy z hz hyz ly lz => ?_⟩, hst⟩
    · by_cases e : y.d = x.d
      · obtain rfl := (h2 y hy).2.1 e
        refine ⟨fun h => ?_, fun _ => ?_⟩
        · rw [getD_set_ne true (h2 y hy).1, hLa] at h; cases h
        · exact ⟨g, y.C, hgp, e2, ⟨setRow_heap w g cs y.C Ty _ e3.at_⟩, hCz, fun _ => rfl⟩
      · obtain ⟨m1, m2⟩ := k3 y hy
        refine ⟨fun h => ?_, fun h => ?_⟩
        · rw [getD_set_ne true (h2 y hy).1] at h
          rw [getD_set_ne true ((h2 y hy).2.2 e)]
          exact m1 h
        · rw [getD_set_ne true (h2 y hy).1] at h
          obtain ⟨g2, c2, f1, f2, f3, f4, f5⟩ := m2 h
          have hne : g2 ≠ g := fun e' => by
            refine k4 y hy x hx e h hLa ?_
            rw [f1, hgp, e']
          refine ⟨g2, c2, f1, f2, ⟨(row_ne w g g2 x.C hne).trans f3.at_⟩, f4, fun h' => ?_⟩
          rw [getD_set_ne true ((h2 y hy).2.2 e)] at h'
          exact f5 h'
    · rw [getD_set_ne true (h2 y hy).1] at ly
      rw [getD_set_ne true (h2 z hz).1] at lz
      exact k4 y hy z hz hyz ly lz) (by rw [keyOf_ge hd]; exact h)
end
end Go.Proofs.Ytipigcpenmcaoaa
