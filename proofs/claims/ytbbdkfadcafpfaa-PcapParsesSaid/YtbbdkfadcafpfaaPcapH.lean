/- Captures: whether bytes begin as a capture does: walk of begins; a law for loose regions. -/
import Derived.Test.YtbbdkfadcafpfaaPcapO
import Derived.Test.YtbbdkfadcafpfaaLoose
import Derived.Test.YtbbdkfadcafpfaaArr
set_option linter.unusedVariables false
namespace Go.Proofs.Ytbbdkfadcafpfaa
open Go Go.RowKit

section
variable {P : Program} {ops : Array Oper} {Q : Exit → Act → World → Prop} {S : World → Prop} {N : Nat} {ds : List Deferred} {V : Array Value} {E : Env} {o : Oper} {rest : List Oper}
/-- A known value made out of one slot that is known by a relation. -/
theorem looseL_fromv {e : Tmp} (p : Rl) (v : Value) (hg : (gslots ops o).all (fun t => (look E t).isNone) = true) (hlk : (o.looksAt ops).all (fun t => t == e || (look E t).isNone) = true) (he : look E e = some p) (hV : e < V.size) (hs : notSel o = true) (hd : dfree E o = true) (hw : Region.wanted o (yielded ops V) = true) (hin : e ∈ o.looksAt ops)
    (hx : ∀ u w, p u w → (execOp (⟨V.setIfInBounds e u, []⟩ : Act).eval o).run P w = .ok (.value v) w) (h : looseL P ops Q S N ds rest (putV V o.dst v) E) : looseL P ops Q S N ds (o :: rest) V E :=
  .inl ⟨v, fun a w hS hk => .inl ⟨(wanted_agree hg hk).trans hw, by
    have hp : p (a.tmps.getD e undef) w := by
      have := hk e hin
      unfold Rt at this
      rw [he] at this; exact this
    rw [exec_agree (V := V.setIfInBounds e (a.tmps.getD e undef)) hs fun t ht => by
      by_cases hte : t = e
      · subst hte; simp [hV]
      · rw [show (V.setIfInBounds e (a.tmps.getD e undef)).getD t undef = V.getD t undef from by simp [Array.getElem?_setIfInBounds_ne (fun h => hte h.symm)]]
        refine Rt_none ?_ (hk t ht)
        have := List.all_eq_true.1 hlk t ht
        have hne : (t == e) = false := by simpa using hte
        rw [hne, Bool.false_or] at this
        exact this, hx _ w hp]
    exact ⟨rfl, hS, Below.refl _ _⟩⟩, hd, h⟩
end
theorem tmps_loose {T V : Array Value} {En : Env} {W : World} {N : Nat} (ls : List Nat) (hN : T.size = N) (hV : V.size = T.size) (hEn : (List.range T.size).all (fun t => ls.contains t || (look En t).isNone) = true) (hR : ∀ t, t < N → Rt V En t (T.getD t undef) W) : T = ls.foldl (fun v d => v.setIfInBounds d (T.getD d undef)) V :=
  slots_set ls V hV fun i hi hn => by
    have h3 := List.all_eq_true.1 hEn i (List.mem_range.2 hi)
    simp only [Bool.or_eq_true] at h3
    have h4 : (look En i).isNone = true := by rcases h3 with h | h; exact absurd (by simpa using h) hn; exact h
    have h5 := Rt_none h4 (hR i (by omega))
    have hi' : i < V.size := by omega
    rw [Array.getElem?_eq_getElem hi, Array.getElem?_eq_getElem hi']
    simp only [Array.getD_eq_getD_getElem?, Array.getElem?_eq_getElem hi, Array.getElem?_eq_getElem hi', Option.getD_some] at h5
    rw [h5]
def BytP (bs : List Int) : Rl := fun u W => ∃ A n c, u = .slice A n c ∧ RB W A n c bs
theorem BytP.stable (bs : List Int) : StableR (BytP bs) := fun u w w' ⟨A, n, c, h1, h2⟩ hb => ⟨A, n, c, h1, h2.below hb⟩

def beginsV (bs : List Int) : Int := if bs.length < 24 then 3 else if (bs.take 24 == headP) = true then 0 else 4
theorem en_PHead (args : Array Value) (w : World) : (callFunc 60 args).run Try.prog w = .ok (.enter 60 args) w := enters Try.func60 (by kernel_rfl) (by kernel_rfl) args w
theorem en_PEqual (args : Array Value) (w : World) : (callFunc 16 args).run Try.prog w = .ok (.enter 16 args) w := enters Try.func16 (by kernel_rfl) (by kernel_rfl) args w
set_option maxRecDepth 100000 in
set_option maxHeartbeats 1000000 in
theorem PBegins_any (A : Option Addr) (n c : Nat) (bs : List Int) (w : World) (h : RB w A n c bs) (hn : n ≤ 100000) :
    Calls Try.prog 77 #[.slice A n c] w fun e w' => e = .returned (.int .i64 (beginsV bs)) ∧ Below w.heap.size w w' := by
  have hlen := h.len
  have hbv : beginsV bs = if n < 24 then 3 else if (bs.take 24 == headP) = true then 0 else 4 := by unfold beginsV; rw [hlen]
  by_cases h24 : n < 24
  · have hv := Lib.hid (hbv.trans (if_pos h24))
    clear h hbv hlen
    go_enter Try.func77, Try.ntmps77
    go_wp2
    go_ret
    exact ⟨ret_int hv.out.symm, Below.refl _ _⟩
  · rw [if_neg h24] at hbv
    have hf := h.first_ (k := 24) (by omega)
    have hnc := h.nc
    have hD := Lib.hid (fun W (hW : Below w.heap.size w W) => hf.below hW)
    have hE := Lib.hid (fun A2 n2 c2 W (h1 : RB W A 24 c (bs.take 24)) (h2 : RB W A2 n2 c2 headP) => Equal_any A A2 24 c n2 c2 (bs.take 24) headP W h1 h2)
    have hbt := Below.refl w.heap.size w
    have i1 : (24 : Int) ≤ c := by omega
    have i2 : 24 ≤ c := by omega
    have hK := Lib.hid (show ∀ W W', (fun W => Below w.heap.size w W) W → Below W.heap.size W W' → (fun W => Below w.heap.size w W) W' from fun W W' h1 h2 => h1.trans (h2.mono h1.size))
    clear h hf hlen
    generalize (bs.take 24 == headP) = eqb at *
    go_enter Try.func77, Try.ntmps77
    go_wp2
    refine wp_region_loose (fun W => Below w.heap.size w W) (by kernel_rfl) (by kernel_rfl) (by kernel_rfl) hbt.drew ?_
    repeat (first
      | (refine looseL_skip (by rfl) (by rfl) rfl ?_; simp only [putV, List.setIfInBounds_toArray, List.set_cons_zero, List.set_cons_succ])
      | (refine looseL_call0E (d := 10) (BytP headP) (by rfl) rfl 60 _ rfl en_PHead rfl (BytP.stable headP) ?_ ?_; (intro W hS; exact (PHead_any W).mono fun e W' ⟨A9, c9, he, ho, hb⟩ => ⟨⟨_, he, A9, 24, c9, rfl, ho.rb⟩, hK.out W W' hS hb, hb⟩))
      | (refine looseL_call2 (v := .bool eqb) (by rfl) rfl 16 (.tmp 9) (.tmp 10) _ rfl en_PEqual (by rfl) ?_ ?_; (intro vx vy W hS hx hy; cases hx; obtain ⟨A9, n9, c9, rfl, r9⟩ := hy; exact (toB (hE.out A9 n9 c9 W (hD.out W hS) r9)).mono fun e W' ⟨he, hb⟩ => ⟨he, hK.out W W' hS hb, hb⟩); simp only [putV, List.setIfInBounds_toArray, List.set_cons_zero, List.set_cons_succ])
      | (refine looseL_val (v := ?_) (by rfl) (by rfl) (by rfl) rfl (fun W hS => ?_) ?_; rotate_left; (· (clear hS; go_simp; try with_reducible rfl)); simp only [putV, List.setIfInBounds_toArray, List.set_cons_zero, List.set_cons_succ]))
    refine looseL_nil fun a W hS hsz hds hR => ?_
    have hT := tmps_loose (T := a.tmps) [10] hsz (by rw [hsz]; rfl) (by rw [hsz]; rfl) hR
    rw [List.foldl_cons, List.foldl_nil] at hT
    generalize a.tmps.getD 10 undef = u1 at hT
    simp only [List.setIfInBounds_toArray, List.set_cons_zero, List.set_cons_succ] at hT
    clear hR hsz
    obtain ⟨T, D⟩ := a
    have hD' : D = [] := hds
    subst hD'
    dsimp only at hT
    subst hT
    clear hds
    replace hS := Lib.hid hS
    cases eqb
    · have hv := Lib.hid (hbv.trans (if_neg (by decide)))
      clear hbv
      go_wp2
      go_ret
      exact ⟨ret_int hv.out.symm, hS.out⟩
    · have hv := Lib.hid (hbv.trans (if_pos rfl))
      clear hbv
      go_wp2
      go_ret
      exact ⟨ret_int hv.out.symm, hS.out⟩
end Go.Proofs.Ytbbdkfadcafpfaa
