/- A drawn region whose operations may make memory and write it, each its own cells: whatever the order, each slot, and what each store leaves, is in the end as in the text's order. -/
import Derived.Test.YtmbmmpbfmakfbaaTame
import Derived.Test.YtmbmmpbfmakfbaaAppend
import Derived.Deep.MidRow
import Derived.Test.YtmbmmpbfmakfbaaConcat
import Derived.Test.YtmbmmpbfmakfbaaBase
set_option linter.unusedVariables false
namespace Go.Proofs.Ytmbmmpbfmakfbaa
open Go Go.RowKit

def StbE (E : World → World → Prop) (p : Rl) : Prop := ∀ u w w', p u w → E w w' → p u w'
def ofDst (d : Option Tmp) (u : Value) : Value := match d with | some _ => u | none => undef
def keyOf (N i : Nat) (o : Oper) : Nat := match o.dst with | some d => d | none => N + i
section
variable (P : Program) (ops : Array Oper) (V0 : Array Value) (N : Nat) (J : Array Value → World → Prop) (E : World → World → Prop)
def YldW (p : Rl) (T : Array Value) (d : Option Tmp) (w0 : World) : Result Next → Prop
  | .ok (.value u) w' => p (ofDst d u) w' ∧ J (putV T d u) w' ∧ E w0 w'
  | .ok (.enter f args) w' => Calls P f args w' fun e w'' => ∃ u, e = .returned u ∧ p (ofDst d u) w'' ∧ J (putV T d u) w'' ∧ E w0 w''
  | .ok .skip w' => d = none ∧ p undef w' ∧ J T w' ∧ E w0 w'
  | _ => False
def OpW (R : Tmp → Rl) (o : Oper) (p : Rl) : Prop :=
  ∀ (a : Act) (w : World), J a.tmps w → a.tmps.size = N → (∀ d, o.dst = some d → a.tmps.getD d undef = V0.getD d undef) → (∀ t ∈ o.looksAt ops, R t (a.tmps.getD t undef) w) →
    (Region.wanted o (yielded ops a.tmps) = true ∧ YldW P J E p a.tmps o.dst w ((execOp a.eval o).run P w)) ∨ (Region.wanted o (yielded ops a.tmps) = false ∧ p undef w ∧ J (putV a.tmps o.dst undef) w)
def PendK (listed : Array Bool) (t : Tmp) : Prop := ∃ (j : Nat) (o : Oper), ops[j]? = some o ∧ keyOf N j o = t ∧ listed.getD j true = false
def oneDst : Prop := ∀ (i j : Nat) (o o' : Oper) (d : Tmp), ops[i]? = some o → ops[j]? = some o' → o.dst = some d → o'.dst = some d → i = j
end

section
variable {P : Program} {ops : Array Oper} {V0 : Array Value} {N : Nat} {J : Array Value → World → Prop} {E : World → World → Prop} {Q : Exit → Act → World → Prop}
theorem putV_tmps (a : Act) (d : Option Tmp) (u : Value) : (a.put d u).tmps = putV a.tmps d u := by cases d <;> rfl
theorem OpW.wpOp {i : Nat} {o : Oper} {p : Rl} {a : Act} {w : World} (hi : ops[i]? = some o) (hE : ∀ w, E w w)
    (h : (Region.wanted o (yielded ops a.tmps) = true ∧ YldW P J E p a.tmps o.dst w ((execOp a.eval o).run P w)) ∨ (Region.wanted o (yielded ops a.tmps) = false ∧ p undef w ∧ J (putV a.tmps o.dst undef) w))
    {K : Act → World → Prop} (hk : ∀ u w', p (ofDst o.dst u) w' → J (putV a.tmps o.dst u) w' → E w w' → K (a.put o.dst u) w') : wpOp P ops Q i K a w := by
  unfold Go.wpOp
  simp only [hi]
  rcases h with ⟨hw, h1⟩ | ⟨hw, h1, h2⟩
  · simp only [hw, if_true]
    refine .inl ?_
    unfold Oper.wp
    generalize (execOp a.eval o).run P w = r at h1
    cases r with
    | ok n w' =>
      cases n <;> simp only [YldW] at h1 <;> simp only [Oper.upon]
      case value u => exact hk _ _ h1.1 h1.2.1 h1.2.2
      case enter f args =>
        refine h1.mono ?_
        rintro e w'' ⟨u, rfl, h2, h3, h4⟩
        exact hk _ _ h2 h3 h4
      case skip =>
        obtain ⟨hd, h2, h3, h4⟩ := h1
        exact hk undef _ (by rw [hd]; exact h2) (by rw [hd]; exact h3) h4
    | halt x w' => simp only [YldW] at h1
  · simp only [hw, Bool.false_eq_true, if_false]
    exact hk _ _ (by cases o.dst <;> exact h1) h2 (hE _)

theorem writ_any {ds : List Deferred} (hB : looseB ops N = true) (hu1 : oneDst ops) (hE : ∀ w, E w w) (R : Tmp → Rl) (hst : ∀ t, StbE E (R t)) (hops : ∀ (i : Nat) (o : Oper), ops[i]? = some o → OpW P ops V0 N J E R o (R (keyOf N i o)))
    (hQ : ∀ a w, J a.tmps w → a.tmps.size = N → a.defers = ds → (∀ t, R t (a.tmps.getD t undef) w) → Q .normal a w) :
    ∀ (fuel : Nat) (listed : Array Bool) (a : Act) (w : World), unl ops.size listed = fuel → J a.tmps w → a.tmps.size = N → a.defers = ds → (∀ t, PendK ops N listed t → a.tmps.getD t undef = V0.getD t undef) → (∀ t, ¬ PendK ops N listed t → R t (a.tmps.getD t undef) w) → wpAny P .any ops Q fuel listed a w := by
  obtain ⟨hns, hsp⟩ := looseB_spec hB
  have hend : ∀ (listed : Array Bool), Region.ready .any ops listed = [] → ∀ n i, i ≤ n → i < ops.size → listed.getD i true = true := by
    intro listed hr n
    induction n with
    | zero =>
      intro i hi hlt
      obtain rfl : i = 0 := by omega
      cases hl : listed.getD 0 true with
      | true => rfl
      | false =>
        have : 0 ∈ Region.ready .any ops listed := mem_ready.2 ⟨hl, _, Array.getElem?_eq_getElem hlt, fun e he hb => absurd ((hsp 0 _ (Array.getElem?_eq_getElem hlt)).2.1 e he hb) (by omega)⟩
        rw [hr] at this; cases this
    | succ n ih =>
      intro i hi hlt
      rcases Nat.lt_or_ge n i with h | h
      · obtain rfl : i = n + 1 := by omega
        cases hl : listed.getD (n + 1) true with
        | true => rfl
        | false =>
          have : n + 1 ∈ Region.ready .any ops listed := mem_ready.2 ⟨hl, _, Array.getElem?_eq_getElem hlt, fun e he hb => by
            have h1 := (hsp (n + 1) _ (Array.getElem?_eq_getElem hlt)).2.1 e he hb
            have h2 := ih e.on (by omega) (by omega)
            rcases Nat.lt_or_ge e.on listed.size with h' | h'
            · simpa [h'] using h2
            · exfalso
              have : listed.getD (n + 1) true = true := by simp [Array.getElem?_eq_none (show listed.size ≤ n + 1 by omega)]
              rw [hl] at this; cases this⟩
          rw [hr] at this; cases this
      · exact ih i h hlt
  have hfin : ∀ (listed : Array Bool) (a : Act) (w : World), Region.ready .any ops listed = [] → J a.tmps w → a.tmps.size = N → a.defers = ds → (∀ t, ¬ PendK ops N listed t → R t (a.tmps.getD t undef) w) → Q .normal a w := by
    intro listed a w hr hS hsz hds hR
    refine hQ a w hS hsz hds fun t => hR t ?_
    rintro ⟨j, o, hj, _, hl⟩
    have hlt := (Array.getElem?_eq_some_iff.1 hj).1
    have := hend listed hr j j (Nat.le_refl _) hlt
    rw [hl] at this; cases this
  intro fuel
  induction fuel with
  | zero =>
    intro listed a w hu hS hsz hds hp0 hR
    have hr : Region.ready .any ops listed = [] := by
      cases h : Region.ready .any ops listed with
      | nil => rfl
      | cons i l =>
        exfalso
        have hi : i ∈ Region.ready .any ops listed := by rw [h]; simp
        obtain ⟨h0, o, ho, _⟩ := mem_ready.1 hi
        have := unl_set (Array.getElem?_eq_some_iff.1 ho).1 h0
        omega
    exact ⟨hr, hfin listed a w hr hS hsz hds hR⟩
  | succ fuel ih =>
    intro listed a w hu hS hsz hds hp0 hR
    refine ⟨fun hr => hfin listed a w hr hS hsz hds hR, fun i hi => ?_⟩
    obtain ⟨h0, o, ho, hall⟩ := mem_ready.1 hi
    obtain ⟨hd1, hd2, hd3⟩ := hsp i o ho
    have hlt := (Array.getElem?_eq_some_iff.1 ho).1
    have hop := hops i o ho a w hS hsz (fun d hd => hp0 d ⟨i, o, ho, by simp [keyOf, hd], h0⟩) (fun t ht => hR t (by
      rintro ⟨j, oj, hj, hdj, hl⟩
      have hdj' : oj.dst = some t := by
        unfold keyOf at hdj
        cases e : oj.dst with
        | none => rw [e] at hdj; have h8 : @LT.lt Nat _ t N := (hd3 t ht).1; simp only [] at hdj; exact absurd h8 (Nat.not_lt.2 (hdj ▸ Nat.le_add_right N j))
        | some d => rw [e] at hdj; simp only [] at hdj; rw [hdj]
      obtain ⟨e, he, hb, rfl⟩ := (hd3 t ht).2 j oj hj hdj'
      have h1 := hall e he hb
      rcases Nat.lt_or_ge e.on listed.size with h' | h'
      · simp [h'] at h1 hl; rw [hl] at h1; cases h1
      · simp [Array.getElem?_eq_none h'] at hl))
    refine OpW.wpOp ho hE hop fun u w' hp hS' hb => ?_
    have hpend : ∀ t, PendK ops N (listed.setIfInBounds i true) t → PendK ops N listed t ∧ keyOf N i o ≠ t := by
      rintro t ⟨j, oj, hj, hdj, hl⟩
      have hji : i ≠ j := by
        rintro rfl
        have hsz' : i < listed.size := by
          rcases Nat.lt_or_ge i listed.size with h' | h'
          · exact h'
          · simp [Array.getElem?_eq_none h'] at h0
        simp [hsz'] at hl
      rw [getD_set_ne true hji] at hl
      refine ⟨⟨j, oj, hj, hdj, hl⟩, fun hk => hji ?_⟩
      unfold keyOf at hk hdj
      cases e : o.dst with
      | none =>
        rw [e] at hk; simp only [] at hk
        cases e' : oj.dst with
        | none => rw [e'] at hdj; simp only [] at hdj; exact Nat.add_left_cancel (hk.trans hdj.symm)
        | some d => rw [e'] at hdj; simp only [] at hdj; have h8 : @LT.lt Nat _ d N := (hsp j oj hj).1 d e'; have h9 : @Eq Nat d t := hdj; exact absurd (h9 ▸ h8) (Nat.not_lt.2 (hk ▸ Nat.le_add_right N i))
      | some d =>
        rw [e] at hk; simp only [] at hk
        cases e' : oj.dst with
        | none => rw [e'] at hdj; simp only [] at hdj; have h8 : @LT.lt Nat _ d N := hd1 d e; have h9 : @Eq Nat d t := hk; exact absurd (h9 ▸ h8) (Nat.not_lt.2 (hdj ▸ Nat.le_add_right N j))
        | some d' => rw [e'] at hdj; simp only [] at hdj; exact hu1 i j o oj d ho hj e (by rw [e', hdj, hk])
    have hget : ∀ t, keyOf N i o ≠ t → (a.put o.dst u).tmps.getD t undef = a.tmps.getD t undef := by
      intro t hk
      cases hd : o.dst with
      | none => rfl
      | some d =>
        have : d ≠ t := fun e => hk (by simp [keyOf, hd, e])
        simp [Act.put, Array.getElem?_setIfInBounds_ne this]
    refine ih _ _ _ (by have := unl_set hlt h0; omega) ?_ ?_ ?_ ?_ ?_
    · rw [putV_tmps]; exact hS'
    · cases o.dst <;> simp [Act.put, hsz]
    · cases o.dst <;> simp [Act.put, hds]
    · intro t ht
      obtain ⟨h1, h2⟩ := hpend t ht
      rw [hget t h2]; exact hp0 t h1
    · intro t hnp
      by_cases hk : keyOf N i o = t
      · subst hk
        cases hd : o.dst with
        | none =>
          have e : (a.put none u).tmps.getD (keyOf N i o) undef = undef := by simp [Act.put, keyOf, hd, Array.getElem?_eq_none (show a.tmps.size ≤ N + i by rw [hsz]; exact Nat.le_add_right N i)]
          rw [e]; rw [hd] at hp; exact hp
        | some d =>
          have hdN := hd1 d hd
          have e : (a.put (some d) u).tmps.getD (keyOf N i o) undef = u := by simp [Act.put, keyOf, hd, hsz, hdN]
          rw [e]; rw [hd] at hp; exact hp
      · rw [hget t hk]
        refine hst t _ _ _ (hR t ?_) hb
        rintro ⟨j, oj, hj, hdj, hl⟩
        refine hnp ⟨j, oj, hj, hdj, ?_⟩
        have hji : i ≠ j := fun e => by subst e; rw [ho] at hj; cases hj; exact hk hdj
        rw [getD_set_ne true hji]; exact hl
end

section
variable (P : Program) (ops : Array Oper) (V0 : Array Value) (N : Nat) (J : Array Value → World → Prop) (E : World → World → Prop) (Q : Exit → Act → World → Prop) (ds : List Deferred)
def writL : Nat → List Oper → Array Value → Env → Prop
  | _, [], V, En => ∀ (a : Act) (w : World), J a.tmps w → a.tmps.size = N → a.defers = ds → (∀ t, Rt V En t (a.tmps.getD t undef) w) → Q .normal a w
  | i, o :: rest, V, En => (∃ v, OpW P ops V0 N J E (Rt V En) o (fun u _ => u = v) ∧ (o.dst = none → v = undef) ∧ dfree En o = true ∧ writL (i + 1) rest (putV V o.dst v) En) ∨
      (∃ p, StbE E p ∧ OpW P ops V0 N J E (Rt V En) o p ∧ writL (i + 1) rest V ((keyOf N i o, p) :: En))
end
section
variable {P : Program} {ops : Array Oper} {V0 : Array Value} {N : Nat} {J : Array Value → World → Prop} {E : World → World → Prop} {Q : Exit → Act → World → Prop} {ds : List Deferred}
theorem OpW.of {R R' : Tmp → Rl} {o : Oper} {p p' : Rl} (h : OpW P ops V0 N J E R o p) (hR : ∀ t ∈ o.looksAt ops, R' t = R t) (hp : ∀ u w, p u w → p' u w) : OpW P ops V0 N J E R' o p' := by
  intro a w hS hsz hpe hk
  rcases h a w hS hsz hpe (fun t ht => by rw [← hR t ht]; exact hk t ht) with ⟨h1, h2⟩ | ⟨h1, h2, h3⟩
  · refine .inl ⟨h1, ?_⟩
    generalize (execOp a.eval o).run P w = r at h2
    cases r with
    | ok n w' =>
      cases n <;> simp only [YldW] at h2 ⊢
      case value u => exact ⟨hp _ _ h2.1, h2.2⟩
      case enter f args =>
        refine h2.mono ?_
        rintro e w'' ⟨u, rfl, h3, h4⟩
        exact ⟨u, rfl, hp _ _ h3, h4⟩
      case skip => exact ⟨h2.1, hp _ _ h2.2.1, h2.2.2⟩
    | halt x w' => simp only [YldW] at h2
  · exact .inr ⟨h1, hp _ _ h2, h3⟩
theorem stbE_eq (v : Value) : StbE E (fun u _ => u = v) := fun u w w' h _ => h
theorem stbE_Rt {V : Array Value} {En : Env} (hE : ∀ t p, look En t = some p → StbE E p) (t : Tmp) : StbE E (Rt V En t) := by
  unfold Rt
  cases e : look En t with
  | some p => exact hE t p e
  | none => exact stbE_eq _
theorem keyOf_ge {N i : Nat} {o : Oper} (h : o.dst = none) : keyOf N i o = N + i := by simp [keyOf, h]
theorem keyOf_some {N i : Nat} {o : Oper} {d : Tmp} (h : o.dst = some d) : keyOf N i o = d := by simp [keyOf, h]
theorem writ_list : ∀ (l : List Oper) (i : Nat) (V : Array Value) (En : Env), okL ops l = true → V.size = N → (∀ o ∈ l, ∀ d, o.dst = some d → d < N) → (∀ o ∈ l, ∀ t ∈ o.looksAt ops, t < N) → (∀ t p, look En t = some p → StbE E p) →
    (∀ t, N + i ≤ t → look En t = none) → writL P ops V0 N J E Q ds i l V En →
    ∃ R : Tmp → Rl, (∀ t, (∀ (j : Nat) (o : Oper), l[j]? = some o → keyOf N (i + j) o ≠ t) → R t = Rt V En t) ∧ (∀ (j : Nat) (o : Oper), l[j]? = some o → OpW P ops V0 N J E R o (R (keyOf N (i + j) o))) ∧ (∀ t, StbE E (R t)) ∧
      (∀ (a : Act) (w : World), J a.tmps w → a.tmps.size = N → a.defers = ds → (∀ t, R t (a.tmps.getD t undef) w) → Q .normal a w)
  | [], i, V, En, _, _, _, _, hE, _, h => ⟨Rt V En, fun _ _ => rfl, (fun j o ho => by simp at ho), stbE_Rt hE, h⟩
  | o :: rest, i, V, En, hok, hV, hdN, hlN, hE, hEn, h => by
    simp only [okL, Bool.and_eq_true, List.all_eq_true] at hok
    obtain ⟨⟨hlk, hdu⟩, hok'⟩ := hok
    have hlk' : ∀ t ∈ o.looksAt ops, ∀ o' ∈ o :: rest, ∀ j, keyOf N j o' ≠ t := fun t ht o' ho' j hk => by
      have := hlk t ht o' ho'
      cases hd : o'.dst with
      | none => rw [keyOf_ge hd] at hk; have h8 : @LT.lt Nat _ t N := hlN o (List.mem_cons_self ..) t ht; exact absurd h8 (Nat.not_lt.2 (hk ▸ Nat.le_add_right N j))
      | some d => rw [keyOf_some hd] at hk; rw [hd, hk] at this; simp at this
    have hdN' : ∀ o ∈ rest, ∀ d, o.dst = some d → d < N := fun o ho => hdN o (List.mem_cons_of_mem _ ho)
    have hlN' : ∀ o ∈ rest, ∀ t ∈ o.looksAt ops, t < N := fun o ho => hlN o (List.mem_cons_of_mem _ ho)
    have hkr : ∀ (j : Nat) (o' : Oper), rest[j]? = some o' → keyOf N (i + 1 + j) o' ≠ keyOf N i o := fun j o' ho' hk => by
      have hm := List.mem_of_getElem? ho'
      cases hd : o.dst with
      | none =>
        rw [keyOf_ge hd] at hk
        cases hd' : o'.dst with
        | none => rw [keyOf_ge hd'] at hk; omega
        | some d' => rw [keyOf_some hd'] at hk; have h8 : @LT.lt Nat _ d' N := hdN' o' hm d' hd'; exact absurd h8 (Nat.not_lt.2 (hk ▸ Nat.le_add_right N i))
      | some d =>
        rw [keyOf_some hd] at hk
        rw [hd] at hdu
        simp only [List.all_eq_true] at hdu
        have h1 := hdu o' hm
        cases hd' : o'.dst with
        | none => rw [keyOf_ge hd'] at hk; have h8 : @LT.lt Nat _ d N := hdN o (List.mem_cons_self ..) d hd; exact absurd h8 (Nat.not_lt.2 (hk ▸ Nat.le_add_right N _))
        | some d' => rw [keyOf_some hd'] at hk; rw [hd', hk] at h1; simp at h1
    have hsh : ∀ j : Nat, i + (j + 1) = i + 1 + j := fun j => by omega
    rcases h with ⟨v, hop, hvn, hdf, hl⟩ | ⟨p, hst, hop, hl⟩
    · obtain ⟨R, h1, h2, h3, h4⟩ := writ_list rest (i + 1) (putV V o.dst v) En hok' (by unfold putV; cases o.dst <;> simp [hV]) hdN' hlN' hE (fun t ht => hEn t (Nat.le_trans (Nat.add_le_add_left (Nat.le_succ i) N) ht)) hl
      have hRt : ∀ t, (∀ (j : Nat) (o' : Oper), rest[j]? = some o' → keyOf N (i + 1 + j) o' ≠ t) → keyOf N i o ≠ t → R t = Rt V En t := fun t h5 h6 => by
        rw [h1 t h5, Rt_put_ne (fun e => h6 (keyOf_some e))]
      refine ⟨R, fun t ht => hRt t (fun j o' ho' => by have := ht (j + 1) o' (by simpa using ho'); rwa [hsh] at this) (by have := ht 0 o (by simp); simpa using this), fun j o' ho' => ?_, h3, h4⟩
      cases j with
      | zero =>
        simp at ho'
        subst ho'
        refine hop.of (fun t ht => hRt t (fun j o'' ho'' => hlk' t ht o'' (List.mem_cons_of_mem _ (List.mem_of_getElem? ho'')) _) (hlk' t ht _ (List.mem_cons_self ..) _)) (fun u w hu => ?_)
        rw [Nat.add_zero, h1 _ hkr]
        cases hd : o.dst with
        | none =>
          rw [keyOf_ge hd]
          unfold Rt
          rw [hEn (N + i) (Nat.le_refl _)]
          have e : V.getD (N + i) undef = undef := by simp [Array.getElem?_eq_none (show V.size ≤ N + i by rw [hV]; exact Nat.le_add_right N i)]
          simp only [putV]
          rw [e, hu, hvn hd]
        | some d =>
          rw [keyOf_some hd]
          have hlt : d < V.size := by rw [hV]; exact hdN o (List.mem_cons_self ..) d hd
          have hn : look En d = none := by simpa [dfree, hd] using hdf
          unfold Rt
          rw [hn]
          simp only [putV]
          rw [hu]
          simp [hlt]
      | succ j =>
        rw [hsh]
        exact h2 j o' (by simpa using ho')
    · obtain ⟨R, h1, h2, h3, h4⟩ := writ_list rest (i + 1) V ((keyOf N i o, p) :: En) hok' hV hdN' hlN' (fun t q hq => by
        by_cases e : keyOf N i o = t
        · subst e; rw [look_same] at hq; cases hq; exact hst
        · rw [look_ne e] at hq; exact hE t q hq) (fun t ht => by
          rw [look_ne (by
            cases hd : o.dst with
            | none => rw [keyOf_ge hd]; intro e; exact absurd ht (Nat.not_le.2 (e ▸ Nat.lt_succ_self (N + i)))
            | some d => rw [keyOf_some hd]; have h8 : @LT.lt Nat _ d N := hdN o (List.mem_cons_self ..) d hd; intro e; exact absurd (Nat.le_trans (Nat.le_add_right N (i + 1)) ht) (Nat.not_le.2 (e ▸ h8)))]
          exact hEn t (Nat.le_trans (Nat.add_le_add_left (Nat.le_succ i) N) ht)) hl
      have hRt : ∀ t, (∀ (j : Nat) (o' : Oper), rest[j]? = some o' → keyOf N (i + 1 + j) o' ≠ t) → keyOf N i o ≠ t → R t = Rt V En t := fun t h5 h6 => by
        rw [h1 t h5]; unfold Rt; rw [look_ne h6]
      refine ⟨R, fun t ht => hRt t (fun j o' ho' => by have := ht (j + 1) o' (by simpa using ho'); rwa [hsh] at this) (by have := ht 0 o (by simp); simpa using this), fun j o' ho' => ?_, h3, h4⟩
      cases j with
      | zero =>
        simp at ho'
        subst ho'
        refine hop.of (fun t ht => hRt t (fun j o'' ho'' => hlk' t ht o'' (List.mem_cons_of_mem _ (List.mem_of_getElem? ho'')) _) (hlk' t ht _ (List.mem_cons_self ..) _)) (fun u w hu => ?_)
        rw [Nat.add_zero, h1 _ hkr]
        unfold Rt
        rw [look_same]
        exact hu
      | succ j =>
        rw [hsh]
        exact h2 j o' (by simpa using ho')

theorem okL_one : ∀ (l : List Oper), okL ops l = true → ∀ (i j : Nat) (o o' : Oper) (d : Tmp), l[i]? = some o → l[j]? = some o' → o.dst = some d → o'.dst = some d → i = j
  | [], _, i, j, o, o', d, hi, _, _, _ => by simp at hi
  | x :: rest, h, i, j, o, o', d, hi, hj, hd, hd' => by
    simp only [okL, Bool.and_eq_true, List.all_eq_true] at h
    obtain ⟨⟨_, hdu⟩, h'⟩ := h
    have key : ∀ (y : Oper) (n : Nat), x.dst = some d → rest[n]? = some y → y.dst = some d → False := fun y n hx hy hyd => by
      rw [hx] at hdu
      simp only [List.all_eq_true] at hdu
      have := hdu y (List.mem_of_getElem? hy)
      rw [hyd] at this; simp at this
    cases i with
    | zero =>
      cases j with
      | zero => rfl
      | succ j =>
        simp at hi hj
        subst hi
        exact (key o' j hd hj hd').elim
    | succ i =>
      cases j with
      | zero =>
        simp at hi hj
        subst hj
        exact (key o i hd' hi hd).elim
      | succ j =>
        simp at hi hj
        rw [okL_one rest h' i j o o' d hi hj hd hd']

/-- The beginning. -/
theorem wp_region_writ {id : Nat} {l : List Oper} {a : Act} {w : World} (J : Array Value → World → Prop) (E : World → World → Prop) (hm : P.follows .mixedOrders = true) (hB : looseB l.toArray a.tmps.size = true) (hL : okL l.toArray l = true) (hE : ∀ w, E w w) (hS : J a.tmps w.drew)
    (h : writL P l.toArray a.tmps a.tmps.size J E Q a.defers 0 l a.tmps []) : (Code.region id l.toArray true).wp P Q a w := by
  obtain ⟨_, hsp⟩ := looseB_spec hB
  obtain ⟨R, h1, h2, h3, h4⟩ := writ_list l 0 a.tmps [] hL rfl (fun o ho d hd => by
    obtain ⟨i, hi⟩ := List.getElem?_of_mem ho
    exact (hsp i o (by simpa using hi)).1 d hd) (fun o ho t ht => by
    obtain ⟨i, hi⟩ := List.getElem?_of_mem ho
    exact ((hsp i o (by simpa using hi)).2.2 t ht).1) (fun t p hp => by cases hp) (fun t _ => rfl) h
  refine wp_region_any hm (writ_any (V0 := a.tmps) hB (fun i j o o' d hi hj => okL_one l hL i j o o' d (by simpa using hi) (by simpa using hj)) hE R h3 (fun i o ho => by have := h2 i o (by simpa using ho); rwa [Nat.zero_add] at this) h4 _ _ a w.drew ?_ hS rfl rfl (fun _ _ => rfl) fun t hnp => ?_)
  · unfold unl
    rw [List.countP_eq_length.2 (fun j hj => by
      have := List.mem_range.1 hj
      simp at this
      simp [this])]
    simp
  · rw [h1 t (fun j o ho hd => hnp ⟨j, o, by simpa using ho, by rwa [Nat.zero_add] at hd, ?_⟩)]
    · rfl
    · have hlt := (List.getElem?_eq_some_iff.1 ho).1
      simp [hlt]
end

/-! ### Steps -/
section
variable {P : Program} {ops : Array Oper} {V0 : Array Value} {N : Nat} {J : Array Value → World → Prop} {E : World → World → Prop} {Q : Exit → Act → World → Prop} {ds : List Deferred} {V : Array Value} {En : Env} {o : Oper} {rest : List Oper} {i : Nat}
theorem writL_nil (h : ∀ (a : Act) (w : World), J a.tmps w → a.tmps.size = N → a.defers = ds → (∀ t, Rt V En t (a.tmps.getD t undef) w) → Q .normal a w) : writL P ops V0 N J E Q ds i [] V En := h
theorem writL_val {v : Value} (hlk : (o.looksAt ops).all (fun t => (look En t).isNone) = true) (hs : notSel o = true) (hd : dfree En o = true) (hdn : o.dst.isSome = true) (hw : Region.wanted o (yielded ops V) = true) (hE : ∀ w, E w w) (hJ : ∀ T u w, J T w → J (putV T o.dst u) w)
    (hv : ∀ T w, J T w → (execOp (⟨V, []⟩ : Act).eval o).run P w = .ok (.value v) w) (h : writL P ops V0 N J E Q ds (i + 1) rest (putV V o.dst v) En) : writL P ops V0 N J E Q ds i (o :: rest) V En :=
  .inl ⟨v, fun a w hS _ _ hk => .inl ⟨(wanted_agree (List.all_eq_true.2 fun t ht => List.all_eq_true.1 hlk t (gslots_in ht)) hk).trans hw, by
    rw [exec_agree hs fun t ht => Rt_none (List.all_eq_true.1 hlk t ht) (hk t ht), hv _ w hS]
    refine ⟨?_, hJ _ _ _ hS, hE _⟩
    cases e : o.dst with
    | none => rw [e] at hdn; cases hdn
    | some d => rfl⟩, (fun e => by rw [e] at hdn; cases hdn), hd, h⟩
theorem writL_skip (hg : (gslots ops o).all (fun t => (look En t).isNone) = true) (hd : dfree En o = true) (hw : Region.wanted o (yielded ops V) = false) (hJ : ∀ T u w, J T w → J (putV T o.dst u) w) (h : writL P ops V0 N J E Q ds (i + 1) rest (putV V o.dst undef) En) : writL P ops V0 N J E Q ds i (o :: rest) V En :=
  .inl ⟨undef, fun a w hS _ _ hk => .inr ⟨(wanted_agree hg hk).trans hw, rfl, hJ _ _ _ hS⟩, fun _ => rfl, hd, h⟩
/-- Any operation, whose slot, or what it leaves, is known by a relation. -/
theorem writL_op (p : Rl) (hg : (gslots ops o).all (fun t => (look En t).isNone) = true) (hw : Region.wanted o (yielded ops V) = true) (hst : StbE E p)
    (hx : ∀ (a : Act) w, J a.tmps w → a.tmps.size = N → (∀ d, o.dst = some d → a.tmps.getD d undef = V0.getD d undef) → (∀ t ∈ o.looksAt ops, Rt V En t (a.tmps.getD t undef) w) → YldW P J E p a.tmps o.dst w ((execOp a.eval o).run P w)) (h : writL P ops V0 N J E Q ds (i + 1) rest V ((keyOf N i o, p) :: En)) : writL P ops V0 N J E Q ds i (o :: rest) V En :=
  .inr ⟨p, hst, fun a w hS hsz hpe hk => .inl ⟨(wanted_agree hg hk).trans hw, hx a w hS hsz hpe hk⟩, h⟩
/-- Any operation whose slot is known ahead. -/
theorem writL_opv (v : Value) (hg : (gslots ops o).all (fun t => (look En t).isNone) = true) (hw : Region.wanted o (yielded ops V) = true) (hd : dfree En o = true) (hdn : o.dst.isSome = true)
    (hx : ∀ (a : Act) w, J a.tmps w → a.tmps.size = N → (∀ d, o.dst = some d → a.tmps.getD d undef = V0.getD d undef) → (∀ t ∈ o.looksAt ops, Rt V En t (a.tmps.getD t undef) w) → YldW P J E (fun u _ => u = v) a.tmps o.dst w ((execOp a.eval o).run P w)) (h : writL P ops V0 N J E Q ds (i + 1) rest (putV V o.dst v) En) : writL P ops V0 N J E Q ds i (o :: rest) V En :=
  .inl ⟨v, fun a w hS hsz hpe hk => .inl ⟨(wanted_agree hg hk).trans hw, hx a w hS hsz hpe hk⟩, (fun e => by rw [e] at hdn; cases hdn), hd, h⟩
end
end Go.Proofs.Ytmbmmpbfmakfbaa
/- A drawn region that stores into the fields of one known struct, each once, beside operations that make memory: whatever the order. -/
set_option linter.unusedVariables false
namespace Go.Proofs.Ytmbmmpbfmakfbaa
open Go Go.RowKit

/-- Nothing that was there is changed but the block B. -/
def Keep (B : Nat) (w w' : World) : Prop := w.heap.size ≤ w'.heap.size ∧ ∀ b, b < w.heap.size → b ≠ B → w'.heap[b]? = w.heap[b]?
theorem Keep.refl (B : Nat) (w : World) : Keep B w w := ⟨Nat.le_refl _, fun _ _ _ => rfl⟩
theorem Keep.of {B : Nat} {w w' : World} (h : Below w.heap.size w w') : Keep B w w' := ⟨h.size, fun b hb _ => h.block b hb⟩
theorem Keep.set {B : Nat} (w : World) (j : Nat) (v : Value) : Keep B w (w.setCell ⟨B, j, none⟩ v) := ⟨by simp [World.setCell], fun b _ hb => Below.heap_setCell _ _ _ _ (fun e => hb e)⟩
theorem Blk.kept {W W' : World} {B B' : Nat} {P : Array Value} {T : TypeId} (h : Blk W B' P T) (hk : Keep B W W') (hB : B' ≠ B) : Blk W' B' P T := ⟨(hk.2 B' h.lt hB).trans h.at_⟩
theorem OB.kept {W W' : World} {B base : Nat} {A : Option Addr} {n c : Nat} {bs : List Int} (h : OB W base A n c bs) (hk : Keep B W W') (hB : B < base) : OB W' base A n c bs := by
  refine ⟨⟨h.own.1, ?_⟩, h.byt⟩
  rcases h.own.2 with h | ⟨g, cap, cur, e, hg, hh, r⟩
  · exact .inl h
  · exact .inr ⟨g, cap, cur, e, hg, (hk.2 g (Array.getElem?_eq_some_iff.1 hh).1 (by omega)).trans hh, r⟩

section
variable {P : Program}
theorem run_store1 (w : World) (B j : Nat) (ty : TypeId) (v : Value) (hc : (w.cell? ⟨B, j, none⟩).isSome = true) (hf : w.frozen? ⟨B, j, none⟩ = false) (hi : (P.info? ty).map (·.size) = some 1) (h1 : v.oneCell' = true) :
    (storeVar ty ⟨B, j, none⟩ v).run P w = .ok () (w.setCell ⟨B, j, none⟩ v) := by
  have := run_storeCells_cells (P := P) B j [v] 0 w (fun k hk => by simp at hk; subst hk; exact hc) (fun k hk => by simp at hk; subst hk; exact hf) (fun x hx => by simp at hx; subst hx; exact h1)
  have hcv : v.cells = #[v] := by cases v <;> first | rfl | cases h1
  cases hq : P.info? ty with
  | none => simp [hq] at hi
  | some i =>
    have hs : i.size = 1 := by simpa [hq] using hi
    simp only [Nat.add_zero, World.setCells] at this
    simp [storeVar, sizeOf, typeInfo, hq, hcv, hs, this]
end

section
variable (w00 : World) (B : Nat) (T : TypeId) (Z : Array Value) (Pj : Nat → Value → World → Prop) (C : World → Prop)
def SF (W : World) : Prop := Below w00.heap.size w00 W ∧ (∃ cs, Blk W B cs T ∧ cs.size = Z.size ∧ ∀ j, j < Z.size → cs[j]? = Z[j]? ∨ ∃ v, cs[j]? = some v ∧ Pj j v W) ∧ C W
def EF (w w' : World) : Prop := SF w00 B T Z Pj C w → SF w00 B T Z Pj C w' ∧ Keep B w w' ∧ ∀ j, w'.cell? ⟨B, j, none⟩ = w.cell? ⟨B, j, none⟩ ∨ ∃ v, w'.cell? ⟨B, j, none⟩ = some v ∧ Pj j v w'
def FF (j : Nat) : Rl := fun _ W => SF w00 B T Z Pj C W ∧ ∃ v, W.cell? ⟨B, j, none⟩ = some v ∧ Pj j v W
def KK (p : Rl) : Rl := fun u W => SF w00 B T Z Pj C W ∧ p u W
def StbK (p : Rl) : Prop := ∀ u w w', p u w → Keep B w w' → p u w'
end
section
variable {w00 : World} {B : Nat} {T : TypeId} {Z : Array Value} {Pj : Nat → Value → World → Prop} {C : World → Prop}
theorem EF.refl (w : World) : EF w00 B T Z Pj C w w := fun h => ⟨h, Keep.refl _ _, fun _ => .inl rfl⟩
theorem Blk.cell_eq {W : World} {B : Nat} {P : Array Value} {T : TypeId} (h : Blk W B P T) (j : Nat) : W.cell? ⟨B, j, none⟩ = P[j]? := by simp [World.cell?, h.at_]
theorem FF.stable (hP : ∀ j, StbK B (Pj j)) (j : Nat) : StbE (EF w00 B T Z Pj C) (FF w00 B T Z Pj C j) := by
  rintro u w w' ⟨hS, v, hv, hp⟩ hE
  obtain ⟨hS', hk, hc⟩ := hE hS
  refine ⟨hS', ?_⟩
  rcases hc j with h | h
  · exact ⟨v, h.trans hv, hP j _ _ _ hp hk⟩
  · exact h
theorem KK.stable {p : Rl} (hp : StbK B p) : StbE (EF w00 B T Z Pj C) (KK w00 B T Z Pj C p) := by
  rintro u w w' ⟨hS, h⟩ hE
  obtain ⟨hS', hk, _⟩ := hE hS
  exact ⟨hS', hp _ _ _ h hk⟩
theorem SF.below (hP : ∀ j, StbK B (Pj j)) (hC : ∀ w w', C w → Keep B w w' → C w') {w w' : World} (hS : SF w00 B T Z Pj C w) (hb : Below w.heap.size w w') : SF w00 B T Z Pj C w' ∧ EF w00 B T Z Pj C w w' := by
  obtain ⟨h1, ⟨cs, hcs, hsz, hj⟩, h3⟩ := hS
  have hk : Keep B w w' := Keep.of hb
  have hS' : SF w00 B T Z Pj C w' := ⟨h1.trans (hb.mono h1.size), ⟨cs, hcs.to hb, hsz, fun j hlt => by
    rcases hj j hlt with h | ⟨v, h, h'⟩
    · exact .inl h
    · exact .inr ⟨v, h, hP j _ _ _ h' hk⟩⟩, hC _ _ h3 hk⟩
  exact ⟨hS', fun _ => ⟨hS', hk, fun j => .inl (by rw [hcs.cell_eq, (hcs.to hb).cell_eq])⟩⟩
theorem SF.store (hP : ∀ j, StbK B (Pj j)) (hC : ∀ w w', C w → Keep B w w' → C w') (hB : w00.heap.size ≤ B) {w : World} (hS : SF w00 B T Z Pj C w) (j : Nat) (hj : j < Z.size) (v : Value) (hv : Pj j v w) :
    SF w00 B T Z Pj C (w.setCell ⟨B, j, none⟩ v) ∧ EF w00 B T Z Pj C w (w.setCell ⟨B, j, none⟩ v) ∧ FF w00 B T Z Pj C j undef (w.setCell ⟨B, j, none⟩ v) := by
  obtain ⟨h1, ⟨cs, hcs, hsz, hall⟩, h3⟩ := hS
  have hk : Keep B w (w.setCell ⟨B, j, none⟩ v) := Keep.set w j v
  have hset := hcs.set j v
  have hv' := hP j _ _ _ hv hk
  have hjs : j < cs.size := by omega
  have hS' : SF w00 B T Z Pj C (w.setCell ⟨B, j, none⟩ v) := ⟨h1.setCell (p := ⟨B, j, none⟩) hB v, ⟨_, hset, by simp [hsz], fun i hi => by
    by_cases e : j = i
    · subst e
      exact .inr ⟨v, by simp [hjs], hv'⟩
    · rw [Array.getElem?_setIfInBounds_ne e]
      rcases hall i hi with h | ⟨v', h, h'⟩
      · exact .inl h
      · exact .inr ⟨v', h, hP i _ _ _ h' hk⟩⟩, hC _ _ h3 hk⟩
  have hcell : (w.setCell ⟨B, j, none⟩ v).cell? ⟨B, j, none⟩ = some v := by rw [hset.cell_eq]; simp [hjs]
  refine ⟨hS', fun _ => ⟨hS', hk, fun i => ?_⟩, hS', v, hcell, hv'⟩
  by_cases e : j = i
  · subst e; exact .inr ⟨v, hcell, hv'⟩
  · exact .inl (by rw [hset.cell_eq, hcs.cell_eq, Array.getElem?_setIfInBounds_ne e])
theorem SF.there {w : World} (hS : SF w00 B T Z Pj C w) {j : Nat} (hj : j < Z.size) : (w.cell? ⟨B, j, none⟩).isSome = true ∧ w.frozen? ⟨B, j, none⟩ = false := by
  obtain ⟨h1, ⟨cs, hcs, hsz, hall⟩, h3⟩ := hS
  refine ⟨?_, hcs.frz j⟩
  rw [hcs.cell_eq, Array.getElem?_eq_getElem (by omega)]; rfl
end

section
variable {P : Program} {ops : Array Oper} {V0 : Array Value} {N : Nat} {Q : Exit → Act → World → Prop} {ds : List Deferred} {V : Array Value} {En : Env} {o : Oper} {rest : List Oper} {i : Nat}
variable {w00 : World} {B : Nat} {T : TypeId} {Z : Array Value} {Pj : Nat → Value → World → Prop} {C : World → Prop}
/-- A value that every world of the region gives. -/
theorem fld_val {v : Value} (hlk : (o.looksAt ops).all (fun t => (look En t).isNone) = true) (hs : notSel o = true) (hd : dfree En o = true) (hdn : o.dst.isSome = true) (hw : Region.wanted o (yielded ops V) = true)
    (hv : ∀ w, SF w00 B T Z Pj C w → (execOp (⟨V, []⟩ : Act).eval o).run P w = .ok (.value v) w) (h : writL P ops V0 N (fun _ => SF w00 B T Z Pj C) (EF w00 B T Z Pj C) Q ds (i + 1) rest (putV V o.dst v) En) : writL P ops V0 N (fun _ => SF w00 B T Z Pj C) (EF w00 B T Z Pj C) Q ds i (o :: rest) V En :=
  writL_val hlk hs hd hdn hw EF.refl (fun _ _ _ h => h) (fun _ w hS => hv w hS) h
theorem fld_skip (hg : (gslots ops o).all (fun t => (look En t).isNone) = true) (hd : dfree En o = true) (hw : Region.wanted o (yielded ops V) = false) (h : writL P ops V0 N (fun _ => SF w00 B T Z Pj C) (EF w00 B T Z Pj C) Q ds (i + 1) rest (putV V o.dst undef) En) : writL P ops V0 N (fun _ => SF w00 B T Z Pj C) (EF w00 B T Z Pj C) Q ds i (o :: rest) V En :=
  writL_skip hg hd hw (fun _ _ _ h => h) h
/-- A call, of whatever function value, whose answer is known, and which keeps what there was. -/
theorem fld_callv (v : Value) (hlk : (o.looksAt ops).all (fun t => (look En t).isNone) = true) (hs : notSel o = true) (hd : dfree En o = true) (hdn : o.dst.isSome = true) (hw : Region.wanted o (yielded ops V) = true) (hP : ∀ j, StbK B (Pj j)) (hC : ∀ w w', C w → Keep B w w' → C w')
    (fn : Nat) (args : Array Value) (hx : ∀ w, (execOp (⟨V, []⟩ : Act).eval o).run P w = .ok (.enter fn args) w) (hc : ∀ w, SF w00 B T Z Pj C w → Calls P fn args w fun e w' => e = .returned v ∧ Below w.heap.size w w')
    (h : writL P ops V0 N (fun _ => SF w00 B T Z Pj C) (EF w00 B T Z Pj C) Q ds (i + 1) rest (putV V o.dst v) En) : writL P ops V0 N (fun _ => SF w00 B T Z Pj C) (EF w00 B T Z Pj C) Q ds i (o :: rest) V En :=
  writL_opv v (List.all_eq_true.2 fun t ht => List.all_eq_true.1 hlk t (gslots_in ht)) hw hd hdn (fun a w hS _ _ hk => by
    rw [exec_agree hs fun t ht => Rt_none (List.all_eq_true.1 hlk t ht) (hk t ht), hx w]
    refine (hc w hS).mono fun e w' ⟨he, hb⟩ => ?_
    obtain ⟨h1, h2⟩ := hS.below hP hC hb
    refine ⟨v, he, ?_, h1, h2⟩
    cases e' : o.dst with
    | none => rw [e'] at hdn; cases hdn
    | some d => rfl) h
/-- A call whose answer is known by a relation; its arguments are known. -/
theorem fld_callr {d : Tmp} (p : Rl) (hlk : (o.looksAt ops).all (fun t => (look En t).isNone) = true) (hs : notSel o = true) (hd : o.dst = some d) (hw : Region.wanted o (yielded ops V) = true) (hP : ∀ j, StbK B (Pj j)) (hC : ∀ w w', C w → Keep B w w' → C w') (hst : StbK B p)
    (fn : Nat) (args : Array Value) (hx : ∀ w, (execOp (⟨V, []⟩ : Act).eval o).run P w = .ok (.enter fn args) w) (hc : ∀ w, SF w00 B T Z Pj C w → Calls P fn args w fun e w' => (∃ u, e = .returned u ∧ p u w') ∧ Below w.heap.size w w')
    (h : writL P ops V0 N (fun _ => SF w00 B T Z Pj C) (EF w00 B T Z Pj C) Q ds (i + 1) rest V ((d, KK w00 B T Z Pj C p) :: En)) : writL P ops V0 N (fun _ => SF w00 B T Z Pj C) (EF w00 B T Z Pj C) Q ds i (o :: rest) V En :=
  writL_op (KK w00 B T Z Pj C p) (List.all_eq_true.2 fun t ht => List.all_eq_true.1 hlk t (gslots_in ht)) hw (KK.stable hst) (fun a w hS _ _ hk => by
    rw [exec_agree hs fun t ht => Rt_none (List.all_eq_true.1 hlk t ht) (hk t ht), hx w]
    refine (hc w hS).mono fun e w' ⟨⟨u, he, hp⟩, hb⟩ => ?_
    obtain ⟨h1, h2⟩ := hS.below hP hC hb
    refine ⟨u, he, ?_, h1, h2⟩
    rw [hd]
    exact ⟨h1, hp⟩) (by rw [keyOf_some hd]; exact h)
/-- A store into a field. -/
theorem fld_store (hg : (gslots ops o).all (fun t => (look En t).isNone) = true) (hw : Region.wanted o (yielded ops V) = true) (hd : o.dst = none) (hP : ∀ j, StbK B (Pj j)) (hC : ∀ w w', C w → Keep B w w' → C w') (hB : w00.heap.size ≤ B)
    (ty : TypeId) (t : Tmp) (y : Operand) (ho : o.op = .store ty (.tmp t) y) (j : Nat) (hj : j < Z.size) (hx : V.getD t undef = .pointer (some ⟨B, j, none⟩)) (hl : (look En t).isNone = true) (hi : (P.info? ty).map (·.size) = some 1)
    (hy : ∀ vy w, SF w00 B T Z Pj C w → RtO V En y vy w → vy.oneCell' = true ∧ Pj j vy w)
    (h : writL P ops V0 N (fun _ => SF w00 B T Z Pj C) (EF w00 B T Z Pj C) Q ds (i + 1) rest V ((N + i, FF w00 B T Z Pj C j) :: En)) : writL P ops V0 N (fun _ => SF w00 B T Z Pj C) (EF w00 B T Z Pj C) Q ds i (o :: rest) V En :=
  writL_op (FF w00 B T Z Pj C j) hg hw (FF.stable hP j) (fun a w hS _ _ hk => by
    have hxv : a.eval (.tmp t) = .pointer (some ⟨B, j, none⟩) := (Rt_none hl (hin a w hk (.tmp t) (by simp [Op.operands, ho]))).trans hx
    obtain ⟨h1, h2⟩ := hy _ w hS (hin a w hk y (by simp [Op.operands, ho]))
    obtain ⟨hc, hf⟩ := hS.there hj
    unfold execOp
    simp only [ho, hxv, Instr.storeAt, Instr.sureAddr, Sem.run_bind, Sem.run_pure, Result.andThen_ok, run_store1 w B j ty _ hc hf hi h1]
    obtain ⟨k1, k2, k3⟩ := hS.store hP hC hB j hj _ h2
    exact ⟨hd, k3, k1, k2⟩) (by rw [keyOf_ge hd]; exact h)
end
end Go.Proofs.Ytmbmmpbfmakfbaa
/- Segments (tcp): what bytes are; walk of Parse where they are none. -/
set_option linter.unusedVariables false
namespace Go.Proofs.Ytmbmmpbfmakfbaa
open Go.RowKit

def headL (bs : List Int) : Int := bs[12]?.getD 0 / 16 * 4
def codeT (src dst : Int) (bs : List Int) : Int :=
  if bs.length < 20 then 3 else if headL bs < 20 then 4 else if (bs.length : Int) < headL bs then 3 else if 65535 < bs.length then 6 else
    if foldI (totalI [pseudoB src dst 6 (bs.length : Nat), bs]) == 65535 then 0 else 5
def parsedT (bs : List Int) : TcpP :=
  ⟨(getV bs 0 2).1, (getV bs 2 2).1, (getV bs 4 4).1, (getV bs 8 4).1, bs[12]?.getD 0 % 16, bs[13]?.getD 0, (getV bs 14 2).1, (getV bs 18 2).1, (bs.drop 20).take ((headL bs).toNat - 20), bs.drop (headL bs).toNat⟩
def zeroP : TcpP := ⟨0, 0, 0, 0, 0, 0, 0, 0, [], []⟩
def readT (src dst : Int) (bs : List Int) : TcpP := if codeT src dst bs = 0 then parsedT bs else zeroP
def TcpOut (w : World) (m : TcpP) (e0 : Int) (e : Ending) (w' : World) : Prop :=
  ∃ Ao no co A n c, e = .returned (.tuple #[.agg (cellsT m Ao no co A n c), .int .i64 e0]) ∧ OB w' w.heap.size Ao no co m.opts ∧ OB w' w.heap.size A n c m.data ∧ Below w.heap.size w w'
abbrev zeroT : Array Value := #[.int .i64 0, .int .i64 0, .int .i64 0, .int .i64 0, .int .i64 0, .int .i64 0, .int .i64 0, .int .i64 0, .slice none 0 0, .slice none 0 0]
theorem TcpOut.bad {w w' : World} {src dst : Int} {bs : List Int} {k : Int} (hk : codeT src dst bs = k) (h0 : k ≠ 0) (hb : Below w.heap.size w w') : TcpOut w (readT src dst bs) (codeT src dst bs) (.returned (.tuple #[.agg zeroT, .int .i64 k])) w' := by
  unfold readT
  rw [hk, if_neg h0]
  exact ⟨none, 0, 0, none, 0, 0, rfl, OB.nil _ _, OB.nil _ _, hb⟩
/-- A shift of a byte, and its low half. -/
theorem u8_low4 (x : Int) (h0 : 0 ≤ x) (h1 : x < 256) : bits .and .u8 x 15 = x % 16 := by
  have hc : ∀ n : Fin 256, bits .and .u8 (n.val : Int) 15 = (n.val : Int) % 16 := by decide +kernel
  have := hc ⟨x.toNat, by omega⟩
  rwa [show ((⟨x.toNat, by omega⟩ : Fin 256).val : Int) = x from Int.toNat_of_nonneg h0] at this

theorem setRow_heap_ne (w : World) (g b : Nat) (cs : Array Value) (hb : b ≠ g) : (w.setRow g cs).heap[b]? = w.heap[b]? := by
  unfold World.setRow
  simp only [Array.getElem?_modify]
  rw [if_neg (fun e => hb e.symm)]
theorem Keep.setRow {B : Nat} (w : World) (cs : Array Value) : Keep B w (w.setRow B cs) := ⟨by simp, fun b _ hb => setRow_heap_ne w B b cs hb⟩
theorem Blk.row {W : World} {B : Nat} {P : Array Value} {T : TypeId} (h : Blk W B P T) (P' : Array Value) : Blk (W.setRow B P') B P' T := ⟨setRow_heap W B P P' T _ h.at_⟩
theorem below_setRow {w0 w : World} {N B : Nat} (h : Below N w0 w) (hB : N ≤ B) (P' : Array Value) : Below N w0 (w.setRow B P') :=
  ⟨h.os, h.tape, h.output, by rw [setRow_size]; exact h.size, fun j hj => (setRow_heap_ne w B j P' (by omega)).trans (h.block j hj)⟩
theorem tcells {W : World} {B : Nat} {T : TypeId} {m : TcpP} {Ao : Option Addr} {no co : Nat} {A : Option Addr} {n c : Nat} (h : Blk W B (cellsT m Ao no co A n c) T) :
    W.cell? ⟨B, 0, none⟩ = some (.int .i64 m.s) ∧ W.cell? ⟨B, 1, none⟩ = some (.int .i64 m.d) ∧ W.cell? ⟨B, 2, none⟩ = some (.int .i64 m.q) ∧ W.cell? ⟨B, 3, none⟩ = some (.int .i64 m.a) ∧ W.cell? ⟨B, 4, none⟩ = some (.int .i64 m.r) ∧
    W.cell? ⟨B, 5, none⟩ = some (.int .i64 m.f) ∧ W.cell? ⟨B, 6, none⟩ = some (.int .i64 m.w) ∧ W.cell? ⟨B, 7, none⟩ = some (.int .i64 m.u) ∧ W.cell? ⟨B, 8, none⟩ = some (.slice Ao no co) ∧ W.cell? ⟨B, 9, none⟩ = some (.slice A n c) :=
  ⟨h.cell 0 _ rfl, h.cell 1 _ rfl, h.cell 2 _ rfl, h.cell 3 _ rfl, h.cell 4 _ rfl, h.cell 5 _ rfl, h.cell 6 _ rfl, h.cell 7 _ rfl, h.cell 8 _ rfl, h.cell 9 _ rfl⟩
theorem one_T (m : TcpP) (Ao : Option Addr) (no co : Nat) (A : Option Addr) (n c : Nat) : (cellsT m Ao no co A n c).all (·.oneCell') = true := by simp [Value.oneCell']
end Go.Proofs.Ytmbmmpbfmakfbaa
