/- A drawn region whose operations may make memory and write it, each its own cells: whatever the order, each slot, and what each store leaves, is in the end as in the text's order. -/
import Derived.Test.YtipigcpenmcaoaaLoose
set_option linter.unusedVariables false
namespace Go.Proofs.Ytipigcpenmcaoaa
open Go Go.RowKit

def StbE (E : World → World → Prop) (p : Rl) : Prop := ∀ u w w', p u w → E w w' → p u w'
def ofDst (d : Option Tmp) (u : Value) : Value := match d with | some _ => u | none => undef
def keyOf (N i : Nat) (o : Oper) : Nat := match o.dst with | some d => d | none => N + i
section
variable (P : Program) (ops : Array Oper) (V0 : Array Value) (N : Nat) (J : Array Value → World → Prop) (E : World → World → Prop)
def YldW (p : Rl) (T : Array Value) (d : Option Tmp) (w0 : World) : Result Next → Prop
  | .ok (.value u) w' => p (ofDst d u) w' ∧ J (putV T d u) w' ∧ E w0 w'
  | .ok (.enter f args) w' => Calls P f args w' fun e w'' => ∃ u, e = .returned u ∧ p (ofDst d u) w'' ∧ J (putV T d u) w'' ∧ E w0 w''
  | .ok .skip w' => d = none ∧ p undef w' ∧ J T w' ∧ E w0 w'
  | _ => False
def OpW (R : Tmp → Rl) (o : Oper) (p : Rl) : Prop :=
  ∀ (a : Act) (w : World), J a.tmps w → a.tmps.size = N → (∀ d, o.dst = some d → a.tmps.getD d undef = V0.getD d undef) → (∀ t ∈ o.looksAt ops, R t (a.tmps.getD t undef) w) →
    (Region.wanted o (yielded ops a.tmps) = true ∧ YldW P J E p a.tmps o.dst w ((execOp a.eval o).run P w)) ∨ (Region.wanted o (yielded ops a.tmps) = false ∧ p undef w ∧ J (putV a.tmps o.dst undef) w)
def PendK (listed : Array Bool) (t : Tmp) : Prop := ∃ (j : Nat) (o : Oper), ops[j]? = some o ∧ keyOf N j o = t ∧ listed.getD j true = false
def oneDst : Prop := ∀ (i j : Nat) (o o' : Oper) (d : Tmp), ops[i]? = some o → ops[j]? = some o' → o.dst = some d → o'.dst = some d → i = j
end

section
variable {P : Program} {ops : Array Oper} {V0 : Array Value} {N : Nat} {J : Array Value → World → Prop} {E : World → World → Prop} {Q : Exit → Act → World → Prop}
theorem putV_tmps (a : Act) (d : Option Tmp) (u : Value) : (a.put d u).tmps = putV a.tmps d u := by cases d <;> rfl
theorem OpW.wpOp {i : Nat} {o : Oper} {p : Rl} {a : Act} {w : World} (hi : ops[i]? = some o) (hE : ∀ w, E w w)
    (h : (Region.wanted o (yielded ops a.tmps) = true ∧ YldW P J E p a.tmps o.dst w ((execOp a.eval o).run P w)) ∨ (Region.wanted o (yielded ops a.tmps) = false ∧ p undef w ∧ J (putV a.tmps o.dst undef) w))
    {K : Act → World → Prop} (hk : ∀ u w', p (ofDst o.dst u) w' → J (putV a.tmps o.dst u) w' → E w w' → K (a.put o.dst u) w') : wpOp P ops Q i K a w := by
  unfold Go.wpOp
  simp only [hi]
  rcases h with ⟨hw, h1⟩ | ⟨hw, h1, h2⟩
  · simp only [hw, if_true]
    refine .inl ?_
    unfold Oper.wp
    generalize (execOp a.eval o).run P w = r at h1
    cases r with
    | ok n w' =>
      cases n <;> simp only [YldW] at h1 <;> simp only [Oper.upon]
      case value u => exact hk _ _ h1.1 h1.2.1 h1.2.2
      case enter f args =>
        refine h1.mono ?_
        rintro e w'' ⟨u, rfl, h2, h3, h4⟩
        exact hk _ _ h2 h3 h4
      case skip =>
        obtain ⟨hd, h2, h3, h4⟩ := h1
        exact hk undef _ (by rw [hd]; exact h2) (by rw [hd]; exact h3) h4
    | halt x w' => simp only [YldW] at h1
  · simp only [hw, Bool.false_eq_true, if_false]
    exact hk _ _ (by cases o.dst <;> exact h1) h2 (hE _)

theorem writ_any {ds : List Deferred} (hB : looseB ops N = true) (hu1 : oneDst ops) (hE : ∀ w, E w w) (R : Tmp → Rl) (hst : ∀ t, StbE E (R t)) (hops : ∀ (i : Nat) (o : Oper), ops[i]? = some o → OpW P ops V0 N J E R o (R (keyOf N i o)))
    (hQ : ∀ a w, J a.tmps w → a.tmps.size = N → a.defers = ds → (∀ t, R t (a.tmps.getD t undef) w) → Q .normal a w) :
    ∀ (fuel : Nat) (listed : Array Bool) (a : Act) (w : World), unl ops.size listed = fuel → J a.tmps w → a.tmps.size = N → a.defers = ds → (∀ t, PendK ops N listed t → a.tmps.getD t undef = V0.getD t undef) → (∀ t, ¬ PendK ops N listed t → R t (a.tmps.getD t undef) w) → wpAny P .any ops Q fuel listed a w := by
  obtain ⟨hns, hsp⟩ := looseB_spec hB
  have hend : ∀ (listed : Array Bool), Region.ready .any ops listed = [] → ∀ n i, i ≤ n → i < ops.size → listed.getD i true = true := by
    intro listed hr n
    induction n with
    | zero =>
      intro i hi hlt
      obtain rfl : i = 0 := by omega
      cases hl : listed.getD 0 true with
      | true => rfl
      | false =>
        have : 0 ∈ Region.ready .any ops listed := mem_ready.2 ⟨hl, _, Array.getElem?_eq_getElem hlt, fun e he hb => absurd ((hsp 0 _ (Array.getElem?_eq_getElem hlt)).2.1 e he hb) (by omega)⟩
        rw [hr] at this; cases this
    | succ n ih =>
      intro i hi hlt
      rcases Nat.lt_or_ge n i with h | h
      · obtain rfl : i = n + 1 := by omega
        cases hl : listed.getD (n + 1) true with
        | true => rfl
        | false =>
          have : n + 1 ∈ Region.ready .any ops listed := mem_ready.2 ⟨hl, _, Array.getElem?_eq_getElem hlt, fun e he hb => by
            have h1 := (hsp (n + 1) _ (Array.getElem?_eq_getElem hlt)).2.1 e he hb
            have h2 := ih e.on (by omega) (by omega)
            rcases Nat.lt_or_ge e.on listed.size with h' | h'
            · simpa [h'] using h2
            · exfalso
              have : listed.getD (n + 1) true = true := by simp [Array.getElem?_eq_none (show listed.size ≤ n + 1 by omega)]
              rw [hl] at this; cases this⟩
          rw [hr] at this; cases this
      · exact ih i h hlt
  have hfin : ∀ (listed : Array Bool) (a : Act) (w : World), Region.ready .any ops listed = [] → J a.tmps w → a.tmps.size = N → a.defers = ds → (∀ t, ¬ PendK ops N listed t → R t (a.tmps.getD t undef) w) → Q .normal a w := by
    intro listed a w hr hS hsz hds hR
    refine hQ a w hS hsz hds fun t => hR t ?_
    rintro ⟨j, o, hj, _, hl⟩
    have hlt := (Array.getElem?_eq_some_iff.1 hj).1
    have := hend listed hr j j (Nat.le_refl _) hlt
    rw [hl] at this; cases this
  intro fuel
  induction fuel with
  | zero =>
    intro listed a w hu hS hsz hds hp0 hR
    have hr : Region.ready .any ops listed = [] := by
      cases h : Region.ready .any ops listed with
      | nil => rfl
      | cons i l =>
        exfalso
        have hi : i ∈ Region.ready .any ops listed := by rw [h]; simp
        obtain ⟨h0, o, ho, _⟩ := mem_ready.1 hi
        have := unl_set (Array.getElem?_eq_some_iff.1 ho).1 h0
        omega
    exact ⟨hr, hfin listed a w hr hS hsz hds hR⟩
  | succ fuel ih =>
    intro listed a w hu hS hsz hds hp0 hR
    refine ⟨fun hr => hfin listed a w hr hS hsz hds hR, fun i hi => ?_⟩
    obtain ⟨h0, o, ho, hall⟩ := mem_ready.1 hi
    obtain ⟨hd1, hd2, hd3⟩ := hsp i o ho
    have hlt := (Array.getElem?_eq_some_iff.1 ho).1
    have hop := hops i o ho a w hS hsz (fun d hd => hp0 d ⟨i, o, ho, by simp [keyOf, hd], h0⟩) (fun t ht => hR t (by
      rintro ⟨j, oj, hj, hdj, hl⟩
      have hdj' : oj.dst = some t := by
        unfold keyOf at hdj
        cases e : oj.dst with
        | none => rw [e] at hdj; have h8 : @LT.lt Nat _ t N := (hd3 t ht).1; simp only [] at hdj; exact absurd h8 (Nat.not_lt.2 (hdj ▸ Nat.le_add_right N j))
        | some d => rw [e] at hdj; simp only [] at hdj; rw [hdj]
      obtain ⟨e, he, hb, rfl⟩ := (hd3 t ht).2 j oj hj hdj'
      have h1 := hall e he hb
      rcases Nat.lt_or_ge e.on listed.size with h' | h'
      · simp [h'] at h1 hl; rw [hl] at h1; cases h1
      · simp [Array.getElem?_eq_none h'] at hl))
    refine OpW.wpOp ho hE hop fun u w' hp hS' hb => ?_
    have hpend : ∀ t, PendK ops N (listed.setIfInBounds i true) t → PendK ops N listed t ∧ keyOf N i o ≠ t := by
      rintro t ⟨j, oj, hj, hdj, hl⟩
      have hji : i ≠ j := by
        rintro rfl
        have hsz' : i < listed.size := by
          rcases Nat.lt_or_ge i listed.size with h' | h'
          · exact h'
          · simp [Array.getElem?_eq_none h'] at h0
        simp [hsz'] at hl
      rw [getD_set_ne true hji] at hl
      refine ⟨⟨j, oj, hj, hdj, hl⟩, fun hk => hji ?_⟩
      unfold keyOf at hk hdj
      cases e : o.dst with
      | none =>
        rw [e] at hk; simp only [] at hk
        cases e' : oj.dst with
        | none => rw [e'] at hdj; simp only [] at hdj; exact Nat.add_left_cancel (hk.trans hdj.symm)
        | some d => rw [e'] at hdj; simp only [] at hdj; have h8 : @LT.lt Nat _ d N := (hsp j oj hj).1 d e'; have h9 : @Eq Nat d t := hdj; exact absurd (h9 ▸ h8) (Nat.not_lt.2 (hk ▸ Nat.le_add_right N i))
      | some d =>
        rw [e] at hk; simp only [] at hk
        cases e' : oj.dst with
        | none => rw [e'] at hdj; simp only [] at hdj; have h8 : @LT.lt Nat _ d N := hd1 d e; have h9 : @Eq Nat d t := hk; exact absurd (h9 ▸ h8) (Nat.not_lt.2 (hdj ▸ Nat.le_add_right N j))
        | some d' => rw [e'] at hdj; simp only [] at hdj; exact hu1 i j o oj d ho hj e (by rw [e', hdj, hk])
    have hget : ∀ t, keyOf N i o ≠ t → (a.put o.dst u).tmps.getD t undef = a.tmps.getD t undef := by
      intro t hk
      cases hd : o.dst with
      | none => rfl
      | some d =>
        have : d ≠ t := fun e => hk (by simp [keyOf, hd, e])
        simp [Act.put, Array.getElem?_setIfInBounds_ne this]
    refine ih _ _ _ (by have := unl_set hlt h0; omega) ?_ ?_ ?_ ?_ ?_
    · rw [putV_tmps]; exact hS'
    · cases o.dst <;> simp [Act.put, hsz]
    · cases o.dst <;> simp [Act.put, hds]
    · intro t ht
      obtain ⟨h1, h2⟩ := hpend t ht
      rw [hget t h2]; exact hp0 t h1
    · intro t hnp
      by_cases hk : keyOf N i o = t
      · subst hk
        cases hd : o.dst with
        | none =>
          have e : (a.put none u).tmps.getD (keyOf N i o) undef = undef := by simp [Act.put, keyOf, hd, Array.getElem?_eq_none (show a.tmps.size ≤ N + i by rw [hsz]; exact Nat.le_add_right N i)]
          rw [e]; rw [hd] at hp; exact hp
        | some d =>
          have hdN := hd1 d hd
          have e : (a.put (some d) u).tmps.getD (keyOf N i o) undef = u := by simp [Act.put, keyOf, hd, hsz, hdN]
          rw [e]; rw [hd] at hp; exact hp
      · rw [hget t hk]
        refine hst t _ _ _ (hR t ?_) hb
        rintro ⟨j, oj, hj, hdj, hl⟩
        refine hnp ⟨j, oj, hj, hdj, ?_⟩
        have hji : i ≠ j := fun e => by subst e; rw [ho] at hj; cases hj; exact hk hdj
        rw [getD_set_ne true hji]; exact hl
end

section
variable (P : Program) (ops : Array Oper) (V0 : Array Value) (N : Nat) (J : Array Value → World → Prop) (E : World → World → Prop) (Q : Exit → Act → World → Prop) (ds : List Deferred)
def writL : Nat → List Oper → Array Value → Env → Prop
  | _, [], V, En => ∀ (a : Act) (w : World), J a.tmps w → a.tmps.size = N → a.defers = ds → (∀ t, Rt V En t (a.tmps.getD t undef) w) → Q .normal a w
  | i, o :: rest, V, En => (∃ v, OpW P ops V0 N J E (Rt V En) o (fun u _ => u = v) ∧ (o.dst = none → v = undef) ∧ dfree En o = true ∧ writL (i + 1) rest (putV V o.dst v) En) ∨
      (∃ p, StbE E p ∧ OpW P ops V0 N J E (Rt V En) o p ∧ writL (i + 1) rest V ((keyOf N i o, p) :: En))
end
section
variable {P : Program} {ops : Array Oper} {V0 : Array Value} {N : Nat} {J : Array Value → World → Prop} {E : World → World → Prop} {Q : Exit → Act → World → Prop} {ds : List Deferred}
theorem OpW.of {R R' : Tmp → Rl} {o : Oper} {p p' : Rl} (h : OpW P ops V0 N J E R o p) (hR : ∀ t ∈ o.looksAt ops, R' t = R t) (hp : ∀ u w, p u w → p' u w) : OpW P ops V0 N J E R' o p' := by
  intro a w hS hsz hpe hk
  rcases h a w hS hsz hpe (fun t ht => by rw [← hR t ht]; exact hk t ht) with ⟨h1, h2⟩ | ⟨h1, h2, h3⟩
  · refine .inl ⟨h1, ?_⟩
    generalize (execOp a.eval o).run P w = r at h2
    cases r with
    | ok n w' =>
      cases n <;> simp only [YldW] at h2 ⊢
      case value u => exact ⟨hp _ _ h2.1, h2.2⟩
      case enter f args =>
        refine h2.mono ?_
        rintro e w'' ⟨u, rfl, h3, h4⟩
        exact ⟨u, rfl, hp _ _ h3, h4⟩
      case skip => exact ⟨h2.1, hp _ _ h2.2.1, h2.2.2⟩
    | halt x w' => simp only [YldW] at h2
  · exact .inr ⟨h1, hp _ _ h2, h3⟩
theorem stbE_eq (v : Value) : StbE E (fun u _ => u = v) := fun u w w' h _ => h
theorem stbE_Rt {V : Array Value} {En : Env} (hE : ∀ t p, look En t = some p → StbE E p) (t : Tmp) : StbE E (Rt V En t) := by
  unfold Rt
  cases e : look En t with
  | some p => exact hE t p e
  | none => exact stbE_eq _
theorem keyOf_ge {N i : Nat} {o : Oper} (h : o.dst = none) : keyOf N i o = N + i := by simp [keyOf, h]
theorem keyOf_some {N i : Nat} {o : Oper} {d : Tmp} (h : o.dst = some d) : keyOf N i o = d := by simp [keyOf, h]
theorem writ_list : ∀ (l : List Oper) (i : Nat) (V : Array Value) (En : Env), okL ops l = true → V.size = N → (∀ o ∈ l, ∀ d, o.dst = some d → d < N) → (∀ o ∈ l, ∀ t ∈ o.looksAt ops, t < N) → (∀ t p, look En t = some p → StbE E p) →
    (∀ t, N + i ≤ t → look En t = none) → writL P ops V0 N J E Q ds i l V En →
    ∃ R : Tmp → Rl, (∀ t, (∀ (j : Nat) (o : Oper), l[j]? = some o → keyOf N (i + j) o ≠ t) → R t = Rt V En t) ∧ (∀ (j : Nat) (o : Oper), l[j]? = some o → OpW P ops V0 N J E R o (R (keyOf N (i + j) o))) ∧ (∀ t, StbE E (R t)) ∧
      (∀ (a : Act) (w : World), J a.tmps w → a.tmps.size = N → a.defers = ds → (∀ t, R t (a.tmps.getD t undef) w) → Q .normal a w)
  | [], i, V, En, _, _, _, _, hE, _, h => ⟨Rt V En, fun _ _ => rfl, (fun j o ho => by simp at ho), stbE_Rt hE, h⟩
  | o :: rest, i, V, En, hok, hV, hdN, hlN, hE, hEn, h => by
    simp only [okL, Bool.and_eq_true, List.all_eq_true] at hok
    obtain ⟨⟨hlk, hdu⟩, hok'⟩ := hok
    have hlk' : ∀ t ∈ o.looksAt ops, ∀ o' ∈ o :: rest, ∀ j, keyOf N j o' ≠ t := fun t ht o' ho' j hk => by
      have := hlk t ht o' ho'
      cases hd : o'.dst with
      | none => rw [keyOf_ge hd] at hk; have h8 : @LT.lt Nat _ t N := hlN o (List.mem_cons_self ..) t ht; exact absurd h8 (Nat.not_lt.2 (hk ▸ Nat.le_add_right N j))
      | some d => rw [keyOf_some hd] at hk; rw [hd, hk] at this; simp at this
    have hdN' : ∀ o ∈ rest, ∀ d, o.dst = some d → d < N := fun o ho => hdN o (List.mem_cons_of_mem _ ho)
    have hlN' : ∀ o ∈ rest, ∀ t ∈ o.looksAt ops, t < N := fun o ho => hlN o (List.mem_cons_of_mem _ ho)
    have hkr : ∀ (j : Nat) (o' : Oper), rest[j]? = some o' → keyOf N (i + 1 + j) o' ≠ keyOf N i o := fun j o' ho' hk => by
      have hm := List.mem_of_getElem? ho'
      cases hd : o.dst with
      | none =>
        rw [keyOf_ge hd] at hk
        cases hd' : o'.dst with
        | none => rw [keyOf_ge hd'] at hk; omega
        | some d' => rw [keyOf_some hd'] at hk; have h8 : @LT.lt Nat _ d' N := hdN' o' hm d' hd'; exact absurd h8 (Nat.not_lt.2 (hk ▸ Nat.le_add_right N i))
      | some d =>
        rw [keyOf_some hd] at hk
        rw [hd] at hdu
        simp only [List.all_eq_true] at hdu
        have h1 := hdu o' hm
        cases hd' : o'.dst with
        | none => rw [keyOf_ge hd'] at hk; have h8 : @LT.lt Nat _ d N := hdN o (List.mem_cons_self ..) d hd; exact absurd h8 (Nat.not_lt.2 (hk ▸ Nat.le_add_right N _))
        | some d' => rw [keyOf_some hd'] at hk; rw [hd', hk] at h1; simp at h1
    have hsh : ∀ j : Nat, i + (j + 1) = i + 1 + j := fun j => by omega
    rcases h with ⟨v, hop, hvn, hdf, hl⟩ | ⟨p, hst, hop, hl⟩
    · obtain ⟨R, h1, h2, h3, h4⟩ := writ_list rest (i + 1) (putV V o.dst v) En hok' (by unfold putV; cases o.dst <;> simp [hV]) hdN' hlN' hE (fun t ht => hEn t (Nat.le_trans (Nat.add_le_add_left (Nat.le_succ i) N) ht)) hl
      have hRt : ∀ t, (∀ (j : Nat) (o' : Oper), rest[j]? = some o' → keyOf N (i + 1 + j) o' ≠ t) → keyOf N i o ≠ t → R t = Rt V En t := fun t h5 h6 => by
        rw [h1 t h5, Rt_put_ne (fun e => h6 (keyOf_some e))]
      refine ⟨R, fun t ht => hRt t (fun j o' ho' => by have := ht (j + 1) o' (by simpa using ho'); rwa [hsh] at this) (by have := ht 0 o (by simp); simpa using this), fun j o' ho' => ?_, h3, h4⟩
      cases j with
      | zero =>
        simp at ho'
        subst ho'
        refine hop.of (fun t ht => hRt t (fun j o'' ho'' => hlk' t ht o'' (List.mem_cons_of_mem _ (List.mem_of_getElem? ho'')) _) (hlk' t ht _ (List.mem_cons_self ..) _)) (fun u w hu => ?_)
        rw [Nat.add_zero, h1 _ hkr]
        cases hd : o.dst with
        | none =>
          rw [keyOf_ge hd]
          unfold Rt
          rw [hEn (N + i) (Nat.le_refl _)]
          have e : V.getD (N + i) undef = undef := by simp [Array.getElem?_eq_none (show V.size ≤ N + i by rw [hV]; exact Nat.le_add_right N i)]
          simp only [putV]
          rw [e, hu, hvn hd]
        | some d =>
          rw [keyOf_some hd]
          have hlt : d < V.size := by rw [hV]; exact hdN o (List.mem_cons_self ..) d hd
          have hn : look En d = none := by simpa [dfree, hd] using hdf
          unfold Rt
          rw [hn]
          simp only [putV]
          rw [hu]
          simp [hlt]
      | succ j =>
        rw [hsh]
        exact h2 j o' (by simpa using ho')
    · obtain ⟨R, h1, h2, h3, h4⟩ := writ_list rest (i + 1) V ((keyOf N i o, p) :: En) hok' hV hdN' hlN' (fun t q hq => by
        by_cases e : keyOf N i o = t
        · subst e; rw [look_same] at hq; cases hq; exact hst
        · rw [look_ne e] at hq; exact hE t q hq) (fun t ht => by
          rw [look_ne (by
            cases hd : o.dst with
            | none => rw [keyOf_ge hd]; intro e; exact absurd ht (Nat.not_le.2 (e ▸ Nat.lt_succ_self (N + i)))
            | some d => rw [keyOf_some hd]; have h8 : @LT.lt Nat _ d N := hdN o (List.mem_cons_self ..) d hd; intro e; exact absurd (Nat.le_trans (Nat.le_add_right N (i + 1)) ht) (Nat.not_le.2 (e ▸ h8)))]
          exact hEn t (Nat.le_trans (Nat.add_le_add_left (Nat.le_succ i) N) ht)) hl
      have hRt : ∀ t, (∀ (j : Nat) (o' : Oper), rest[j]? = some o' → keyOf N (i + 1 + j) o' ≠ t) → keyOf N i o ≠ t → R t = Rt V En t := fun t h5 h6 => by
        rw [h1 t h5]; unfold Rt; rw [look_ne h6]
      refine ⟨R, fun t ht => hRt t (fun j o' ho' => by have := ht (j + 1) o' (by simpa using ho'); rwa [hsh] at this) (by have := ht 0 o (by simp); simpa using this), fun j o' ho' => ?_, h3, h4⟩
      cases j with
      | zero =>
        simp at ho'
        subst ho'
        refine hop.of (fun t ht => hRt t (fun j o'' ho'' => hlk' t ht o'' (List.mem_cons_of_mem _ (List.mem_of_getElem? ho'')) _) (hlk' t ht _ (List.mem_cons_self ..) _)) (fun u w hu => ?_)
        rw [Nat.add_zero, h1 _ hkr]
        unfold Rt
        rw [look_same]
        exact hu
      | succ j =>
        rw [hsh]
        exact h2 j o' (by simpa using ho')

theorem okL_one : ∀ (l : List Oper), okL ops l = true → ∀ (i j : Nat) (o o' : Oper) (d : Tmp), l[i]? = some o → l[j]? = some o' → o.dst = some d → o'.dst = some d → i = j
  | [], _, i, j, o, o', d, hi, _, _, _ => by simp at hi
  | x :: rest, h, i, j, o, o', d, hi, hj, hd, hd' => by
    simp only [okL, Bool.and_eq_true, List.all_eq_true] at h
    obtain ⟨⟨_, hdu⟩, h'⟩ := h
    have key : ∀ (y : Oper) (n : Nat), x.dst = some d → rest[n]? = some y → y.dst = some d → False := fun y n hx hy hyd => by
      rw [hx] at hdu
      simp only [List.all_eq_true] at hdu
      have := hdu y (List.mem_of_getElem? hy)
      rw [hyd] at this; simp at this
    cases i with
    | zero =>
      cases j with
      | zero => rfl
      | succ j =>
        simp at hi hj
        subst hi
        exact (key o' j hd hj hd').elim
    | succ i =>
      cases j with
      | zero =>
        simp at hi hj
        subst hj
        exact (key o i hd' hi hd).elim
      | succ j =>
        simp at hi hj
        rw [okL_one rest h' i j o o' d hi hj hd hd']

/-- The beginning. -/
theorem wp_region_writ {id : Nat} {l : List Oper} {a : Act} {w : World} (J : Array Value → World → Prop) (E : World → World → Prop) (hm : P.follows .mixedOrders = true) (hB : looseB l.toArray a.tmps.size = true) (hL : okL l.toArray l = true) (hE : ∀ w, E w w) (hS : J a.tmps w.drew)
    (h : writL P l.toArray a.tmps a.tmps.size J E Q a.defers 0 l a.tmps []) : (Code.region id l.toArray true).wp P Q a w := by
  obtain ⟨_, hsp⟩ := looseB_spec hB
  obtain ⟨R, h1, h2, h3, h4⟩ := writ_list l 0 a.tmps [] hL rfl (fun o ho d hd => by
    obtain ⟨i, hi⟩ := List.getElem?_of_mem ho
    exact (hsp i o (by simpa using hi)).1 d hd) (fun o ho t ht => by
    obtain ⟨i, hi⟩ := List.getElem?_of_mem ho
    exact ((hsp i o (by simpa using hi)).2.2 t ht).1) (fun t p hp => by cases hp) (fun t _ => rfl) h
  refine wp_region_any hm (writ_any (V0 := a.tmps) hB (fun i j o o' d hi hj => okL_one l hL i j o o' d (by simpa using hi) (by simpa using hj)) hE R h3 (fun i o ho => by have := h2 i o (by simpa using ho); rwa [Nat.zero_add] at this) h4 _ _ a w.drew ?_ hS rfl rfl (fun _ _ => rfl) fun t hnp => ?_)
  · unfold unl
    rw [List.countP_eq_length.2 (fun j hj => by
      have := List.mem_range.1 hj
      simp at this
      simp [this])]
    simp
  · rw [h1 t (fun j o ho hd => hnp ⟨j, o, by simpa using ho, by rwa [Nat.zero_add] at hd, ?_⟩)]
    · rfl
    · have hlt := (List.getElem?_eq_some_iff.1 ho).1
      simp [hlt]
end

/-! ### Steps -/
section
variable {P : Program} {ops : Array Oper} {V0 : Array Value} {N : Nat} {J : Array Value → World → Prop} {E : World → World → Prop} {Q : Exit → Act → World → Prop} {ds : List Deferred} {V : Array Value} {En : Env} {o : Oper} {rest : List Oper} {i : Nat}
theorem writL_nil (h : ∀ (a : Act) (w : World), J a.tmps w → a.tmps.size = N → a.defers = ds → (∀ t, Rt V En t (a.tmps.getD t undef) w) → Q .normal a w) : writL P ops V0 N J E Q ds i [] V En := h
theorem writL_val {v : Value} (hlk : (o.looksAt ops).all (fun t => (look En t).isNone) = true) (hs : notSel o = true) (hd : dfree En o = true) (hdn : o.dst.isSome = true) (hw : Region.wanted o (yielded ops V) = true) (hE : ∀ w, E w w) (hJ : ∀ T u w, J T w → J (putV T o.dst u) w)
    (hv : ∀ T w, J T w → (execOp (⟨V, []⟩ : Act).eval o).run P w = .ok (.value v) w) (h : writL P ops V0 N J E Q ds (i + 1) rest (putV V o.dst v) En) : writL P ops V0 N J E Q ds i (o :: rest) V En :=
  .inl ⟨v, fun a w hS _ _ hk => .inl ⟨(wanted_agree (List.all_eq_true.2 fun t ht => List.all_eq_true.1 hlk t (gslots_in ht)) hk).trans hw, by
    rw [exec_agree hs fun t ht => Rt_none (List.all_eq_true.1 hlk t ht) (hk t ht), hv _ w hS]
    refine ⟨?_, hJ _ _ _ hS, hE _⟩
    cases e : o.dst with
    | none => rw [e] at hdn; cases hdn
    | some d => rfl⟩, (fun e => by rw [e] at hdn; cases hdn), hd, h⟩
theorem writL_skip (hg : (gslots ops o).all (fun t => (look En t).isNone) = true) (hd : dfree En o = true) (hw : Region.wanted o (yielded ops V) = false) (hJ : ∀ T u w, J T w → J (putV T o.dst u) w) (h : writL P ops V0 N J E Q ds (i + 1) rest (putV V o.dst undef) En) : writL P ops V0 N J E Q ds i (o :: rest) V En :=
  .inl ⟨undef, fun a w hS _ _ hk => .inr ⟨(wanted_agree hg hk).trans hw, rfl, hJ _ _ _ hS⟩, fun _ => rfl, hd, h⟩
/-- Any operation, whose slot, or what it leaves, is known by a relation. -/
theorem writL_op (p : Rl) (hg : (gslots ops o).all (fun t => (look En t).isNone) = true) (hw : Region.wanted o (yielded ops V) = true) (hst : StbE E p)
    (hx : ∀ (a : Act) w, J a.tmps w → a.tmps.size = N → (∀ d, o.dst = some d → a.tmps.getD d undef = V0.getD d undef) → (∀ t ∈ o.looksAt ops, Rt V En t (a.tmps.getD t undef) w) → YldW P J E p a.tmps o.dst w ((execOp a.eval o).run P w)) (h : writL P ops V0 N J E Q ds (i + 1) rest V ((keyOf N i o, p) :: En)) : writL P ops V0 N J E Q ds i (o :: rest) V En :=
  .inr ⟨p, hst, fun a w hS hsz hpe hk => .inl ⟨(wanted_agree hg hk).trans hw, hx a w hS hsz hpe hk⟩, h⟩
/-- Any operation whose slot is known ahead. -/
theorem writL_opv (v : Value) (hg : (gslots ops o).all (fun t => (look En t).isNone) = true) (hw : Region.wanted o (yielded ops V) = true) (hd : dfree En o = true) (hdn : o.dst.isSome = true)
    (hx : ∀ (a : Act) w, J a.tmps w → a.tmps.size = N → (∀ d, o.dst = some d → a.tmps.getD d undef = V0.getD d undef) → (∀ t ∈ o.looksAt ops, Rt V En t (a.tmps.getD t undef) w) → YldW P J E (fun u _ => u = v) a.tmps o.dst w ((execOp a.eval o).run P w)) (h : writL P ops V0 N J E Q ds (i + 1) rest (putV V o.dst v) En) : writL P ops V0 N J E Q ds i (o :: rest) V En :=
  .inl ⟨v, fun a w hS hsz hpe hk => .inl ⟨(wanted_agree hg hk).trans hw, hx a w hS hsz hpe hk⟩, (fun e => by rw [e] at hdn; cases hdn), hd, h⟩
end
end Go.Proofs.Ytipigcpenmcaoaa
