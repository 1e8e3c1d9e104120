/- A slice of the call's own, of whatever elements: append of one element. -/
import Derived.Test.YtmbmmpbfmakfbaaAppend
import Derived.Test.YtmbmmpbfmakfbaaTcpO
import Derived.Test.YtmbmmpbfmakfbaaTcpPR
import Derived.RangeFuncNested
import Derived.Test.YtmbmmpbfmakfbaaWrit
import Derived.Test.YtmbmmpbfmakfbaaAlc
set_option linter.unusedVariables false
namespace Go.Proofs.Ytmbmmpbfmakfbaa
open Go.RowKit

/-- A slice of the call's own, in a block from base on: its cells are xs, 'size' to an element. -/
structure OG (w : World) (base : Nat) (e : TypeId) (size : Nat) (A : Option Addr) (n c : Nat) (xs : List Value) : Prop where
  own : w.ownsRow base e size (.slice A n c) n xs
section
variable {w w' : World} {base size : Nat} {e : TypeId} {A : Option Addr} {n c : Nat} {xs : List Value}
theorem OG.nil (w : World) (base : Nat) (e : TypeId) (size : Nat) : OG w base e size none 0 0 [] := ⟨⟨by simp, .inl ⟨rfl, rfl⟩⟩⟩
theorem OG.len (h : OG w base e size A n c xs) : xs.length = n * size := h.own.1
theorem OG.blk (h : OG w base e size A n c xs) {k : Nat} (hk : ownBlk A = some k) : base ≤ k ∧ k < w.heap.size := by
  rcases h.own.2 with ⟨e, _⟩ | ⟨g, cap, cur, e, hg, hh, _⟩
  · cases e; cases hk
  · cases e; cases hk; exact ⟨hg, (Array.getElem?_eq_some_iff.1 hh).1⟩
theorem OG.mono {base' : Nat} (h : OG w base e size A n c xs) (hb : base' ≤ base) : OG w base' e size A n c xs := by
  refine ⟨h.own.1, ?_⟩
  rcases h.own.2 with h | ⟨g, cap, cur, e, hg, r⟩
  · exact .inl h
  · exact .inr ⟨g, cap, cur, e, by omega, r⟩
theorem OG.below (h : OG w base e size A n c xs) (hb : Below w.heap.size w w') : OG w' base e size A n c xs := by
  refine ⟨h.own.1, ?_⟩
  rcases h.own.2 with h | ⟨g, cap, cur, e, hg, hh, r⟩
  · exact .inl h
  · exact .inr ⟨g, cap, cur, e, hg, (hb.block g (Array.getElem?_eq_some_iff.1 hh).1).trans hh, r⟩
theorem OG.alloc (h : OG w base e size A n c xs) (o : Obj) : OG (w.alloc o) base e size A n c xs := h.below ((Below.refl _ w).alloc (Nat.le_refl _) o)
theorem OG.cells (h : OG w base e size A n c xs) (hn : 0 < n) (hs : 0 < size) : ∃ g, A = some ⟨g, 0, none⟩ ∧ base ≤ g ∧ g < w.heap.size ∧ n ≤ c ∧ c ≤ maxLen ∧ ∀ j, j < n * size → w.cell? ⟨g, j, none⟩ = xs[j]? := by
  have hl := h.len
  rcases h.own.2 with ⟨e, hn0⟩ | ⟨g, cap, cur, e, hg, hh, hnc, hcm, hsz, htk⟩
  · cases e; omega
  · cases e
    refine ⟨g, rfl, hg, (Array.getElem?_eq_some_iff.1 hh).1, hnc, hcm, fun j hj => ?_⟩
    have hcell : w.cell? ⟨g, j, none⟩ = cur[j]? := by simp [World.cell?, hh]
    rw [hcell, ← htk, List.getElem?_take, if_pos hj, Array.getElem?_toList]
theorem OG.slot (h : OG w base e size A n c xs) : n ≤ c := by
  rcases h.own.2 with ⟨e, hn0⟩ | ⟨g, cap, cur, e, hg, hh, hnc, r⟩
  · cases e; omega
  · cases e; exact hnc
end
/-- append of what lies in a literal. -/
theorem wpList_append_og {ops : Array Oper} {rest : List Oper} {o : Oper} {a : Act} {Q : Exit → Act → World → Prop} (w : World) (hgd : o.guard = none) (t e : TypeId) (s x : Operand)
    (hop : o.op = .call { callee := .builtin .append, args := #[s, x], argTypes := #[t, t] }) (z : Value) (size bytes : Nat) (ht : Try.prog.underlying t = some (.slice e)) (hi : (Try.prog.info? e).map (fun i => (i.zero, i.size, i.bytes)) = some (some z, size, bytes)) (hzs : z.cells.size = size) (hsz : 0 < size)
    {base : Nat} {A : Option Addr} {n c : Nat} {xs : List Value} (hv : a.eval s = .slice A n c) {g m c' : Nat} (hv' : a.eval x = .slice (some ⟨g, 0, none⟩) m c') (ho : OG w base e size A n c xs) (news : List Value) (hl : news.length = m * size)
    (hnews : ∀ j u, news[j]? = some u → w.cell? ⟨g, j, none⟩ = some u) (h1 : ∀ u ∈ news, u.oneCell' = true) (hs : (n + m) * bytes ≤ 140737488355328) (hs2 : n + m ≤ 140737488355328) (hb : base ≤ w.heap.size)
    (h : ∀ A2 c2 w2, OG w2 base e size A2 (n + m) c2 (xs ++ news) → w.grownBy w2 (ownBlk A) → wpList Try.prog ops Q rest (a.put o.dst (.slice A2 (n + m) c2)) w2) :
    wpList Try.prog ops Q (o :: rest) a w := by
  refine wpList_plain hgd fun K hK => ?_
  obtain ⟨i0, hi, hz0, hz1, hz2⟩ := info_parts hi
  obtain ⟨v', w', h1, h2, h3, _, h5⟩ := run_append_own_at (P := Try.prog) w base t o.type e i0 z size bytes ht hi hz0 hz1 hz2 hzs hsz _ n xs ho.own ⟨g, 0, none⟩ m c' news hl (fun j u hu => by rw [Go.WideShapes.add_plain, Nat.zero_add]; exact hnews j u hu) h1 (by unfold maxLen; omega) hs hb
  have hv2 : ∃ A2 c2, v' = .slice A2 (n + m) c2 := by
    rcases h2.2 with ⟨e, e2⟩ | ⟨g, cap, _, e, _⟩
    · exact ⟨none, 0, by rw [e, e2]⟩
    · exact ⟨_, _, e⟩
  obtain ⟨A2, c2, rfl⟩ := hv2
  rw [ownBlk_eq] at h3
  unfold Oper.wp execOp
  simp only [hop, resolve, invoke, builtin, Sem.run_bind, Sem.run_pure, Result.andThen_ok, List.map_toArray, List.map_cons, List.map_nil, hv, hv', h1]
  exact hK _ _ (h A2 c2 w' ⟨h2⟩ h3)
theorem info_intz : (Try.prog.info? 3).map (fun i => (i.zero, i.size, i.bytes)) = some (some (.int .i64 0), 1, 8) := by kernel_rfl
end Go.Proofs.Ytmbmmpbfmakfbaa
/- Options of segments (the reference): walks of Option, Places, MSS. -/
set_option linter.unusedVariables false
namespace Go.Proofs.Ytmbmmpbfmakfbaa
open Go.RowKit

def placeV (l : List Nat) : List Value := l.map fun (p : Nat) => .int .i64 (p : Int)
/-- The greatest size that options tell. -/
def mssF (bs : List Int) : List Nat → Int × Int × Bool
  | [] => (0, 0, false)
  | a :: l => if bs[a]?.getD 0 = 2 ∧ optL bs a = 4 then ((getV bs (a + 2) 2).1, a, true) else mssF bs l
def mssT (bs : List Int) : Int × Int × Bool := mssF bs (places bs)
def mssV (r : Int × Int × Bool) : Value := .tuple #[.int .i64 r.1, .int .i64 r.2.1, .bool r.2.2]

end Go.Proofs.Ytmbmmpbfmakfbaa
/- The greatest size that a segment tells (tcp): walk of MSS. -/
set_option linter.unusedVariables false
namespace Go.Proofs.Ytmbmmpbfmakfbaa
open Go.RowKit
attribute [local go_sem] Oper.semAt_some

theorem RB.cutO {w : World} {b off n c : Nat} {bs : List Int} (h : RB w (some ⟨b, off, none⟩) n c bs) (a s : Nat) (hs : a + s ≤ n) : RB w (some ⟨b, off + a, none⟩) s s ((bs.drop a).take s) := by
  have h1 := (h.drop a (by omega)).first_ (show s ≤ n - a by omega)
  have := h.cm
  have := h.nc
  exact ⟨h1.len, Nat.le_refl _, by omega, h1.byt, (fun e => by cases e), h1.mem⟩
theorem getV_cut4 (bs : List Int) (a : Nat) (h : a + 4 ≤ bs.length) : (getV ((bs.drop a).take 4) 2 2).1 = (getV bs ((a : Int) + 2) 2).1 := by
  unfold getV
  rw [if_neg (by omega), if_neg (by simp; omega), if_neg (by omega), if_neg (by omega)]
  have e1 : (2 : Int).toNat = 2 := rfl
  have e2 : ((a : Int) + 2).toNat = a + 2 := by omega
  rw [e1, e2]
  unfold cutI
  rw [List.drop_take, List.drop_drop, List.take_take]
  simp

end Go.Proofs.Ytmbmmpbfmakfbaa
/- A drawn region whose operations may make memory and write it, each its own cells, where the invariant may tell which operations have been done: whatever the order, each slot, and what each store leaves, is in the end as in the text's order. -/
set_option linter.unusedVariables false
namespace Go.Proofs.Ytmbmmpbfmakfbaa
open Go Go.RowKit

section
variable (P : Program) (ops : Array Oper) (V0 : Array Value) (N : Nat) (J : Array Bool → Array Value → World → Prop) (E : World → World → Prop)
def OpL (i : Nat) (R : Tmp → Rl) (o : Oper) (p : Rl) : Prop :=
  ∀ (L : Array Bool) (a : Act) (w : World), J L a.tmps w → L.getD i true = false → a.tmps.size = N → (∀ d, o.dst = some d → a.tmps.getD d undef = V0.getD d undef) → (∀ t ∈ o.looksAt ops, R t (a.tmps.getD t undef) w) →
    (Region.wanted o (yielded ops a.tmps) = true ∧ YldW P (J (L.setIfInBounds i true)) E p a.tmps o.dst w ((execOp a.eval o).run P w)) ∨ (Region.wanted o (yielded ops a.tmps) = false ∧ p undef w ∧ J (L.setIfInBounds i true) (putV a.tmps o.dst undef) w)
end
section
variable {P : Program} {ops : Array Oper} {V0 : Array Value} {N : Nat} {J : Array Bool → Array Value → World → Prop} {E : World → World → Prop} {Q : Exit → Act → World → Prop}
theorem lst_any {ds : List Deferred} (hB : looseB ops N = true) (hu1 : oneDst ops) (hE : ∀ w, E w w) (R : Tmp → Rl) (hst : ∀ t, StbE E (R t)) (hops : ∀ (i : Nat) (o : Oper), ops[i]? = some o → OpL P ops V0 N J E i R o (R (keyOf N i o)))
    (hQ : ∀ L a w, (∀ j, j < ops.size → L.getD j true = true) → J L a.tmps w → a.tmps.size = N → a.defers = ds → (∀ t, R t (a.tmps.getD t undef) w) → Q .normal a w) :
    ∀ (fuel : Nat) (listed : Array Bool) (a : Act) (w : World), unl ops.size listed = fuel → J listed a.tmps w → a.tmps.size = N → a.defers = ds → (∀ t, PendK ops N listed t → a.tmps.getD t undef = V0.getD t undef) → (∀ t, ¬ PendK ops N listed t → R t (a.tmps.getD t undef) w) → wpAny P .any ops Q fuel listed a w := by
  obtain ⟨hns, hsp⟩ := looseB_spec hB
  have hend : ∀ (listed : Array Bool), Region.ready .any ops listed = [] → ∀ n i, i ≤ n → i < ops.size → listed.getD i true = true := by
    intro listed hr n
    induction n with
    | zero =>
      intro i hi hlt
      obtain rfl : i = 0 := by omega
      cases hl : listed.getD 0 true with
      | true => rfl
      | false =>
        have : 0 ∈ Region.ready .any ops listed := mem_ready.2 ⟨hl, _, Array.getElem?_eq_getElem hlt, fun e he hb => absurd ((hsp 0 _ (Array.getElem?_eq_getElem hlt)).2.1 e he hb) (by omega)⟩
        rw [hr] at this; cases this
    | succ n ih =>
      intro i hi hlt
      rcases Nat.lt_or_ge n i with h | h
      · obtain rfl : i = n + 1 := by omega
        cases hl : listed.getD (n + 1) true with
        | true => rfl
        | false =>
          have : n + 1 ∈ Region.ready .any ops listed := mem_ready.2 ⟨hl, _, Array.getElem?_eq_getElem hlt, fun e he hb => by
            have h1 := (hsp (n + 1) _ (Array.getElem?_eq_getElem hlt)).2.1 e he hb
            have h2 := ih e.on (by omega) (by omega)
            rcases Nat.lt_or_ge e.on listed.size with h' | h'
            · simpa [h'] using h2
            · exfalso
              have : listed.getD (n + 1) true = true := by simp [Array.getElem?_eq_none (show listed.size ≤ n + 1 by omega)]
              rw [hl] at this; cases this⟩
          rw [hr] at this; cases this
      · exact ih i h hlt
  have hfin : ∀ (listed : Array Bool) (a : Act) (w : World), Region.ready .any ops listed = [] → J listed a.tmps w → a.tmps.size = N → a.defers = ds → (∀ t, ¬ PendK ops N listed t → R t (a.tmps.getD t undef) w) → Q .normal a w := by
    intro listed a w hr hS hsz hds hR
    refine hQ listed a w (fun j hj => hend listed hr j j (Nat.le_refl _) hj) hS hsz hds fun t => hR t ?_
    rintro ⟨j, o, hj, _, hl⟩
    have hlt := (Array.getElem?_eq_some_iff.1 hj).1
    have := hend listed hr j j (Nat.le_refl _) hlt
    rw [hl] at this; cases this
  intro fuel
  induction fuel with
  | zero =>
    intro listed a w hu hS hsz hds hp0 hR
    have hr : Region.ready .any ops listed = [] := by
      cases h : Region.ready .any ops listed with
      | nil => rfl
      | cons i l =>
        exfalso
        have hi : i ∈ Region.ready .any ops listed := by rw [h]; simp
        obtain ⟨h0, o, ho, _⟩ := mem_ready.1 hi
        have := unl_set (Array.getElem?_eq_some_iff.1 ho).1 h0
        omega
    exact ⟨hr, hfin listed a w hr hS hsz hds hR⟩
  | succ fuel ih =>
    intro listed a w hu hS hsz hds hp0 hR
    refine ⟨fun hr => hfin listed a w hr hS hsz hds hR, fun i hi => ?_⟩
    obtain ⟨h0, o, ho, hall⟩ := mem_ready.1 hi
    obtain ⟨hd1, hd2, hd3⟩ := hsp i o ho
    have hlt := (Array.getElem?_eq_some_iff.1 ho).1
    have hop := hops i o ho listed a w hS h0 hsz (fun d hd => hp0 d ⟨i, o, ho, by simp [keyOf, hd], h0⟩) (fun t ht => hR t (by
      rintro ⟨j, oj, hj, hdj, hl⟩
      have hdj' : oj.dst = some t := by
        unfold keyOf at hdj
        cases e : oj.dst with
        | none => rw [e] at hdj; have h8 : @LT.lt Nat _ t N := (hd3 t ht).1; simp only [] at hdj; exact absurd h8 (Nat.not_lt.2 (hdj ▸ Nat.le_add_right N j))
        | some d => rw [e] at hdj; simp only [] at hdj; rw [hdj]
      obtain ⟨e, he, hb, rfl⟩ := (hd3 t ht).2 j oj hj hdj'
      have h1 := hall e he hb
      rcases Nat.lt_or_ge e.on listed.size with h' | h'
      · simp [h'] at h1 hl; rw [hl] at h1; cases h1
      · simp [Array.getElem?_eq_none h'] at hl))
    refine OpW.wpOp ho hE hop fun u w' hp hS' hb => ?_
    have hpend : ∀ t, PendK ops N (listed.setIfInBounds i true) t → PendK ops N listed t ∧ keyOf N i o ≠ t := by
      rintro t ⟨j, oj, hj, hdj, hl⟩
      have hji : i ≠ j := by
        rintro rfl
        have hsz' : i < listed.size := by
          rcases Nat.lt_or_ge i listed.size with h' | h'
          · exact h'
          · simp [Array.getElem?_eq_none h'] at h0
        simp [hsz'] at hl
      rw [getD_set_ne true hji] at hl
      refine ⟨⟨j, oj, hj, hdj, hl⟩, fun hk => hji ?_⟩
      unfold keyOf at hk hdj
      cases e : o.dst with
      | none =>
        rw [e] at hk; simp only [] at hk
        cases e' : oj.dst with
        | none => rw [e'] at hdj; simp only [] at hdj; exact Nat.add_left_cancel (hk.trans hdj.symm)
        | some d => rw [e'] at hdj; simp only [] at hdj; have h8 : @LT.lt Nat _ d N := (hsp j oj hj).1 d e'; have h9 : @Eq Nat d t := hdj; exact absurd (h9 ▸ h8) (Nat.not_lt.2 (hk ▸ Nat.le_add_right N i))
      | some d =>
        rw [e] at hk; simp only [] at hk
        cases e' : oj.dst with
        | none => rw [e'] at hdj; simp only [] at hdj; have h8 : @LT.lt Nat _ d N := hd1 d e; have h9 : @Eq Nat d t := hk; exact absurd (h9 ▸ h8) (Nat.not_lt.2 (hdj ▸ Nat.le_add_right N j))
        | some d' => rw [e'] at hdj; simp only [] at hdj; exact hu1 i j o oj d ho hj e (by rw [e', hdj, hk])
    have hget : ∀ t, keyOf N i o ≠ t → (a.put o.dst u).tmps.getD t undef = a.tmps.getD t undef := by
      intro t hk
      cases hd : o.dst with
      | none => rfl
      | some d =>
        have : d ≠ t := fun e => hk (by simp [keyOf, hd, e])
        simp [Act.put, Array.getElem?_setIfInBounds_ne this]
    refine ih _ _ _ (by have := unl_set hlt h0; omega) ?_ ?_ ?_ ?_ ?_
    · rw [putV_tmps]; exact hS'
    · cases o.dst <;> simp [Act.put, hsz]
    · cases o.dst <;> simp [Act.put, hds]
    · intro t ht
      obtain ⟨h1, h2⟩ := hpend t ht
      rw [hget t h2]; exact hp0 t h1
    · intro t hnp
      by_cases hk : keyOf N i o = t
      · subst hk
        cases hd : o.dst with
        | none =>
          have e : (a.put none u).tmps.getD (keyOf N i o) undef = undef := by simp [Act.put, keyOf, hd, Array.getElem?_eq_none (show a.tmps.size ≤ N + i by rw [hsz]; exact Nat.le_add_right N i)]
          rw [e]; rw [hd] at hp; exact hp
        | some d =>
          have hdN := hd1 d hd
          have e : (a.put (some d) u).tmps.getD (keyOf N i o) undef = u := by simp [Act.put, keyOf, hd, hsz, hdN]
          rw [e]; rw [hd] at hp; exact hp
      · rw [hget t hk]
        refine hst t _ _ _ (hR t ?_) hb
        rintro ⟨j, oj, hj, hdj, hl⟩
        refine hnp ⟨j, oj, hj, hdj, ?_⟩
        have hji : i ≠ j := fun e => by subst e; rw [ho] at hj; cases hj; exact hk hdj
        rw [getD_set_ne true hji]; exact hl
end

section
variable (P : Program) (ops : Array Oper) (V0 : Array Value) (N : Nat) (J : Array Bool → Array Value → World → Prop) (E : World → World → Prop) (Q : Exit → Act → World → Prop) (ds : List Deferred)
def lstL : Nat → List Oper → Array Value → Env → Prop
  | _, [], V, En => ∀ (L : Array Bool) (a : Act) (w : World), (∀ j, j < ops.size → L.getD j true = true) → J L a.tmps w → a.tmps.size = N → a.defers = ds → (∀ t, Rt V En t (a.tmps.getD t undef) w) → Q .normal a w
  | i, o :: rest, V, En => (∃ v, OpL P ops V0 N J E i (Rt V En) o (fun u _ => u = v) ∧ (o.dst = none → v = undef) ∧ dfree En o = true ∧ lstL (i + 1) rest (putV V o.dst v) En) ∨
      (∃ p, StbE E p ∧ OpL P ops V0 N J E i (Rt V En) o p ∧ lstL (i + 1) rest V ((keyOf N i o, p) :: En))
end
section
variable {P : Program} {ops : Array Oper} {V0 : Array Value} {N : Nat} {J : Array Bool → Array Value → World → Prop} {E : World → World → Prop} {Q : Exit → Act → World → Prop} {ds : List Deferred}
theorem OpL.of {i : Nat} {R R' : Tmp → Rl} {o : Oper} {p p' : Rl} (h : OpL P ops V0 N J E i R o p) (hR : ∀ t ∈ o.looksAt ops, R' t = R t) (hp : ∀ u w, p u w → p' u w) : OpL P ops V0 N J E i R' o p' := by
  intro L a w hS h0 hsz hpe hk
  rcases h L a w hS h0 hsz hpe (fun t ht => by rw [← hR t ht]; exact hk t ht) with ⟨h1, h2⟩ | ⟨h1, h2, h3⟩
  · refine .inl ⟨h1, ?_⟩
    generalize (execOp a.eval o).run P w = r at h2
    cases r with
    | ok n w' =>
      cases n <;> simp only [YldW] at h2 ⊢
      case value u => exact ⟨hp _ _ h2.1, h2.2⟩
      case enter f args =>
        refine h2.mono ?_
        rintro e w'' ⟨u, rfl, h3, h4⟩
        exact ⟨u, rfl, hp _ _ h3, h4⟩
      case skip => exact ⟨h2.1, hp _ _ h2.2.1, h2.2.2⟩
    | halt x w' => simp only [YldW] at h2
  · exact .inr ⟨h1, hp _ _ h2, h3⟩
theorem lst_list : ∀ (l : List Oper) (i : Nat) (V : Array Value) (En : Env), okL ops l = true → V.size = N → (∀ o ∈ l, ∀ d, o.dst = some d → d < N) → (∀ o ∈ l, ∀ t ∈ o.looksAt ops, t < N) → (∀ t p, look En t = some p → StbE E p) →
    (∀ t, N + i ≤ t → look En t = none) → lstL P ops V0 N J E Q ds i l V En →
    ∃ R : Tmp → Rl, (∀ t, (∀ (j : Nat) (o : Oper), l[j]? = some o → keyOf N (i + j) o ≠ t) → R t = Rt V En t) ∧ (∀ (j : Nat) (o : Oper), l[j]? = some o → OpL P ops V0 N J E (i + j) R o (R (keyOf N (i + j) o))) ∧ (∀ t, StbE E (R t)) ∧
      (∀ (L : Array Bool) (a : Act) (w : World), (∀ j, j < ops.size → L.getD j true = true) → J L a.tmps w → a.tmps.size = N → a.defers = ds → (∀ t, R t (a.tmps.getD t undef) w) → Q .normal a w)
  | [], i, V, En, _, _, _, _, hE, _, h => ⟨Rt V En, fun _ _ => rfl, (fun j o ho => by simp at ho), stbE_Rt hE, h⟩
  | o :: rest, i, V, En, hok, hV, hdN, hlN, hE, hEn, h => by
    simp only [okL, Bool.and_eq_true, List.all_eq_true] at hok
    obtain ⟨⟨hlk, hdu⟩, hok'⟩ := hok
    have hlk' : ∀ t ∈ o.looksAt ops, ∀ o' ∈ o :: rest, ∀ j, keyOf N j o' ≠ t := fun t ht o' ho' j hk => by
      have := hlk t ht o' ho'
      cases hd : o'.dst with
      | none => rw [keyOf_ge hd] at hk; have h8 : @LT.lt Nat _ t N := hlN o (List.mem_cons_self ..) t ht; exact absurd h8 (Nat.not_lt.2 (hk ▸ Nat.le_add_right N j))
      | some d => rw [keyOf_some hd] at hk; rw [hd, hk] at this; simp at this
    have hdN' : ∀ o ∈ rest, ∀ d, o.dst = some d → d < N := fun o ho => hdN o (List.mem_cons_of_mem _ ho)
    have hlN' : ∀ o ∈ rest, ∀ t ∈ o.looksAt ops, t < N := fun o ho => hlN o (List.mem_cons_of_mem _ ho)
    have hkr : ∀ (j : Nat) (o' : Oper), rest[j]? = some o' → keyOf N (i + 1 + j) o' ≠ keyOf N i o := fun j o' ho' hk => by
      have hm := List.mem_of_getElem? ho'
      cases hd : o.dst with
      | none =>
        rw [keyOf_ge hd] at hk
        cases hd' : o'.dst with
        | none => rw [keyOf_ge hd'] at hk; omega
        | some d' => rw [keyOf_some hd'] at hk; have h8 : @LT.lt Nat _ d' N := hdN' o' hm d' hd'; exact absurd h8 (Nat.not_lt.2 (hk ▸ Nat.le_add_right N i))
      | some d =>
        rw [keyOf_some hd] at hk
        rw [hd] at hdu
        simp only [List.all_eq_true] at hdu
        have h1 := hdu o' hm
        cases hd' : o'.dst with
        | none => rw [keyOf_ge hd'] at hk; have h8 : @LT.lt Nat _ d N := hdN o (List.mem_cons_self ..) d hd; exact absurd h8 (Nat.not_lt.2 (hk ▸ Nat.le_add_right N _))
        | some d' => rw [keyOf_some hd'] at hk; rw [hd', hk] at h1; simp at h1
    have hsh : ∀ j : Nat, i + (j + 1) = i + 1 + j := fun j => by omega
    rcases h with ⟨v, hop, hvn, hdf, hl⟩ | ⟨p, hst, hop, hl⟩
    · obtain ⟨R, h1, h2, h3, h4⟩ := lst_list rest (i + 1) (putV V o.dst v) En hok' (by unfold putV; cases o.dst <;> simp [hV]) hdN' hlN' hE (fun t ht => hEn t (Nat.le_trans (Nat.add_le_add_left (Nat.le_succ i) N) ht)) hl
      have hRt : ∀ t, (∀ (j : Nat) (o' : Oper), rest[j]? = some o' → keyOf N (i + 1 + j) o' ≠ t) → keyOf N i o ≠ t → R t = Rt V En t := fun t h5 h6 => by
        rw [h1 t h5, Rt_put_ne (fun e => h6 (keyOf_some e))]
      refine ⟨R, fun t ht => hRt t (fun j o' ho' => by have := ht (j + 1) o' (by simpa using ho'); rwa [hsh] at this) (by have := ht 0 o (by simp); simpa using this), fun j o' ho' => ?_, h3, h4⟩
      cases j with
      | zero =>
        simp at ho'
        subst ho'
        refine hop.of (fun t ht => hRt t (fun j o'' ho'' => hlk' t ht o'' (List.mem_cons_of_mem _ (List.mem_of_getElem? ho'')) _) (hlk' t ht _ (List.mem_cons_self ..) _)) (fun u w hu => ?_)
        rw [Nat.add_zero, h1 _ hkr]
        cases hd : o.dst with
        | none =>
          rw [keyOf_ge hd]
          unfold Rt
          rw [hEn (N + i) (Nat.le_refl _)]
          have e : V.getD (N + i) undef = undef := by simp [Array.getElem?_eq_none (show V.size ≤ N + i by rw [hV]; exact Nat.le_add_right N i)]
          simp only [putV]
          rw [e, hu, hvn hd]
        | some d =>
          rw [keyOf_some hd]
          have hlt : d < V.size := by rw [hV]; exact hdN o (List.mem_cons_self ..) d hd
          have hn : look En d = none := by simpa [dfree, hd] using hdf
          unfold Rt
          rw [hn]
          simp only [putV]
          rw [hu]
          simp [hlt]
      | succ j =>
        rw [hsh]
        exact h2 j o' (by simpa using ho')
    · obtain ⟨R, h1, h2, h3, h4⟩ := lst_list rest (i + 1) V ((keyOf N i o, p) :: En) hok' hV hdN' hlN' (fun t q hq => by
        by_cases e : keyOf N i o = t
        · subst e; rw [look_same] at hq; cases hq; exact hst
        · rw [look_ne e] at hq; exact hE t q hq) (fun t ht => by
          rw [look_ne (by
            cases hd : o.dst with
            | none => rw [keyOf_ge hd]; intro e; exact absurd ht (Nat.not_le.2 (e ▸ Nat.lt_succ_self (N + i)))
            | some d => rw [keyOf_some hd]; have h8 : @LT.lt Nat _ d N := hdN o (List.mem_cons_self ..) d hd; intro e; exact absurd (Nat.le_trans (Nat.le_add_right N (i + 1)) ht) (Nat.not_le.2 (e ▸ h8)))]
          exact hEn t (Nat.le_trans (Nat.add_le_add_left (Nat.le_succ i) N) ht)) hl
      have hRt : ∀ t, (∀ (j : Nat) (o' : Oper), rest[j]? = some o' → keyOf N (i + 1 + j) o' ≠ t) → keyOf N i o ≠ t → R t = Rt V En t := fun t h5 h6 => by
        rw [h1 t h5]; unfold Rt; rw [look_ne h6]
      refine ⟨R, fun t ht => hRt t (fun j o' ho' => by have := ht (j + 1) o' (by simpa using ho'); rwa [hsh] at this) (by have := ht 0 o (by simp); simpa using this), fun j o' ho' => ?_, h3, h4⟩
      cases j with
      | zero =>
        simp at ho'
        subst ho'
        refine hop.of (fun t ht => hRt t (fun j o'' ho'' => hlk' t ht o'' (List.mem_cons_of_mem _ (List.mem_of_getElem? ho'')) _) (hlk' t ht _ (List.mem_cons_self ..) _)) (fun u w hu => ?_)
        rw [Nat.add_zero, h1 _ hkr]
        unfold Rt
        rw [look_same]
        exact hu
      | succ j =>
        rw [hsh]
        exact h2 j o' (by simpa using ho')

/-- The beginning. -/
theorem wp_region_lst {id : Nat} {l : List Oper} {a : Act} {w : World} (J : Array Bool → Array Value → World → Prop) (E : World → World → Prop) (hm : P.follows .mixedOrders = true) (hB : looseB l.toArray a.tmps.size = true) (hL : okL l.toArray l = true) (hE : ∀ w, E w w) (hS : J (Array.replicate l.length false) a.tmps w.drew)
    (h : lstL P l.toArray a.tmps a.tmps.size J E Q a.defers 0 l a.tmps []) : (Code.region id l.toArray true).wp P Q a w := by
  obtain ⟨_, hsp⟩ := looseB_spec hB
  obtain ⟨R, h1, h2, h3, h4⟩ := lst_list l 0 a.tmps [] hL rfl (fun o ho d hd => by
    obtain ⟨i, hi⟩ := List.getElem?_of_mem ho
    exact (hsp i o (by simpa using hi)).1 d hd) (fun o ho t ht => by
    obtain ⟨i, hi⟩ := List.getElem?_of_mem ho
    exact ((hsp i o (by simpa using hi)).2.2 t ht).1) (fun t p hp => by cases hp) (fun t _ => rfl) h
  refine wp_region_any hm (lst_any (V0 := a.tmps) hB (fun i j o o' d hi hj => okL_one l hL i j o o' d (by simpa using hi) (by simpa using hj)) hE R h3 (fun i o ho => by have := h2 i o (by simpa using ho); rwa [Nat.zero_add] at this) h4 _ _ a w.drew ?_ hS rfl rfl (fun _ _ => rfl) fun t hnp => ?_)
  · unfold unl
    rw [List.countP_eq_length.2 (fun j hj => by
      have := List.mem_range.1 hj
      simp at this
      simp [this])]
    simp
  · rw [h1 t (fun j o ho hd => hnp ⟨j, o, by simpa using ho, by rwa [Nat.zero_add] at hd, ?_⟩)]
    · rfl
    · have hlt := (List.getElem?_eq_some_iff.1 ho).1
      simp [hlt]
end

/-! ### Steps -/
section
variable {P : Program} {ops : Array Oper} {V0 : Array Value} {N : Nat} {J : Array Bool → Array Value → World → Prop} {E : World → World → Prop} {Q : Exit → Act → World → Prop} {ds : List Deferred} {V : Array Value} {En : Env} {o : Oper} {rest : List Oper} {i : Nat}
theorem lstL_nil (h : ∀ (L : Array Bool) (a : Act) (w : World), (∀ j, j < ops.size → L.getD j true = true) → J L a.tmps w → a.tmps.size = N → a.defers = ds → (∀ t, Rt V En t (a.tmps.getD t undef) w) → Q .normal a w) : lstL P ops V0 N J E Q ds i [] V En := h
/-- Any operation, whose slot, or what it leaves, is known by a relation. -/
theorem lstL_op (p : Rl) (hg : (gslots ops o).all (fun t => (look En t).isNone) = true) (hw : Region.wanted o (yielded ops V) = true) (hst : StbE E p)
    (hx : ∀ (L : Array Bool) (a : Act) w, J L a.tmps w → L.getD i true = false → a.tmps.size = N → (∀ d, o.dst = some d → a.tmps.getD d undef = V0.getD d undef) → (∀ t ∈ o.looksAt ops, Rt V En t (a.tmps.getD t undef) w) → YldW P (J (L.setIfInBounds i true)) E p a.tmps o.dst w ((execOp a.eval o).run P w)) (h : lstL P ops V0 N J E Q ds (i + 1) rest V ((keyOf N i o, p) :: En)) : lstL P ops V0 N J E Q ds i (o :: rest) V En :=
  .inr ⟨p, hst, fun L a w hS h0 hsz hpe hk => .inl ⟨(wanted_agree hg hk).trans hw, hx L a w hS h0 hsz hpe hk⟩, h⟩
/-- Any operation whose slot is known ahead. -/
theorem lstL_opv (v : Value) (hg : (gslots ops o).all (fun t => (look En t).isNone) = true) (hw : Region.wanted o (yielded ops V) = true) (hd : dfree En o = true) (hdn : o.dst.isSome = true)
    (hx : ∀ (L : Array Bool) (a : Act) w, J L a.tmps w → L.getD i true = false → a.tmps.size = N → (∀ d, o.dst = some d → a.tmps.getD d undef = V0.getD d undef) → (∀ t ∈ o.looksAt ops, Rt V En t (a.tmps.getD t undef) w) → YldW P (J (L.setIfInBounds i true)) E (fun u _ => u = v) a.tmps o.dst w ((execOp a.eval o).run P w)) (h : lstL P ops V0 N J E Q ds (i + 1) rest (putV V o.dst v) En) : lstL P ops V0 N J E Q ds i (o :: rest) V En :=
  .inl ⟨v, fun L a w hS h0 hsz hpe hk => .inl ⟨(wanted_agree hg hk).trans hw, hx L a w hS h0 hsz hpe hk⟩, (fun e => by rw [e] at hdn; cases hdn), hd, h⟩
end
end Go.Proofs.Ytmbmmpbfmakfbaa
/- A drawn region that reads, calls, makes ONE struct's variable, and stores the struct into it: whatever the order, the variable holds the struct in the end. -/
set_option linter.unusedVariables false
namespace Go.Proofs.Ytmbmmpbfmakfbaa
open Go Go.RowKit

/-- The slots, behind a region some of whose slots are known by relations. -/
theorem slots_set {T : Array Value} : ∀ (ls : List Nat) (V : Array Value), V.size = T.size → (∀ i, i < T.size → i ∉ ls → T[i]? = V[i]?) → T = ls.foldl (fun v d => v.setIfInBounds d (T.getD d undef)) V
  | [], V, hV, h => by
    show T = V
    apply Array.ext_getElem?
    intro i
    by_cases hi : i < T.size
    · exact h i hi (by simp)
    · rw [Array.getElem?_eq_none (by omega), Array.getElem?_eq_none (by omega)]
  | d :: ls, V, hV, h => by
    refine slots_set ls (V.setIfInBounds d (T.getD d undef)) (by simp [hV]) fun i hi hn => ?_
    by_cases e : i = d
    · subst e
      have : i < V.size := by omega
      simp [hi, this]
    · rw [Array.getElem?_setIfInBounds_ne (Ne.symm e)]
      exact h i hi (by simp [e, hn])
theorem tmps_eql {T V : Array Value} {En : Env} {W : World} (ls : List Nat) (hV : V.size = T.size) (hEn : (List.range T.size).all (fun t => ls.contains t || (look En t).isNone) = true) (hR : ∀ t, Rt V En t (T.getD t undef) W) : T = ls.foldl (fun v d => v.setIfInBounds d (T.getD d undef)) V :=
  slots_set ls V hV fun i hi hn => by
    have h3 := List.all_eq_true.1 hEn i (List.mem_range.2 hi)
    simp only [Bool.or_eq_true] at h3
    have h4 : (look En i).isNone = true := by rcases h3 with h | h; exact absurd (by simpa using h) hn; exact h
    have h5 := Rt_none h4 (hR i)
    have hi' : i < V.size := by omega
    rw [Array.getElem?_eq_getElem hi, Array.getElem?_eq_getElem hi']
    simp only [Array.getD_eq_getD_getElem?, Array.getElem?_eq_getElem hi, Array.getElem?_eq_getElem hi', Option.getD_some] at h5
    rw [h5]

/-- Blocks of other types stay. -/
def StayT (Ty : TypeId) (w w' : World) : Prop := w.heap.size ≤ w'.heap.size ∧ ∀ (k : Nat) (cs : Array Value) (T' : TypeId) (fz : Nat × Nat), T' ≠ Ty → w.heap[k]? = some (Obj.cells cs T' fz) → w'.heap[k]? = some (Obj.cells cs T' fz)
theorem StayT.refl (Ty : TypeId) (w : World) : StayT Ty w w := ⟨Nat.le_refl _, fun _ _ _ _ _ h => h⟩
theorem StayT.of {Ty : TypeId} {w w' : World} (h : Below w.heap.size w w') : StayT Ty w w' := ⟨h.size, fun k cs T' fz _ hk => (h.block k (Array.getElem?_eq_some_iff.1 hk).1).trans hk⟩
theorem OB.stay {Ty : TypeId} {w w' : World} {base : Nat} {A : Option Addr} {n c : Nat} {bs : List Int} (h : OB w base A n c bs) (hs : StayT Ty w w') (ht : 5 ≠ Ty) : OB w' base A n c bs := by
  refine ⟨⟨h.own.1, ?_⟩, h.byt⟩
  rcases h.own.2 with h | ⟨g, cap, cur, e, hg, hh, r⟩
  · exact .inl h
  · exact .inr ⟨g, cap, cur, e, hg, hs.2 _ _ _ _ ht hh, r⟩
theorem OwnR.stay {Ty : TypeId} {base n : Nat} {bs : List Int} (ht : 5 ≠ Ty) : StbE (StayT Ty) (OwnR base n bs) := fun u w w' ⟨A, c, h1, h2⟩ hs => ⟨A, c, h1, h2.stay hs ht⟩
theorem row_ne (w : World) (g b : Nat) (cs : Array Value) (hb : b ≠ g) : (w.setRow g cs).heap[b]? = w.heap[b]? := by
  unfold World.setRow
  simp only [Array.getElem?_modify]
  rw [if_neg (fun e => hb e.symm)]
theorem below_row {w0 w : World} {N B : Nat} (h : Below N w0 w) (hB : N ≤ B) (P' : Array Value) : Below N w0 (w.setRow B P') :=
  ⟨h.os, h.tape, h.output, by rw [setRow_size]; exact h.size, fun j hj => (row_ne w B j P' (by omega)).trans (h.block j hj)⟩
theorem StayT.row {Ty : TypeId} {w : World} {g : Nat} {old : Array Value} (h : Blk w g old Ty) (F : Array Value) : StayT Ty w (w.setRow g F) := ⟨by rw [setRow_size]; exact Nat.le_refl _, fun k c T' fz hT hk => by
  have : k ≠ g := fun e => by
    subst e
    rw [h.at_] at hk
    cases hk
    exact hT rfl
  rw [row_ne w g k F this]; exact hk⟩
theorem Blk.upto {W W' : World} {B N : Nat} {P : Array Value} {T : TypeId} (h : Blk W B P T) (hb : Below N W W') (hB : B < N) : Blk W' B P T := ⟨(hb.block B hB).trans h.at_⟩

section
variable (w00 : World) (H ia ist : Nat) (d0 : Tmp) (Ty : TypeId) (zs : Nat) (C : World → Prop) (okF : Array Value → World → Prop)
def JM (L : Array Bool) (T : Array Value) (W : World) : Prop :=
  Below w00.heap.size w00 W ∧ H ≤ W.heap.size ∧ C W ∧ (L.getD ia true = false → T.getD d0 undef = undef ∧ L.getD ist true = false) ∧
    (L.getD ia true = true → ∃ g cs, T.getD d0 undef = .pointer (some ⟨g, 0, none⟩) ∧ H ≤ g ∧ Blk W g cs Ty ∧ cs.size = zs ∧ (L.getD ist true = true → okF cs W))
structure MkH : Prop where
  hC : ∀ W W', C W → Below H W W' → C W'
  hF : ∀ cs, StbE (StayT Ty) (fun _ W => okF cs W)
  hH : w00.heap.size ≤ H
end
section
variable {P : Program} {ops : Array Oper} {V0 : Array Value} {N : Nat} {Q : Exit → Act → World → Prop} {ds : List Deferred} {V : Array Value} {En : Env} {o : Oper} {rest : List Oper} {i : Nat}
variable {w00 : World} {H ia ist : Nat} {d0 : Tmp} {Ty : TypeId} {zs : Nat} {C : World → Prop} {okF : Array Value → World → Prop}
theorem putV_ne {T : Array Value} {d : Option Tmp} (hd : d ≠ some d0) (u : Value) : (putV T d u).getD d0 undef = T.getD d0 undef := by
  cases d with
  | none => rfl
  | some d =>
    have : d ≠ d0 := fun e => hd (by rw [e])
    simp [putV, Array.getElem?_setIfInBounds_ne this]
theorem JM.go {L : Array Bool} {T : Array Value} {W W' : World} (h : JM w00 H ia ist d0 Ty zs C okF L T W) (hM : MkH w00 H Ty C okF) (hb : Below W.heap.size W W') {d : Option Tmp} (hd : d ≠ some d0) (h1 : i ≠ ia) (h2 : i ≠ ist) (u : Value) :
    JM w00 H ia ist d0 Ty zs C okF (L.setIfInBounds i true) (putV T d u) W' := by
  obtain ⟨k1, k2, k3, k4, k5⟩ := h
  refine ⟨k1.trans (hb.mono k1.size), Nat.le_trans k2 hb.size, hM.hC _ _ k3 (hb.mono k2), fun h => ?_, fun h => ?_⟩
  · rw [getD_set_ne true h1] at h
    rw [putV_ne hd, getD_set_ne true h2]
    exact k4 h
  · rw [getD_set_ne true h1] at h
    obtain ⟨g, cs, e1, e2, e3, e4, e5⟩ := k5 h
    refine ⟨g, cs, by rw [putV_ne hd]; exact e1, e2, e3.to hb, e4, fun h => ?_⟩
    rw [getD_set_ne true h2] at h
    exact hM.hF cs undef _ _ (e5 h) (StayT.of hb)
theorem mk_val {v : Value} (hlk : (o.looksAt ops).all (fun t => (look En t).isNone) = true) (hs : notSel o = true) (hd : dfree En o = true) (hdn : o.dst.isSome = true) (hw : Region.wanted o (yielded ops V) = true) (hne : o.dst ≠ some d0) (h1 : i ≠ ia) (h2 : i ≠ ist) (hM : MkH w00 H Ty C okF)
    (hv : ∀ w, (Below w00.heap.size w00 w ∧ C w) → (execOp (⟨V, []⟩ : Act).eval o).run P w = .ok (.value v) w) (h : lstL P ops V0 N (JM w00 H ia ist d0 Ty zs C okF) (StayT Ty) Q ds (i + 1) rest (putV V o.dst v) En) : lstL P ops V0 N (JM w00 H ia ist d0 Ty zs C okF) (StayT Ty) Q ds i (o :: rest) V En :=
  lstL_opv v (List.all_eq_true.2 fun t ht => List.all_eq_true.1 hlk t (gslots_in ht)) hw hd hdn (fun L a w hS _ _ _ hk => by
    rw [exec_agree hs fun t ht => Rt_none (List.all_eq_true.1 hlk t ht) (hk t ht), hv w ⟨hS.1, hS.2.2.1⟩]
    refine ⟨?_, hS.go hM (Below.refl _ _) hne h1 h2 v, StayT.refl _ _⟩
    cases e : o.dst with
    | none => rw [e] at hdn; cases hdn
    | some d => rfl) h
theorem mk_callv (v : Value) (hlk : (o.looksAt ops).all (fun t => (look En t).isNone) = true) (hs : notSel o = true) (hd : dfree En o = true) (hdn : o.dst.isSome = true) (hw : Region.wanted o (yielded ops V) = true) (hne : o.dst ≠ some d0) (h1 : i ≠ ia) (h2 : i ≠ ist) (hM : MkH w00 H Ty C okF)
    (fn : Nat) (args : Array Value) (hx : ∀ w, (execOp (⟨V, []⟩ : Act).eval o).run P w = .ok (.enter fn args) w) (hc : ∀ w, (Below w00.heap.size w00 w ∧ C w) → Calls P fn args w fun e w' => e = .returned v ∧ Below w.heap.size w w')
    (h : lstL P ops V0 N (JM w00 H ia ist d0 Ty zs C okF) (StayT Ty) Q ds (i + 1) rest (putV V o.dst v) En) : lstL P ops V0 N (JM w00 H ia ist d0 Ty zs C okF) (StayT Ty) Q ds i (o :: rest) V En :=
  lstL_opv v (List.all_eq_true.2 fun t ht => List.all_eq_true.1 hlk t (gslots_in ht)) hw hd hdn (fun L a w hS _ _ _ hk => by
    rw [exec_agree hs fun t ht => Rt_none (List.all_eq_true.1 hlk t ht) (hk t ht), hx w]
    refine (hc w ⟨hS.1, hS.2.2.1⟩).mono fun e w' ⟨he, hb⟩ => ?_
    refine ⟨v, he, ?_, hS.go hM hb hne h1 h2 v, StayT.of hb⟩
    cases e' : o.dst with
    | none => rw [e'] at hdn; cases hdn
    | some d => rfl) h
/-- A call whose answer is known by a relation; its arguments are known. -/
theorem mk_callr {d : Tmp} (p : Rl) (hlk : (o.looksAt ops).all (fun t => (look En t).isNone) = true) (hs : notSel o = true) (hd : o.dst = some d) (hw : Region.wanted o (yielded ops V) = true) (hne : o.dst ≠ some d0) (h1 : i ≠ ia) (h2 : i ≠ ist) (hM : MkH w00 H Ty C okF) (hst : StbE (StayT Ty) p)
    (fn : Nat) (args : Array Value) (hx : ∀ w, (execOp (⟨V, []⟩ : Act).eval o).run P w = .ok (.enter fn args) w) (hc : ∀ w, (Below w00.heap.size w00 w ∧ C w) → H ≤ w.heap.size → Calls P fn args w fun e w' => (∃ u, e = .returned u ∧ p u w') ∧ Below w.heap.size w w')
    (h : lstL P ops V0 N (JM w00 H ia ist d0 Ty zs C okF) (StayT Ty) Q ds (i + 1) rest V ((d, p) :: En)) : lstL P ops V0 N (JM w00 H ia ist d0 Ty zs C okF) (StayT Ty) Q ds i (o :: rest) V En :=
  lstL_op p (List.all_eq_true.2 fun t ht => List.all_eq_true.1 hlk t (gslots_in ht)) hw hst (fun L a w hS _ _ _ hk => by
    rw [exec_agree hs fun t ht => Rt_none (List.all_eq_true.1 hlk t ht) (hk t ht), hx w]
    refine (hc w ⟨hS.1, hS.2.2.1⟩ hS.2.1).mono fun e w' ⟨⟨u, he, hp⟩, hb⟩ => ?_
    refine ⟨u, he, ?_, hS.go hM hb hne h1 h2 u, StayT.of hb⟩
    rw [hd]; exact hp) (by rw [keyOf_some hd]; exact h)
/-- An append to nothing. -/
theorem mk_append {d : Tmp} (m : Nat) (ys : List Int) (hlk : (o.looksAt ops).all (fun t => (look En t).isNone) = true) (hs : notSel o = true) (hd : o.dst = some d) (hw : Region.wanted o (yielded ops V) = true) (hne : o.dst ≠ some d0) (h1 : i ≠ ia) (h2 : i ≠ ist) (hM : MkH w00 H Ty C okF) (ht : 5 ≠ Ty)
    (x : Operand) (hop : o.op = .call { callee := .builtin .append, args := #[.const (.slice none 0 0), x], argTypes := #[24, 24] }) {A' : Option Addr} {c' : Nat} (hx : (⟨V, []⟩ : Act).eval x = .slice A' m c')
    (hr : ∀ w, (Below w00.heap.size w00 w ∧ C w) → RB w A' m c' ys) (hm : m ≤ 140737488355328)
    (h : lstL Try.prog ops V0 N (JM w00 H ia ist d0 Ty zs C okF) (StayT Ty) Q ds (i + 1) rest V ((d, OwnR H m ys) :: En)) : lstL Try.prog ops V0 N (JM w00 H ia ist d0 Ty zs C okF) (StayT Ty) Q ds i (o :: rest) V En :=
  lstL_op (OwnR H m ys) (List.all_eq_true.2 fun t ht => List.all_eq_true.1 hlk t (gslots_in ht)) hw (OwnR.stay ht) (fun L a w hS _ _ _ hk => by
    rw [exec_agree hs fun t ht => Rt_none (List.all_eq_true.1 hlk t ht) (hk t ht)]
    obtain ⟨A2, c2, w2, q1, q2, q3, q4⟩ := run_append_bytes w (OB.nil w w.heap.size) (hr w ⟨hS.1, hS.2.2.1⟩) (by omega) (Nat.le_refl _) o.type
    have hbl := (Below.refl w.heap.size w).grown q3 (Nat.le_refl _) (fun k hk => by simp [ownBlk] at hk)
    have hv : (⟨V, []⟩ : Act).eval (.const (.slice none 0 0)) = .slice none 0 0 := rfl
    simp [execOp, hop, resolve, invoke, builtin, hv, hx, q1, Result.andThen, YldW]
    refine ⟨?_, hS.go hM hbl hne h1 h2 _, StayT.of hbl⟩
    rw [hd]
    rw [Nat.zero_add, List.nil_append] at q2
    exact ⟨A2, c2, by first | rfl | simp [ofDst], q2.mono hS.2.1⟩) (by rw [keyOf_some hd]; exact h)
/-- A value made out of one slot that is known by a relation. -/
theorem mk_from {d e : Tmp} (p q : Rl) (hg : (gslots ops o).all (fun t => (look En t).isNone) = true) (hlk : (o.looksAt ops).all (fun t => t == e || (look En t).isNone) = true) (he : look En e = some p) (hV : e < V.size) (hs : notSel o = true) (hd : o.dst = some d) (hw : Region.wanted o (yielded ops V) = true) (hne : o.dst ≠ some d0) (h1 : i ≠ ia) (h2 : i ≠ ist) (hM : MkH w00 H Ty C okF) (hst : StbE (StayT Ty) q) (hin : e ∈ o.looksAt ops)
    (hx : ∀ u w, p u w → ∃ v, (execOp (⟨V.setIfInBounds e u, []⟩ : Act).eval o).run P w = .ok (.value v) w ∧ q v w)
    (h : lstL P ops V0 N (JM w00 H ia ist d0 Ty zs C okF) (StayT Ty) Q ds (i + 1) rest V ((d, q) :: En)) : lstL P ops V0 N (JM w00 H ia ist d0 Ty zs C okF) (StayT Ty) Q ds i (o :: rest) V En :=
  lstL_op q hg hw hst (fun L a w hS _ _ _ hk => by
    have hp : p (a.tmps.getD e undef) w := by
      have := hk e hin
      unfold Rt at this
      rw [he] at this; exact this
    obtain ⟨v, hv1, hv2⟩ := hx _ w hp
    rw [exec_agree (V := V.setIfInBounds e (a.tmps.getD e undef)) hs fun t ht => by
      by_cases hte : t = e
      · subst hte; simp [hV]
      · rw [show (V.setIfInBounds e (a.tmps.getD e undef)).getD t undef = V.getD t undef from by simp [Array.getElem?_setIfInBounds_ne (fun h => hte h.symm)]]
        refine Rt_none ?_ (hk t ht)
        have := List.all_eq_true.1 hlk t ht
        have hne : (t == e) = false := by simpa using hte
        rw [hne, Bool.false_or] at this
        exact this, hv1]
    exact ⟨by rw [hd]; exact hv2, hS.go hM (Below.refl _ _) hne h1 h2 v, StayT.refl _ _⟩) (by rw [keyOf_some hd]; exact h)
/-- The variable is made. -/
theorem mk_alloc (hg : (gslots ops o).all (fun t => (look En t).isNone) = true) (hd : o.dst = some d0) (hw : Region.wanted o (yielded ops V) = true) (Zc : Array Value) (hz : Zc.size = zs) (hdN : d0 < N) (h1 : i = ia) (h2 : i ≠ ist) (hM : MkH w00 H Ty C okF)
    (hx : ∀ (a : Act) w, (execOp a.eval o).run P w = .ok (.value (.pointer (some ⟨w.heap.size, 0, none⟩))) (w.alloc (.cells Zc Ty)))
    (h : lstL P ops V0 N (JM w00 H ia ist d0 Ty zs C okF) (StayT Ty) Q ds (i + 1) rest V ((d0, fun u _ => ∃ g, u = .pointer (some ⟨g, 0, none⟩)) :: En)) : lstL P ops V0 N (JM w00 H ia ist d0 Ty zs C okF) (StayT Ty) Q ds i (o :: rest) V En :=
  lstL_op (fun u _ => ∃ g, u = .pointer (some ⟨g, 0, none⟩)) hg hw (fun u w w' h _ => h) (fun L a w hS h0 hsz hpe hk => by
    subst h1
    obtain ⟨k1, k2, k3, k4, k5⟩ := hS
    have hb : Below w.heap.size w (w.alloc (.cells Zc Ty)) := (Below.refl _ w).alloc (Nat.le_refl _) _
    rw [hx a w]
    refine ⟨by rw [hd]; exact ⟨_, rfl⟩, ⟨k1.trans (hb.mono k1.size), Nat.le_trans k2 hb.size, hM.hC _ _ k3 (hb.mono k2), fun h => ?_, fun h => ?_⟩, StayT.of hb⟩
    · exfalso
      rcases Nat.lt_or_ge i L.size with hl | hl
      · simp [hl] at h
      · have : L.getD i true = true := by simp [Array.getElem?_eq_none hl]
        rw [this] at h0; cases h0
    · refine ⟨w.heap.size, Zc, by rw [hd]; simp [putV, hsz, hdN], k2, Blk.new w Zc Ty, hz, fun h' => ?_⟩
      rw [getD_set_ne true h2, (k4 h0).2] at h'
      cases h') (by rw [keyOf_some hd]; exact h)
/-- The struct is stored. -/
theorem mk_store {e : Tmp} (hg : (gslots ops o).all (fun t => (look En t).isNone) = true) (hw : Region.wanted o (yielded ops V) = true) (hd : o.dst = none) (h1 : i ≠ ia) (h2 : i = ist) (hM : MkH w00 H Ty C okF) (ho : o.op = .store Ty (.tmp d0) (.tmp e))
    (hl0 : look En d0 = some (fun u _ => ∃ g, u = .pointer (some ⟨g, 0, none⟩))) (hle : look En e = some (fun u W => ∃ F, u = .agg F ∧ F.size = zs ∧ F.all (·.oneCell') = true ∧ okF F W)) (hi : (P.info? Ty).map (·.size) = some zs)
    (h : lstL P ops V0 N (JM w00 H ia ist d0 Ty zs C okF) (StayT Ty) Q ds (i + 1) rest V ((N + i, fun _ _ => True) :: En)) : lstL P ops V0 N (JM w00 H ia ist d0 Ty zs C okF) (StayT Ty) Q ds i (o :: rest) V En :=
  lstL_op (fun _ _ => True) hg hw (fun _ _ _ _ _ => trivial) (fun L a w hS h0 hsz hpe hk => by
    subst h2
    obtain ⟨k1, k2, k3, k4, k5⟩ := hS
    have hd0 : d0 ∈ o.looksAt ops := List.mem_append_left _ (List.mem_filterMap.2 ⟨.tmp d0, by simp [Op.operands, ho], rfl⟩)
    have hde : e ∈ o.looksAt ops := List.mem_append_left _ (List.mem_filterMap.2 ⟨.tmp e, by simp [Op.operands, ho], rfl⟩)
    obtain ⟨g, hgp⟩ : ∃ g, a.tmps.getD d0 undef = .pointer (some ⟨g, 0, none⟩) := by have := hk d0 hd0; unfold Rt at this; rw [hl0] at this; exact this
    obtain ⟨F, hF1, hF2, hF3, hF4⟩ : ∃ F, a.tmps.getD e undef = .agg F ∧ F.size = zs ∧ F.all (·.oneCell') = true ∧ okF F w := by have := hk e hde; unfold Rt at this; rw [hle] at this; exact this
    have hLa : L.getD ia true = true := by
      cases hl : L.getD ia true with
      | true => rfl
      | false => have := (k4 hl).1; rw [hgp] at this; cases this
    obtain ⟨g', cs, e1, e2, e3, e4, e5⟩ := k5 hLa
    rw [hgp] at e1
    cases e1
    have hxv : a.eval (.tmp d0) = .pointer (some ⟨g, 0, none⟩) := hgp
    have hyv : a.eval (.tmp e) = .agg F := hF1
    unfold execOp
    simp only [ho, hxv, hyv, Instr.storeAt, Instr.sureAddr, Sem.run_bind, Sem.run_pure, Result.andThen_ok, run_storeVar_row w g Ty Ty cs F e3.at_ (by rw [hi, hF2]) (by rw [e4, hF2]) hF3]
    have hst : StayT Ty w (w.setRow g F) := ⟨by rw [setRow_size]; exact Nat.le_refl _, fun k c T' fz hT hk => by
      have : k ≠ g := fun e => by
        subst e
        rw [e3.at_] at hk
        cases hk
        exact hT rfl
      rw [row_ne w g k F this]; exact hk⟩
    have hbH : Below H w (w.setRow g F) := below_row (Below.mono (Below.refl _ w) (Nat.le_trans e2 (Nat.le_of_lt e3.lt))) e2 F
    refine ⟨hd, trivial, ⟨below_row k1 (Nat.le_trans hM.hH e2) F, by rw [setRow_size]; exact k2, hM.hC _ _ k3 hbH, fun h => ?_, fun _ => ?_⟩, hst⟩
    · rw [getD_set_ne true h1, hLa] at h; cases h
    · exact ⟨g, F, hgp, e2, ⟨setRow_heap w g cs F Ty _ e3.at_⟩, hF2, fun _ => hM.hF F undef _ _ hF4 hst⟩) (by rw [keyOf_ge hd]; exact h)
end
end Go.Proofs.Ytmbmmpbfmakfbaa
