/- Slices of bools: slices.Index, slices.Contains, v4's all. A literal in a drawn region. -/
import Derived.Test.YtipigcpenmcaoaaMem
import Derived.Test.YtipigcpenmcaoaaLoose
set_option linter.unusedVariables false
namespace Go.Proofs.Ytipigcpenmcaoaa
open Go Go.RowKit

/-- The slice holds the bools zs. -/
structure RBo (w : World) (A : Option Addr) (n c : Nat) (zs : List Bool) : Prop where
  len : zs.length = n
  nc : n ≤ c
  mem : 0 < n → ∃ b off, A = some ⟨b, off, none⟩ ∧ b < w.heap.size ∧ ∀ j, j < n → w.cell? ⟨b, off + j, none⟩ = some (.bool (zs[j]?.getD false))
theorem RBo.below {w w' : World} {A : Option Addr} {n c : Nat} {zs : List Bool} (h : RBo w A n c zs) (hb : Below w.heap.size w w') : RBo w' A n c zs :=
  ⟨h.len, h.nc, fun hn => by
    obtain ⟨b, off, e, hlt, hc⟩ := h.mem hn
    exact ⟨b, off, e, by have := hb.size; omega, fun j hj => (hb.cell (p := ⟨b, off + j, none⟩) hlt).trans (hc j hj)⟩⟩
theorem RBo.lit (w : World) (T : TypeId) (zs : List Bool) : RBo (w.alloc (.cells (zs.map (Value.bool)).toArray T)) (some ⟨w.heap.size, 0, none⟩) zs.length zs.length zs :=
  ⟨rfl, Nat.le_refl _, fun hn => ⟨w.heap.size, 0, rfl, by simp, fun j hj => by
    rw [World.cell?_alloc_at _ _ _ _ rfl, Nat.zero_add, List.getElem?_toArray, List.getElem?_map, List.getElem?_eq_getElem hj]; rfl⟩⟩

def IdxPostB (zs : List Bool) (v : Bool) (w : World) (e : Ending) (w' : World) : Prop := ∃ i : Int, e = .returned (.int .i64 i) ∧ (0 ≤ i ↔ v ∈ zs) ∧ -1 ≤ i ∧ i ≤ 100000 ∧ w = w'

set_option maxHeartbeats 400000 in
theorem IndexB_any (A : Option Addr) (n c : Nat) (zs : List Bool) (v : Bool) (w : World) (h : RBo w A n c zs) (hn : n ≤ 100000) :
    Calls Try.prog 149 #[.slice A n c, .bool v] w (IdxPostB zs v w) := by
  go_enter Try.func149, Try.ntmps149
  go_wp2
  go_loop [8] (fun i => ∃ k : Nat, k ≤ n ∧ i = .int .i64 k ∧ ∀ j, j < k → zs[j]?.getD false ≠ v) (fun i => n - (intOf i).toNat)
  case atStart => exact ⟨0, by omega, rfl, fun j hj => by omega⟩
  case round =>
    obtain ⟨k, hk, rfl, hall⟩ := hrel
    by_cases hlt : k < n
    · obtain ⟨b, off, rfl, hb, hc⟩ := h.mem (by omega)
      have hcell := hc k hlt
      have hl := Lib.hid h.len
      clear hc h
      replace hall := Lib.hid hall
      cases hv : (v == zs[k]?.getD false)
      · have hne := Lib.hid (ne_of_beq_false hv)
        obtain ⟨z, hz⟩ : ∃ z, zs[k]?.getD false = z := ⟨_, rfl⟩
        rw [hz] at hcell hv
        replace hz := Lib.hid hz
        go_wp2
        go_round
        case rel =>
          refine ⟨k + 1, by omega, by go_num, fun j hj => ?_⟩
          rcases Nat.lt_or_ge j k with h | h
          · exact hall.out j h
          · obtain rfl : j = k := by omega
            exact fun e => hne.out e.symm
        case measure => simp [intOf]; omega
      · have he := Lib.hid (eq_of_beq hv)
        obtain ⟨z, hz⟩ : ∃ z, zs[k]?.getD false = z := ⟨_, rfl⟩
        rw [hz] at hcell hv
        replace hz := Lib.hid hz
        go_wp2
        go_ret
        refine ⟨k, rfl, ⟨fun _ => ?_, fun _ => by omega⟩, by omega, by omega, rfl⟩
        rw [he.out, List.getElem?_eq_getElem (by rw [hl.out]; exact hlt)]
        exact List.getElem_mem _
    · obtain rfl : k = n := by omega
      have hl := Lib.hid h.len
      clear h
      replace hall := Lib.hid hall
      go_wp2
      go_ret
      refine ⟨-1, rfl, ⟨fun h => by omega, fun hm => ?_⟩, by omega, by omega, rfl⟩
      obtain ⟨j, hj⟩ := List.getElem?_of_mem hm
      have hlt' := (List.getElem?_eq_some_iff.1 hj).1
      have := hall.out j (by rw [← hl.out]; exact hlt')
      rw [hj] at this
      exact absurd rfl this

theorem ContainsB_any (A : Option Addr) (n c : Nat) (zs : List Bool) (v : Bool) (w : World) (h : RBo w A n c zs) (hn : n ≤ 100000) :
    Calls Try.prog 107 #[.slice A n c, .bool v] w fun e w' => e = .returned (.bool (decide (v ∈ zs))) ∧ w = w' := by
  have hI := Lib.hid (IndexB_any A n c zs v w h hn)
  clear h
  go_enter Try.func107, Try.ntmps107
  go_wp2_with (go_at_call 149; refine hI.out.mono ?_; rintro e w' ⟨i, rfl, hi, h1, h2, rfl⟩; replace hi := Lib.hid hi)
  go_ret
  exact ⟨ret_bool (by rw [Bool.eq_iff_iff]; simp [hi.out]), rfl⟩

/-! ### Low bits of any int -/

theorem slots_lse {T : Array Value} : ∀ (ls : List Nat) (V : Array Value), V.size = T.size → (∀ i, i < T.size → i ∉ ls → T[i]? = V[i]?) → T = ls.foldl (fun v d => v.setIfInBounds d (T.getD d undef)) V
  | [], V, hV, h => by
    show T = V
    apply Array.ext_getElem?
    intro i
    by_cases hi : i < T.size
    · exact h i hi (by simp)
    · rw [Array.getElem?_eq_none (by omega), Array.getElem?_eq_none (by omega)]
  | d :: ls, V, hV, h => by
    refine slots_lse ls (V.setIfInBounds d (T.getD d undef)) (by simp [hV]) fun i hi hn => ?_
    by_cases e : i = d
    · subst e
      have : i < V.size := by omega
      simp [hi, this]
    · rw [Array.getElem?_setIfInBounds_ne (Ne.symm e)]
      exact h i hi (by simp [e, hn])
theorem tmps_lse {T V : Array Value} {En : Env} {W : World} {N : Nat} (ls : List Nat) (hN : T.size = N) (hV : V.size = T.size) (hEn : (List.range T.size).all (fun t => ls.contains t || (look En t).isNone) = true) (hR : ∀ t, t < N → Rt V En t (T.getD t undef) W) : T = ls.foldl (fun v d => v.setIfInBounds d (T.getD d undef)) V :=
  slots_lse ls V hV fun i hi hn => by
    have h3 := List.all_eq_true.1 hEn i (List.mem_range.2 hi)
    simp only [Bool.or_eq_true] at h3
    have h4 : (look En i).isNone = true := by rcases h3 with h | h; exact absurd (by simpa using h) hn; exact h
    have h5 := Rt_none h4 (hR i (by omega))
    have hi' : i < V.size := by omega
    rw [Array.getElem?_eq_getElem hi, Array.getElem?_eq_getElem hi']
    simp only [Array.getD_eq_getD_getElem?, Array.getElem?_eq_getElem hi, Array.getElem?_eq_getElem hi', Option.getD_some] at h5
    rw [h5]
theorem all_dec (l : List Bool) : (!decide (false ∈ l)) = l.all id := by
  rw [Bool.eq_iff_iff]; simp
theorem AllB_any (A : Option Addr) (n c : Nat) (zs : List Bool) (w : World) (h : RBo w A n c zs) (hn : n ≤ 100000) :
    Calls Try.prog 65 #[.slice A n c] w fun e w' => e = .returned (.bool (zs.all id)) ∧ Below w.heap.size w w' := by
  have hI := Lib.hid (ContainsB_any A n c zs false w h hn)
  have he := Lib.hid (all_dec zs)
  have hb := Lib.hid (Below.refl w.heap.size w)
  clear h
  go_enter Try.func65, Try.ntmps65
  go_wp2_with (go_at_call 107; refine hI.out.mono ?_; rintro e w' ⟨rfl, rfl⟩)
  go_ret
  exact ⟨ret_bool he.out, hb.out⟩
theorem RBo.blk {W : World} {g : Nat} {T : TypeId} (zs : List Bool) (h : Blk W g (zs.map Value.bool).toArray T) : RBo W (some ⟨g, 0, none⟩) zs.length zs.length zs :=
  ⟨rfl, Nat.le_refl _, fun hn => ⟨g, 0, rfl, h.lt, fun j hj => by
    rw [Nat.zero_add]
    exact h.cell j _ (by rw [List.getElem?_toArray, List.getElem?_map, List.getElem?_eq_getElem hj]; rfl)⟩⟩
/-- A slice literal in a drawn region. -/
def LitP (k : Nat) (C : Array Value) (T : TypeId) : Rl := fun u W => ∃ g, u = .slice (some ⟨g, 0, none⟩) k k ∧ Blk W g C T
theorem LitP.stable (k : Nat) (C : Array Value) (T : TypeId) : StableR (LitP k C T) := fun u w w' ⟨g, e, h⟩ hb => ⟨g, e, h.to hb⟩
section
variable {P : Program} {ops : Array Oper} {Q : Exit → Act → World → Prop} {S : World → Prop} {N : Nat} {ds : List Deferred} {V : Array Value} {E : Env} {o : Oper} {rest : List Oper}
theorem looseL_lit {d : Tmp} {k : Nat} {C : Array Value} {T : TypeId} (hlk : (o.looksAt ops).all (fun t => (look E t).isNone) = true) (hs : notSel o = true) (hw : Region.wanted o (yielded ops V) = true) (hd : o.dst = some d) (hS : ∀ w o', S w → S (World.alloc w o'))
    (hrun : ∀ w, S w → (execOp (⟨V, []⟩ : Act).eval o).run P w = .ok (.value (.slice (some ⟨w.heap.size, 0, none⟩) k k)) (w.alloc (.cells C T))) (h : looseL P ops Q S N ds rest V ((d, LitP k C T) :: E)) : looseL P ops Q S N ds (o :: rest) V E :=
  .inr ⟨d, LitP k C T, hd, LitP.stable k C T, fun a w hSw hk => by
    have hag : ∀ t ∈ o.looksAt ops, a.tmps.getD t undef = V.getD t undef := fun t ht => by
      have hn := List.all_eq_true.1 hlk t ht
      exact Rt_none hn (hk t ht)
    refine .inl ⟨?_, ?_⟩
    · refine (wanted_agree ?_ hk).trans hw
      exact List.all_eq_true.2 fun t ht => List.all_eq_true.1 hlk t (gslots_in ht)
    · rw [exec_agree hs hag, hrun w hSw]
      exact ⟨⟨w.heap.size, rfl, Blk.new w C T⟩, hS w _ hSw, (Below.refl _ w).alloc (Nat.le_refl _) _⟩, h⟩
/-- An assignment of a slot that is known by a relation. -/
theorem looseL_mv {d e : Tmp} (p : Rl) (hop : o.op = .assign (.tmp e)) (hg : (gslots ops o).all (fun t => (look E t).isNone) = true) (he : look E e = some p) (hw : Region.wanted o (yielded ops V) = true) (hin : e ∈ o.looksAt ops) (hd : o.dst = some d) (hst : StableR p)
    (h : looseL P ops Q S N ds rest V ((d, p) :: E)) : looseL P ops Q S N ds (o :: rest) V E :=
  .inr ⟨d, p, hd, hst, fun a w hS hk => .inl ⟨(wanted_agree hg hk).trans hw, by
    have hp : p (a.tmps.getD e undef) w := by
      have := hk e hin
      unfold Rt at this
      rw [he] at this; exact this
    unfold execOp
    simp only [hop, Sem.run_pure]
    exact ⟨hp, hS, Below.refl _ _⟩⟩, h⟩
end
end Go.Proofs.Ytipigcpenmcaoaa
