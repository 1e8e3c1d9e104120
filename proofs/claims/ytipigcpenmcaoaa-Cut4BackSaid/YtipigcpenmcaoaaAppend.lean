/- append of bytes onto a slice of the call's own, from whatever slice of bytes; Clone. No condition but on sizes. -/
import Derived.Test.YtipigcpenmcaoaaBase
import Derived.OwnWalkIn
import Derived.TacticsInMore
import Derived.RangeFuncBox
set_option linter.unusedVariables false
namespace Go.Proofs.Ytipigcpenmcaoaa
open Go.RowKit

theorem info_u8 : (Try.prog.info? 5).map (fun i => (i.zero, i.size, i.bytes)) = some (some (.int .u8 0), 1, 1) := by kernel_rfl

def ownBlk (A : Option Addr) : Option Nat := A.map (·.block)
theorem ownBlk_eq (A : Option Addr) (n c : Nat) : (Value.slice A n c).ownBlock = ownBlk A := by cases A <;> rfl

theorem OB.blk {w : World} {base : Nat} {A : Option Addr} {n c : Nat} {bs : List Int} (h : OB w base A n c bs) {k : Nat} (hk : ownBlk A = some k) : base ≤ k ∧ k < w.heap.size := by
  rcases h.own.2 with ⟨e, _⟩ | ⟨g, cap, cur, e, hg, hh, _⟩
  · cases e; cases hk
  · cases e; cases hk; exact ⟨hg, (Array.getElem?_eq_some_iff.1 hh).1⟩
theorem OB.set_far {w : World} {base : Nat} {A : Option Addr} {n c : Nat} {bs : List Int} (h : OB w base A n c bs) {B : Nat} (hB : some B ≠ ownBlk A) (v : Value) : OB (w.setCell ⟨B, 0, none⟩ v) base A n c bs :=
  ⟨h.own.kept (grownBy_setCell' w B v) (.inr (by rw [ownBlk_eq]; exact hB.symm)), h.byt⟩
theorem OB.not_box {w : World} {base : Nat} {A : Option Addr} {n c : Nat} {bs : List Int} (h : OB w base A n c bs) {B t : Nat} {v : Value} (hx : Boxed w B t v) (ht : t ≠ 5) : some B ≠ ownBlk A := by
  have := hx.not_row ht h.own
  rwa [ownBlk_eq] at this

/-- What append onto such a slice does. -/
theorem run_append_bytes (w : World) {base : Nat} {A : Option Addr} {n c : Nat} {bs : List Int} (ho : OB w base A n c bs) {A' : Option Addr} {m c' : Nat} {ys : List Int} (hr : RB w A' m c' ys)
    (hs : n + m ≤ 140737488355328) (hb : base ≤ w.heap.size) (ty : TypeId) :
    ∃ A2 c2 w2, (Builtin.append_ #[22, 22] ty #[.slice A n c, .slice A' m c']).run Try.prog w = .ok (.slice A2 (n + m) c2) w2 ∧ OB w2 base A2 (n + m) c2 (bs ++ ys) ∧ w.grownBy w2 (ownBlk A) ∧
      (ownBlk A2 = ownBlk A ∨ ownBlk A2 = some w.heap.size) := by
  obtain ⟨i0, hi, hz0, hz1, hz2⟩ := info_parts info_u8
  have hlen := hr.len
  cases A' with
  | none =>
    have hc := hr.niln rfl
    have hm : m = 0 := by
      rcases Nat.eq_zero_or_pos m with h | h
      · exact h
      · obtain ⟨_, _, e, _⟩ := hr.mem h; cases e
    subst hm hc
    obtain rfl : ys = [] := List.eq_nil_of_length_eq_zero hlen
    refine ⟨A, c, w, ?_, by simpa using ho, World.grownBy.refl w _, .inl rfl⟩
    exact run_append_owned_none (P := Try.prog) w base 22 ty 5 i0 1 Try.underlying22 hi _ n (u8s bs) ho.own
  | some a =>
    have hnews : ∀ j u, (u8s ys)[j]? = some u → w.cell? (a.add j) = some u := by
      intro j u hu
      have hj : j < m := by have := (List.getElem?_eq_some_iff.1 hu).1; rw [u8s_length] at this; omega
      obtain ⟨b, off, e, _, hc⟩ := hr.mem (by omega)
      cases e
      rw [Go.WideShapes.add_plain, hc j hj, ← u8s_get ys j (by omega)]
      exact hu
    obtain ⟨v', w', h1, h2, h3, _, h5⟩ := run_append_own_at (P := Try.prog) w base 22 ty 5 i0 (.int .u8 0) 1 1 Try.underlying22 hi hz0 hz1 hz2 rfl (by decide) _ n (u8s bs) ho.own a m c' (u8s ys)
      (by rw [u8s_length]; omega) hnews (u8s_one ys) (by unfold maxLen; omega) (by omega) hb
    have hv : ∃ A2 c2, v' = .slice A2 (n + m) c2 := by
      rcases h2.2 with ⟨e, e2⟩ | ⟨g, cap, _, e, _⟩
      · exact ⟨none, 0, by rw [e, e2]⟩
      · exact ⟨_, _, e⟩
    obtain ⟨A2, c2, rfl⟩ := hv
    rw [← u8s_append] at h2
    rw [ownBlk_eq] at h3
    rw [ownBlk_eq, ownBlk_eq] at h5
    exact ⟨A2, c2, w', h1, ⟨h2, ho.byt.append hr.byt⟩, h3, h5⟩

theorem wpList_append_bytes {ops : Array Oper} {rest : List Oper} {o : Oper} {a : Act} {Q : Exit → Act → World → Prop} (w : World) (hgd : o.guard = none) (s x : Operand)
    (hop : o.op = .call { callee := .builtin .append, args := #[s, x], argTypes := #[22, 22] })
    {base : Nat} {A : Option Addr} {n c : Nat} {bs : List Int} (hv : a.eval s = .slice A n c) {A' : Option Addr} {m c' : Nat} {ys : List Int} (hv' : a.eval x = .slice A' m c') (ho : OB w base A n c bs) (hr : RB w A' m c' ys)
    (hs : n + m ≤ 140737488355328) (hb : base ≤ w.heap.size)
    (h : ∀ A2 c2 w2, OB w2 base A2 (n + m) c2 (bs ++ ys) → w.grownBy w2 (ownBlk A) → (ownBlk A2 = ownBlk A ∨ ownBlk A2 = some w.heap.size) → wpList Try.prog ops Q rest (a.put o.dst (.slice A2 (n + m) c2)) w2) :
    wpList Try.prog ops Q (o :: rest) a w := by
  refine wpList_plain hgd fun K hK => ?_
  obtain ⟨A2, c2, w2, h1, h2, h3, h4⟩ := run_append_bytes w ho hr hs hb o.type
  unfold Oper.wp execOp
  simp only [hop, resolve, invoke, builtin, Sem.run_bind, Sem.run_pure, Result.andThen_ok, List.map_toArray, List.map_cons, List.map_nil, hv, hv', h1]
  exact hK _ _ (h A2 c2 w2 h2 h3 h4)

theorem wpListIn_append_bytes {F : Fence} {k : Nat} {ops : Array Oper} {rest : List Oper} {o : Oper} {a : Act} {Q : Exit → Act → World → Prop} (w : World) (hgd : o.guard = none) (s x : Operand)
    (hop : o.op = .call { callee := .builtin .append, args := #[s, x], argTypes := #[22, 22] })
    {base : Nat} {A : Option Addr} {n c : Nat} {bs : List Int} (hv : a.eval s = .slice A n c) {A' : Option Addr} {m c' : Nat} {ys : List Int} (hv' : a.eval x = .slice A' m c') (ho : OB w base A n c bs) (hr : RB w A' m c' ys)
    (hs : n + m ≤ 140737488355328) (hb : base ≤ w.heap.size)
    (h : ∀ A2 c2 w2, OB w2 base A2 (n + m) c2 (bs ++ ys) → w.grownBy w2 (ownBlk A) → (ownBlk A2 = ownBlk A ∨ ownBlk A2 = some w.heap.size) → wpListIn F k Try.prog ops Q rest (a.put o.dst (.slice A2 (n + m) c2)) w2) :
    wpListIn F k Try.prog ops Q (o :: rest) a w := by
  refine wpListIn_plain hgd fun K hK => ?_
  obtain ⟨A2, c2, w2, h1, h2, h3, h4⟩ := run_append_bytes w ho hr hs hb o.type
  unfold Oper.wpIn
  refine ⟨?_, ?_⟩
  · simp [Oper.about, hop, resolve, Target.leads, Sem.run_pure]
  · rw [Oper.semAt_plain F _ _ (by rw [hop]; intro c hc'; cases hc')]
    simp [execOp, hop, resolve, invoke, builtin, hv, hv', h1, Result.andThen]
    exact hK _ _ (h A2 c2 w2 h2 h3 h4)

theorem RB.none_ {w : World} {n c : Nat} {bs : List Int} (h : RB w none n c bs) : n = 0 ∧ c = 0 ∧ bs = [] := by
  have hn : n = 0 := by
    rcases Nat.eq_zero_or_pos n with h0 | h0
    · exact h0
    · obtain ⟨_, _, e, _⟩ := h.mem h0; cases e
  subst hn
  exact ⟨rfl, h.niln rfl, List.eq_nil_of_length_eq_zero h.len⟩

set_option maxHeartbeats 400000 in
theorem Clone_some (a : Addr) (n c : Nat) (bs : List Int) (w : World) (h : RB w (some a) n c bs) (hn : n ≤ 140737488355328) :
    Calls Try.prog 53 #[.slice (some a) n c] w fun e w' => ∃ A2 c2, e = .returned (.slice A2 n c2) ∧ OB w' w.heap.size A2 n c2 bs ∧ Below w.heap.size w w' := by
  have hq := fun w A n c => Lib.run_eql_slice_nil (P := Try.prog) w 22 5 A n c 0 0 Try.underlying22
  have ho := OB.lit w w.heap.size (Nat.le_refl _) [] Byts.nil (by decide)
  have h1 := h.alloc (.cells (u8s []).toArray 5)
  go_enter Try.func53, Try.ntmps53
  go_wp2_with (at_builtin; refine wpList_append_bytes _ rfl (.tmp 5) (.tmp 6) rfl rfl rfl ho h1 (by simpa using hn) (by simp) ?_; intro A2 c2 w2 ho2 hg2 hr2)
  go_ret
  simp only [List.nil_append, Nat.zero_add] at ho2
  refine ⟨A2, c2, by simp, ho2, ((Below.refl _ w).alloc (Nat.le_refl _) _).grown hg2 (by simp) (fun k hk => ?_)⟩
  simp [ownBlk] at hk
  omega

set_option maxHeartbeats 400000 in
theorem Clone_none (w : World) :
    Calls Try.prog 53 #[.slice none 0 0] w fun e w' => e = .returned (.slice none 0 0) ∧ w = w' := by
  have hq := fun w A n c => Lib.run_eql_slice_nil (P := Try.prog) w 22 5 A n c 0 0 Try.underlying22
  go_enter Try.func53, Try.ntmps53
  go_wp2
  go_ret
  exact ⟨rfl, rfl⟩

def Fresh (w : World) (n : Nat) (bs : List Int) (e : Ending) (w' : World) : Prop := ∃ A2 c2, e = .returned (.slice A2 n c2) ∧ OB w' w.heap.size A2 n c2 bs ∧ Below w.heap.size w w'
theorem Clone_any (A : Option Addr) (n c : Nat) (bs : List Int) (w : World) (h : RB w A n c bs) (hn : n ≤ 140737488355328) :
    Calls Try.prog 53 #[.slice A n c] w (Fresh w n bs) := by
  cases A with
  | some a => exact Clone_some a n c bs w h hn
  | none =>
    obtain ⟨rfl, rfl, rfl⟩ := h.none_
    exact (Clone_none w).mono fun e w' ⟨he, hw⟩ => by subst he; subst hw; exact ⟨none, 0, rfl, OB.nil w _, Below.refl _ _⟩

set_option maxHeartbeats 400000 in
theorem BClone_some (a : Addr) (n c : Nat) (bs : List Int) (w : World) (h : RB w (some a) n c bs) (hn : n ≤ 140737488355328) :
    Calls Try.prog 30 #[.slice (some a) n c] w fun e w' => ∃ A2 c2, e = .returned (.slice A2 n c2) ∧ OB w' w.heap.size A2 n c2 bs ∧ Below w.heap.size w w' := by
  have hq := fun w A n c => Lib.run_eql_slice_nil (P := Try.prog) w 22 5 A n c 0 0 Try.underlying22
  have ho := OB.lit w w.heap.size (Nat.le_refl _) [] Byts.nil (by decide)
  have h1 := h.alloc (.cells (u8s []).toArray 5)
  go_enter Try.func30, Try.ntmps30
  go_wp2_with (at_builtin; refine wpList_append_bytes _ rfl (.tmp 5) (.tmp 6) rfl rfl rfl ho h1 (by simpa using hn) (by simp) ?_; intro A2 c2 w2 ho2 hg2 hr2)
  go_ret
  simp only [List.nil_append, Nat.zero_add] at ho2
  refine ⟨A2, c2, by simp, ho2, ((Below.refl _ w).alloc (Nat.le_refl _) _).grown hg2 (by simp) (fun k hk => ?_)⟩
  simp [ownBlk] at hk
  omega

set_option maxHeartbeats 400000 in
theorem BClone_none (w : World) :
    Calls Try.prog 30 #[.slice none 0 0] w fun e w' => e = .returned (.slice none 0 0) ∧ w = w' := by
  have hq := fun w A n c => Lib.run_eql_slice_nil (P := Try.prog) w 22 5 A n c 0 0 Try.underlying22
  go_enter Try.func30, Try.ntmps30
  go_wp2
  go_ret
  exact ⟨rfl, rfl⟩

theorem BClone_any (A : Option Addr) (n c : Nat) (bs : List Int) (w : World) (h : RB w A n c bs) (hn : n ≤ 140737488355328) :
    Calls Try.prog 30 #[.slice A n c] w (Fresh w n bs) := by
  cases A with
  | some a => exact BClone_some a n c bs w h hn
  | none =>
    obtain ⟨rfl, rfl, rfl⟩ := h.none_
    exact (BClone_none w).mono fun e w' ⟨he, hw⟩ => by subst he; subst hw; exact ⟨none, 0, rfl, OB.nil w _, Below.refl _ _⟩

end Go.Proofs.Ytipigcpenmcaoaa
