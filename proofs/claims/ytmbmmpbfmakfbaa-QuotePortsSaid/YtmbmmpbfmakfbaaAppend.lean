/- append of bytes onto a slice of the call's own, from whatever slice of bytes; Clone. No condition but on sizes. -/
import Derived.Test.YtmbmmpbfmakfbaaBase
import Derived.OwnWalkIn
import Derived.TacticsInMore
import Derived.RangeFuncBox
import Derived.Laws.CopyOwn
import Derived.Stop.BytesEq
import Derived.Deep.MidRow
import Derived.BigFrame
set_option linter.unusedVariables false
namespace Go.Proofs.Ytmbmmpbfmakfbaa
open Go.RowKit

theorem info_u8 : (Try.prog.info? 5).map (fun i => (i.zero, i.size, i.bytes)) = some (some (.int .u8 0), 1, 1) := by kernel_rfl

def ownBlk (A : Option Addr) : Option Nat := A.map (·.block)
theorem ownBlk_eq (A : Option Addr) (n c : Nat) : (Value.slice A n c).ownBlock = ownBlk A := by cases A <;> rfl

theorem OB.blk {w : World} {base : Nat} {A : Option Addr} {n c : Nat} {bs : List Int} (h : OB w base A n c bs) {k : Nat} (hk : ownBlk A = some k) : base ≤ k ∧ k < w.heap.size := by
  rcases h.own.2 with ⟨e, _⟩ | ⟨g, cap, cur, e, hg, hh, _⟩
  · cases e; cases hk
  · cases e; cases hk; exact ⟨hg, (Array.getElem?_eq_some_iff.1 hh).1⟩
theorem OB.set_far {w : World} {base : Nat} {A : Option Addr} {n c : Nat} {bs : List Int} (h : OB w base A n c bs) {B : Nat} (hB : some B ≠ ownBlk A) (v : Value) : OB (w.setCell ⟨B, 0, none⟩ v) base A n c bs :=
  ⟨h.own.kept (grownBy_setCell' w B v) (.inr (by rw [ownBlk_eq]; exact hB.symm)), h.byt⟩
theorem OB.not_box {w : World} {base : Nat} {A : Option Addr} {n c : Nat} {bs : List Int} (h : OB w base A n c bs) {B t : Nat} {v : Value} (hx : Boxed w B t v) (ht : t ≠ 5) : some B ≠ ownBlk A := by
  have := hx.not_row ht h.own
  rwa [ownBlk_eq] at this

/-- What append onto such a slice does. -/
theorem run_append_bytes (w : World) {base : Nat} {A : Option Addr} {n c : Nat} {bs : List Int} (ho : OB w base A n c bs) {A' : Option Addr} {m c' : Nat} {ys : List Int} (hr : RB w A' m c' ys)
    (hs : n + m ≤ 140737488355328) (hb : base ≤ w.heap.size) (ty : TypeId) :
    ∃ A2 c2 w2, (Builtin.append_ #[24, 24] ty #[.slice A n c, .slice A' m c']).run Try.prog w = .ok (.slice A2 (n + m) c2) w2 ∧ OB w2 base A2 (n + m) c2 (bs ++ ys) ∧ w.grownBy w2 (ownBlk A) ∧
      (ownBlk A2 = ownBlk A ∨ ownBlk A2 = some w.heap.size) := by
  obtain ⟨i0, hi, hz0, hz1, hz2⟩ := info_parts info_u8
  have hlen := hr.len
  cases A' with
  | none =>
    have hc := hr.niln rfl
    have hm : m = 0 := by
      rcases Nat.eq_zero_or_pos m with h | h
      · exact h
      · obtain ⟨_, _, e, _⟩ := hr.mem h; cases e
    subst hm hc
    obtain rfl : ys = [] := List.eq_nil_of_length_eq_zero hlen
    refine ⟨A, c, w, ?_, by simpa using ho, World.grownBy.refl w _, .inl rfl⟩
    exact run_append_owned_none (P := Try.prog) w base 24 ty 5 i0 1 Try.underlying24 hi _ n (u8s bs) ho.own
  | some a =>
    have hnews : ∀ j u, (u8s ys)[j]? = some u → w.cell? (a.add j) = some u := by
      intro j u hu
      have hj : j < m := by have := (List.getElem?_eq_some_iff.1 hu).1; rw [u8s_length] at this; omega
      obtain ⟨b, off, e, _, hc⟩ := hr.mem (by omega)
      cases e
      rw [Go.WideShapes.add_plain, hc j hj, ← u8s_get ys j (by omega)]
      exact hu
    obtain ⟨v', w', h1, h2, h3, _, h5⟩ := run_append_own_at (P := Try.prog) w base 24 ty 5 i0 (.int .u8 0) 1 1 Try.underlying24 hi hz0 hz1 hz2 rfl (by decide) _ n (u8s bs) ho.own a m c' (u8s ys)
      (by rw [u8s_length]; omega) hnews (u8s_one ys) (by unfold maxLen; omega) (by omega) hb
    have hv : ∃ A2 c2, v' = .slice A2 (n + m) c2 := by
      rcases h2.2 with ⟨e, e2⟩ | ⟨g, cap, _, e, _⟩
      · exact ⟨none, 0, by rw [e, e2]⟩
      · exact ⟨_, _, e⟩
    obtain ⟨A2, c2, rfl⟩ := hv
    rw [← u8s_append] at h2
    rw [ownBlk_eq] at h3
    rw [ownBlk_eq, ownBlk_eq] at h5
    exact ⟨A2, c2, w', h1, ⟨h2, ho.byt.append hr.byt⟩, h3, h5⟩

theorem wpList_append_bytes {ops : Array Oper} {rest : List Oper} {o : Oper} {a : Act} {Q : Exit → Act → World → Prop} (w : World) (hgd : o.guard = none) (s x : Operand)
    (hop : o.op = .call { callee := .builtin .append, args := #[s, x], argTypes := #[24, 24] })
    {base : Nat} {A : Option Addr} {n c : Nat} {bs : List Int} (hv : a.eval s = .slice A n c) {A' : Option Addr} {m c' : Nat} {ys : List Int} (hv' : a.eval x = .slice A' m c') (ho : OB w base A n c bs) (hr : RB w A' m c' ys)
    (hs : n + m ≤ 140737488355328) (hb : base ≤ w.heap.size)
    (h : ∀ A2 c2 w2, OB w2 base A2 (n + m) c2 (bs ++ ys) → w.grownBy w2 (ownBlk A) → (ownBlk A2 = ownBlk A ∨ ownBlk A2 = some w.heap.size) → wpList Try.prog ops Q rest (a.put o.dst (.slice A2 (n + m) c2)) w2) :
    wpList Try.prog ops Q (o :: rest) a w := by
  refine wpList_plain hgd fun K hK => ?_
  obtain ⟨A2, c2, w2, h1, h2, h3, h4⟩ := run_append_bytes w ho hr hs hb o.type
  unfold Oper.wp execOp
  simp only [hop, resolve, invoke, builtin, Sem.run_bind, Sem.run_pure, Result.andThen_ok, List.map_toArray, List.map_cons, List.map_nil, hv, hv', h1]
  exact hK _ _ (h A2 c2 w2 h2 h3 h4)

theorem wpListIn_append_bytes {F : Fence} {k : Nat} {ops : Array Oper} {rest : List Oper} {o : Oper} {a : Act} {Q : Exit → Act → World → Prop} (w : World) (hgd : o.guard = none) (s x : Operand)
    (hop : o.op = .call { callee := .builtin .append, args := #[s, x], argTypes := #[24, 24] })
    {base : Nat} {A : Option Addr} {n c : Nat} {bs : List Int} (hv : a.eval s = .slice A n c) {A' : Option Addr} {m c' : Nat} {ys : List Int} (hv' : a.eval x = .slice A' m c') (ho : OB w base A n c bs) (hr : RB w A' m c' ys)
    (hs : n + m ≤ 140737488355328) (hb : base ≤ w.heap.size)
    (h : ∀ A2 c2 w2, OB w2 base A2 (n + m) c2 (bs ++ ys) → w.grownBy w2 (ownBlk A) → (ownBlk A2 = ownBlk A ∨ ownBlk A2 = some w.heap.size) → wpListIn F k Try.prog ops Q rest (a.put o.dst (.slice A2 (n + m) c2)) w2) :
    wpListIn F k Try.prog ops Q (o :: rest) a w := by
  refine wpListIn_plain hgd fun K hK => ?_
  obtain ⟨A2, c2, w2, h1, h2, h3, h4⟩ := run_append_bytes w ho hr hs hb o.type
  unfold Oper.wpIn
  refine ⟨?_, ?_⟩
  · simp [Oper.about, hop, resolve, Target.leads, Sem.run_pure]
  · rw [Oper.semAt_plain F _ _ (by rw [hop]; intro c hc'; cases hc')]
    simp [execOp, hop, resolve, invoke, builtin, hv, hv', h1, Result.andThen]
    exact hK _ _ (h A2 c2 w2 h2 h3 h4)

theorem RB.none_ {w : World} {n c : Nat} {bs : List Int} (h : RB w none n c bs) : n = 0 ∧ c = 0 ∧ bs = [] := by
  have hn : n = 0 := by
    rcases Nat.eq_zero_or_pos n with h0 | h0
    · exact h0
    · obtain ⟨_, _, e, _⟩ := h.mem h0; cases e
  subst hn
  exact ⟨rfl, h.niln rfl, List.eq_nil_of_length_eq_zero h.len⟩

set_option maxHeartbeats 400000 in
theorem Clone_some (a : Addr) (n c : Nat) (bs : List Int) (w : World) (h : RB w (some a) n c bs) (hn : n ≤ 140737488355328) :
    Calls Try.prog 67 #[.slice (some a) n c] w fun e w' => ∃ A2 c2, e = .returned (.slice A2 n c2) ∧ OB w' w.heap.size A2 n c2 bs ∧ Below w.heap.size w w' := by
  have hq := fun w A n c => Lib.run_eql_slice_nil (P := Try.prog) w 24 5 A n c 0 0 Try.underlying24
  have ho := OB.lit w w.heap.size (Nat.le_refl _) [] Byts.nil (by decide)
  have h1 := h.alloc (.cells (u8s []).toArray 5)
  go_enter Try.func67, Try.ntmps67
  go_wp2_with (at_builtin; refine wpList_append_bytes _ rfl (.tmp 5) (.tmp 6) rfl rfl rfl ho h1 (by simpa using hn) (by simp) ?_; intro A2 c2 w2 ho2 hg2 hr2)
  go_ret
  simp only [List.nil_append, Nat.zero_add] at ho2
  refine ⟨A2, c2, by simp, ho2, ((Below.refl _ w).alloc (Nat.le_refl _) _).grown hg2 (by simp) (fun k hk => ?_)⟩
  simp [ownBlk] at hk
  omega

set_option maxHeartbeats 400000 in
theorem Clone_none (w : World) :
    Calls Try.prog 67 #[.slice none 0 0] w fun e w' => e = .returned (.slice none 0 0) ∧ w = w' := by
  have hq := fun w A n c => Lib.run_eql_slice_nil (P := Try.prog) w 24 5 A n c 0 0 Try.underlying24
  go_enter Try.func67, Try.ntmps67
  go_wp2
  go_ret
  exact ⟨rfl, rfl⟩

def Fresh (w : World) (n : Nat) (bs : List Int) (e : Ending) (w' : World) : Prop := ∃ A2 c2, e = .returned (.slice A2 n c2) ∧ OB w' w.heap.size A2 n c2 bs ∧ Below w.heap.size w w'
theorem Clone_any (A : Option Addr) (n c : Nat) (bs : List Int) (w : World) (h : RB w A n c bs) (hn : n ≤ 140737488355328) :
    Calls Try.prog 67 #[.slice A n c] w (Fresh w n bs) := by
  cases A with
  | some a => exact Clone_some a n c bs w h hn
  | none =>
    obtain ⟨rfl, rfl, rfl⟩ := h.none_
    exact (Clone_none w).mono fun e w' ⟨he, hw⟩ => by subst he; subst hw; exact ⟨none, 0, rfl, OB.nil w _, Below.refl _ _⟩

set_option maxHeartbeats 400000 in
theorem BClone_some (a : Addr) (n c : Nat) (bs : List Int) (w : World) (h : RB w (some a) n c bs) (hn : n ≤ 140737488355328) :
    Calls Try.prog 15 #[.slice (some a) n c] w fun e w' => ∃ A2 c2, e = .returned (.slice A2 n c2) ∧ OB w' w.heap.size A2 n c2 bs ∧ Below w.heap.size w w' := by
  have hq := fun w A n c => Lib.run_eql_slice_nil (P := Try.prog) w 24 5 A n c 0 0 Try.underlying24
  have ho := OB.lit w w.heap.size (Nat.le_refl _) [] Byts.nil (by decide)
  have h1 := h.alloc (.cells (u8s []).toArray 5)
  go_enter Try.func15, Try.ntmps15
  go_wp2_with (at_builtin; refine wpList_append_bytes _ rfl (.tmp 5) (.tmp 6) rfl rfl rfl ho h1 (by simpa using hn) (by simp) ?_; intro A2 c2 w2 ho2 hg2 hr2)
  go_ret
  simp only [List.nil_append, Nat.zero_add] at ho2
  refine ⟨A2, c2, by simp, ho2, ((Below.refl _ w).alloc (Nat.le_refl _) _).grown hg2 (by simp) (fun k hk => ?_)⟩
  simp [ownBlk] at hk
  omega

set_option maxHeartbeats 400000 in
theorem BClone_none (w : World) :
    Calls Try.prog 15 #[.slice none 0 0] w fun e w' => e = .returned (.slice none 0 0) ∧ w = w' := by
  have hq := fun w A n c => Lib.run_eql_slice_nil (P := Try.prog) w 24 5 A n c 0 0 Try.underlying24
  go_enter Try.func15, Try.ntmps15
  go_wp2
  go_ret
  exact ⟨rfl, rfl⟩

theorem BClone_any (A : Option Addr) (n c : Nat) (bs : List Int) (w : World) (h : RB w A n c bs) (hn : n ≤ 140737488355328) :
    Calls Try.prog 15 #[.slice A n c] w (Fresh w n bs) := by
  cases A with
  | some a => exact BClone_some a n c bs w h hn
  | none =>
    obtain ⟨rfl, rfl, rfl⟩ := h.none_
    exact (BClone_none w).mono fun e w' ⟨he, hw⟩ => by subst he; subst hw; exact ⟨none, 0, rfl, OB.nil w _, Below.refl _ _⟩

end Go.Proofs.Ytmbmmpbfmakfbaa
/- Words for memory: slices of a slice, arrays in a struct, a struct's box, parts of a sum. No condition. -/
set_option linter.unusedVariables false
namespace Go.Proofs.Ytmbmmpbfmakfbaa
open Go.RowKit

/-- Bytes and a code are answered. -/
def TwoOut (w : World) (r : List Int) (e0 : Int) (e : Ending) (w' : World) : Prop := ∃ A2 n2 c2, e = .returned (.tuple #[.slice A2 n2 c2, .int .i64 e0]) ∧ RB w' A2 n2 c2 r ∧ Below w.heap.size w w'

/-- The bytes in an array of a packet's cells. -/
theorem rb_cells {w : World} {B off k : Nat} {bs : List Int} (hB : B < w.heap.size) (hl : bs.length = k) (hk : k ≤ 100000) (hb : Byts bs) (hc : ∀ j, j < k → w.cell? ⟨B, off + j, none⟩ = some (.int .u8 (bs[j]?.getD 0))) : RB w (some ⟨B, off, none⟩) k k bs :=
  ⟨hl, Nat.le_refl _, by unfold maxLen; omega, hb, fun h => by (cases h), fun _ => ⟨B, off, rfl, hB, hc⟩⟩

/-- The block B holds the cells P. -/
structure VBox (W : World) (B : Nat) (P : Array Value) : Prop where
  lt : B < W.heap.size
  at_ : ∀ j v, P[j]? = some v → W.cell? ⟨B, j, none⟩ = some v
theorem VBox.new (w : World) (P : Array Value) (T : TypeId) : VBox (w.alloc (.cells P T)) w.heap.size P :=
  ⟨by simp, fun j v h => by rw [World.cell?_alloc_at _ _ _ _ rfl]; exact h⟩
theorem VBox.below {W W' : World} {B N : Nat} {P : Array Value} (h : VBox W B P) (hb : Below N W W') (hN : B < N) : VBox W' B P :=
  ⟨by have := h.lt; have := hb.size; omega, fun j v hv => (hb.cell (p := ⟨B, j, none⟩) hN).trans (h.at_ j v hv)⟩
theorem VBox.alloc {W : World} {B : Nat} {P : Array Value} (h : VBox W B P) (o : Obj) : VBox (W.alloc o) B P := h.below ((Below.refl _ W).alloc (Nat.le_refl _) o) h.lt
theorem VBox.drew {W : World} {B : Nat} {P : Array Value} (h : VBox W B P) : VBox W.drew B P := h.below (Below.refl _ W).drew h.lt


theorem RB.relen {w : World} {A : Option Addr} {n m c : Nat} {bs : List Int} (h : RB w A n c bs) (e : m = bs.length) : RB w A m c bs := by
  have := h.len
  obtain rfl : m = n := by omega
  exact h

theorem Byts.two {x y : Int} (h0 : 0 ≤ x) (h1 : x < 256) (h2 : 0 ≤ y) (h3 : y < 256) : Byts [x, y] := by
  intro z hz
  simp at hz
  rcases hz with rfl | rfl <;> constructor <;> omega


theorem RB.drop {w : World} {b off n c : Nat} {bs : List Int} (h : RB w (some ⟨b, off, none⟩) n c bs) (k : Nat) (hk : k ≤ n) : RB w (some ⟨b, off + k, none⟩) (n - k) (c - k) (bs.drop k) :=
  ⟨by rw [List.length_drop, h.len], by have := h.nc; omega, by have := h.cm; omega, fun x hx => h.byt x (List.mem_of_mem_drop hx), fun h => by (cases h), fun hn => by
    obtain ⟨b', off', e, hlt, hc⟩ := h.mem (by omega)
    cases e
    exact ⟨b, off + k, rfl, hlt, fun j hj => by have := hc (k + j) (by omega); rw [← Nat.add_assoc] at this; rw [this, List.getElem?_drop]⟩⟩

theorem OB.set_low {w : World} {base : Nat} {A : Option Addr} {n c : Nat} {bs : List Int} (h : OB w base A n c bs) {B : Nat} (hB : B < base) (i : Nat) (v : Value) : OB (w.setCell ⟨B, i, none⟩ v) base A n c bs :=
  ⟨h.own.kept (row := some B) ⟨rfl, rfl, rfl, by simp [World.setCell], fun k _ hk => Below.heap_setCell _ _ _ _ (fun e => hk (by simp [e]))⟩ (.inr (by rw [ownBlk_eq]; intro e; have := (h.blk e).1; omega)), h.byt⟩


/-- Four cells, set. -/
def set4 (W : World) (B : Nat) (v0 v1 v2 v3 : Value) : World := (((W.setCell ⟨B, 0, none⟩ v0).setCell ⟨B, 1, none⟩ v1).setCell ⟨B, 2, none⟩ v2).setCell ⟨B, 3, none⟩ v3
theorem set4_at (W : World) (B : Nat) (v0 v1 v2 v3 : Value) {a0 a1 a2 a3 : Value} (h0 : W.cell? ⟨B, 0, none⟩ = some a0) (h1 : W.cell? ⟨B, 1, none⟩ = some a1) (h2 : W.cell? ⟨B, 2, none⟩ = some a2) (h3 : W.cell? ⟨B, 3, none⟩ = some a3) :
    (set4 W B v0 v1 v2 v3).cell? ⟨B, 0, none⟩ = some v0 ∧ (set4 W B v0 v1 v2 v3).cell? ⟨B, 1, none⟩ = some v1 ∧ (set4 W B v0 v1 v2 v3).cell? ⟨B, 2, none⟩ = some v2 ∧ (set4 W B v0 v1 v2 v3).cell? ⟨B, 3, none⟩ = some v3 := by
  unfold set4
  refine ⟨?_, ?_, ?_, ?_⟩
  · rw [World.cell?_setCell_other _ _ _ _ (by simp), World.cell?_setCell_other _ _ _ _ (by simp), World.cell?_setCell_other _ _ _ _ (by simp)]
    exact World.cell?_setCell_same _ _ _ h0
  · rw [World.cell?_setCell_other _ _ _ _ (by simp), World.cell?_setCell_other _ _ _ _ (by simp)]
    exact World.cell?_setCell_same _ _ _ ((World.cell?_setCell_other _ _ _ _ (by simp)).trans h1)
  · rw [World.cell?_setCell_other _ _ _ _ (by simp)]
    exact World.cell?_setCell_same _ _ _ ((World.cell?_setCell_other _ _ _ _ (by simp)).trans ((World.cell?_setCell_other _ _ _ _ (by simp)).trans h2))
  · exact World.cell?_setCell_same _ _ _ ((World.cell?_setCell_other _ _ _ _ (by simp)).trans ((World.cell?_setCell_other _ _ _ _ (by simp)).trans ((World.cell?_setCell_other _ _ _ _ (by simp)).trans h3)))
theorem OB.set4 {w : World} {base : Nat} {A : Option Addr} {n c : Nat} {bs : List Int} (h : OB w base A n c bs) {B : Nat} (hB : B < base) (v0 v1 v2 v3 : Value) : OB (set4 w B v0 v1 v2 v3) base A n c bs :=
  (((h.set_low hB 0 v0).set_low hB 1 v1).set_low hB 2 v2).set_low hB 3 v3
theorem below_set4 {w0 w : World} {N B : Nat} (h : Below N w0 w) (hB : N ≤ B) (v0 v1 v2 v3 : Value) : Below N w0 (set4 w B v0 v1 v2 v3) :=
  (((h.setCell (p := ⟨B, 0, none⟩) hB v0).setCell (p := ⟨B, 1, none⟩) hB v1).setCell (p := ⟨B, 2, none⟩) hB v2).setCell (p := ⟨B, 3, none⟩) hB v3

theorem small_one {bs : List Int} (h : Byts bs) (hl : bs.length ≤ 100000) : Small [bs] := ⟨by simp, fun b hb => by simp at hb; subst hb; exact ⟨hl, h⟩⟩
/-- A literal of one slice of bytes. -/
theorem small_two {a b : List Int} (ha : Byts a) (hla : a.length ≤ 100000) (hb : Byts b) (hlb : b.length ≤ 100000) : Small [a, b] :=
  ⟨by simp, fun x hx => by simp at hx; rcases hx with rfl | rfl; exact ⟨hla, ha⟩; exact ⟨hlb, hb⟩⟩
theorem rbb_two {w : World} {A A' : Option Addr} {n c n' c' : Nat} {a b : List Int} (h : RB w A n c a) (h' : RB w A' n' c' b) : RBB (w.alloc (.cells #[.slice A n c, .slice A' n' c'] 24)) (some ⟨w.heap.size, 0, none⟩) 2 2 [a, b] :=
  RBB.lit w 24 [(A, n, c, a), (A', n', c', b)] (fun p hp => by simp at hp; rcases hp with rfl | rfl; exact h; exact h') (by simp)
theorem rbb_one {w : World} {A : Option Addr} {n c : Nat} {bs : List Int} (h : RB w A n c bs) : RBB (w.alloc (.cells #[.slice A n c] 24)) (some ⟨w.heap.size, 0, none⟩) 1 1 [bs] :=
  RBB.lit w 24 [(A, n, c, bs)] (fun p hp => by simp at hp; subst hp; exact h) (by simp)
theorem RB.first_ {w : World} {A : Option Addr} {n c k : Nat} {bs : List Int} (h : RB w A n c bs) (hk : k ≤ n) : RB w A k c (bs.take k) :=
  ⟨by rw [List.length_take, h.len]; omega, by have := h.nc; omega, h.cm, h.byt.take k, h.niln, fun hk0 => by
    obtain ⟨b, off, e, hb, hc⟩ := h.mem (by omega)
    exact ⟨b, off, e, hb, fun j hj => by rw [hc j (by omega), List.getElem?_take, if_pos hj]⟩⟩


/-- The block B holds just the cells P, and may be written. -/
structure Blk (W : World) (B : Nat) (P : Array Value) (T : TypeId) : Prop where
  at_ : W.heap[B]? = some (.cells P T (0, 0))
section
variable {W W' : World} {B N : Nat} {P : Array Value} {T : TypeId}
theorem Blk.new (w : World) (P : Array Value) (T : TypeId) : Blk (w.alloc (.cells P T)) w.heap.size P T := ⟨World.alloc_heap_new w _⟩
theorem Blk.lt (h : Blk W B P T) : B < W.heap.size := (Array.getElem?_eq_some_iff.1 h.at_).1
theorem Blk.below (h : Blk W B P T) (hb : Below N W W') (hN : B < N) : Blk W' B P T := ⟨(hb.block B hN).trans h.at_⟩
theorem Blk.to (h : Blk W B P T) (hb : Below W.heap.size W W') : Blk W' B P T := h.below hb h.lt
theorem Blk.alloc (h : Blk W B P T) (o : Obj) : Blk (W.alloc o) B P T := h.to ((Below.refl _ W).alloc (Nat.le_refl _) o)
theorem Blk.drew (h : Blk W B P T) : Blk W.drew B P T := h.to (Below.refl _ W).drew
theorem Blk.cell (h : Blk W B P T) (j : Nat) (v : Value) (hv : P[j]? = some v) : W.cell? ⟨B, j, none⟩ = some v := by
  simp [World.cell?, h.at_, hv]
theorem Blk.frz (h : Blk W B P T) (j : Nat) : W.frozen? ⟨B, j, none⟩ = false := by
  simp [World.frozen?, h.at_]
theorem Blk.vbox (h : Blk W B P T) : VBox W B P := ⟨h.lt, fun j v hv => h.cell j v hv⟩
theorem Blk.z4 {a b c d : Value} (h : Blk W B #[a, b, c, d] T) : (W.cell? ⟨B, 0, none⟩ = some a ∧ W.cell? ⟨B, 1, none⟩ = some b ∧ W.cell? ⟨B, 2, none⟩ = some c ∧ W.cell? ⟨B, 3, none⟩ = some d) ∧
    W.frozen? ⟨B, 0, none⟩ = false ∧ W.frozen? ⟨B, 1, none⟩ = false ∧ W.frozen? ⟨B, 2, none⟩ = false ∧ W.frozen? ⟨B, 3, none⟩ = false :=
  ⟨⟨h.cell 0 _ rfl, h.cell 1 _ rfl, h.cell 2 _ rfl, h.cell 3 _ rfl⟩, h.frz 0, h.frz 1, h.frz 2, h.frz 3⟩
end
theorem Blk.set {W : World} {B : Nat} {P : Array Value} {T : TypeId} (h : Blk W B P T) (j : Nat) (v : Value) : Blk (W.setCell ⟨B, j, none⟩ v) B (P.setIfInBounds j v) T :=
  ⟨by simp [World.setCell, Array.getElem?_modify, h.at_]⟩
theorem Blk.far {W : World} {B B' : Nat} {P : Array Value} {T : TypeId} (h : Blk W B P T) (hB : B ≠ B') (j : Nat) (v : Value) : Blk (W.setCell ⟨B', j, none⟩ v) B P T :=
  ⟨(Below.heap_setCell W ⟨B', j, none⟩ v B hB).trans h.at_⟩
theorem RB.drop_any {w : World} {b off n c : Nat} {bs : List Int} (h : RB w (some ⟨b, off, none⟩) n c bs) (k : Nat) (hk : k ≤ n) : RB w (if c = k then some ⟨b, off, none⟩ else some ⟨b, off + k, none⟩) (n - k) (c - k) (bs.drop k) := by
  by_cases hc : c = k
  · have := h.nc
    obtain rfl : n = k := by omega
    rw [if_pos hc]
    have hl := h.len
    refine ⟨by rw [List.length_drop, hl], by omega, by have := h.cm; omega, fun x hx => h.byt x (List.mem_of_mem_drop hx), fun h => by (cases h), fun hn => absurd hn (by omega)⟩
  · rw [if_neg hc]; exact h.drop k hk
end Go.Proofs.Ytmbmmpbfmakfbaa
/- Slices of ints: slices.Index, slices.Contains; low bits of any int. -/
set_option linter.unusedVariables false
namespace Go.Proofs.Ytmbmmpbfmakfbaa
open Go.RowKit

/-- The slice holds the ints zs. -/
structure RI (w : World) (A : Option Addr) (n c : Nat) (zs : List Int) : Prop where
  len : zs.length = n
  nc : n ≤ c
  mem : 0 < n → ∃ b off, A = some ⟨b, off, none⟩ ∧ b < w.heap.size ∧ ∀ j, j < n → w.cell? ⟨b, off + j, none⟩ = some (.int .i64 (zs[j]?.getD 0))
theorem RI.below {w w' : World} {A : Option Addr} {n c : Nat} {zs : List Int} (h : RI w A n c zs) (hb : Below w.heap.size w w') : RI w' A n c zs :=
  ⟨h.len, h.nc, fun hn => by
    obtain ⟨b, off, e, hlt, hc⟩ := h.mem hn
    exact ⟨b, off, e, by have := hb.size; omega, fun j hj => (hb.cell (p := ⟨b, off + j, none⟩) hlt).trans (hc j hj)⟩⟩
theorem RI.lit (w : World) (T : TypeId) (zs : List Int) : RI (w.alloc (.cells (zs.map (Value.int .i64)).toArray T)) (some ⟨w.heap.size, 0, none⟩) zs.length zs.length zs :=
  ⟨rfl, Nat.le_refl _, fun hn => ⟨w.heap.size, 0, rfl, by simp, fun j hj => by
    rw [World.cell?_alloc_at _ _ _ _ rfl, Nat.zero_add, List.getElem?_toArray, List.getElem?_map, List.getElem?_eq_getElem hj]; rfl⟩⟩

def IdxPost (zs : List Int) (v : Int) (w : World) (e : Ending) (w' : World) : Prop := ∃ i : Int, e = .returned (.int .i64 i) ∧ (0 ≤ i ↔ v ∈ zs) ∧ -1 ≤ i ∧ i ≤ 100000 ∧ w = w'

set_option maxHeartbeats 400000 in
theorem Index_any (A : Option Addr) (n c : Nat) (zs : List Int) (v : Int) (w : World) (h : RI w A n c zs) (hn : n ≤ 100000) :
    Calls Try.prog 87 #[.slice A n c, .int .i64 v] w (IdxPost zs v w) := by
  go_enter Try.func87, Try.ntmps87
  go_wp2
  go_loop [8] (fun i => ∃ k : Nat, k ≤ n ∧ i = .int .i64 k ∧ ∀ j, j < k → zs[j]?.getD 0 ≠ v) (fun i => n - (intOf i).toNat)
  case atStart => exact ⟨0, by omega, rfl, fun j hj => by omega⟩
  case round =>
    obtain ⟨k, hk, rfl, hall⟩ := hrel
    by_cases hlt : k < n
    · obtain ⟨b, off, rfl, hb, hc⟩ := h.mem (by omega)
      have hcell := hc k hlt
      have hl := Lib.hid h.len
      clear hc h
      replace hall := Lib.hid hall
      cases hv : (v == zs[k]?.getD 0)
      · have hne := Lib.hid (ne_of_beq_false hv)
        obtain ⟨z, hz⟩ : ∃ z, zs[k]?.getD 0 = z := ⟨_, rfl⟩
        rw [hz] at hcell hv
        replace hz := Lib.hid hz
        go_wp2
        go_round
        case rel =>
          refine ⟨k + 1, by omega, by go_num, fun j hj => ?_⟩
          rcases Nat.lt_or_ge j k with h | h
          · exact hall.out j h
          · obtain rfl : j = k := by omega
            exact fun e => hne.out e.symm
        case measure => simp [intOf]; omega
      · have he := Lib.hid (eq_of_beq hv)
        obtain ⟨z, hz⟩ : ∃ z, zs[k]?.getD 0 = z := ⟨_, rfl⟩
        rw [hz] at hcell hv
        replace hz := Lib.hid hz
        go_wp2
        go_ret
        refine ⟨k, rfl, ⟨fun _ => ?_, fun _ => by omega⟩, by omega, by omega, rfl⟩
        rw [he.out, List.getElem?_eq_getElem (by rw [hl.out]; exact hlt)]
        exact List.getElem_mem _
    · obtain rfl : k = n := by omega
      have hl := Lib.hid h.len
      clear h
      replace hall := Lib.hid hall
      go_wp2
      go_ret
      refine ⟨-1, rfl, ⟨fun h => by omega, fun hm => ?_⟩, by omega, by omega, rfl⟩
      obtain ⟨j, hj⟩ := List.getElem?_of_mem hm
      have hlt' := (List.getElem?_eq_some_iff.1 hj).1
      have := hall.out j (by rw [← hl.out]; exact hlt')
      rw [hj] at this
      exact absurd rfl this

theorem Contains_any (A : Option Addr) (n c : Nat) (zs : List Int) (v : Int) (w : World) (h : RI w A n c zs) (hn : n ≤ 100000) :
    Calls Try.prog 85 #[.slice A n c, .int .i64 v] w fun e w' => e = .returned (.bool (decide (v ∈ zs))) ∧ w = w' := by
  have hI := Lib.hid (Index_any A n c zs v w h hn)
  clear h
  go_enter Try.func85, Try.ntmps85
  go_wp2_with (go_at_call 87; refine hI.out.mono ?_; rintro e w' ⟨i, rfl, hi, h1, h2, rfl⟩; replace hi := Lib.hid hi)
  go_ret
  exact ⟨ret_bool (by rw [Bool.eq_iff_iff]; simp [hi.out]), rfl⟩

/-! ### Low bits of any int -/
theorem bits_low (x : Int) : bits .and .i64 x 65535 = x % 65536 := by
  have h1 : bits .and .i64 x 65535 = IntKind.i64.wrap ((BitVec.ofInt 64 x &&& BitVec.ofInt 64 65535).toNat : Int) := rfl
  rw [h1, BitVec.toNat_and, BitVec.toNat_ofInt]
  have h2 : (BitVec.ofInt 64 65535).toNat = 2 ^ 16 - 1 := by decide
  rw [h2, Nat.and_two_pow_sub_one_eq_mod, IntKind.wrap_i64]
  omega
theorem mod_low0 (x : Int) : -65535 ≤ x.tmod 65536 ∧ x.tmod 65536 ≤ 65535 ∧ (x.tmod 65536) % 65536 = x % 65536 := by
  rcases Int.le_total 0 x with h | h
  · rw [Int.tmod_eq_emod_of_nonneg h]; omega
  · have h1 : x.tmod 65536 = -((-x) % 65536) := by
      rw [← Int.tmod_eq_emod_of_nonneg (by omega : 0 ≤ -x), Int.neg_tmod, Int.neg_neg]
    rw [h1]; omega
theorem mod_low (x : Int) : (x.tmod 65536 + 65536).tmod 65536 = x % 65536 := by
  have := mod_low0 x
  rw [Int.tmod_eq_emod_of_nonneg (by omega)]; omega
end Go.Proofs.Ytmbmmpbfmakfbaa
/- Addresses of IPv6: sixteen bytes; results that lie in a variable; bytes as the source of a copy. -/
set_option linter.unusedVariables false
namespace Go.Proofs.Ytmbmmpbfmakfbaa
open Go Go.RowKit

/-- Results of which the first lies in a variable. -/
theorem results_ct {P : Program} {fn : Func} {a b : Tmp} {t : TypeId} {T : Array Value} {w : World} {g : Addr} {v : Value} (h : fn.results = #[.cell a t, .tmp b]) (ha : T.getD a undef = .pointer (some g)) (hl : (loadVar t g).run P w = .ok v w) :
    (results fn T).run P w = .ok (.tuple #[v, T.getD b undef]) w := by
  simp only [Array.getD_eq_getD_getElem?] at ha
  simp [results, h, ha, asAddr, hl]
theorem results_c {P : Program} {fn : Func} {a : Tmp} {t : TypeId} {T : Array Value} {w : World} {g : Addr} {v : Value} (h : fn.results = #[.cell a t]) (ha : T.getD a undef = .pointer (some g)) (hl : (loadVar t g).run P w = .ok v w) :
    (results fn T).run P w = .ok v w := by
  simp only [Array.getD_eq_getD_getElem?] at ha
  simp [results, h, ha, asAddr, hl]
theorem results_ctt {P : Program} {fn : Func} {a b c : Tmp} {t : TypeId} {T : Array Value} {w : World} {g : Addr} {v : Value} (h : fn.results = #[.cell a t, .tmp b, .tmp c]) (ha : T.getD a undef = .pointer (some g)) (hl : (loadVar t g).run P w = .ok v w) :
    (results fn T).run P w = .ok (.tuple #[v, T.getD b undef, T.getD c undef]) w := by
  simp only [Array.getD_eq_getD_getElem?] at ha
  simp [results, h, ha, asAddr, hl]

abbrev cells6 (s : List Int) : Array Value := (u8s s).toArray
/-- An address. -/
structure Six (s : List Int) : Prop where
  len : s.length = 16
  byt : Byts s
theorem rb_box {W : World} {B : Nat} {s : List Int} {T : TypeId} (h : Blk W B (cells6 s) T) (hs : Six s) : RB W (some ⟨B, 0, none⟩) 16 16 s :=
  rb_cells (off := 0) h.lt hs.len (by decide) hs.byt (fun j hj => by
    have := h.cell j (.int .u8 (s[j]?.getD 0)) (by rw [List.getElem?_toArray]; exact u8s_get s j (by rw [hs.len]; exact hj))
    rwa [Nat.zero_add])
/-- Bytes, as the source of a copy. -/
theorem RB.src {w W : World} {a : Addr} {n c : Nat} {bs : List Int} (h : RB w (some a) n c bs) (hb : Below w.heap.size w W) (j : Nat) (v : Value) (hv : (u8s bs)[j]? = some v) : W.cell? (a.add j) = some v := by
  have hj : j < bs.length := by have := (List.getElem?_eq_some_iff.1 hv).1; rwa [u8s_length] at this
  have hl := h.len
  obtain ⟨b, off, e, hlt, hc⟩ := h.mem (by omega)
  cases e
  rw [u8s_get bs j hj] at hv
  rw [Go.WideShapes.add_plain, ← hv]
  exact (hb.cell (p := ⟨b, off + j, none⟩) hlt).trans (hc j (by omega))
theorem bits_mask_any (k : Nat) (hk : k ≤ 62) (x : Int) : bits .and .i64 x (2 ^ k - 1 : Int) = x % 2 ^ k := by
  have h1 : bits .and .i64 x (2 ^ k - 1 : Int) = IntKind.i64.wrap ((BitVec.ofInt 64 x &&& BitVec.ofInt 64 (2 ^ k - 1 : Int)).toNat : Int) := rfl
  have hp : (2 : Nat) ^ k ≤ 2 ^ 62 := Nat.pow_le_pow_right (by decide) hk
  have hp1 : 1 ≤ (2 : Nat) ^ k := Nat.one_le_two_pow
  have hc : ((2 : Int) ^ k) = ((2 ^ k : Nat) : Int) := by simp
  have h2 : (BitVec.ofInt 64 (2 ^ k - 1 : Int)).toNat = 2 ^ k - 1 := by
    rw [BitVec.toNat_ofInt, hc]
    have : ((2 ^ k : Nat) : Int) - 1 = ((2 ^ k - 1 : Nat) : Int) := by omega
    rw [this]
    omega
  rw [h1, BitVec.toNat_and, BitVec.toNat_ofInt, h2, Nat.and_two_pow_sub_one_eq_mod, IntKind.wrap_i64]
  have hd : (2 : Nat) ^ k ∣ 2 ^ 64 := Nat.pow_dvd_pow 2 (by omega)
  have e : ((x % ((2 ^ 64 : Nat) : Int)).toNat % 2 ^ k : Nat) = (x % 2 ^ k : Int) := by
    rw [hc, Int.natCast_emod, Int.toNat_of_nonneg (Int.emod_nonneg _ (by decide)), Int.emod_emod_of_dvd _ (Int.natCast_dvd_natCast.2 hd)]
  have hlt : (x % ((2 ^ 64 : Nat) : Int)).toNat % 2 ^ k < 2 ^ 62 := Nat.lt_of_lt_of_le (Nat.mod_lt _ hp1) hp
  rw [← e]
  generalize (x % ((2 ^ 64 : Nat) : Int)).toNat % 2 ^ k = y at *
  omega
def z16 : List Int := List.replicate 16 0
theorem z16_len : z16.length = 16 := rfl
theorem z16_byts : Byts z16 := fun x hx => by
  have := List.eq_of_mem_replicate hx
  subst this
  constructor <;> omega
end Go.Proofs.Ytmbmmpbfmakfbaa
/- bytes.Equal of slices that hold the same bytes. -/
set_option linter.unusedVariables false
namespace Go.Proofs.Ytmbmmpbfmakfbaa
open Go.RowKit

theorem conv_bytes {w : World} {A : Option Addr} {n c : Nat} {bs : List Int} (h : RB w A n c bs) : (convert 24 9 (.slice A n c)).run Try.prog w = .ok (.string (strOfNums bs)) w := by
  have hl := h.len
  rcases Nat.eq_zero_or_pos n with hn | hn
  · subst hn
    obtain rfl : bs = [] := List.eq_nil_of_length_eq_zero hl
    rw [run_convert_bytes_string w 24 9 5 A 0 c Try.underlying24 Try.underlying5 Try.underlying9]
    cases A with
    | none => simp [Conv.bytesToString]; rfl
    | some a =>
      rw [run_bytesToString w a 0 c [] (by simpa using run_loadCells_list (P := Try.prog) w a [] (fun j v hj => by simp at hj))]
      rfl
  · obtain ⟨b, off, rfl, hc⟩ := h.at_ hn
    exact run_convert_bytes_arg (P := Try.prog) w 24 5 Try.underlying24 Try.underlying5 b off n c bs hl (fun i hi => by rw [hc i hi, List.getD_eq_getElem?_getD]) 9 Try.underlying9

set_option maxHeartbeats 400000 in
theorem Equal_same (A A' : Option Addr) (n c n' c' : Nat) (bs : List Int) (w : World) (h : RB w A n c bs) (h' : RB w A' n' c' bs) :
    Calls Try.prog 14 #[.slice A n c, .slice A' n' c'] w fun e w' => e = .returned (.bool true) ∧ w = w' := by
  have e1 := conv_bytes h
  have e2 := conv_bytes h'
  clear h h'
  go_enter Try.func14, Try.ntmps14
  go_wp2
  go_ret
  exact ⟨by simp, rfl⟩
end Go.Proofs.Ytmbmmpbfmakfbaa
/- Arrays of bytes in a struct: loaded and compared; bytes.Equal of any bytes. -/
set_option linter.unusedVariables false
namespace Go.Proofs.Ytmbmmpbfmakfbaa
open Go.RowKit

/-! ### Bytes as Lean's bytes -/
def u8of (x : Int) : UInt8 := UInt8.ofNat x.toNat
theorem u8of_inj {x y : Int} (hx : 0 ≤ x ∧ x ≤ 255) (hy : 0 ≤ y ∧ y ≤ 255) (h : u8of x = u8of y) : x = y := by
  have := congrArg UInt8.toNat h
  simp [u8of] at this
  omega
theorem map_u8of_inj : ∀ {a b : List Int}, Byts a → Byts b → a.map u8of = b.map u8of → a = b
  | [], [], _, _, _ => rfl
  | [], _ :: _, _, _, h => by simp at h
  | _ :: _, [], _, _, h => by simp at h
  | x :: a, y :: b, ha, hb, h => by
    simp only [List.map_cons, List.cons.injEq] at h
    rw [u8of_inj (ha x (by simp)) (hb y (by simp)) h.1, map_u8of_inj (fun z hz => ha z (by simp [hz])) (fun z hz => hb z (by simp [hz])) h.2]
theorem map_u8of_beq {a b : List Int} (ha : Byts a) (hb : Byts b) : (a.map u8of == b.map u8of) = (a == b) := by
  rw [Bool.eq_iff_iff]
  simp only [beq_iff_eq]
  exact ⟨map_u8of_inj ha hb, fun h => by rw [h]⟩
theorem cells_u8of {a : List Int} (ha : Byts a) : (a.map u8of).map Extern.Stop.cell = u8s a := by
  unfold u8s
  rw [List.map_map]
  refine List.map_congr_left fun x hx => ?_
  have := ha x hx
  simp [Extern.Stop.cell, u8of]
  omega
theorem str_beq {a b : List Int} (ha : Byts a) (hb : Byts b) : ((strOfNums a).toList == (strOfNums b).toList) = (a == b) := by
  rw [← map_u8of_beq ha hb, Bool.eq_iff_iff]
  simp only [beq_iff_eq]
  constructor
  · intro h
    have := h
    rw [ByteArray.toList_eq, ByteArray.toList_eq] at this
    exact this
  · intro h
    have : strOfNums a = strOfNums b := by unfold strOfNums; exact congrArg (fun l : List UInt8 => (⟨l.toArray⟩ : ByteArray)) h
    rw [this]

set_option maxHeartbeats 400000 in
theorem Equal_any (A A' : Option Addr) (n c n' c' : Nat) (bs bs' : List Int) (w : World) (h : RB w A n c bs) (h' : RB w A' n' c' bs') :
    Calls Try.prog 14 #[.slice A n c, .slice A' n' c'] w fun e w' => e = .returned (.bool (bs == bs')) ∧ w = w' := by
  have e1 := conv_bytes h
  have e2 := conv_bytes h'
  have e3 := str_beq h.byt h'.byt
  clear h h'
  go_enter Try.func14, Try.ntmps14
  go_wp2
  go_ret
  exact ⟨by first | rfl | (rw [e3]), rfl⟩
end Go.Proofs.Ytmbmmpbfmakfbaa
/- Fits (be), pow and Fits (reference): whether a number has so many bytes. -/
set_option linter.unusedVariables false
namespace Go.Proofs.Ytmbmmpbfmakfbaa
open Go.RowKit

/-- Has the number n so many bytes? -/
def fitsP (n s : Int) : Prop := (1 ≤ s ∧ s ≤ 4) ∧ 0 ≤ n ∧ n < 256 ^ s.toNat
instance (n s : Int) : Decidable (fitsP n s) := by unfold fitsP; exact inferInstance
def fitsB (n s : Int) : Bool := decide (fitsP n s)
theorem fits_cases {s : Int} (h1 : 1 ≤ s) (h2 : s ≤ 4) : s = 1 ∨ s = 2 ∨ s = 3 ∨ s = 4 := by omega

theorem fitsB_no {n s : Int} (h : ¬ fitsP n s) : fitsB n s = false := decide_eq_false h
theorem fitsB_yes {n s : Int} (h : fitsP n s) : fitsB n s = true := decide_eq_true h
theorem fitsB_of {n s : Int} {b : Bool} (h : b = true ↔ fitsP n s) : b = fitsB n s := by
  unfold fitsB
  cases b with
  | true => exact (decide_eq_true (h.1 rfl)).symm
  | false => exact (decide_eq_false (fun k => by have := h.2 k; cases this)).symm
theorem pow1 : (256 : Int) ^ (Int.toNat 1) = 256 := by decide
theorem pow2 : (256 : Int) ^ (Int.toNat 2) = 65536 := by decide
theorem pow3 : (256 : Int) ^ (Int.toNat 3) = 16777216 := by decide
theorem pow4 : (256 : Int) ^ (Int.toNat 4) = 4294967296 := by decide

set_option maxHeartbeats 400000 in
theorem Fits_any (n s : Int) (w : World) :
    Calls Try.prog 45 #[.int .i64 n, .int .i64 s] w fun e w' => e = .returned (.bool (fitsB n s)) ∧ w = w' := by
  by_cases h1 : 1 ≤ s
  · by_cases h2 : s ≤ 4
    · by_cases h3 : 0 ≤ n
      · rcases fits_cases h1 h2 with rfl | rfl | rfl | rfl
        all_goals
          go_enter Try.func45, Try.ntmps45
          go_wp2
          go_ret
          exact ⟨ret_bool (fitsB_of (by unfold fitsP; simp only [pow1, pow2, pow3, pow4, beq_iff_eq]; omega)), rfl⟩
      · go_enter Try.func45, Try.ntmps45
        go_wp2
        go_ret
        exact ⟨ret_bool (fitsB_no (by unfold fitsP; omega)).symm, rfl⟩
    · go_enter Try.func45, Try.ntmps45
      go_wp2
      go_ret
      exact ⟨ret_bool (fitsB_no (by unfold fitsP; omega)).symm, rfl⟩
  · go_enter Try.func45, Try.ntmps45
    go_wp2
    go_ret
    exact ⟨ret_bool (fitsB_no (by unfold fitsP; omega)).symm, rfl⟩

set_option maxHeartbeats 400000 in
theorem pow_at (s : Nat) (hs : s ≤ 4) (w : World) :
    Calls Try.prog 75 #[.int .i64 s] w fun e w' => e = .returned (.int .i64 (256 ^ s)) ∧ w = w' := by
  have hc : s = 0 ∨ s = 1 ∨ s = 2 ∨ s = 3 ∨ s = 4 := by omega
  rcases hc with rfl | rfl | rfl | rfl | rfl
  all_goals
    go_enter Try.func75, Try.ntmps75
    go_wp2
    go_rounds 5
    go_ret
    exact ⟨rfl, rfl⟩

theorem pow_any (s : Int) (h0 : 0 ≤ s) (hs : s ≤ 4) (w : World) :
    Calls Try.prog 75 #[.int .i64 s] w fun e w' => e = .returned (.int .i64 (256 ^ s.toNat)) ∧ w = w' := by
  obtain ⟨k, rfl⟩ := Int.eq_ofNat_of_zero_le h0
  exact pow_at k (by omega) w

set_option maxHeartbeats 400000 in
theorem RefFits_any (n s : Int) (w : World) :
    Calls Try.prog 61 #[.int .i64 n, .int .i64 s] w fun e w' => e = .returned (.bool (fitsB n s)) ∧ w = w' := by
  by_cases h1 : 1 ≤ s
  · by_cases h2 : s ≤ 4
    · by_cases h3 : 0 ≤ n
      · go_enter Try.func61, Try.ntmps61
        go_wp2_with (go_at_call 75; refine (pow_any s (by omega) h2 _).mono ?_; rintro e w' ⟨rfl, rfl⟩)
        go_ret
        exact ⟨ret_bool (fitsB_of (by unfold fitsP; simp; omega)), rfl⟩
      · go_enter Try.func61, Try.ntmps61
        go_wp2
        go_ret
        exact ⟨ret_bool (fitsB_no (by unfold fitsP; omega)).symm, rfl⟩
    · go_enter Try.func61, Try.ntmps61
      go_wp2
      go_ret
      exact ⟨ret_bool (fitsB_no (by unfold fitsP; omega)).symm, rfl⟩
  · go_enter Try.func61, Try.ntmps61
    go_wp2
    go_ret
    exact ⟨ret_bool (fitsB_no (by unfold fitsP; omega)).symm, rfl⟩
end Go.Proofs.Ytmbmmpbfmakfbaa
