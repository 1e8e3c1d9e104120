/- A drawn region all of whose operations yield, in every world that meets S, a value that is known ahead, and leave S: it goes like one walk in the text's order. -/
import Derived.Orders
import Derived.BigQuiet
import Derived.WalkKit
import Derived.Laws.Rows
import Derived.Test.YtmbmmpbfmakfbaaAppend
import Derived.Deep.RegionHeld3
set_option linter.unusedVariables false
namespace Go.Proofs.Ytmbmmpbfmakfbaa
open Go

section
variable {P : Program} {ops : Array Oper} {Q : Exit → Act → World → Prop} {md : Region.Mode} {S : World → Prop}

/-- The value v, or a call that returns v, in worlds that meet S. -/
def Yld (P : Program) (S : World → Prop) (v : Value) : Result Next → Prop
  | .ok (.value u) w' => u = v ∧ S w'
  | .ok (.enter f args) w' => Calls P f args w' fun e w'' => e = .returned v ∧ S w''
  | _ => False

def YieldsS (P : Program) (ops : Array Oper) (S : World → Prop) (o : Oper) (v : Value) (a : Act) : Prop :=
  (Region.wanted o (yielded ops a.tmps) = true ∧ ∀ w, S w → Yld P S v ((execOp a.eval o).run P w)) ∨ (Region.wanted o (yielded ops a.tmps) = false ∧ v = undef)

theorem YieldsS.wpOp {i : Nat} {o : Oper} {v : Value} {a : Act} (hi : ops[i]? = some o) (hy : YieldsS P ops S o v a) {K : Act → World → Prop} {w : World} (hS : S w) (h : ∀ w', S w' → K (a.put o.dst v) w') : wpOp P ops Q i K a w := by
  unfold Go.wpOp
  simp only [hi]
  rcases hy with ⟨hw, hv⟩ | ⟨hw, rfl⟩
  · simp only [hw, if_true]
    refine .inl ?_
    have h1 := hv w hS
    unfold Oper.wp
    generalize (execOp a.eval o).run P w = r at h1
    cases r with
    | ok n w' =>
      cases n <;> simp only [Yld] at h1 <;> simp only [Oper.upon]
      case value u => obtain ⟨rfl, h2⟩ := h1; exact h _ h2
      case enter f args =>
        refine h1.mono ?_
        rintro e w'' ⟨rfl, h2⟩
        exact h _ h2
    | halt x w' => simp only [Yld] at h1
  · simp only [hw, Bool.false_eq_true, if_false]; exact h _ hS

theorem YieldsS.of_same {o : Oper} {v : Value} {a a' : Act} (hy : YieldsS P ops S o v a) (he : execOp a'.eval o = execOp a.eval o)
    (hw : Region.wanted o (yielded ops a'.tmps) = Region.wanted o (yielded ops a.tmps)) : YieldsS P ops S o v a' := by
  unfold YieldsS at *
  rw [he, hw]
  exact hy

def wpT (P : Program) (md : Region.Mode) (ops : Array Oper) (Q : Exit → Act → World → Prop) (S : World → Prop) : Nat → Array Bool → Act → Prop
  | 0, listed, a => Region.ready md ops listed = [] ∧ ∀ w, S w → Q .normal a w
  | fuel + 1, listed, a => (Region.ready md ops listed = [] → ∀ w, S w → Q .normal a w) ∧
    ∀ i ∈ Region.ready md ops listed, ∃ o v, ops[i]? = some o ∧ YieldsS P ops S o v a ∧ wpT P md ops Q S fuel (listed.setIfInBounds i true) (a.put o.dst v)

theorem wpT_sound : ∀ (fuel : Nat) (listed : Array Bool) (a : Act), wpT P md ops Q S fuel listed a → ∀ w, S w → wpAny P md ops Q fuel listed a w
  | 0, _, _, h, w, hS => ⟨h.1, h.2 w hS⟩
  | fuel + 1, _, _, h, w, hS => ⟨fun h0 => h.1 h0 w hS, fun i hi => by
      obtain ⟨o, v, ho, hy, hk⟩ := h.2 i hi
      exact hy.wpOp ho hS fun w' hS' => wpT_sound fuel _ _ hk w' hS'⟩

theorem wpT_first {i : Nat} {oi : Oper} {v : Value} (hi : ops[i]? = some oi) (hsel : ∀ (j : Nat) (o : Oper) cs b, ops[j]? = some o → o.op ≠ .select cs b) :
    ∀ (fuel : Nat) (listed : Array Bool) (a : Act),
      (∀ j oj, ops[j]? = some oj → j ≠ i → listed.getD j true = false → (∀ e ∈ oj.after, Region.binds md e = true → e.on ≠ i) → oi.apart ops oj = true) →
      i ∈ Region.ready md ops listed → YieldsS P ops S oi v a →
      wpT P md ops Q S fuel (listed.setIfInBounds i true) (a.put oi.dst v) → wpT P md ops Q S (fuel + 1) listed a := by
  intro fuel
  induction fuel with
  | zero =>
    intro listed a _ hr hy H
    refine ⟨fun h => (by rw [h] at hr; cases hr), fun j hj => ?_⟩
    by_cases hji : j = i
    · subst hji; exact ⟨oi, v, hi, hy, H⟩
    · have := ready_mono hj hji
      rw [H.1] at this
      cases this
  | succ fuel ih =>
    intro listed a hfree hr hy H
    refine ⟨fun h => (by rw [h] at hr; cases hr), fun j hj => ?_⟩
    by_cases hji : j = i
    · subst hji; exact ⟨oi, v, hi, hy, H⟩
    · obtain ⟨oj, u, hoj, hyj, h1⟩ := H.2 j (ready_mono hj hji)
      obtain ⟨hjun, oj', hoj', hall⟩ := mem_ready.1 hj
      rw [hoj] at hoj'
      cases hoj'
      have hnot : ∀ e ∈ oj.after, Region.binds md e = true → e.on ≠ i := fun e he hb heq => by
        have h1 := hall e he hb
        have h0 := (mem_ready.1 hr).1
        rw [heq] at h1
        rcases Nat.lt_or_ge i listed.size with h' | h'
        · simp [h'] at h0 h1; rw [h0] at h1; cases h1
        · simp [Array.getElem?_eq_none h'] at h1
      obtain ⟨a1, a2, a3⟩ := Oper.apart_spec (hfree j oj hoj hji hjun hnot)
      have hfree' : ∀ k ok, ops[k]? = some ok → k ≠ i → (listed.setIfInBounds j true).getD k true = false →
          (∀ e ∈ ok.after, Region.binds md e = true → e.on ≠ i) → oi.apart ops ok = true := fun k ok hk hki hun hno => by
        refine hfree k ok hk hki ?_ hno
        by_cases hjk : j = k
        · subst hjk; exact hjun
        · rw [getD_set_ne true hjk] at hun; exact hun
      refine ⟨oj, u, hoj, hyj.of_same (execOp_put oj (fun cs b => hsel j oj cs b hoj) a oi.dst v a1).symm (wanted_put oj a oi.dst v a1).symm,
        ih (listed.setIfInBounds j true) (a.put oj.dst u) hfree' (ready_mono hr (Ne.symm hji)) (hy.of_same (execOp_put oi (fun cs b => hsel i oi cs b hi) a oj.dst u a3) (wanted_put oi a oj.dst u a3)) ?_⟩
      rw [Array.setIfInBounds_comm _ _ hji, ← Act.put_comm a v u a2]
      exact h1

/-- The first k have come up. -/
def preB (n : Nat) : Nat → Array Bool
  | 0 => Array.replicate n false
  | k + 1 => (preB n k).setIfInBounds k true
/-- The text's order is one that may be drawn, and each may be taken first in it. -/
def textOrder (md : Region.Mode) (ops : Array Oper) : Bool :=
  Region.noSelect ops && (Region.ready md ops (preB ops.size ops.size)).isEmpty && (List.range ops.size).all fun k => (Region.ready md ops (preB ops.size k)).contains k && Region.free md ops (preB ops.size k) k

def tameL (P : Program) (ops : Array Oper) (Q : Exit → Act → World → Prop) (S : World → Prop) : List Oper → Act → Prop
  | [], a => ∀ w, S w → Q .normal a w
  | o :: rest, a => ∃ v, YieldsS P ops S o v a ∧ tameL P ops Q S rest (a.put o.dst v)

theorem tame_sound (ht : textOrder md ops = true) : ∀ (m k : Nat) (l : List Oper) (a : Act), m + k = ops.size → ops.toList.drop k = l → tameL P ops Q S l a → wpT P md ops Q S m (preB ops.size k) a := by
  simp only [textOrder, Bool.and_eq_true, List.all_eq_true, List.mem_range] at ht
  obtain ⟨⟨hs, hend⟩, hall⟩ := ht
  intro m
  induction m with
  | zero =>
    intro k l a hk hl h
    obtain rfl : k = ops.size := by omega
    obtain rfl : l = [] := by rw [← hl]; simp
    exact ⟨by simpa using hend, h⟩
  | succ m ih =>
    intro k l a hk hl h
    have hlt : k < ops.size := by omega
    have hd : ops.toList.drop k = ops[k] :: ops.toList.drop (k + 1) := by
      rw [List.drop_eq_getElem_cons (by simpa using hlt)]; simp
    rw [hd] at hl
    subst hl
    obtain ⟨v, hy, h1⟩ := h
    obtain ⟨hr, hf⟩ := hall k hlt
    have hi : ops[k]? = some ops[k] := Array.getElem?_eq_getElem hlt
    exact wpT_first hi (Region.noSelect_spec hs) m (preB ops.size k) a (Region.free_spec hi hf) (by simpa using hr) hy (ih (k + 1) _ _ (by omega) rfl h1)

/-- The beginning. -/
theorem wp_region_tame {id : Nat} {l : List Oper} {a : Act} {w : World} (S : World → Prop) (hm : P.follows .mixedOrders = true) (ht : textOrder .any l.toArray = true) (hS : S w.drew) (h : tameL P l.toArray Q S l a) : (Code.region id l.toArray true).wp P Q a w :=
  wp_region_any hm (wpT_sound _ _ _ (tame_sound ht l.toArray.size 0 l a (by simp) (by simp) h) w.drew hS)

variable {a : Act} {rest : List Oper} {o : Oper} {v : Value}
theorem tameL_nil (h : ∀ w, S w → Q .normal a w) : tameL P ops Q S [] a := h
theorem tameL_val (hw : Region.wanted o (yielded ops a.tmps) = true) (hv : ∀ w, S w → (execOp a.eval o).run P w = .ok (.value v) w) (h : tameL P ops Q S rest (a.put o.dst v)) : tameL P ops Q S (o :: rest) a :=
  ⟨v, .inl ⟨hw, fun w hS => by rw [hv w hS]; exact ⟨rfl, hS⟩⟩, h⟩
theorem tameL_skip (hw : Region.wanted o (yielded ops a.tmps) = false) (h : tameL P ops Q S rest (a.put o.dst undef)) : tameL P ops Q S (o :: rest) a :=
  ⟨undef, .inr ⟨hw, rfl⟩, h⟩
theorem tameL_call (hw : Region.wanted o (yielded ops a.tmps) = true) (fn : Nat) (args : Array Value) (hr : ∀ w, (execOp a.eval o).run P w = .ok (.enter fn args) w) (hc : ∀ w, S w → Calls P fn args w fun e w' => e = .returned v ∧ S w') (h : tameL P ops Q S rest (a.put o.dst v)) : tameL P ops Q S (o :: rest) a :=
  ⟨v, .inl ⟨hw, fun w hS => by rw [hr w]; exact hc w hS⟩, h⟩
/-- A whole variable is loaded. -/
theorem tameL_row (hw : Region.wanted o (yielded ops a.tmps) = true) (ty : TypeId) (x : Operand) (ho : o.op = .load ty x) (g : Nat) (hx : a.eval x = .pointer (some ⟨g, 0, none⟩)) (t : TypeId) (cs : Array Value) (fr : Nat × Nat) (d : TypeDesc) (hg : ∀ w, S w → w.heap[g]? = some (.cells cs t fr))
    (hu : P.underlying ty = some d) (hd : (match d with | .struct _ | .array _ _ => true | _ => false) = true) (hi : (P.info? ty).map (·.size) = some cs.size) (h : tameL P ops Q S rest (a.put o.dst (.agg cs))) : tameL P ops Q S (o :: rest) a :=
  tameL_val hw (fun w hS => by
    unfold execOp
    simp only [ho, hx, Instr.loadAt, Instr.sureAddr, Sem.run_bind, Sem.run_pure, Result.andThen_ok, run_loadVar_row w g t ty cs fr d (hg w hS) hu hd hi]) h
end
/-- A function is entered: said by its own two cells. -/
theorem enters {P : Program} {fn : Nat} {f : Func} (hf : P.funcs[fn]? = some f) (h1 : (f.name == "runtime.NumGoroutine") = false) (h2 : f.body.isNone = false) (args : Array Value) (w : World) : (callFunc fn args).run P w = .ok (.enter fn args) w := by
  have h3 : ¬ f.name = "runtime.NumGoroutine" := fun h => by rw [h] at h1; cases h1
  have h4 : ¬ f.body = none := fun h => by rw [h] at h2; cases h2
  simp [callFunc, hf, h3, h4]


/-- Calls of Go functions, of none to four arguments. -/
theorem exec_call0 {P : Program} {o : Oper} {a : Act} (fn : Nat) (hcf : ∀ args w, (callFunc fn args).run P w = .ok (.enter fn args) w) (T : Array TypeId) (hop : o.op = .call { callee := .value (.func fn), args := #[], argTypes := T }) (w : World) :
    (execOp a.eval o).run P w = .ok (.enter fn #[]) w := by
  have hf : a.eval (.func fn) = .func (.func fn) #[] #[] := rfl
  simp [execOp, hop, resolve, invoke, hf, Deferred.ofValue, hcf]
theorem exec_call1 {P : Program} {o : Oper} {a : Act} (fn : Nat) (hcf : ∀ args w, (callFunc fn args).run P w = .ok (.enter fn args) w) (x : Operand) (T : Array TypeId) (hop : o.op = .call { callee := .value (.func fn), args := #[x], argTypes := T }) {vx : Value} (hx : a.eval x = vx) (w : World) :
    (execOp a.eval o).run P w = .ok (.enter fn #[vx]) w := by
  have hf : a.eval (.func fn) = .func (.func fn) #[] #[] := rfl
  simp [execOp, hop, resolve, invoke, hf, hx, Deferred.ofValue, hcf]
theorem exec_call2 {P : Program} {o : Oper} {a : Act} (fn : Nat) (hcf : ∀ args w, (callFunc fn args).run P w = .ok (.enter fn args) w) (x y : Operand) (T : Array TypeId) (hop : o.op = .call { callee := .value (.func fn), args := #[x, y], argTypes := T }) {vx vy : Value} (hx : a.eval x = vx) (hy : a.eval y = vy) (w : World) :
    (execOp a.eval o).run P w = .ok (.enter fn #[vx, vy]) w := by
  have hf : a.eval (.func fn) = .func (.func fn) #[] #[] := rfl
  simp [execOp, hop, resolve, invoke, hf, hx, hy, Deferred.ofValue, hcf]
theorem exec_call3 {P : Program} {o : Oper} {a : Act} (fn : Nat) (hcf : ∀ args w, (callFunc fn args).run P w = .ok (.enter fn args) w) (x y z : Operand) (T : Array TypeId) (hop : o.op = .call { callee := .value (.func fn), args := #[x, y, z], argTypes := T }) {vx vy vz : Value} (hx : a.eval x = vx) (hy : a.eval y = vy) (hz : a.eval z = vz) (w : World) :
    (execOp a.eval o).run P w = .ok (.enter fn #[vx, vy, vz]) w := by
  have hf : a.eval (.func fn) = .func (.func fn) #[] #[] := rfl
  simp [execOp, hop, resolve, invoke, hf, hx, hy, hz, Deferred.ofValue, hcf]
theorem exec_call4 {P : Program} {o : Oper} {a : Act} (fn : Nat) (hcf : ∀ args w, (callFunc fn args).run P w = .ok (.enter fn args) w) (x y z u : Operand) (T : Array TypeId) (hop : o.op = .call { callee := .value (.func fn), args := #[x, y, z, u], argTypes := T }) {vx vy vz vu : Value} (hx : a.eval x = vx) (hy : a.eval y = vy) (hz : a.eval z = vz) (hu : a.eval u = vu) (w : World) :
    (execOp a.eval o).run P w = .ok (.enter fn #[vx, vy, vz, vu]) w := by
  have hf : a.eval (.func fn) = .func (.func fn) #[] #[] := rfl
  simp [execOp, hop, resolve, invoke, hf, hx, hy, hz, hu, Deferred.ofValue, hcf]
section
variable {P : Program} {ops : Array Oper} {Q : Exit → Act → World → Prop} {S : World → Prop} {a : Act} {rest : List Oper} {o : Oper} {v : Value}
theorem tameL_call0 (hw : Region.wanted o (yielded ops a.tmps) = true) (fn : Nat) (T : Array TypeId) (hop : o.op = .call { callee := .value (.func fn), args := #[], argTypes := T }) (hcf : ∀ args w, (callFunc fn args).run P w = .ok (.enter fn args) w)
    (hc : ∀ w, S w → Calls P fn #[] w fun e w' => e = .returned v ∧ S w') (h : tameL P ops Q S rest (a.put o.dst v)) : tameL P ops Q S (o :: rest) a :=
  tameL_call hw fn _ (exec_call0 fn hcf T hop) hc h
theorem tameL_call1 (hw : Region.wanted o (yielded ops a.tmps) = true) (fn : Nat) (x : Operand) (T : Array TypeId) (hop : o.op = .call { callee := .value (.func fn), args := #[x], argTypes := T }) (hcf : ∀ args w, (callFunc fn args).run P w = .ok (.enter fn args) w)
    {vx : Value} (hx : a.eval x = vx) (hc : ∀ w, S w → Calls P fn #[vx] w fun e w' => e = .returned v ∧ S w') (h : tameL P ops Q S rest (a.put o.dst v)) : tameL P ops Q S (o :: rest) a :=
  tameL_call hw fn _ (exec_call1 fn hcf x T hop hx) hc h
theorem tameL_call2 (hw : Region.wanted o (yielded ops a.tmps) = true) (fn : Nat) (x y : Operand) (T : Array TypeId) (hop : o.op = .call { callee := .value (.func fn), args := #[x, y], argTypes := T }) (hcf : ∀ args w, (callFunc fn args).run P w = .ok (.enter fn args) w)
    {vx vy : Value} (hx : a.eval x = vx) (hy : a.eval y = vy) (hc : ∀ w, S w → Calls P fn #[vx, vy] w fun e w' => e = .returned v ∧ S w') (h : tameL P ops Q S rest (a.put o.dst v)) : tameL P ops Q S (o :: rest) a :=
  tameL_call hw fn _ (exec_call2 fn hcf x y T hop hx hy) hc h
theorem tameL_call3 (hw : Region.wanted o (yielded ops a.tmps) = true) (fn : Nat) (x y z : Operand) (T : Array TypeId) (hop : o.op = .call { callee := .value (.func fn), args := #[x, y, z], argTypes := T }) (hcf : ∀ args w, (callFunc fn args).run P w = .ok (.enter fn args) w)
    {vx vy vz : Value} (hx : a.eval x = vx) (hy : a.eval y = vy) (hz : a.eval z = vz) (hc : ∀ w, S w → Calls P fn #[vx, vy, vz] w fun e w' => e = .returned v ∧ S w') (h : tameL P ops Q S rest (a.put o.dst v)) : tameL P ops Q S (o :: rest) a :=
  tameL_call hw fn _ (exec_call3 fn hcf x y z T hop hx hy hz) hc h
theorem tameL_call4 (hw : Region.wanted o (yielded ops a.tmps) = true) (fn : Nat) (x y z u : Operand) (T : Array TypeId) (hop : o.op = .call { callee := .value (.func fn), args := #[x, y, z, u], argTypes := T }) (hcf : ∀ args w, (callFunc fn args).run P w = .ok (.enter fn args) w)
    {vx vy vz vu : Value} (hx : a.eval x = vx) (hy : a.eval y = vy) (hz : a.eval z = vz) (hu : a.eval u = vu) (hc : ∀ w, S w → Calls P fn #[vx, vy, vz, vu] w fun e w' => e = .returned v ∧ S w') (h : tameL P ops Q S rest (a.put o.dst v)) : tameL P ops Q S (o :: rest) a :=
  tameL_call hw fn _ (exec_call4 fn hcf x y z u T hop hx hy hz hu) hc h
end

/-- A region in the text's order goes the same way. -/
theorem YieldsS.wpList_ {P : Program} {ops : Array Oper} {Q : Exit → Act → World → Prop} {S : World → Prop} {a : Act} {rest : List Oper} {o : Oper} {v : Value} (hy : YieldsS P ops S o v a) {w : World} (hS : S w) (h : ∀ w', S w' → wpList P ops Q rest (a.put o.dst v) w') : wpList P ops Q (o :: rest) a w := by
  refine wpList_step fun K hK => ?_
  rcases hy with ⟨hw, hv⟩ | ⟨hw, rfl⟩
  · simp only [hw, if_true]
    have h1 := hv w hS
    unfold Oper.wp
    generalize (execOp a.eval o).run P w = r at h1
    cases r with
    | ok n w' =>
      cases n <;> simp only [Yld] at h1 <;> simp only [Oper.upon]
      case value u => obtain ⟨rfl, h2⟩ := h1; exact hK _ _ (h _ h2)
      case enter f args =>
        refine h1.mono ?_
        rintro e w'' ⟨rfl, h2⟩
        exact hK _ _ (h _ h2)
    | halt x w' => simp only [Yld] at h1
  · simp only [hw, Bool.false_eq_true, if_false]; exact hK _ _ (h _ hS)
theorem tameL_list {P : Program} {ops : Array Oper} {Q : Exit → Act → World → Prop} {S : World → Prop} : ∀ (l : List Oper) (a : Act), tameL P ops Q S l a → ∀ w, S w → wpList P ops Q l a w
  | [], a, h, w, hS => h w hS
  | o :: rest, a, ⟨v, hy, h⟩, w, hS => hy.wpList_ hS fun w' hS' => tameL_list rest _ h w' hS'
theorem wp_region_seqT {P : Program} {Q : Exit → Act → World → Prop} {id : Nat} {l : List Oper} {a : Act} {w : World} (S : World → Prop) (hS : S w) (h : tameL P l.toArray Q S l a) : (Code.region id l.toArray false).wp P Q a w :=
  wp_region_lit (tameL_list l a h w hS)
theorem toB {P : Program} {f : FuncId} {args : Array Value} {w : World} {x : Ending} (h : Calls P f args w fun e w' => e = x ∧ w = w') : Calls P f args w fun e w' => e = x ∧ Go.RowKit.Below w.heap.size w w' :=
  h.mono fun e w' ⟨h1, h2⟩ => ⟨h1, h2 ▸ Go.RowKit.Below.refl _ _⟩
end Go.Proofs.Ytmbmmpbfmakfbaa
/- Drawn regions with calls: what is held from operation to operation; a Go call as one step. -/
set_option linter.unusedVariables false
namespace Go.Proofs.Ytmbmmpbfmakfbaa
open Go.RowKit

section
variable {C : World → Prop} {w0 W W' : World}
theorem held0 (hF : ∀ W, Below w0.heap.size w0 W → C W) : C w0.drew ∧ Below w0.heap.size w0 w0.drew := ⟨hF _ (Below.refl _ w0).drew, (Below.refl _ w0).drew⟩
theorem heldDr (hF : ∀ W, Below w0.heap.size w0 W → C W) (h : C W ∧ Below w0.heap.size w0 W) : C W.drew ∧ Below w0.heap.size w0 W.drew := ⟨hF _ h.2.drew, h.2.drew⟩
theorem heldAl (hF : ∀ W, Below w0.heap.size w0 W → C W) (o : Obj) (h : C W ∧ Below w0.heap.size w0 W) : C (W.alloc o) ∧ Below w0.heap.size w0 (W.alloc o) := ⟨hF _ (h.2.alloc h.2.size o), h.2.alloc h.2.size o⟩
theorem heldAlDr (hF : ∀ W, Below w0.heap.size w0 W → C W) (o : Obj) : C (w0.alloc o).drew ∧ Below w0.heap.size w0 (w0.alloc o).drew := heldDr hF (heldAl hF o ⟨hF _ (Below.refl _ w0), Below.refl _ w0⟩)
theorem heldTo (hF : ∀ W, Below w0.heap.size w0 W → C W) (h : C W ∧ Below w0.heap.size w0 W) (hb : Below W.heap.size W W') : C W' ∧ Below w0.heap.size w0 W' :=
  have k := h.2.trans (hb.mono h.2.size)
  ⟨hF _ k, k⟩
theorem heldGr (hF : ∀ W, Below w0.heap.size w0 W → C W) (h : C W ∧ Below w0.heap.size w0 W) {A : Option Addr} {n c : Nat} {bs : List Int} (ho : OB W w0.heap.size A n c bs) (hg : W.grownBy W' (ownBlk A)) : C W' ∧ Below w0.heap.size w0 W' :=
  have k := h.2.grown hg h.2.size (fun k hk => (ho.blk hk).1)
  ⟨hF _ k, k⟩
theorem heldIf (hF : ∀ W, Below w0.heap.size w0 W → C W) (h : Below w0.heap.size w0 W) : C W ∧ Below w0.heap.size w0 W := ⟨hF _ h, h⟩
end
theorem OB.drew {w : World} {base : Nat} {A : Option Addr} {n c : Nat} {bs : List Int} (h : OB w base A n c bs) : OB w.drew base A n c bs := h.below (Below.refl _ w).drew

/-- append of bytes as one step of a drawn region. -/
theorem step_append_bytes {ops : Array Oper} {o : Oper} {a : Act} {w : World} {K : Act → World → Prop} {Q : Exit → Act → World → Prop} {E : Prop} (hgd : o.guard = none) (s x : Operand)
    (hop : o.op = .call { callee := .builtin .append, args := #[s, x], argTypes := #[24, 24] })
    {base : Nat} {A : Option Addr} {n c : Nat} {bs : List Int} (hv : a.eval s = .slice A n c) {A' : Option Addr} {m c' : Nat} {ys : List Int} (hv' : a.eval x = .slice A' m c') (ho : OB w base A n c bs) (hr : RB w A' m c' ys)
    (hs : n + m ≤ 140737488355328) (hb : base ≤ w.heap.size)
    (h : ∀ A2 c2 w2, OB w2 base A2 (n + m) c2 (bs ++ ys) → w.grownBy w2 (ownBlk A) → (ownBlk A2 = ownBlk A ∨ ownBlk A2 = some w.heap.size) → K (a.put o.dst (.slice A2 (n + m) c2)) w2) :
    if Region.wanted o (yielded ops a.tmps) = true then Oper.wp Try.prog o a w K Q else E := by
  have hw : Region.wanted o (yielded ops a.tmps) = true := by simp [Region.wanted, hgd]
  rw [if_pos hw]
  obtain ⟨A2, c2, w2, h1, h2, h3, h4⟩ := run_append_bytes w ho hr hs hb o.type
  unfold Oper.wp
  simp [execOp, hop, resolve, invoke, builtin, hv, hv', h1, Result.andThen]
  exact h A2 c2 w2 h2 h3 h4
end Go.Proofs.Ytmbmmpbfmakfbaa
/- A drawn region whose operations make memory of their own and change none that was there: whatever the order, each slot holds in the end what it holds in the text's order; a slot may be known by a relation alone. -/
set_option linter.unusedVariables false
namespace Go.Proofs.Ytmbmmpbfmakfbaa
open Go Go.RowKit

abbrev Rl := Value → World → Prop
def StableR (p : Rl) : Prop := ∀ u w w', p u w → Below w.heap.size w w' → p u w'
def YldR (P : Program) (S : World → Prop) (p : Rl) (w0 : World) : Result Next → Prop
  | .ok (.value u) w' => p u w' ∧ S w' ∧ Below w0.heap.size w0 w'
  | .ok (.enter f args) w' => Calls P f args w' fun e w'' => ∃ u, e = .returned u ∧ p u w'' ∧ S w'' ∧ Below w0.heap.size w0 w''
  | _ => False
def OpR (P : Program) (ops : Array Oper) (S : World → Prop) (R : Tmp → Rl) (o : Oper) (p : Rl) : Prop :=
  ∀ (a : Act) (w : World), S w → (∀ t ∈ o.looksAt ops, R t (a.tmps.getD t undef) w) →
    (Region.wanted o (yielded ops a.tmps) = true ∧ YldR P S p w ((execOp a.eval o).run P w)) ∨ (Region.wanted o (yielded ops a.tmps) = false ∧ p undef w)
def dstR (R : Tmp → Rl) (o : Oper) : Rl := match o.dst with | some d => R d | none => fun _ _ => True

theorem countP_drop (f : Nat → Bool) (i : Nat) : ∀ l : List Nat, l.Nodup → i ∈ l → f i = true → l.countP (fun j => f j && j != i) + 1 = l.countP f
  | [], _, h, _ => by cases h
  | x :: l, hn, h, hf => by
    obtain ⟨hx, hn'⟩ := List.nodup_cons.1 hn
    by_cases hxi : x = i
    · subst hxi
      have e : l.countP (fun j => f j && j != x) = l.countP f := List.countP_congr fun j hj => by
        have : j ≠ x := fun e => hx (e ▸ hj)
        simp [this]
      rw [List.countP_cons_of_neg (by simp), List.countP_cons_of_pos hf, e]
    · have h' : i ∈ l := by rcases List.mem_cons.1 h with h | h; exact absurd h.symm hxi; exact h
      have ih := countP_drop f i l hn' h' hf
      by_cases hfx : f x = true
      · rw [List.countP_cons_of_pos (by simp [hfx, hxi]), List.countP_cons_of_pos hfx]; omega
      · rw [List.countP_cons_of_neg (by simp [hfx]), List.countP_cons_of_neg hfx]; exact ih

def unl (n : Nat) (listed : Array Bool) : Nat := (List.range n).countP fun j => !listed.getD j true
theorem unl_set {n i : Nat} {listed : Array Bool} (hi : i < n) (h : listed.getD i true = false) : unl n (listed.setIfInBounds i true) + 1 = unl n listed := by
  unfold unl
  rw [← countP_drop (fun j => !listed.getD j true) i (List.range n) List.nodup_range (List.mem_range.2 hi) (by rw [h]; rfl)]
  congr 1
  refine List.countP_congr fun j _ => ?_
  by_cases hj : i = j
  · subst hj
    have : i < listed.size := by
      rcases Nat.lt_or_ge i listed.size with h' | h'
      · exact h'
      · simp [Array.getElem?_eq_none h'] at h
    simp [this]
  · rw [getD_set_ne true hj]
    simp [Ne.symm hj]

/-- The edges of a region: each points back; whoever looks at a slot that another one writes waits for it. -/
def looseB (ops : Array Oper) (N : Nat) : Bool :=
  Region.noSelect ops && (List.range ops.size).all fun i => match ops[i]? with
    | none => true
    | some o => (match o.dst with | some d => decide (d < N) | none => true) && o.after.all (fun e => !Region.binds .any e || decide (e.on < i)) &&
      (o.looksAt ops).all fun t => decide (t < N) && (List.range ops.size).all fun j => match ops[j]? with
        | none => true
        | some oj => oj.dst != some t || o.after.any fun e => Region.binds .any e && e.on == j

section
variable {P : Program} {ops : Array Oper} {Q : Exit → Act → World → Prop} {S : World → Prop}
theorem looseB_spec {N : Nat} (h : looseB ops N = true) : Region.noSelect ops = true ∧ ∀ (i : Nat) (o : Oper), ops[i]? = some o → (∀ d, o.dst = some d → d < N) ∧ (∀ e ∈ o.after, Region.binds .any e = true → e.on < i) ∧
    ∀ t ∈ o.looksAt ops, t < N ∧ ∀ (j : Nat) (oj : Oper), ops[j]? = some oj → oj.dst = some t → ∃ e ∈ o.after, Region.binds .any e = true ∧ e.on = j := by
  simp only [looseB, Bool.and_eq_true, List.all_eq_true, List.mem_range] at h
  refine ⟨h.1, fun i o ho => ?_⟩
  have hi := (Array.getElem?_eq_some_iff.1 ho).1
  have h1 := h.2 i hi
  rw [ho] at h1
  simp only [Bool.and_eq_true, List.all_eq_true, List.mem_range] at h1
  obtain ⟨⟨h2, h3⟩, h4⟩ := h1
  refine ⟨fun d hd => ?_, fun e he hb => ?_, fun t ht => ?_⟩
  · rw [hd] at h2; simpa using h2
  · rw [Array.all_eq_true_iff_forall_mem] at h3
    have := h3 e he
    simp only [hb, Bool.not_true, Bool.false_or, decide_eq_true_eq] at this
    exact this
  · have h5 := h4 t ht
    refine ⟨by simpa using h5.1, fun j oj hj hd => ?_⟩
    have h6 := h5.2 j (Array.getElem?_eq_some_iff.1 hj).1
    rw [hj] at h6
    simp only [hd, bne_self_eq_false, Bool.false_or] at h6
    rw [Array.any_eq_true] at h6
    obtain ⟨k, hk, h7⟩ := h6
    simp only [Bool.and_eq_true, beq_iff_eq] at h7
    exact ⟨_, Array.getElem_mem hk, h7.1, h7.2⟩

theorem OpR.wpOp {i : Nat} {o : Oper} {p : Rl} {a : Act} {w : World} (hi : ops[i]? = some o)
    (h : (Region.wanted o (yielded ops a.tmps) = true ∧ YldR P S p w ((execOp a.eval o).run P w)) ∨ (Region.wanted o (yielded ops a.tmps) = false ∧ p undef w)) (hS : S w)
    {K : Act → World → Prop} (hk : ∀ u w', p u w' → S w' → Below w.heap.size w w' → K (a.put o.dst u) w') : wpOp P ops Q i K a w := by
  unfold Go.wpOp
  simp only [hi]
  rcases h with ⟨hw, h1⟩ | ⟨hw, h1⟩
  · simp only [hw, if_true]
    refine .inl ?_
    unfold Oper.wp
    generalize (execOp a.eval o).run P w = r at h1
    cases r with
    | ok n w' =>
      cases n <;> simp only [YldR] at h1 <;> simp only [Oper.upon]
      case value u => exact hk _ _ h1.1 h1.2.1 h1.2.2
      case enter f args =>
        refine h1.mono ?_
        rintro e w'' ⟨u, rfl, h2, h3, h4⟩
        exact hk _ _ h2 h3 h4
    | halt x w' => simp only [YldR] at h1
  · simp only [hw, Bool.false_eq_true, if_false]; exact hk _ _ h1 hS (Below.refl _ _)

/-- A slot that somebody has still to write. -/
def Pend (ops : Array Oper) (listed : Array Bool) (t : Tmp) : Prop := ∃ (j : Nat) (o : Oper), ops[j]? = some o ∧ o.dst = some t ∧ listed.getD j true = false

theorem loose_any {N : Nat} {ds : List Deferred} (hB : looseB ops N = true) (R : Tmp → Rl) (hst : ∀ t, StableR (R t)) (hops : ∀ (i : Nat) (o : Oper), ops[i]? = some o → OpR P ops S R o (dstR R o))
    (hQ : ∀ a w, S w → a.tmps.size = N → a.defers = ds → (∀ t, t < N → R t (a.tmps.getD t undef) w) → Q .normal a w) :
    ∀ (fuel : Nat) (listed : Array Bool) (a : Act) (w : World), unl ops.size listed = fuel → S w → a.tmps.size = N → a.defers = ds → (∀ t, t < N → ¬ Pend ops listed t → R t (a.tmps.getD t undef) w) → wpAny P .any ops Q fuel listed a w := by
  obtain ⟨hns, hsp⟩ := looseB_spec hB
  have hend : ∀ (listed : Array Bool), Region.ready .any ops listed = [] → ∀ n i, i ≤ n → i < ops.size → listed.getD i true = true := by
    intro listed hr n
    induction n with
    | zero =>
      intro i hi hlt
      obtain rfl : i = 0 := by omega
      cases hl : listed.getD 0 true with
      | true => rfl
      | false =>
        have : 0 ∈ Region.ready .any ops listed := mem_ready.2 ⟨hl, _, Array.getElem?_eq_getElem hlt, fun e he hb => absurd ((hsp 0 _ (Array.getElem?_eq_getElem hlt)).2.1 e he hb) (by omega)⟩
        rw [hr] at this; cases this
    | succ n ih =>
      intro i hi hlt
      rcases Nat.lt_or_ge n i with h | h
      · obtain rfl : i = n + 1 := by omega
        cases hl : listed.getD (n + 1) true with
        | true => rfl
        | false =>
          have : n + 1 ∈ Region.ready .any ops listed := mem_ready.2 ⟨hl, _, Array.getElem?_eq_getElem hlt, fun e he hb => by
            have h1 := (hsp (n + 1) _ (Array.getElem?_eq_getElem hlt)).2.1 e he hb
            have h2 := ih e.on (by omega) (by omega)
            rcases Nat.lt_or_ge e.on listed.size with h' | h'
            · simpa [h'] using h2
            · exfalso
              have : listed.getD (n + 1) true = true := by simp [Array.getElem?_eq_none (show listed.size ≤ n + 1 by omega)]
              rw [hl] at this; cases this⟩
          rw [hr] at this; cases this
      · exact ih i h hlt
  have hfin : ∀ (listed : Array Bool) (a : Act) (w : World), Region.ready .any ops listed = [] → S w → a.tmps.size = N → a.defers = ds → (∀ t, t < N → ¬ Pend ops listed t → R t (a.tmps.getD t undef) w) → Q .normal a w := by
    intro listed a w hr hS hsz hds hR
    refine hQ a w hS hsz hds fun t ht => hR t ht ?_
    rintro ⟨j, o, hj, _, hl⟩
    have hlt := (Array.getElem?_eq_some_iff.1 hj).1
    have := hend listed hr j j (Nat.le_refl _) hlt
    rw [hl] at this; cases this
  intro fuel
  induction fuel with
  | zero =>
    intro listed a w hu hS hsz hds hR
    have hr : Region.ready .any ops listed = [] := by
      cases h : Region.ready .any ops listed with
      | nil => rfl
      | cons i l =>
        exfalso
        have hi : i ∈ Region.ready .any ops listed := by rw [h]; simp
        obtain ⟨h0, o, ho, _⟩ := mem_ready.1 hi
        have := unl_set (Array.getElem?_eq_some_iff.1 ho).1 h0
        omega
    exact ⟨hr, hfin listed a w hr hS hsz hds hR⟩
  | succ fuel ih =>
    intro listed a w hu hS hsz hds hR
    refine ⟨fun hr => hfin listed a w hr hS hsz hds hR, fun i hi => ?_⟩
    obtain ⟨h0, o, ho, hall⟩ := mem_ready.1 hi
    obtain ⟨hd1, hd2, hd3⟩ := hsp i o ho
    have hlt := (Array.getElem?_eq_some_iff.1 ho).1
    have hop := hops i o ho a w hS (fun t ht => hR t (hd3 t ht).1 (by
      rintro ⟨j, oj, hj, hdj, hl⟩
      obtain ⟨e, he, hb, rfl⟩ := (hd3 t ht).2 j oj hj hdj
      have h1 := hall e he hb
      rcases Nat.lt_or_ge e.on listed.size with h' | h'
      · simp [h'] at h1 hl; rw [hl] at h1; cases h1
      · simp [Array.getElem?_eq_none h'] at hl))
    refine OpR.wpOp ho hop hS fun u w' hp hS' hb => ?_
    refine ih _ _ _ (by have := unl_set hlt h0; omega) hS' ?_ ?_ ?_
    · cases o.dst <;> simp [Act.put, hsz]
    · cases o.dst <;> simp [Act.put, hds]
    · intro t ht hnp
      by_cases hdt : o.dst = some t
      · have e : (a.put o.dst u).tmps.getD t undef = u := by rw [hdt]; simp [Act.put, hsz, ht]
        rw [e]
        simpa [dstR, hdt] using hp
      · have e : (a.put o.dst u).tmps.getD t undef = a.tmps.getD t undef := by
          cases hd : o.dst with
          | none => rfl
          | some d =>
            have : d ≠ t := fun e => hdt (by rw [hd, e])
            simp [Act.put, Array.getElem?_setIfInBounds_ne this]
        rw [e]
        refine hst t _ _ _ (hR t ht ?_) hb
        rintro ⟨j, oj, hj, hdj, hl⟩
        refine hnp ⟨j, oj, hj, hdj, ?_⟩
        have hji : i ≠ j := fun e => by
          subst e; rw [ho] at hj; cases hj; exact hdt hdj
        rw [getD_set_ne true hji]; exact hl
end
/-! ### Along the list of the region's operations -/
abbrev Env := List (Tmp × Rl)
def look : Env → Tmp → Option Rl
  | [], _ => none
  | (d, p) :: E, t => cond (Nat.beq d t) (some p) (look E t)
def Rt (V : Array Value) (E : Env) (t : Tmp) : Rl := match look E t with | some p => p | none => fun u _ => u = V.getD t undef
def putV (V : Array Value) (d : Option Tmp) (v : Value) : Array Value := match d with | some d => V.setIfInBounds d v | none => V
def dfree (E : Env) (o : Oper) : Bool := match o.dst with | some d => (look E d).isNone | none => true
def notSel (o : Oper) : Bool := match o.op with | .select .. => false | _ => true
def okL (ops : Array Oper) : List Oper → Bool
  | [] => true
  | o :: rest => (o.looksAt ops).all (fun t => (o :: rest).all fun o' => o'.dst != some t) && (match o.dst with | some d => rest.all fun o' => o'.dst != some d | none => true) && okL ops rest
theorem look_ne {E : Env} {d t : Tmp} {p : Rl} (h : d ≠ t) : look ((d, p) :: E) t = look E t := by
  have : Nat.beq d t = false := by rw [Bool.eq_false_iff]; intro e; exact h (Nat.eq_of_beq_eq_true e)
  simp [look, this]
theorem look_same {E : Env} {d : Tmp} {p : Rl} : look ((d, p) :: E) d = some p := by simp [look]
theorem Rt_put_ne {V : Array Value} {E : Env} {d : Option Tmp} {t : Tmp} {v : Value} (h : d ≠ some t) : Rt (putV V d v) E t = Rt V E t := by
  unfold Rt
  cases look E t with
  | some p => rfl
  | none =>
    cases d with
    | none => rfl
    | some d => 
      have : d ≠ t := fun e => h (by rw [e])
      simp [putV, Array.getElem?_setIfInBounds_ne this]

section
variable (P : Program) (ops : Array Oper) (Q : Exit → Act → World → Prop) (S : World → Prop) (N : Nat) (ds : List Deferred)
def looseL : List Oper → Array Value → Env → Prop
  | [], V, E => ∀ (a : Act) (w : World), S w → a.tmps.size = N → a.defers = ds → (∀ t, t < N → Rt V E t (a.tmps.getD t undef) w) → Q .normal a w
  | o :: rest, V, E => (∃ v, OpR P ops S (Rt V E) o (fun u _ => u = v) ∧ dfree E o = true ∧ looseL rest (putV V o.dst v) E) ∨
      (∃ d p, o.dst = some d ∧ StableR p ∧ OpR P ops S (Rt V E) o p ∧ looseL rest V ((d, p) :: E))
end
section
variable {P : Program} {ops : Array Oper} {Q : Exit → Act → World → Prop} {S : World → Prop} {N : Nat} {ds : List Deferred}
theorem OpR.of {R R' : Tmp → Rl} {o : Oper} {p p' : Rl} (h : OpR P ops S R o p) (hR : ∀ t ∈ o.looksAt ops, R' t = R t) (hp : ∀ u w, p u w → p' u w) : OpR P ops S R' o p' := by
  intro a w hS hk
  rcases h a w hS (fun t ht => by rw [← hR t ht]; exact hk t ht) with ⟨h1, h2⟩ | ⟨h1, h2⟩
  · refine .inl ⟨h1, ?_⟩
    generalize (execOp a.eval o).run P w = r at h2
    cases r with
    | ok n w' =>
      cases n <;> simp only [YldR] at h2 ⊢
      case value u => exact ⟨hp _ _ h2.1, h2.2⟩
      case enter f args =>
        refine h2.mono ?_
        rintro e w'' ⟨u, rfl, h3, h4⟩
        exact ⟨u, rfl, hp _ _ h3, h4⟩
    | halt x w' => simp only [YldR] at h2
  · exact .inr ⟨h1, hp _ _ h2⟩
theorem stable_eq (v : Value) : StableR (fun u _ => u = v) := fun u w w' h _ => h
theorem stable_Rt {V : Array Value} {E : Env} (hE : ∀ t p, look E t = some p → StableR p) (t : Tmp) : StableR (Rt V E t) := by
  unfold Rt
  cases e : look E t with
  | some p => exact hE t p e
  | none => exact stable_eq _
theorem loose_list : ∀ (l : List Oper) (V : Array Value) (E : Env), okL ops l = true → V.size = N → (∀ o ∈ l, ∀ d, o.dst = some d → d < N) → (∀ t p, look E t = some p → StableR p) → looseL P ops Q S N ds l V E →
    ∃ R : Tmp → Rl, (∀ t, (∀ o ∈ l, o.dst ≠ some t) → R t = Rt V E t) ∧ (∀ o ∈ l, OpR P ops S R o (dstR R o)) ∧ (∀ t, StableR (R t)) ∧
      (∀ (a : Act) (w : World), S w → a.tmps.size = N → a.defers = ds → (∀ t, t < N → R t (a.tmps.getD t undef) w) → Q .normal a w)
  | [], V, E, _, _, _, hE, h => ⟨Rt V E, fun _ _ => rfl, (fun o ho => absurd ho (by simp)), stable_Rt hE, h⟩
  | o :: rest, V, E, hok, hV, hdN, hE, h => by
    simp only [okL, Bool.and_eq_true, List.all_eq_true] at hok
    obtain ⟨⟨hlk, hdu⟩, hok'⟩ := hok
    have hlk' : ∀ t ∈ o.looksAt ops, ∀ o' ∈ o :: rest, o'.dst ≠ some t := fun t ht o' ho' => by
      have := hlk t ht o' ho'
      simpa using this
    have hdu' : ∀ d, o.dst = some d → ∀ o' ∈ rest, o'.dst ≠ some d := fun d hd o' ho' => by
      rw [hd] at hdu
      simp only [List.all_eq_true] at hdu
      simpa using hdu o' ho'
    have hdN' : ∀ o ∈ rest, ∀ d, o.dst = some d → d < N := fun o ho => hdN o (List.mem_cons_of_mem _ ho)
    rcases h with ⟨v, hop, hdf, hl⟩ | ⟨d, p, hd, hst, hop, hl⟩
    · obtain ⟨R, h1, h2, h3, h4⟩ := loose_list rest (putV V o.dst v) E hok' (by unfold putV; cases o.dst <;> simp [hV]) hdN' hE hl
      refine ⟨R, fun t ht => ?_, fun o' ho' => ?_, h3, h4⟩
      · rw [h1 t (fun o' ho' => ht o' (List.mem_cons_of_mem _ ho')), Rt_put_ne (ht o (List.mem_cons_self ..))]
      · rcases List.mem_cons.1 ho' with rfl | ho'
        · refine hop.of (fun t ht => ?_) (fun u w hu => ?_)
          · rw [h1 t (fun o'' ho'' => hlk' t ht o'' (List.mem_cons_of_mem _ ho'')), Rt_put_ne (hlk' t ht _ (List.mem_cons_self ..))]
          · unfold dstR
            cases hd : o'.dst with
            | none => trivial
            | some d =>
              simp only []
              rw [h1 d (hdu' d hd)]
              have hlt : d < V.size := by rw [hV]; exact hdN o' (List.mem_cons_self ..) d hd
              have hn : look E d = none := by simpa [dfree, hd] using hdf
              unfold Rt
              rw [hn]
              simp only [hd, putV]
              rw [hu]
              simp [hlt]
        · exact h2 o' ho'
    · obtain ⟨R, h1, h2, h3, h4⟩ := loose_list rest V ((d, p) :: E) hok' hV hdN' (fun t q hq => by
        by_cases e : d = t
        · subst e; rw [look_same] at hq; cases hq; exact hst
        · rw [look_ne e] at hq; exact hE t q hq) hl
      have hRt : ∀ t, d ≠ t → Rt V ((d, p) :: E) t = Rt V E t := fun t e => by unfold Rt; rw [look_ne e]
      refine ⟨R, fun t ht => ?_, fun o' ho' => ?_, h3, h4⟩
      · rw [h1 t (fun o' ho' => ht o' (List.mem_cons_of_mem _ ho')), hRt t (fun e => ht o (List.mem_cons_self ..) (by rw [hd, e]))]
      · rcases List.mem_cons.1 ho' with rfl | ho'
        · refine hop.of (fun t ht => ?_) (fun u w hu => ?_)
          · rw [h1 t (fun o'' ho'' => hlk' t ht o'' (List.mem_cons_of_mem _ ho'')), hRt t (fun e => hlk' t ht _ (List.mem_cons_self ..) (by rw [hd, e]))]
          · unfold dstR
            rw [hd]
            simp only []
            rw [h1 d (hdu' d hd)]
            unfold Rt
            rw [look_same]
            exact hu
        · exact h2 o' ho'

/-- The beginning. -/
theorem wp_region_loose {id : Nat} {l : List Oper} {a : Act} {w : World} (S : World → Prop) (hm : P.follows .mixedOrders = true) (hB : looseB l.toArray a.tmps.size = true) (hL : okL l.toArray l = true) (hS : S w.drew)
    (h : looseL P l.toArray Q S a.tmps.size a.defers l a.tmps []) : (Code.region id l.toArray true).wp P Q a w := by
  obtain ⟨_, hsp⟩ := looseB_spec hB
  obtain ⟨R, h1, h2, h3, h4⟩ := loose_list l a.tmps [] hL rfl (fun o ho d hd => by
    obtain ⟨i, hi⟩ := List.getElem?_of_mem ho
    exact (hsp i o (by simpa using hi)).1 d hd) (fun t p hp => by cases hp) h
  refine wp_region_any hm (loose_any hB R h3 (fun i o ho => h2 o (by simpa using Array.mem_of_getElem? ho)) h4 _ _ a w.drew ?_ hS rfl rfl fun t ht hnp => ?_)
  · unfold unl
    rw [List.countP_eq_length.2 (fun j hj => by
      have := List.mem_range.1 hj
      simp at this
      simp [this])]
    simp
  · rw [h1 t (fun o ho hd => hnp ?_)]
    · rfl
    · obtain ⟨i, hi⟩ := List.getElem?_of_mem ho
      have hlt := (List.getElem?_eq_some_iff.1 hi).1
      exact ⟨i, o, by simpa using hi, hd, by simp [hlt]⟩
end

/-! ### Steps -/
def gslots (ops : Array Oper) (o : Oper) : List Tmp := match o.guard with | some (g, _) => ((ops[g]?).bind (·.dst)).toList | none => []
def RtO (V : Array Value) (E : Env) (x : Operand) : Rl := match x with | .tmp t => Rt V E t | x => fun u _ => u = (⟨V, []⟩ : Act).eval x
section
variable {P : Program} {ops : Array Oper} {Q : Exit → Act → World → Prop} {S : World → Prop} {N : Nat} {ds : List Deferred} {V : Array Value} {E : Env} {o : Oper} {rest : List Oper}
theorem Rt_none {t : Tmp} {u : Value} {w : World} (hn : (look E t).isNone = true) (h : Rt V E t u w) : u = V.getD t undef := by
  unfold Rt at h
  cases e : look E t with
  | some p => rw [e] at hn; cases hn
  | none => rw [e] at h; exact h
theorem exec_agree {a : Act} (hs : notSel o = true) (h : ∀ t ∈ o.looksAt ops, a.tmps.getD t undef = V.getD t undef) : execOp a.eval o = execOp (⟨V, []⟩ : Act).eval o :=
  execOp_congr o (fun cs b e => by rw [notSel, e] at hs; cases hs) fun x hx => by
    cases x with
    | tmp t => exact h t (List.mem_append_left _ (List.mem_filterMap.2 ⟨.tmp t, by simpa using hx, rfl⟩))
    | _ => rfl
theorem gslots_in {t : Tmp} (h : t ∈ gslots ops o) : t ∈ o.looksAt ops := List.mem_append_right _ h
theorem yielded_agree {A B : Array Value} {g : Nat} (h : ∀ t, (ops[g]?).bind (·.dst) = some t → A.getD t undef = B.getD t undef) : yielded ops A g = yielded ops B g := by
  have key : ∀ (C : Array Value), yielded ops C g = match (ops[g]?).bind (·.dst) with | some t => (match C.getD t undef with | .bool b => some b | _ => none) | none => none := by
    intro C
    unfold yielded
    cases (ops[g]?).bind (·.dst) with
    | none => rfl
    | some t =>
      simp only [Option.bind_some, Array.getD_eq_getD_getElem?]
      cases C[t]? with
      | none => rfl
      | some v => cases v <;> rfl
  rw [key, key]
  cases e : (ops[g]?).bind (·.dst) with
  | none => rfl
  | some t => simp only []; rw [h t e]
theorem wanted_agree {a : Act} {w : World} (hg : (gslots ops o).all (fun t => (look E t).isNone) = true) (hk : ∀ t ∈ o.looksAt ops, Rt V E t (a.tmps.getD t undef) w) : Region.wanted o (yielded ops a.tmps) = Region.wanted o (yielded ops V) := by
  unfold Region.wanted
  cases e : o.guard with
  | none => rfl
  | some gw =>
    obtain ⟨g, want⟩ := gw
    have : yielded ops a.tmps g = yielded ops V g := yielded_agree fun t ht => by
      have hm : t ∈ gslots ops o := by simp [gslots, e, ht]
      exact Rt_none (List.all_eq_true.1 hg t hm) (hk t (gslots_in hm))
    simp only [this]
theorem hin (a : Act) (w : World) (hk : ∀ t ∈ o.looksAt ops, Rt V E t (a.tmps.getD t undef) w) (y : Operand) (hy : y ∈ o.op.operands.toList) : RtO V E y (a.eval y) w := by
  cases y with
  | tmp t => exact hk t (List.mem_append_left _ (List.mem_filterMap.2 ⟨.tmp t, hy, rfl⟩))
  | _ => rfl

theorem looseL_nil (h : ∀ (a : Act) (w : World), S w → a.tmps.size = N → a.defers = ds → (∀ t, t < N → Rt V E t (a.tmps.getD t undef) w) → Q .normal a w) : looseL P ops Q S N ds [] V E := h
theorem looseL_val {v : Value} (hlk : (o.looksAt ops).all (fun t => (look E t).isNone) = true) (hs : notSel o = true) (hd : dfree E o = true) (hw : Region.wanted o (yielded ops V) = true)
    (hv : ∀ w, S w → (execOp (⟨V, []⟩ : Act).eval o).run P w = .ok (.value v) w) (h : looseL P ops Q S N ds rest (putV V o.dst v) E) : looseL P ops Q S N ds (o :: rest) V E :=
  .inl ⟨v, fun a w hS hk => .inl ⟨(wanted_agree (List.all_eq_true.2 fun t ht => List.all_eq_true.1 hlk t (gslots_in ht)) hk).trans hw, by
    rw [exec_agree hs fun t ht => Rt_none (List.all_eq_true.1 hlk t ht) (hk t ht), hv w hS]
    exact ⟨rfl, hS, Below.refl _ _⟩⟩, hd, h⟩
theorem looseL_skip (hg : (gslots ops o).all (fun t => (look E t).isNone) = true) (hd : dfree E o = true) (hw : Region.wanted o (yielded ops V) = false) (h : looseL P ops Q S N ds rest (putV V o.dst undef) E) : looseL P ops Q S N ds (o :: rest) V E :=
  .inl ⟨undef, fun a w hS hk => .inr ⟨(wanted_agree hg hk).trans hw, rfl⟩, hd, h⟩
theorem looseL_row (hlk : (o.looksAt ops).all (fun t => (look E t).isNone) = true) (hs : notSel o = true) (hd : dfree E o = true) (hw : Region.wanted o (yielded ops V) = true) (ty : TypeId) (x : Operand) (ho : o.op = .load ty x) (g : Nat) (hx : (⟨V, []⟩ : Act).eval x = .pointer (some ⟨g, 0, none⟩)) (t : TypeId) (cs : Array Value) (fr : Nat × Nat) (d : TypeDesc) (hh : ∀ w, S w → w.heap[g]? = some (.cells cs t fr))
    (hu : P.underlying ty = some d) (hdd : (match d with | .struct _ | .array _ _ => true | _ => false) = true) (hi : (P.info? ty).map (·.size) = some cs.size) (h : looseL P ops Q S N ds rest (putV V o.dst (.agg cs)) E) : looseL P ops Q S N ds (o :: rest) V E :=
  looseL_val hlk hs hd hw (fun w hS => by
    unfold execOp
    simp only [ho, hx, Instr.loadAt, Instr.sureAddr, Sem.run_bind, Sem.run_pure, Result.andThen_ok, run_loadVar_row w g t ty cs fr d (hh w hS) hu hdd hi]) h
theorem looseL_call0 {v : Value} (hg : (gslots ops o).all (fun t => (look E t).isNone) = true) (hw : Region.wanted o (yielded ops V) = true) (fn : Nat) (T : Array TypeId) (hop : o.op = .call { callee := .value (.func fn), args := #[], argTypes := T }) (hcf : ∀ args w, (callFunc fn args).run P w = .ok (.enter fn args) w)
    (hd : dfree E o = true) (hc : ∀ w, S w → Calls P fn #[] w fun e w' => e = .returned v ∧ S w' ∧ Below w.heap.size w w') (h : looseL P ops Q S N ds rest (putV V o.dst v) E) : looseL P ops Q S N ds (o :: rest) V E :=
  .inl ⟨v, fun a w hS hk => .inl ⟨(wanted_agree hg hk).trans hw, by
    rw [exec_call0 fn hcf T hop w]
    exact (hc w hS).mono fun e w' ⟨h1, h3, h4⟩ => ⟨v, h1, rfl, h3, h4⟩⟩, hd, h⟩
theorem looseL_call0E {d : Tmp} (p : Rl) (hg : (gslots ops o).all (fun t => (look E t).isNone) = true) (hw : Region.wanted o (yielded ops V) = true) (fn : Nat) (T : Array TypeId) (hop : o.op = .call { callee := .value (.func fn), args := #[], argTypes := T }) (hcf : ∀ args w, (callFunc fn args).run P w = .ok (.enter fn args) w)
    (hd : o.dst = some d) (hst : StableR p) (hc : ∀ w, S w → Calls P fn #[] w fun e w' => (∃ u, e = .returned u ∧ p u w') ∧ S w' ∧ Below w.heap.size w w') (h : looseL P ops Q S N ds rest V ((d, p) :: E)) : looseL P ops Q S N ds (o :: rest) V E :=
  .inr ⟨d, p, hd, hst, fun a w hS hk => .inl ⟨(wanted_agree hg hk).trans hw, by
    rw [exec_call0 fn hcf T hop w]
    exact (hc w hS).mono fun e w' ⟨⟨u, h1, h2⟩, h3, h4⟩ => ⟨u, h1, h2, h3, h4⟩⟩, h⟩
theorem looseL_call1 {v : Value} (hg : (gslots ops o).all (fun t => (look E t).isNone) = true) (hw : Region.wanted o (yielded ops V) = true) (fn : Nat) (x : Operand) (T : Array TypeId) (hop : o.op = .call { callee := .value (.func fn), args := #[x], argTypes := T }) (hcf : ∀ args w, (callFunc fn args).run P w = .ok (.enter fn args) w)
    (hd : dfree E o = true) (hc : ∀ (vx : Value) w, S w → RtO V E x vx w → Calls P fn #[vx] w fun e w' => e = .returned v ∧ S w' ∧ Below w.heap.size w w') (h : looseL P ops Q S N ds rest (putV V o.dst v) E) : looseL P ops Q S N ds (o :: rest) V E :=
  .inl ⟨v, fun a w hS hk => .inl ⟨(wanted_agree hg hk).trans hw, by
    rw [exec_call1 fn hcf x T hop rfl w]
    exact (hc _ w hS (hin a w hk x (by simp [Op.operands, Call.operands, hop]))).mono fun e w' ⟨h1, h3, h4⟩ => ⟨v, h1, rfl, h3, h4⟩⟩, hd, h⟩
theorem looseL_call1E {d : Tmp} (p : Rl) (hg : (gslots ops o).all (fun t => (look E t).isNone) = true) (hw : Region.wanted o (yielded ops V) = true) (fn : Nat) (x : Operand) (T : Array TypeId) (hop : o.op = .call { callee := .value (.func fn), args := #[x], argTypes := T }) (hcf : ∀ args w, (callFunc fn args).run P w = .ok (.enter fn args) w)
    (hd : o.dst = some d) (hst : StableR p) (hc : ∀ (vx : Value) w, S w → RtO V E x vx w → Calls P fn #[vx] w fun e w' => (∃ u, e = .returned u ∧ p u w') ∧ S w' ∧ Below w.heap.size w w') (h : looseL P ops Q S N ds rest V ((d, p) :: E)) : looseL P ops Q S N ds (o :: rest) V E :=
  .inr ⟨d, p, hd, hst, fun a w hS hk => .inl ⟨(wanted_agree hg hk).trans hw, by
    rw [exec_call1 fn hcf x T hop rfl w]
    exact (hc _ w hS (hin a w hk x (by simp [Op.operands, Call.operands, hop]))).mono fun e w' ⟨⟨u, h1, h2⟩, h3, h4⟩ => ⟨u, h1, h2, h3, h4⟩⟩, h⟩
theorem looseL_call2 {v : Value} (hg : (gslots ops o).all (fun t => (look E t).isNone) = true) (hw : Region.wanted o (yielded ops V) = true) (fn : Nat) (x y : Operand) (T : Array TypeId) (hop : o.op = .call { callee := .value (.func fn), args := #[x, y], argTypes := T }) (hcf : ∀ args w, (callFunc fn args).run P w = .ok (.enter fn args) w)
    (hd : dfree E o = true) (hc : ∀ (vx vy : Value) w, S w → RtO V E x vx w → RtO V E y vy w → Calls P fn #[vx, vy] w fun e w' => e = .returned v ∧ S w' ∧ Below w.heap.size w w') (h : looseL P ops Q S N ds rest (putV V o.dst v) E) : looseL P ops Q S N ds (o :: rest) V E :=
  .inl ⟨v, fun a w hS hk => .inl ⟨(wanted_agree hg hk).trans hw, by
    rw [exec_call2 fn hcf x y T hop rfl rfl w]
    exact (hc _ _ w hS (hin a w hk x (by simp [Op.operands, Call.operands, hop])) (hin a w hk y (by simp [Op.operands, Call.operands, hop]))).mono fun e w' ⟨h1, h3, h4⟩ => ⟨v, h1, rfl, h3, h4⟩⟩, hd, h⟩
theorem looseL_call2E {d : Tmp} (p : Rl) (hg : (gslots ops o).all (fun t => (look E t).isNone) = true) (hw : Region.wanted o (yielded ops V) = true) (fn : Nat) (x y : Operand) (T : Array TypeId) (hop : o.op = .call { callee := .value (.func fn), args := #[x, y], argTypes := T }) (hcf : ∀ args w, (callFunc fn args).run P w = .ok (.enter fn args) w)
    (hd : o.dst = some d) (hst : StableR p) (hc : ∀ (vx vy : Value) w, S w → RtO V E x vx w → RtO V E y vy w → Calls P fn #[vx, vy] w fun e w' => (∃ u, e = .returned u ∧ p u w') ∧ S w' ∧ Below w.heap.size w w') (h : looseL P ops Q S N ds rest V ((d, p) :: E)) : looseL P ops Q S N ds (o :: rest) V E :=
  .inr ⟨d, p, hd, hst, fun a w hS hk => .inl ⟨(wanted_agree hg hk).trans hw, by
    rw [exec_call2 fn hcf x y T hop rfl rfl w]
    exact (hc _ _ w hS (hin a w hk x (by simp [Op.operands, Call.operands, hop])) (hin a w hk y (by simp [Op.operands, Call.operands, hop]))).mono fun e w' ⟨⟨u, h1, h2⟩, h3, h4⟩ => ⟨u, h1, h2, h3, h4⟩⟩, h⟩
theorem looseL_call3 {v : Value} (hg : (gslots ops o).all (fun t => (look E t).isNone) = true) (hw : Region.wanted o (yielded ops V) = true) (fn : Nat) (x y z : Operand) (T : Array TypeId) (hop : o.op = .call { callee := .value (.func fn), args := #[x, y, z], argTypes := T }) (hcf : ∀ args w, (callFunc fn args).run P w = .ok (.enter fn args) w)
    (hd : dfree E o = true) (hc : ∀ (vx vy vz : Value) w, S w → RtO V E x vx w → RtO V E y vy w → RtO V E z vz w → Calls P fn #[vx, vy, vz] w fun e w' => e = .returned v ∧ S w' ∧ Below w.heap.size w w') (h : looseL P ops Q S N ds rest (putV V o.dst v) E) : looseL P ops Q S N ds (o :: rest) V E :=
  .inl ⟨v, fun a w hS hk => .inl ⟨(wanted_agree hg hk).trans hw, by
    rw [exec_call3 fn hcf x y z T hop rfl rfl rfl w]
    exact (hc _ _ _ w hS (hin a w hk x (by simp [Op.operands, Call.operands, hop])) (hin a w hk y (by simp [Op.operands, Call.operands, hop])) (hin a w hk z (by simp [Op.operands, Call.operands, hop]))).mono fun e w' ⟨h1, h3, h4⟩ => ⟨v, h1, rfl, h3, h4⟩⟩, hd, h⟩
theorem looseL_call3E {d : Tmp} (p : Rl) (hg : (gslots ops o).all (fun t => (look E t).isNone) = true) (hw : Region.wanted o (yielded ops V) = true) (fn : Nat) (x y z : Operand) (T : Array TypeId) (hop : o.op = .call { callee := .value (.func fn), args := #[x, y, z], argTypes := T }) (hcf : ∀ args w, (callFunc fn args).run P w = .ok (.enter fn args) w)
    (hd : o.dst = some d) (hst : StableR p) (hc : ∀ (vx vy vz : Value) w, S w → RtO V E x vx w → RtO V E y vy w → RtO V E z vz w → Calls P fn #[vx, vy, vz] w fun e w' => (∃ u, e = .returned u ∧ p u w') ∧ S w' ∧ Below w.heap.size w w') (h : looseL P ops Q S N ds rest V ((d, p) :: E)) : looseL P ops Q S N ds (o :: rest) V E :=
  .inr ⟨d, p, hd, hst, fun a w hS hk => .inl ⟨(wanted_agree hg hk).trans hw, by
    rw [exec_call3 fn hcf x y z T hop rfl rfl rfl w]
    exact (hc _ _ _ w hS (hin a w hk x (by simp [Op.operands, Call.operands, hop])) (hin a w hk y (by simp [Op.operands, Call.operands, hop])) (hin a w hk z (by simp [Op.operands, Call.operands, hop]))).mono fun e w' ⟨⟨u, h1, h2⟩, h3, h4⟩ => ⟨u, h1, h2, h3, h4⟩⟩, h⟩
theorem looseL_call4 {v : Value} (hg : (gslots ops o).all (fun t => (look E t).isNone) = true) (hw : Region.wanted o (yielded ops V) = true) (fn : Nat) (x y z u : Operand) (T : Array TypeId) (hop : o.op = .call { callee := .value (.func fn), args := #[x, y, z, u], argTypes := T }) (hcf : ∀ args w, (callFunc fn args).run P w = .ok (.enter fn args) w)
    (hd : dfree E o = true) (hc : ∀ (vx vy vz vu : Value) w, S w → RtO V E x vx w → RtO V E y vy w → RtO V E z vz w → RtO V E u vu w → Calls P fn #[vx, vy, vz, vu] w fun e w' => e = .returned v ∧ S w' ∧ Below w.heap.size w w') (h : looseL P ops Q S N ds rest (putV V o.dst v) E) : looseL P ops Q S N ds (o :: rest) V E :=
  .inl ⟨v, fun a w hS hk => .inl ⟨(wanted_agree hg hk).trans hw, by
    rw [exec_call4 fn hcf x y z u T hop rfl rfl rfl rfl w]
    exact (hc _ _ _ _ w hS (hin a w hk x (by simp [Op.operands, Call.operands, hop])) (hin a w hk y (by simp [Op.operands, Call.operands, hop])) (hin a w hk z (by simp [Op.operands, Call.operands, hop])) (hin a w hk u (by simp [Op.operands, Call.operands, hop]))).mono fun e w' ⟨h1, h3, h4⟩ => ⟨v, h1, rfl, h3, h4⟩⟩, hd, h⟩
theorem looseL_call4E {d : Tmp} (p : Rl) (hg : (gslots ops o).all (fun t => (look E t).isNone) = true) (hw : Region.wanted o (yielded ops V) = true) (fn : Nat) (x y z u : Operand) (T : Array TypeId) (hop : o.op = .call { callee := .value (.func fn), args := #[x, y, z, u], argTypes := T }) (hcf : ∀ args w, (callFunc fn args).run P w = .ok (.enter fn args) w)
    (hd : o.dst = some d) (hst : StableR p) (hc : ∀ (vx vy vz vu : Value) w, S w → RtO V E x vx w → RtO V E y vy w → RtO V E z vz w → RtO V E u vu w → Calls P fn #[vx, vy, vz, vu] w fun e w' => (∃ u, e = .returned u ∧ p u w') ∧ S w' ∧ Below w.heap.size w w') (h : looseL P ops Q S N ds rest V ((d, p) :: E)) : looseL P ops Q S N ds (o :: rest) V E :=
  .inr ⟨d, p, hd, hst, fun a w hS hk => .inl ⟨(wanted_agree hg hk).trans hw, by
    rw [exec_call4 fn hcf x y z u T hop rfl rfl rfl rfl w]
    exact (hc _ _ _ _ w hS (hin a w hk x (by simp [Op.operands, Call.operands, hop])) (hin a w hk y (by simp [Op.operands, Call.operands, hop])) (hin a w hk z (by simp [Op.operands, Call.operands, hop])) (hin a w hk u (by simp [Op.operands, Call.operands, hop]))).mono fun e w' ⟨⟨u, h1, h2⟩, h3, h4⟩ => ⟨u, h1, h2, h3, h4⟩⟩, h⟩
end
end Go.Proofs.Ytmbmmpbfmakfbaa
