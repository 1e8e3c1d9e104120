/- A drawn region all of whose operations yield, in every world that meets S, a value that is known ahead, and leave S: it goes like one walk in the text's order. -/
import Derived.Orders
import Derived.BigQuiet
import Derived.WalkKit
import Derived.Laws.Rows
set_option linter.unusedVariables false
namespace Go.Proofs.Ytipigcpenmcaoaa
open Go

section
variable {P : Program} {ops : Array Oper} {Q : Exit → Act → World → Prop} {md : Region.Mode} {S : World → Prop}

/-- The value v, or a call that returns v, in worlds that meet S. -/
def Yld (P : Program) (S : World → Prop) (v : Value) : Result Next → Prop
  | .ok (.value u) w' => u = v ∧ S w'
  | .ok (.enter f args) w' => Calls P f args w' fun e w'' => e = .returned v ∧ S w''
  | _ => False

def YieldsS (P : Program) (ops : Array Oper) (S : World → Prop) (o : Oper) (v : Value) (a : Act) : Prop :=
  (Region.wanted o (yielded ops a.tmps) = true ∧ ∀ w, S w → Yld P S v ((execOp a.eval o).run P w)) ∨ (Region.wanted o (yielded ops a.tmps) = false ∧ v = undef)

theorem YieldsS.wpOp {i : Nat} {o : Oper} {v : Value} {a : Act} (hi : ops[i]? = some o) (hy : YieldsS P ops S o v a) {K : Act → World → Prop} {w : World} (hS : S w) (h : ∀ w', S w' → K (a.put o.dst v) w') : wpOp P ops Q i K a w := by
  unfold Go.wpOp
  simp only [hi]
  rcases hy with ⟨hw, hv⟩ | ⟨hw, rfl⟩
  · simp only [hw, if_true]
    refine .inl ?_
    have h1 := hv w hS
    unfold Oper.wp
    generalize (execOp a.eval o).run P w = r at h1
    cases r with
    | ok n w' =>
      cases n <;> simp only [Yld] at h1 <;> simp only [Oper.upon]
      case value u => obtain ⟨rfl, h2⟩ := h1; exact h _ h2
      case enter f args =>
        refine h1.mono ?_
        rintro e w'' ⟨rfl, h2⟩
        exact h _ h2
    | halt x w' => simp only [Yld] at h1
  · simp only [hw, Bool.false_eq_true, if_false]; exact h _ hS

theorem YieldsS.of_same {o : Oper} {v : Value} {a a' : Act} (hy : YieldsS P ops S o v a) (he : execOp a'.eval o = execOp a.eval o)
    (hw : Region.wanted o (yielded ops a'.tmps) = Region.wanted o (yielded ops a.tmps)) : YieldsS P ops S o v a' := by
  unfold YieldsS at *
  rw [he, hw]
  exact hy

def wpT (P : Program) (md : Region.Mode) (ops : Array Oper) (Q : Exit → Act → World → Prop) (S : World → Prop) : Nat → Array Bool → Act → Prop
  | 0, listed, a => Region.ready md ops listed = [] ∧ ∀ w, S w → Q .normal a w
  | fuel + 1, listed, a => (Region.ready md ops listed = [] → ∀ w, S w → Q .normal a w) ∧
    ∀ i ∈ Region.ready md ops listed, ∃ o v, ops[i]? = some o ∧ YieldsS P ops S o v a ∧ wpT P md ops Q S fuel (listed.setIfInBounds i true) (a.put o.dst v)

theorem wpT_sound : ∀ (fuel : Nat) (listed : Array Bool) (a : Act), wpT P md ops Q S fuel listed a → ∀ w, S w → wpAny P md ops Q fuel listed a w
  | 0, _, _, h, w, hS => ⟨h.1, h.2 w hS⟩
  | fuel + 1, _, _, h, w, hS => ⟨fun h0 => h.1 h0 w hS, fun i hi => by
      obtain ⟨o, v, ho, hy, hk⟩ := h.2 i hi
      exact hy.wpOp ho hS fun w' hS' => wpT_sound fuel _ _ hk w' hS'⟩

theorem wpT_first {i : Nat} {oi : Oper} {v : Value} (hi : ops[i]? = some oi) (hsel : ∀ (j : Nat) (o : Oper) cs b, ops[j]? = some o → o.op ≠ .select cs b) :
    ∀ (fuel : Nat) (listed : Array Bool) (a : Act),
      (∀ j oj, ops[j]? = some oj → j ≠ i → listed.getD j true = false → (∀ e ∈ oj.after, Region.binds md e = true → e.on ≠ i) → oi.apart ops oj = true) →
      i ∈ Region.ready md ops listed → YieldsS P ops S oi v a →
      wpT P md ops Q S fuel (listed.setIfInBounds i true) (a.put oi.dst v) → wpT P md ops Q S (fuel + 1) listed a := by
  intro fuel
  induction fuel with
  | zero =>
    intro listed a _ hr hy H
    refine ⟨fun h => (by rw [h] at hr; cases hr), fun j hj => ?_⟩
    by_cases hji : j = i
    · subst hji; exact ⟨oi, v, hi, hy, H⟩
    · have := ready_mono hj hji
      rw [H.1] at this
      cases this
  | succ fuel ih =>
    intro listed a hfree hr hy H
    refine ⟨fun h => (by rw [h] at hr; cases hr), fun j hj => ?_⟩
    by_cases hji : j = i
    · subst hji; exact ⟨oi, v, hi, hy, H⟩
    · obtain ⟨oj, u, hoj, hyj, h1⟩ := H.2 j (ready_mono hj hji)
      obtain ⟨hjun, oj', hoj', hall⟩ := mem_ready.1 hj
      rw [hoj] at hoj'
      cases hoj'
      have hnot : ∀ e ∈ oj.after, Region.binds md e = true → e.on ≠ i := fun e he hb heq => by
        have h1 := hall e he hb
        have h0 := (mem_ready.1 hr).1
        rw [heq] at h1
        rcases Nat.lt_or_ge i listed.size with h' | h'
        · simp [h'] at h0 h1; rw [h0] at h1; cases h1
        · simp [Array.getElem?_eq_none h'] at h1
      obtain ⟨a1, a2, a3⟩ := Oper.apart_spec (hfree j oj hoj hji hjun hnot)
      have hfree' : ∀ k ok, ops[k]? = some ok → k ≠ i → (listed.setIfInBounds j true).getD k true = false →
          (∀ e ∈ ok.after, Region.binds md e = true → e.on ≠ i) → oi.apart ops ok = true := fun k ok hk hki hun hno => by
        refine hfree k ok hk hki ?_ hno
        by_cases hjk : j = k
        · subst hjk; exact hjun
        · rw [getD_set_ne true hjk] at hun; exact hun
      refine ⟨oj, u, hoj, hyj.of_same (execOp_put oj (fun cs b => hsel j oj cs b hoj) a oi.dst v a1).symm (wanted_put oj a oi.dst v a1).symm,
        ih (listed.setIfInBounds j true) (a.put oj.dst u) hfree' (ready_mono hr (Ne.symm hji)) (hy.of_same (execOp_put oi (fun cs b => hsel i oi cs b hi) a oj.dst u a3) (wanted_put oi a oj.dst u a3)) ?_⟩
      rw [Array.setIfInBounds_comm _ _ hji, ← Act.put_comm a v u a2]
      exact h1

/-- The first k have come up. -/
def preB (n : Nat) : Nat → Array Bool
  | 0 => Array.replicate n false
  | k + 1 => (preB n k).setIfInBounds k true
/-- The text's order is one that may be drawn, and each may be taken first in it. -/
def textOrder (md : Region.Mode) (ops : Array Oper) : Bool :=
  Region.noSelect ops && (Region.ready md ops (preB ops.size ops.size)).isEmpty && (List.range ops.size).all fun k => (Region.ready md ops (preB ops.size k)).contains k && Region.free md ops (preB ops.size k) k

def tameL (P : Program) (ops : Array Oper) (Q : Exit → Act → World → Prop) (S : World → Prop) : List Oper → Act → Prop
  | [], a => ∀ w, S w → Q .normal a w
  | o :: rest, a => ∃ v, YieldsS P ops S o v a ∧ tameL P ops Q S rest (a.put o.dst v)

theorem tame_sound (ht : textOrder md ops = true) : ∀ (m k : Nat) (l : List Oper) (a : Act), m + k = ops.size → ops.toList.drop k = l → tameL P ops Q S l a → wpT P md ops Q S m (preB ops.size k) a := by
  simp only [textOrder, Bool.and_eq_true, List.all_eq_true, List.mem_range] at ht
  obtain ⟨⟨hs, hend⟩, hall⟩ := ht
  intro m
  induction m with
  | zero =>
    intro k l a hk hl h
    obtain rfl : k = ops.size := by omega
    obtain rfl : l = [] := by rw [← hl]; simp
    exact ⟨by simpa using hend, h⟩
  | succ m ih =>
    intro k l a hk hl h
    have hlt : k < ops.size := by omega
    have hd : ops.toList.drop k = ops[k] :: ops.toList.drop (k + 1) := by
      rw [List.drop_eq_getElem_cons (by simpa using hlt)]; simp
    rw [hd] at hl
    subst hl
    obtain ⟨v, hy, h1⟩ := h
    obtain ⟨hr, hf⟩ := hall k hlt
    have hi : ops[k]? = some ops[k] := Array.getElem?_eq_getElem hlt
    exact wpT_first hi (Region.noSelect_spec hs) m (preB ops.size k) a (Region.free_spec hi hf) (by simpa using hr) hy (ih (k + 1) _ _ (by omega) rfl h1)

/-- The beginning. -/
theorem wp_region_tame {id : Nat} {l : List Oper} {a : Act} {w : World} (S : World → Prop) (hm : P.follows .mixedOrders = true) (ht : textOrder .any l.toArray = true) (hS : S w.drew) (h : tameL P l.toArray Q S l a) : (Code.region id l.toArray true).wp P Q a w :=
  wp_region_any hm (wpT_sound _ _ _ (tame_sound ht l.toArray.size 0 l a (by simp) (by simp) h) w.drew hS)

variable {a : Act} {rest : List Oper} {o : Oper} {v : Value}
theorem tameL_nil (h : ∀ w, S w → Q .normal a w) : tameL P ops Q S [] a := h
theorem tameL_val (hw : Region.wanted o (yielded ops a.tmps) = true) (hv : ∀ w, S w → (execOp a.eval o).run P w = .ok (.value v) w) (h : tameL P ops Q S rest (a.put o.dst v)) : tameL P ops Q S (o :: rest) a :=
  ⟨v, .inl ⟨hw, fun w hS => by rw [hv w hS]; exact ⟨rfl, hS⟩⟩, h⟩
theorem tameL_skip (hw : Region.wanted o (yielded ops a.tmps) = false) (h : tameL P ops Q S rest (a.put o.dst undef)) : tameL P ops Q S (o :: rest) a :=
  ⟨undef, .inr ⟨hw, rfl⟩, h⟩
theorem tameL_call (hw : Region.wanted o (yielded ops a.tmps) = true) (fn : Nat) (args : Array Value) (hr : ∀ w, (execOp a.eval o).run P w = .ok (.enter fn args) w) (hc : ∀ w, S w → Calls P fn args w fun e w' => e = .returned v ∧ S w') (h : tameL P ops Q S rest (a.put o.dst v)) : tameL P ops Q S (o :: rest) a :=
  ⟨v, .inl ⟨hw, fun w hS => by rw [hr w]; exact hc w hS⟩, h⟩
/-- A whole variable is loaded. -/
theorem tameL_row (hw : Region.wanted o (yielded ops a.tmps) = true) (ty : TypeId) (x : Operand) (ho : o.op = .load ty x) (g : Nat) (hx : a.eval x = .pointer (some ⟨g, 0, none⟩)) (t : TypeId) (cs : Array Value) (fr : Nat × Nat) (d : TypeDesc) (hg : ∀ w, S w → w.heap[g]? = some (.cells cs t fr))
    (hu : P.underlying ty = some d) (hd : (match d with | .struct _ | .array _ _ => true | _ => false) = true) (hi : (P.info? ty).map (·.size) = some cs.size) (h : tameL P ops Q S rest (a.put o.dst (.agg cs))) : tameL P ops Q S (o :: rest) a :=
  tameL_val hw (fun w hS => by
    unfold execOp
    simp only [ho, hx, Instr.loadAt, Instr.sureAddr, Sem.run_bind, Sem.run_pure, Result.andThen_ok, run_loadVar_row w g t ty cs fr d (hg w hS) hu hd hi]) h
end
/-- A function is entered: said by its own two cells. -/
theorem enters {P : Program} {fn : Nat} {f : Func} (hf : P.funcs[fn]? = some f) (h1 : (f.name == "runtime.NumGoroutine") = false) (h2 : f.body.isNone = false) (args : Array Value) (w : World) : (callFunc fn args).run P w = .ok (.enter fn args) w := by
  have h3 : ¬ f.name = "runtime.NumGoroutine" := fun h => by rw [h] at h1; cases h1
  have h4 : ¬ f.body = none := fun h => by rw [h] at h2; cases h2
  simp [callFunc, hf, h3, h4]


/-- Calls of Go functions, of none to four arguments. -/
theorem exec_call0 {P : Program} {o : Oper} {a : Act} (fn : Nat) (hcf : ∀ args w, (callFunc fn args).run P w = .ok (.enter fn args) w) (T : Array TypeId) (hop : o.op = .call { callee := .value (.func fn), args := #[], argTypes := T }) (w : World) :
    (execOp a.eval o).run P w = .ok (.enter fn #[]) w := by
  have hf : a.eval (.func fn) = .func (.func fn) #[] #[] := rfl
  simp [execOp, hop, resolve, invoke, hf, Deferred.ofValue, hcf]
theorem exec_call1 {P : Program} {o : Oper} {a : Act} (fn : Nat) (hcf : ∀ args w, (callFunc fn args).run P w = .ok (.enter fn args) w) (x : Operand) (T : Array TypeId) (hop : o.op = .call { callee := .value (.func fn), args := #[x], argTypes := T }) {vx : Value} (hx : a.eval x = vx) (w : World) :
    (execOp a.eval o).run P w = .ok (.enter fn #[vx]) w := by
  have hf : a.eval (.func fn) = .func (.func fn) #[] #[] := rfl
  simp [execOp, hop, resolve, invoke, hf, hx, Deferred.ofValue, hcf]
theorem exec_call2 {P : Program} {o : Oper} {a : Act} (fn : Nat) (hcf : ∀ args w, (callFunc fn args).run P w = .ok (.enter fn args) w) (x y : Operand) (T : Array TypeId) (hop : o.op = .call { callee := .value (.func fn), args := #[x, y], argTypes := T }) {vx vy : Value} (hx : a.eval x = vx) (hy : a.eval y = vy) (w : World) :
    (execOp a.eval o).run P w = .ok (.enter fn #[vx, vy]) w := by
  have hf : a.eval (.func fn) = .func (.func fn) #[] #[] := rfl
  simp [execOp, hop, resolve, invoke, hf, hx, hy, Deferred.ofValue, hcf]
theorem exec_call3 {P : Program} {o : Oper} {a : Act} (fn : Nat) (hcf : ∀ args w, (callFunc fn args).run P w = .ok (.enter fn args) w) (x y z : Operand) (T : Array TypeId) (hop : o.op = .call { callee := .value (.func fn), args := #[x, y, z], argTypes := T }) {vx vy vz : Value} (hx : a.eval x = vx) (hy : a.eval y = vy) (hz : a.eval z = vz) (w : World) :
    (execOp a.eval o).run P w = .ok (.enter fn #[vx, vy, vz]) w := by
  have hf : a.eval (.func fn) = .func (.func fn) #[] #[] := rfl
  simp [execOp, hop, resolve, invoke, hf, hx, hy, hz, Deferred.ofValue, hcf]
theorem exec_call4 {P : Program} {o : Oper} {a : Act} (fn : Nat) (hcf : ∀ args w, (callFunc fn args).run P w = .ok (.enter fn args) w) (x y z u : Operand) (T : Array TypeId) (hop : o.op = .call { callee := .value (.func fn), args := #[x, y, z, u], argTypes := T }) {vx vy vz vu : Value} (hx : a.eval x = vx) (hy : a.eval y = vy) (hz : a.eval z = vz) (hu : a.eval u = vu) (w : World) :
    (execOp a.eval o).run P w = .ok (.enter fn #[vx, vy, vz, vu]) w := by
  have hf : a.eval (.func fn) = .func (.func fn) #[] #[] := rfl
  simp [execOp, hop, resolve, invoke, hf, hx, hy, hz, hu, Deferred.ofValue, hcf]
section
variable {P : Program} {ops : Array Oper} {Q : Exit → Act → World → Prop} {S : World → Prop} {a : Act} {rest : List Oper} {o : Oper} {v : Value}
theorem tameL_call0 (hw : Region.wanted o (yielded ops a.tmps) = true) (fn : Nat) (T : Array TypeId) (hop : o.op = .call { callee := .value (.func fn), args := #[], argTypes := T }) (hcf : ∀ args w, (callFunc fn args).run P w = .ok (.enter fn args) w)
    (hc : ∀ w, S w → Calls P fn #[] w fun e w' => e = .returned v ∧ S w') (h : tameL P ops Q S rest (a.put o.dst v)) : tameL P ops Q S (o :: rest) a :=
  tameL_call hw fn _ (exec_call0 fn hcf T hop) hc h
theorem tameL_call1 (hw : Region.wanted o (yielded ops a.tmps) = true) (fn : Nat) (x : Operand) (T : Array TypeId) (hop : o.op = .call { callee := .value (.func fn), args := #[x], argTypes := T }) (hcf : ∀ args w, (callFunc fn args).run P w = .ok (.enter fn args) w)
    {vx : Value} (hx : a.eval x = vx) (hc : ∀ w, S w → Calls P fn #[vx] w fun e w' => e = .returned v ∧ S w') (h : tameL P ops Q S rest (a.put o.dst v)) : tameL P ops Q S (o :: rest) a :=
  tameL_call hw fn _ (exec_call1 fn hcf x T hop hx) hc h
theorem tameL_call2 (hw : Region.wanted o (yielded ops a.tmps) = true) (fn : Nat) (x y : Operand) (T : Array TypeId) (hop : o.op = .call { callee := .value (.func fn), args := #[x, y], argTypes := T }) (hcf : ∀ args w, (callFunc fn args).run P w = .ok (.enter fn args) w)
    {vx vy : Value} (hx : a.eval x = vx) (hy : a.eval y = vy) (hc : ∀ w, S w → Calls P fn #[vx, vy] w fun e w' => e = .returned v ∧ S w') (h : tameL P ops Q S rest (a.put o.dst v)) : tameL P ops Q S (o :: rest) a :=
  tameL_call hw fn _ (exec_call2 fn hcf x y T hop hx hy) hc h
theorem tameL_call3 (hw : Region.wanted o (yielded ops a.tmps) = true) (fn : Nat) (x y z : Operand) (T : Array TypeId) (hop : o.op = .call { callee := .value (.func fn), args := #[x, y, z], argTypes := T }) (hcf : ∀ args w, (callFunc fn args).run P w = .ok (.enter fn args) w)
    {vx vy vz : Value} (hx : a.eval x = vx) (hy : a.eval y = vy) (hz : a.eval z = vz) (hc : ∀ w, S w → Calls P fn #[vx, vy, vz] w fun e w' => e = .returned v ∧ S w') (h : tameL P ops Q S rest (a.put o.dst v)) : tameL P ops Q S (o :: rest) a :=
  tameL_call hw fn _ (exec_call3 fn hcf x y z T hop hx hy hz) hc h
theorem tameL_call4 (hw : Region.wanted o (yielded ops a.tmps) = true) (fn : Nat) (x y z u : Operand) (T : Array TypeId) (hop : o.op = .call { callee := .value (.func fn), args := #[x, y, z, u], argTypes := T }) (hcf : ∀ args w, (callFunc fn args).run P w = .ok (.enter fn args) w)
    {vx vy vz vu : Value} (hx : a.eval x = vx) (hy : a.eval y = vy) (hz : a.eval z = vz) (hu : a.eval u = vu) (hc : ∀ w, S w → Calls P fn #[vx, vy, vz, vu] w fun e w' => e = .returned v ∧ S w') (h : tameL P ops Q S rest (a.put o.dst v)) : tameL P ops Q S (o :: rest) a :=
  tameL_call hw fn _ (exec_call4 fn hcf x y z u T hop hx hy hz hu) hc h
end

/-- A region in the text's order goes the same way. -/
theorem YieldsS.wpList_ {P : Program} {ops : Array Oper} {Q : Exit → Act → World → Prop} {S : World → Prop} {a : Act} {rest : List Oper} {o : Oper} {v : Value} (hy : YieldsS P ops S o v a) {w : World} (hS : S w) (h : ∀ w', S w' → wpList P ops Q rest (a.put o.dst v) w') : wpList P ops Q (o :: rest) a w := by
  refine wpList_step fun K hK => ?_
  rcases hy with ⟨hw, hv⟩ | ⟨hw, rfl⟩
  · simp only [hw, if_true]
    have h1 := hv w hS
    unfold Oper.wp
    generalize (execOp a.eval o).run P w = r at h1
    cases r with
    | ok n w' =>
      cases n <;> simp only [Yld] at h1 <;> simp only [Oper.upon]
      case value u => obtain ⟨rfl, h2⟩ := h1; exact hK _ _ (h _ h2)
      case enter f args =>
        refine h1.mono ?_
        rintro e w'' ⟨rfl, h2⟩
        exact hK _ _ (h _ h2)
    | halt x w' => simp only [Yld] at h1
  · simp only [hw, Bool.false_eq_true, if_false]; exact hK _ _ (h _ hS)
theorem tameL_list {P : Program} {ops : Array Oper} {Q : Exit → Act → World → Prop} {S : World → Prop} : ∀ (l : List Oper) (a : Act), tameL P ops Q S l a → ∀ w, S w → wpList P ops Q l a w
  | [], a, h, w, hS => h w hS
  | o :: rest, a, ⟨v, hy, h⟩, w, hS => hy.wpList_ hS fun w' hS' => tameL_list rest _ h w' hS'
theorem wp_region_seqT {P : Program} {Q : Exit → Act → World → Prop} {id : Nat} {l : List Oper} {a : Act} {w : World} (S : World → Prop) (hS : S w) (h : tameL P l.toArray Q S l a) : (Code.region id l.toArray false).wp P Q a w :=
  wp_region_lit (tameL_list l a h w hS)
theorem toB {P : Program} {f : FuncId} {args : Array Value} {w : World} {x : Ending} (h : Calls P f args w fun e w' => e = x ∧ w = w') : Calls P f args w fun e w' => e = x ∧ Go.RowKit.Below w.heap.size w w' :=
  h.mono fun e w' ⟨h1, h2⟩ => ⟨h1, h2 ▸ Go.RowKit.Below.refl _ _⟩
end Go.Proofs.Ytipigcpenmcaoaa
