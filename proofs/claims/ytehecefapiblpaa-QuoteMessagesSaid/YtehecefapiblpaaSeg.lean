/- Segments whose greatest size is held (clamp): walks of held, Segment. -/
import Derived.Test.YtehecefapiblpaaTcpM
import Derived.Test.YtehecefapiblpaaAlc
import Derived.Test.YtehecefapiblpaaTcpPO
set_option linter.unusedVariables false
namespace Go.Proofs.Ytehecefapiblpaa
open Go.RowKit

theorem RB.kept {W W' : World} {B : Nat} {A : Option Addr} {n c : Nat} {bs : List Int} (h : RB W A n c bs) (hk : Keep B W W') (hB : 0 < n → ∀ k, ownBlk A = some k → k ≠ B) : RB W' A n c bs :=
  ⟨h.len, h.nc, h.cm, h.byt, h.niln, fun hn => by
    obtain ⟨b, off, e, hlt, hc⟩ := h.mem hn
    have hb := hB hn b (by rw [e]; rfl)
    refine ⟨b, off, e, Nat.lt_of_lt_of_le hlt hk.1, fun j hj => ?_⟩
    rw [← hc j hj]
    simp [World.cell?, hk.2 b hlt hb]⟩
/-- Bytes in a slot, none of them in block B. -/
def RByt (B n : Nat) (bs : List Int) : Rl := fun u W => ∃ A c, u = .slice A n c ∧ RB W A n c bs ∧ (0 < n → ∀ k, ownBlk A = some k → k ≠ B)
theorem RByt.stb (B n : Nat) (bs : List Int) : StbK B (RByt B n bs) := fun u w w' ⟨A, c, h1, h2, h3⟩ hk => ⟨A, c, h1, h2.kept hk h3, h3⟩
section
variable {ops : Array Oper} {V0 : Array Value} {N : Nat} {Q : Exit → Act → World → Prop} {ds : List Deferred} {V : Array Value} {En : Env} {o : Oper} {rest : List Oper} {i : Nat}
variable {w00 : World} {B : Nat} {T : TypeId} {Z : Array Value} {Pj : Nat → Value → World → Prop} {C : World → Prop}
/-- A field's slice is loaded: the one that it had, or the one that was stored. -/
theorem fld_loadr {d : Tmp} (p : Rl) (hlk : (o.looksAt ops).all (fun t => (look En t).isNone) = true) (hs : notSel o = true) (hd : o.dst = some d) (hw : Region.wanted o (yielded ops V) = true) (hst : StbK B p)
    (t : Tmp) (ho : o.op = .load 24 (.tmp t)) (j : Nat) (hj : j < Z.size) (hx : V.getD t undef = .pointer (some ⟨B, j, none⟩)) (hZ : ∀ v w, SF w00 B T Z Pj C w → Z[j]? = some v → p v w) (hP : ∀ v w, SF w00 B T Z Pj C w → Pj j v w → p v w)
    (h : writL Try.prog ops V0 N (fun _ => SF w00 B T Z Pj C) (EF w00 B T Z Pj C) Q ds (i + 1) rest V ((d, KK w00 B T Z Pj C p) :: En)) : writL Try.prog ops V0 N (fun _ => SF w00 B T Z Pj C) (EF w00 B T Z Pj C) Q ds i (o :: rest) V En :=
  writL_op (KK w00 B T Z Pj C p) (List.all_eq_true.2 fun t ht => List.all_eq_true.1 hlk t (gslots_in ht)) hw (KK.stable hst) (fun a w hS _ _ hk => by
    rw [exec_agree hs fun t ht => Rt_none (List.all_eq_true.1 hlk t ht) (hk t ht)]
    have hxv : (⟨V, []⟩ : Act).eval (.tmp t) = .pointer (some ⟨B, j, none⟩) := hx
    have hS2 := hS
    obtain ⟨h1, ⟨cs, hcs, hsz, hall⟩, h3⟩ := hS2
    obtain ⟨v, hv⟩ : ∃ v, cs[j]? = some v := ⟨_, Array.getElem?_eq_getElem (by omega)⟩
    have hcell : w.cell? ⟨B, j, none⟩ = some v := by rw [hcs.cell_eq, hv]
    have hp : p v w := by
      rcases hall j hj with e | ⟨v', e, e'⟩
      · exact hZ v w hS (by rw [← e, hv])
      · rw [hv] at e; cases e; exact hP v w hS e'
    have hrun : (execOp (⟨V, []⟩ : Act).eval o).run Try.prog w = .ok (.value v) w := by
      have hx2 : V[t]?.getD undef = .pointer (some ⟨B, j, none⟩) := by simpa using hx
      unfold execOp
      rw [ho]
      simp [go_sem, hx2, hcell]
    rw [hrun]
    refine ⟨?_, hS, EF.refl w⟩
    rw [hd]
    exact ⟨hS, hp⟩) (by rw [keyOf_some hd]; exact h)
/-- A call with one argument, known by a relation. -/
theorem fld_call1r {d : Tmp} (p : Rl) (hg : (gslots ops o).all (fun t => (look En t).isNone) = true) (hd : o.dst = some d) (hw : Region.wanted o (yielded ops V) = true) (hP : ∀ j, StbK B (Pj j)) (hC : ∀ w w', C w → Keep B w w' → C w') (hst : StbK B p)
    (fn : Nat) (x : Operand) (Ty : Array TypeId) (hop : o.op = .call { callee := .value (.func fn), args := #[x], argTypes := Ty }) (hcf : ∀ args w, (callFunc fn args).run Try.prog w = .ok (.enter fn args) w)
    (hc : ∀ (vx : Value) w, SF w00 B T Z Pj C w → RtO V En x vx w → Calls Try.prog fn #[vx] w fun e w' => (∃ u, e = .returned u ∧ p u w') ∧ Below w.heap.size w w')
    (h : writL Try.prog ops V0 N (fun _ => SF w00 B T Z Pj C) (EF w00 B T Z Pj C) Q ds (i + 1) rest V ((d, KK w00 B T Z Pj C p) :: En)) : writL Try.prog ops V0 N (fun _ => SF w00 B T Z Pj C) (EF w00 B T Z Pj C) Q ds i (o :: rest) V En :=
  writL_op (KK w00 B T Z Pj C p) hg hw (KK.stable hst) (fun a w hS _ _ hk => by
    rw [exec_call1 fn hcf x Ty hop rfl w]
    refine (hc _ w hS (hin a w hk x (by simp [Op.operands, Call.operands, hop]))).mono fun e w' ⟨⟨u, he, hp⟩, hb⟩ => ?_
    obtain ⟨h1, h2⟩ := hS.below hP hC hb
    refine ⟨u, he, ?_, h1, h2⟩
    rw [hd]
    exact ⟨h1, hp⟩) (by rw [keyOf_some hd]; exact h)
end

/-- A whole segment is loaded, guarded or not. -/
theorem wpList_load_S {ops : Array Oper} {rest : List Oper} {op : Oper} {a : Act} {W : World} {Q : Exit → Act → World → Prop} (hgd : Region.wanted op (yielded ops a.tmps) = true) (x : Operand) (ho : op.op = .load 78 x)
    (g : Nat) (hx : a.eval x = .pointer (some ⟨g, 0, none⟩)) (cs : Array Value) (hk : Blk W g cs 78) (hs : cs.size = 10)
    (h : wpList Try.prog ops Q rest (a.put op.dst (.agg cs)) W) : wpList Try.prog ops Q (op :: rest) a W :=
  BigFrame.wpList_want hgd fun _ hK => by
    unfold Oper.wp execOp
    simp only [ho, hx, Instr.loadAt, Instr.sureAddr, Sem.run_bind, Sem.run_pure, Result.andThen_ok, run_load_blk hk hs]
    exact hK _ _ h

/-- Whether a segment's greatest size is to be held, and where it stands. -/
def heldT (m : TcpP) (bound : Int) : Int × Bool :=
  if bits .and .i64 m.f 2 == 0 then (0, false) else if fitsB bound 2 = false then (0, false) else ((mssT m.opts).2.1, (mssT m.opts).2.2 && decide (bound < (mssT m.opts).1))
set_option maxRecDepth 100000 in
set_option maxHeartbeats 2000000 in
theorem held_any (m : TcpP) (bound : Int) (Ao : Option Addr) (no co : Nat) (A : Option Addr) (n c : Nat) (w : World) (ho : RB w Ao no co m.opts) (hn : no ≤ 100000) :
    Calls Try.prog 88 #[.agg (cellsT m Ao no co A n c), .int .i64 bound] w fun e w' => e = .returned (.tuple #[.int .i64 (heldT m bound).1, .bool (heldT m bound).2]) ∧ Below w.heap.size w w' := by
  have hb0 := Lib.hid ((Below.refl _ w).alloc (Nat.le_refl _) (.cells (cellsT m Ao no co A n c) 78))
  have k0 := Lib.hid (Blk.new w (cellsT m Ao no co A n c) 78)
  have hMS := Lib.hid (fun W (hW : Below w.heap.size w W) => MSS_any m Ao no co A n c W (ho.below hW) hn)
  clear ho
  cases hf : (bits .and .i64 m.f 2 == 0)
  · cases hg : fitsB bound 2
    · have hh := Lib.hid (show heldT m bound = (0, false) by unfold heldT; rw [hf, hg]; rfl)
      go_enter Try.func88, Try.ntmps88
      go_wp2_with (first
        | (go_at_call 66; refine (Fits_any _ _ _).mono ?_; rintro e w' ⟨rfl, rfl⟩)
        | (refine wpList_load_S rfl (.tmp 2) rfl w.heap.size rfl (cellsT m Ao no co A n c) k0.out rfl ?_)
        | (go_at_call 47; refine (hMS.out _ hb0.out).mono ?_; rintro e w1 ⟨rfl, hB1⟩; unfold mssV; have hb1 := Lib.hid (hb0.out.trans (hB1.mono hb0.out.size)); replace hB1 := 0)
        | fail)
      go_ret2
      exact ⟨by rw [hh.out]; rfl, hb0.out⟩
    · obtain ⟨v, hv⟩ : ∃ v, (mssT m.opts).1 = v := ⟨_, rfl⟩
      obtain ⟨a, ha⟩ : ∃ a, (mssT m.opts).2.1 = a := ⟨_, rfl⟩
      obtain ⟨k, hk⟩ : ∃ k, (mssT m.opts).2.2 = k := ⟨_, rfl⟩
      have hh := show heldT m bound = (a, k && decide (bound < v)) by unfold heldT; rw [hf, hg, hv, ha, hk]; rfl
      unfold mssV at hMS
      rw [hv, ha, hk] at hMS
      replace hv := 0
      replace ha := 0
      replace hk := 0
      cases k
      · replace hh := Lib.hid hh
        go_enter Try.func88, Try.ntmps88
        go_wp2_with (first
          | (go_at_call 66; refine (Fits_any _ _ _).mono ?_; rintro e w' ⟨rfl, rfl⟩)
          | (refine wpList_load_S rfl (.tmp 2) rfl w.heap.size rfl (cellsT m Ao no co A n c) k0.out rfl ?_)
          | (go_at_call 47; refine (hMS.out _ hb0.out).mono ?_; rintro e w1 ⟨rfl, hB1⟩; have hb1 := Lib.hid (hb0.out.trans (hB1.mono hb0.out.size)); replace hB1 := 0)
          | fail)
        go_ret2
        exact ⟨by rw [hh.out]; simp, hb1.out⟩
      · replace hh := Lib.hid hh
        go_enter Try.func88, Try.ntmps88
        go_wp2_with (first
          | (go_at_call 66; refine (Fits_any _ _ _).mono ?_; rintro e w' ⟨rfl, rfl⟩)
          | (refine wpList_load_S rfl (.tmp 2) rfl w.heap.size rfl (cellsT m Ao no co A n c) k0.out rfl ?_)
          | (go_at_call 47; refine (hMS.out _ hb0.out).mono ?_; rintro e w1 ⟨rfl, hB1⟩; have hb1 := Lib.hid (hb0.out.trans (hB1.mono hb0.out.size)); replace hB1 := 0)
          | fail)
        go_ret2
        exact ⟨by rw [hh.out]; simp, hb1.out⟩
  · have hh := Lib.hid (show heldT m bound = (0, false) by unfold heldT; rw [hf]; rfl)
    go_enter Try.func88, Try.ntmps88
    go_wp2
    go_ret2
    exact ⟨by rw [hh.out]; rfl, hb0.out⟩

theorem mssF_true {bs : List Int} : ∀ {l : List Nat}, (mssF bs l).2.2 = true → ∃ a : Nat, a ∈ l ∧ mssF bs l = ((getV bs ((a : Int) + 2) 2).1, (a : Int), true) ∧ bs[a]?.getD 0 = 2 ∧ optL bs a = 4
  | [], h => by simp [mssF] at h
  | x :: l, h => by
    unfold mssF at h ⊢
    split
    · rename_i hx
      exact ⟨x, List.mem_cons_self .., rfl, hx.1, hx.2⟩
    · rename_i hx
      rw [if_neg hx] at h
      obtain ⟨a, h1, h2⟩ := mssF_true h
      exact ⟨a, List.mem_cons_of_mem _ h1, h2⟩
theorem heldT_true {m : TcpP} {bound : Int} (h : (heldT m bound).2 = true) : ∃ a : Nat, a ∈ places m.opts ∧ mssT m.opts = ((getV m.opts ((a : Int) + 2) 2).1, (a : Int), true) ∧ m.opts[a]?.getD 0 = 2 ∧ optL m.opts a = 4 ∧ (heldT m bound).1 = a ∧ bound < (getV m.opts ((a : Int) + 2) 2).1 ∧ fitsP bound ((2 : Nat) : Int) ∧ (bits .and .i64 m.f 2 == 0) = false := by
  unfold heldT at h ⊢
  cases hf : (bits .and .i64 m.f 2 == 0)
  · rw [hf] at h
    cases hg : fitsB bound 2
    · rw [hg] at h; simp at h
    · rw [hg] at h
      simp only [Bool.false_eq_true, if_false, Bool.true_eq_false, Bool.and_eq_true, decide_eq_true_eq] at h ⊢
      obtain ⟨a, h1, h2, h3, h4⟩ := mssF_true (bs := m.opts) (l := places m.opts) h.1
      have h2' : mssT m.opts = ((getV m.opts ((a : Int) + 2) 2).1, (a : Int), true) := h2
      exact ⟨a, h1, h2', h3, h4, by rw [h2'], by have := h.2; rw [h2'] at this; exact this, of_decide_eq_true hg, trivial⟩
  · rw [hf] at h; simp at h

/-- A segment whose greatest size is held. -/
def segT (m : TcpP) (bound : Int) : TcpP := if (heldT m bound).2 = true then { m with opts := setN m.opts ((heldT m bound).1 + 2).toNat (digL bound 2) 2 } else m

set_option maxRecDepth 100000 in
set_option maxHeartbeats 8000000 in
theorem Segment_any (m : TcpP) (bound : Int) (Ao : Option Addr) (no co : Nat) (A : Option Addr) (n c : Nat) (w : World) (ho : RB w Ao no co m.opts) (h : RB w A n c m.data) (hno : no ≤ 100000) (hn : n ≤ 100000) :
    Calls Try.prog 48 #[.agg (cellsT m Ao no co A n c), .int .i64 bound] w fun e w' => ∃ A8 c8 A9 c9, e = .returned (.agg (cellsT (segT m bound) A8 no c8 A9 n c9)) ∧ OB w' w.heap.size A8 no c8 (segT m bound).opts ∧ OB w' w.heap.size A9 n c9 m.data ∧ Below w.heap.size w w' := by
  have hb0 := ((Below.refl _ w).alloc (Nat.le_refl _) (.cells (cellsT m Ao no co A n c) 78)).alloc (by simp) (.cells zeroT 78)
  have k0 := (Blk.new w (cellsT m Ao no co A n c) 78).alloc (.cells zeroT 78)
  have k1 := Blk.new (w.alloc (.cells (cellsT m Ao no co A n c) 78)) zeroT 78
  rw [World.size_alloc] at k1
  have hHd := Lib.hid (fun A8 c8 A9 c9 W (hr : RB W A8 no c8 m.opts) => held_any m bound A8 no c8 A9 n c9 W hr hno)
  have hne : ∀ {A : Option Addr} {n c : Nat} {bs : List Int}, RB w A n c bs → 0 < n → ∀ k, ownBlk A = some k → k ≠ w.heap.size := fun hr hp k hk => by
    obtain ⟨b, off, e, hl, _⟩ := hr.mem hp
    rw [e] at hk
    have : b = k := by simpa [ownBlk] using hk
    omega
  have hn8 := Lib.hid (hne ho)
  have hn9 := Lib.hid (hne h)
  have hD := Lib.hid (fun W (hW : Below w.heap.size w W) => And.intro (ho.below hW) (h.below hW))
  have hbo := Lib.hid ho.byt
  have hlo := Lib.hid ho.len
  have hbd := Lib.hid h.byt
  replace hne := 0
  clear ho h
  have hPj := Lib.hid (show ∀ j, StbK w.heap.size ((fun (j : Nat) (v : Value) (W : World) => (j = 8 ∧ OwnR (w.heap.size + 2) no m.opts v W) ∨ (j = 9 ∧ OwnR (w.heap.size + 2) n m.data v W)) j) from fun j u w' w'' h hk => by
    rcases h with ⟨h1, h2⟩ | ⟨h1, h2⟩
    · exact .inl ⟨h1, OwnR.stb (show w.heap.size < w.heap.size + 2 by omega) _ _ _ h2 hk⟩
    · exact .inr ⟨h1, OwnR.stb (show w.heap.size < w.heap.size + 2 by omega) _ _ _ h2 hk⟩)
  have hCk := Lib.hid (show ∀ W W', (fun W => Blk W (w.heap.size + 1) zeroT 78) W → Keep w.heap.size W W' → (fun W => Blk W (w.heap.size + 1) zeroT 78) W' from fun W W' h1 hk => h1.kept hk (by omega))
  have hBw := Lib.hid (Nat.le_refl w.heap.size)
  have hC0 := Lib.hid (show ∀ W, SF w w.heap.size 78 (cellsT m Ao no co A n c) (fun (j : Nat) (v : Value) (W : World) => (j = 8 ∧ OwnR (w.heap.size + 2) no m.opts v W) ∨ (j = 9 ∧ OwnR (w.heap.size + 2) n m.data v W)) (fun W => Blk W (w.heap.size + 1) zeroT 78) W → (True ∧ True ∧ True) from fun W hS => ⟨trivial, trivial, trivial⟩)
  have hL := Lib.hid (show ∀ W, SF w w.heap.size 78 (cellsT m Ao no co A n c) (fun (j : Nat) (v : Value) (W : World) => (j = 8 ∧ OwnR (w.heap.size + 2) no m.opts v W) ∨ (j = 9 ∧ OwnR (w.heap.size + 2) n m.data v W)) (fun W => Blk W (w.heap.size + 1) zeroT 78) W → w.heap.size + 2 ≤ W.heap.size from fun W hS => hS.2.2.lt)
  have hown := Lib.hid (show ∀ (k : Nat) (xs : List Int) (v : Value) (W : World), OwnR (w.heap.size + 2) k xs v W → RByt w.heap.size k xs v W from fun k xs v W ⟨A', c', h1, h2⟩ => ⟨A', c', h1, h2.rb, fun _ k hk => by have := (h2.blk hk).1; omega⟩)
  have hl8 := Lib.hid (show ∀ v W, SF w w.heap.size 78 (cellsT m Ao no co A n c) (fun (j : Nat) (v : Value) (W : World) => (j = 8 ∧ OwnR (w.heap.size + 2) no m.opts v W) ∨ (j = 9 ∧ OwnR (w.heap.size + 2) n m.data v W)) (fun W => Blk W (w.heap.size + 1) zeroT 78) W → (cellsT m Ao no co A n c)[8]? = some v → RByt w.heap.size no m.opts v W from fun v W hS e => by cases e; exact ⟨Ao, co, rfl, (hD.out W hS.1).1, hn8.out⟩)
  have hl9 := Lib.hid (show ∀ v W, SF w w.heap.size 78 (cellsT m Ao no co A n c) (fun (j : Nat) (v : Value) (W : World) => (j = 8 ∧ OwnR (w.heap.size + 2) no m.opts v W) ∨ (j = 9 ∧ OwnR (w.heap.size + 2) n m.data v W)) (fun W => Blk W (w.heap.size + 1) zeroT 78) W → (cellsT m Ao no co A n c)[9]? = some v → RByt w.heap.size n m.data v W from fun v W hS e => by cases e; exact ⟨A, c, rfl, (hD.out W hS.1).2, hn9.out⟩)
  have hcl := Lib.hid (show ∀ (k : Nat) (xs : List Int), k ≤ 100000 → ∀ (vx : Value) (W : World), SF w w.heap.size 78 (cellsT m Ao no co A n c) (fun (j : Nat) (v : Value) (W : World) => (j = 8 ∧ OwnR (w.heap.size + 2) no m.opts v W) ∨ (j = 9 ∧ OwnR (w.heap.size + 2) n m.data v W)) (fun W => Blk W (w.heap.size + 1) zeroT 78) W → KK w w.heap.size 78 (cellsT m Ao no co A n c) (fun (j : Nat) (v : Value) (W : World) => (j = 8 ∧ OwnR (w.heap.size + 2) no m.opts v W) ∨ (j = 9 ∧ OwnR (w.heap.size + 2) n m.data v W)) (fun W => Blk W (w.heap.size + 1) zeroT 78) (RByt w.heap.size k xs) vx W → Calls Try.prog 50 #[vx] W (fun e w' => (∃ u, e = .returned u ∧ OwnR (w.heap.size + 2) k xs u w') ∧ Below W.heap.size W w') from fun k xs hk vx W hS hx => by
    obtain ⟨_, A', c', rfl, hr, _⟩ := hx
    exact (Clone_any A' k c' xs W hr (by omega)).mono fun e w' ⟨A2, c2, he, ho, hb⟩ => ⟨⟨_, he, A2, c2, rfl, ho.mono (hL.out W hS)⟩, hb⟩)
  have hS0 : SF w w.heap.size 78 (cellsT m Ao no co A n c) (fun (j : Nat) (v : Value) (W : World) => (j = 8 ∧ OwnR (w.heap.size + 2) no m.opts v W) ∨ (j = 9 ∧ OwnR (w.heap.size + 2) n m.data v W)) (fun W => Blk W (w.heap.size + 1) zeroT 78) ((w.alloc (.cells (cellsT m Ao no co A n c) 78)).alloc (.cells zeroT 78)).drew := ⟨hb0.drew, ⟨_, k0.drew, rfl, fun j _ => .inl rfl⟩, k1.drew⟩
  clear hb0 k0 k1
  go_enter Try.func48, Try.ntmps48
  go_wp2_with fail
  refine wp_region_writ (fun _ => SF w w.heap.size 78 (cellsT m Ao no co A n c) (fun (j : Nat) (v : Value) (W : World) => (j = 8 ∧ OwnR (w.heap.size + 2) no m.opts v W) ∨ (j = 9 ∧ OwnR (w.heap.size + 2) n m.data v W)) (fun W => Blk W (w.heap.size + 1) zeroT 78)) (EF w w.heap.size 78 (cellsT m Ao no co A n c) (fun (j : Nat) (v : Value) (W : World) => (j = 8 ∧ OwnR (w.heap.size + 2) no m.opts v W) ∨ (j = 9 ∧ OwnR (w.heap.size + 2) n m.data v W)) (fun W => Blk W (w.heap.size + 1) zeroT 78)) (by kernel_rfl) (by kernel_rfl) (by kernel_rfl) EF.refl hS0 ?_
  repeat (first
    | (refine fld_loadr (d := 8) (RByt w.heap.size no m.opts) (by rfl) (by rfl) rfl (by rfl) (RByt.stb _ _ _) 7 rfl 8 (show (8 : Nat) < 10 from by decide) rfl hl8.out (fun v W hS h => hown.out _ _ v W (by rcases h with h | h; exact h.2; exact absurd h.1 (by decide))) ?_)
    | (refine fld_loadr (d := 11) (RByt w.heap.size n m.data) (by rfl) (by rfl) rfl (by rfl) (RByt.stb _ _ _) 10 rfl 9 (show (9 : Nat) < 10 from by decide) rfl hl9.out (fun v W hS h => hown.out _ _ v W (by rcases h with h | h; exact absurd h.1 (by decide); exact h.2)) ?_)
    | (refine fld_call1r (d := 9) (OwnR (w.heap.size + 2) no m.opts) (by rfl) rfl (by rfl) hPj.out hCk.out (OwnR.stb (show w.heap.size < w.heap.size + 2 by omega)) 50 (.tmp 8) #[24] rfl en_TcpClone (fun vx W hS hx => hcl.out no m.opts hno vx W hS hx) ?_)
    | (refine fld_call1r (d := 12) (OwnR (w.heap.size + 2) n m.data) (by rfl) rfl (by rfl) hPj.out hCk.out (OwnR.stb (show w.heap.size < w.heap.size + 2 by omega)) 50 (.tmp 11) #[24] rfl en_TcpClone (fun vx W hS hx => hcl.out n m.data hn vx W hS hx) ?_)
    | (refine fld_store (by rfl) (by rfl) rfl hPj.out hCk.out hBw.out 24 13 (.tmp 9) rfl 8 (show (8 : Nat) < 10 from by decide) rfl (by rfl) (by kernel_rfl) (fun vy W hS hy => (by obtain ⟨_, A, c, rfl, ho⟩ := hy; exact ⟨rfl, .inl ⟨rfl, A, c, rfl, ho⟩⟩)) ?_)
    | (refine fld_store (by rfl) (by rfl) rfl hPj.out hCk.out hBw.out 24 14 (.tmp 12) rfl 9 (show (9 : Nat) < 10 from by decide) rfl (by rfl) (by kernel_rfl) (fun vy W hS hy => (by obtain ⟨_, A, c, rfl, ho⟩ := hy; exact ⟨rfl, .inr ⟨rfl, A, c, rfl, ho⟩⟩)) ?_)
    | (refine fld_val (v := ?_) (by rfl) (by rfl) (by rfl) (by rfl) (by rfl) (fun W hS => ?_) ?_; rotate_left; (· (obtain ⟨g0, g1, g2⟩ := hC0.out W hS; clear hS; go_simp; try with_reducible rfl)); simp only [putV, List.setIfInBounds_toArray, List.set_cons_zero, List.set_cons_succ]))
  refine writL_nil fun a W hS hsz hds hR => ?_
  have F8 : FF w w.heap.size 78 _ _ _ 8 undef W := hR 40
  have F9 : FF w w.heap.size 78 _ _ _ 9 undef W := hR 42
  have hT := tmps_eql [8, 9, 11, 12] (T := a.tmps) (by rw [hsz]; rfl) (by rw [hsz]; rfl) hR
  simp only [List.foldl_cons, List.foldl_nil] at hT
  generalize a.tmps.getD 8 undef = u1 at hT
  generalize a.tmps.getD 9 undef = u2 at hT
  generalize a.tmps.getD 11 undef = u3 at hT
  generalize a.tmps.getD 12 undef = u4 at hT
  simp only [List.setIfInBounds_toArray, List.set_cons_zero, List.set_cons_succ] at hT
  clear hR hsz
  obtain ⟨T, D⟩ := a
  have hD' : D = [] := hds
  subst hD'
  dsimp only at hT
  subst hT
  clear hds hS0
  obtain ⟨hB7, ⟨cs, hcs, hcsz, hall⟩, kz7⟩ := hS
  obtain ⟨_, z8, e8, hp8⟩ := F8
  obtain ⟨_, z9, e9, hp9⟩ := F9
  simp at hp8 hp9
  obtain ⟨A8, c8, rfl, ho8⟩ := hp8
  obtain ⟨A9, c9, rfl, ho9⟩ := hp9
  have g0 : cs[0]? = some (.int .i64 m.s) := by rcases hall 0 (show (0 : Nat) < 10 by decide) with e | ⟨v, e, hp⟩; exact e; simp at hp
  have g1 : cs[1]? = some (.int .i64 m.d) := by rcases hall 1 (show (1 : Nat) < 10 by decide) with e | ⟨v, e, hp⟩; exact e; simp at hp
  have g2 : cs[2]? = some (.int .i64 m.q) := by rcases hall 2 (show (2 : Nat) < 10 by decide) with e | ⟨v, e, hp⟩; exact e; simp at hp
  have g3 : cs[3]? = some (.int .i64 m.a) := by rcases hall 3 (show (3 : Nat) < 10 by decide) with e | ⟨v, e, hp⟩; exact e; simp at hp
  have g4 : cs[4]? = some (.int .i64 m.r) := by rcases hall 4 (show (4 : Nat) < 10 by decide) with e | ⟨v, e, hp⟩; exact e; simp at hp
  have g5 : cs[5]? = some (.int .i64 m.f) := by rcases hall 5 (show (5 : Nat) < 10 by decide) with e | ⟨v, e, hp⟩; exact e; simp at hp
  have g6 : cs[6]? = some (.int .i64 m.w) := by rcases hall 6 (show (6 : Nat) < 10 by decide) with e | ⟨v, e, hp⟩; exact e; simp at hp
  have g7 : cs[7]? = some (.int .i64 m.u) := by rcases hall 7 (show (7 : Nat) < 10 by decide) with e | ⟨v, e, hp⟩; exact e; simp at hp
  have g8 : cs[8]? = some (.slice A8 no c8) := by rw [← hcs.cell_eq, e8]
  have g9 : cs[9]? = some (.slice A9 n c9) := by rw [← hcs.cell_eq, e9]
  have hcse := arr10 hcsz g0 g1 g2 g3 g4 g5 g6 g7 g8 g9
  subst hcse
  clear g0 g1 g2 g3 g4 g5 g6 g7 g8 g9 hall hcsz e8 e9
  replace hPj := 0
  replace hCk := 0
  replace hC0 := 0
  replace hL := 0
  replace hl8 := 0
  replace hl9 := 0
  replace hown := 0
  replace hcl := 0
  replace hcs := Lib.hid (show Blk W w.heap.size (cellsT m A8 no c8 A9 n c9) 78 from hcs)
  replace kz7 := Lib.hid kz7
  replace hB7 := Lib.hid hB7
  replace ho8 := Lib.hid ho8
  replace ho9 := Lib.hid ho9
  cases hb : (heldT m bound).2
  · have hseg := Lib.hid (show segT m bound = m by unfold segT; rw [hb]; rfl)
    rw [hb] at hHd
    replace hb := Lib.hid hb
    go_wp2_with (first
      | (refine wpList_load_S rfl (.tmp 2) rfl w.heap.size rfl (cellsT m A8 no c8 A9 n c9) hcs.out rfl ?_)
      | (go_at_call 88; refine (hHd.out A8 c8 A9 c9 W ho8.out.rb).mono ?_; rintro e W2 ⟨rfl, hB2⟩; have hcs2 := Lib.hid (hcs.out.to hB2); have kz2 := Lib.hid (kz7.out.to hB2); have hb2 := Lib.hid (hB7.out.trans (hB2.mono hB7.out.size)); have ho82 := Lib.hid (ho8.out.below hB2); have ho92 := Lib.hid (ho9.out.below hB2); replace hB2 := 0)
      | (refine wpList_load_S rfl (.tmp 2) rfl w.heap.size rfl (cellsT m A8 no c8 A9 n c9) hcs2.out rfl ?_)
      | (refine wpList_store_T rfl (.tmp 4) (.tmp 32) rfl (w.heap.size + 1) (cellsT m A8 no c8 A9 n c9) rfl rfl _ kz2.out rfl rfl (one_T _ _ _ _ _ _ _) ?_)
      | fail)
    obtain ⟨r0, r1, r2, r3, r4, r5, r6, r7, r8, r9⟩ := tcells (kz2.out.row (cellsT m A8 no c8 A9 n c9))
    exact bodyPost_ret (v := .agg (cellsT m A8 no c8 A9 n c9)) (by simp [results, Try.results48, go_sem, r0, r1, r2, r3, r4, r5, r6, r7, r8, r9]) rfl (by rw [hseg.out]; exact ⟨A8, c8, A9, c9, rfl, (ho82.out.kept (Keep.setRow W2 _) (by omega)).mono (by omega), (ho92.out.kept (Keep.setRow W2 _) (by omega)).mono (by omega), below_setRow hb2.out (by omega) _⟩)
  · obtain ⟨x, hx1, hx2, hx3, hx4, hx5, hx6, hx7, hx8⟩ := heldT_true hb
    have hxo := optL_le m.opts x
    rw [hx4, hlo.out] at hxo
    have hx9 : x + 4 ≤ no := by omega
    have hxt : ((x : Int) + 2).toNat = x + 2 := by omega
    have hseg := Lib.hid (show segT m bound = { m with opts := setN m.opts (x + 2) (digL bound 2) 2 } by unfold segT; rw [hb, if_pos rfl, hx5, hxt])
    rw [hb, hx5] at hHd
    have hSet := Lib.hid (fun W (hr : RB W A8 no c8 m.opts) => by have := Set_ok A8 no c8 m.opts (x + 2) bound 2 W hr hno hx7 (by omega); rw [Int.natCast_add] at this; exact this)
    have hwx : IntKind.i64.wrap ((x : Int) + 2) = (x : Int) + 2 := by rw [IntKind.wrap_i64]; omega
    generalize setN m.opts (x + 2) (digL bound 2) 2 = os2 at *
    replace hb := Lib.hid hb
    replace hx7 := Lib.hid hx7
    clear hx1 hx2 hx3 hx4 hx5 hx6 hx8 hxo hxt
    go_wp2_with (first
      | (refine wpList_load_S rfl (.tmp 2) rfl w.heap.size rfl (cellsT m A8 no c8 A9 n c9) hcs.out rfl ?_)
      | (go_at_call 88; refine (hHd.out A8 c8 A9 c9 W ho8.out.rb).mono ?_; rintro e W2 ⟨rfl, hB2⟩; have hcs2 := Lib.hid (hcs.out.to hB2); have kz2 := Lib.hid (kz7.out.to hB2); have hb2 := Lib.hid (hB7.out.trans (hB2.mono hB7.out.size)); have ho82 := Lib.hid (ho8.out.below hB2); have ho92 := Lib.hid (ho9.out.below hB2); have z8 := hcs2.out.cell 8 _ rfl; replace hB2 := 0)
      | (go_at_call 71; refine (hSet.out W2 ho82.out.rb).mono ?_; rintro e W3 ⟨A10, c10, rfl, ho3, hB3⟩; have hcs3 := Lib.hid (hcs2.out.to hB3); have kz3 := Lib.hid ((kz2.out.to hB3).far (B' := w.heap.size) (by omega) 8 (.slice A10 no c10)); have hb3 := Lib.hid ((hb2.out.trans (hB3.mono hb2.out.size)).setCell (p := ⟨w.heap.size, 8, none⟩) (Nat.le_refl _) (.slice A10 no c10)); have hsz3 := hcs2.out.lt; have ho33 := Lib.hid ((ho3.mono (kz2.out.lt)).kept (B := w.heap.size) (Keep.set W3 8 (.slice A10 no c10)) (by omega)); have ho93 := Lib.hid ((ho92.out.below hB3).kept (B := w.heap.size) (Keep.set W3 8 (.slice A10 no c10)) (by omega)); clear z8; have z8 := hcs3.out.cell 8 _ rfl; have f8 := hcs3.out.frz 8; have hcs4 := Lib.hid (show Blk (W3.setCell ⟨w.heap.size, 8, none⟩ (.slice A10 no c10)) w.heap.size (cellsT { m with opts := os2 } A10 no c10 A9 n c9) 78 from hcs3.out.set 8 (.slice A10 no c10)); replace ho3 := 0; replace hB3 := 0)
      | (refine wpList_load_S rfl (.tmp 2) rfl w.heap.size rfl (cellsT { m with opts := os2 } A10 no c10 A9 n c9) hcs4.out rfl ?_)
      | (refine wpList_store_T rfl (.tmp 4) (.tmp 32) rfl (w.heap.size + 1) (cellsT { m with opts := os2 } A10 no c10 A9 n c9) rfl rfl _ kz3.out rfl rfl (one_T { m with opts := os2 } _ _ _ _ _ _) ?_)
      | fail)
    obtain ⟨r0, r1, r2, r3, r4, r5, r6, r7, r8, r9⟩ := tcells (kz3.out.row (cellsT { m with opts := os2 } A10 no c10 A9 n c9))
    exact bodyPost_ret (v := .agg (cellsT { m with opts := os2 } A10 no c10 A9 n c9)) (by simp [results, Try.results48, go_sem, r0, r1, r2, r3, r4, r5, r6, r7, r8, r9]) rfl (by rw [hseg.out]; exact ⟨A10, c10, A9, c9, rfl, (ho33.out.kept (Keep.setRow _ _) (by omega)).mono (by omega), (ho93.out.kept (Keep.setRow _ _) (by omega)).mono (by omega), below_setRow hb3.out (by omega) _⟩)
end Go.Proofs.Ytehecefapiblpaa
