/- Arrays of bytes, and of numbers: loaded, compared. -/
import Derived.Test.YtmbmmpbfmakfbaaAppend
import Derived.Test.YtmbmmpbfmakfbaaTame
import Derived.Deep.Cut
import Derived.Test.YtmbmmpbfmakfbaaTcp
import Derived.Test.YtmbmmpbfmakfbaaTcpM
import Derived.Test.YtmbmmpbfmakfbaaTcpBR
import Derived.Test.YtmbmmpbfmakfbaaV4
import Derived.Test.YtmbmmpbfmakfbaaSeg
import Derived.Test.YtmbmmpbfmakfbaaRow4
set_option linter.unusedVariables false
namespace Go.Proofs.Ytmbmmpbfmakfbaa
open Go.RowKit

theorem size_u8 (w : World) : (sizeOf 5).run Try.prog w = .ok 1 w := by
  have h : (Try.prog.info? 5).map (·.size) = some 1 := by kernel_rfl
  cases e : Try.prog.info? 5 with
  | none => simp [e] at h
  | some i =>
    have : i.size = 1 := by simpa [e] using h
    simp [sizeOf, typeInfo, e, this]

theorem all_range_int : ∀ (xs ys : List Int), xs.length = ys.length → ((List.range xs.length).all fun i => xs.getD i 0 == ys.getD i 0) = (xs == ys)
  | [], [], _ => rfl
  | x :: xs, y :: ys, h => by
    have ih := all_range_int xs ys (by simpa using h)
    rw [List.length_cons, List.range_succ_eq_map, List.all_cons, List.all_map]
    simp only [List.getD_cons_zero, Function.comp_def, List.getD_cons_succ, ih]
    simp [List.cons_beq_cons]
  | [], _ :: _, h => by simp at h
  | _ :: _, [], h => by simp at h
theorem size_int (w : World) : (sizeOf 3).run Try.prog w = .ok 1 w := by
  have h : (Try.prog.info? 3).map (·.size) = some 1 := by kernel_rfl
  cases e : Try.prog.info? 3 with
  | none => simp [e] at h
  | some i =>
    have : i.size = 1 := by simpa [e] using h
    simp [sizeOf, typeInfo, e, this]
theorem equalIn_ints (w : World) (d : Nat) (t : TypeId) (n : Nat) (ht : Try.prog.underlying t = some (.array n 3)) (xs ys : List Int) (hx : xs.length = n) (hy : ys.length = n) :
    (Op.equalIn (d + 2) t (.agg (xs.map (Value.int .i64)).toArray) (.agg (ys.map (Value.int .i64)).toArray)).run Try.prog w = .ok (xs == ys) w := by
  rw [← all_range_int xs ys (hx.trans hy.symm), hx, List.range_eq_range', Op.equalIn]
  simp only [Sem.run_bind, run_underlying ht, Result.andThen_ok, size_int, Std.Legacy.Range.forIn_eq_forIn_range', Std.Legacy.Range.size, Nat.sub_zero, Nat.add_sub_cancel, Nat.div_one]
  have hl : ∀ i ∈ List.range' 0 n 1, i < n := fun i hi => by simpa using (List.mem_range'_1.1 hi).2
  generalize List.range' 0 n 1 = l at hl ⊢
  induction l with
  | nil => simp
  | cons i l ih =>
    have hi : i < n := hl i (by simp)
    have he := Try.underlying3
    have px : (part 3 (xs.map (Value.int .i64)).toArray (i * 1)).run Try.prog w = .ok (.int .i64 (xs.getD i 0)) w := by
      simp [part, isAgg, run_underlying he, List.getD, List.getElem?_eq_getElem (show i < xs.length by omega)]
    have py : (part 3 (ys.map (Value.int .i64)).toArray (i * 1)).run Try.prog w = .ok (.int .i64 (ys.getD i 0)) w := by
      simp [part, isAgg, run_underlying he, List.getD, List.getElem?_eq_getElem (show i < ys.length by omega)]
    have pe : (Op.equalIn (d + 1) 3 (.int .i64 (xs.getD i 0)) (.int .i64 (ys.getD i 0))).run Try.prog w = .ok (xs.getD i 0 == ys.getD i 0) w := run_equalIn_int w d _ .i64 .i64 _ _ he
    simp only [List.forIn_cons, Sem.run_bind, px, py, pe, Result.andThen_ok, List.all_cons]
    cases hb : (xs.getD i 0 == ys.getD i 0)
    · simp
    · simp only [Bool.not_true, Bool.false_eq_true, if_false, Sem.run_pure, Result.andThen_ok, Bool.true_and]
      exact ih fun j hj => hl j (by simp [hj])
theorem wpList_eql_ints {ops : Array Oper} {rest : List Oper} {op : Oper} {a : Act} {w : World} {Q : Exit → Act → World → Prop} (hgd : Region.wanted op (yielded ops a.tmps) = true) (t : TypeId) (x y : Operand) (ho : op.op = .binOp .eql t x y t) (n : Nat) (ht : Try.prog.underlying t = some (.array n 3))
    (hm : Try.prog.eqGuardType Try.prog.depth t = false) (xs ys : List Int) (ex : a.eval x = .agg (xs.map (Value.int .i64)).toArray) (ey : a.eval y = .agg (ys.map (Value.int .i64)).toArray) (hx : xs.length = n) (hy : ys.length = n)
    (h : wpList Try.prog ops Q rest (a.put op.dst (.bool (xs == ys))) w) : wpList Try.prog ops Q (op :: rest) a w :=
  BigFrame.wpList_want hgd fun _ hK => by
    unfold Oper.wp execOp
    simp only [ho, ex, ey, Sem.run_bind, run_eqGuard_agg w _ _ _ _ _ _ hm, run_eql_struct, equalIn_ints w 9998 t n ht xs ys hx hy, Result.andThen_ok, Sem.run_pure]
    exact hK _ _ h
end Go.Proofs.Ytmbmmpbfmakfbaa
/- Segments (tcp, and the reference): walks of Same. -/
set_option linter.unusedVariables false
namespace Go.Proofs.Ytmbmmpbfmakfbaa
open Go.RowKit

/-- Whether the numbers of two segments are the same. -/
def oneT (p q : TcpP) : Bool := p.s == q.s && p.d == q.d && p.q == q.q && p.a == q.a && p.r == q.r && p.f == q.f && p.w == q.w && p.u == q.u
def sameT (p q : TcpP) : Bool := oneT p q && p.opts == q.opts && p.data == q.data
abbrev eightT (p : TcpP) : List Int := [p.s, p.d, p.q, p.a, p.r, p.f, p.w, p.u]
theorem eight_beq (p q : TcpP) : (eightT p == eightT q) = oneT p q := by simp [oneT, Bool.and_assoc]
theorem sameT_refl (p : TcpP) : sameT p p = true := by simp [sameT, oneT]

end Go.Proofs.Ytmbmmpbfmakfbaa
/- The law's awake (layer 8). -/
set_option linter.unusedVariables false
namespace Go.Proofs.Ytmbmmpbfmakfbaa
open Go.RowKit

def wake8 : TcpP := ⟨1, 2, 0, 0, 0, 0, 0, 0, [1, 2, 4, 5, 180, 1, 1, 1], []⟩
theorem wake8_check : checkT wake8 8 0 = 0 := by decide
theorem wake8_mss : mssV (mssT [1, 2, 4, 5, 180, 1, 1, 1]) = .tuple #[.int .i64 1460, .int .i64 1, .bool true] := by
  have : mssT [1, 2, 4, 5, 180, 1, 1, 1] = (1460, 1, true) := by decide +kernel
  rw [this]; rfl
theorem wake8_byts : Byts wake8.opts := fun z hz => by
  simp [wake8] at hz
  constructor <;> omega
theorem wake8_lit (w : World) : RB (w.alloc (.cells #[.int .u8 1, .int .u8 2, .int .u8 4, .int .u8 5, .int .u8 180, .int .u8 1, .int .u8 1, .int .u8 1] 5)) (some ⟨w.heap.size, 0, none⟩) 8 8 wake8.opts := by
  have := RB.lit w 5 wake8.opts wake8_byts (by decide)
  simpa [u8s, wake8] using this

end Go.Proofs.Ytmbmmpbfmakfbaa
/- The law's awake (layer 12), and clamp.Most. -/
set_option linter.unusedVariables false
namespace Go.Proofs.Ytmbmmpbfmakfbaa
open Go.RowKit

def wake12 : TcpP := ⟨0, 0, 0, 0, 0, 2, 0, 0, [2, 4, 5, 180], []⟩
theorem wake12_mss : mssV (mssT (segT wake12 1400).opts) = .tuple #[.int .i64 1400, .int .i64 0, .bool true] := by
  have : mssT (segT wake12 1400).opts = (1400, 0, true) := by decide +kernel
  rw [this]; rfl
theorem wake12_lit (w : World) : RB (w.alloc (.cells #[.int .u8 2, .int .u8 4, .int .u8 5, .int .u8 180] 5)) (some ⟨w.heap.size, 0, none⟩) 4 4 wake12.opts := by
  have := RB.lit w 5 wake12.opts (fun z hz => by
    simp [wake12] at hz
    constructor <;> omega) (by decide)
  simpa [u8s, wake12] using this
end Go.Proofs.Ytmbmmpbfmakfbaa
/- The law ClampLeast: its walk. -/
set_option linter.unusedVariables false
namespace Go.Proofs.Ytmbmmpbfmakfbaa
open Go.RowKit

theorem segT_f (m : TcpP) (b : Int) : (segT m b).f = m.f := by unfold segT; split <;> rfl
end Go.Proofs.Ytmbmmpbfmakfbaa
/- Packets of IPv4: v4.flags, v4.fields. -/
set_option linter.unusedVariables false
namespace Go.Proofs.Ytmbmmpbfmakfbaa
open Go Go.RowKit

def dfB (p : V4P) : Int := if p.df = true then bits .or .i64 (wrap64 (p.off.tdiv 8)) 16384 else wrap64 (p.off.tdiv 8)
def flagsB (p : V4P) : Int := if p.mf = true then bits .or .i64 (dfB p) 8192 else dfB p
section
variable (p : V4P) (Ao : Option Addr) (no co : Nat) (A : Option Addr) (n c : Nat) (w : World)
def headB (no : Nat) : Int := bits .or .i64 64 ((20 + (no : Int)) / 4)
abbrev flds4 (p : V4P) (no n : Nat) : Array Value := #[.int .i64 (headB no), .int .i64 1, .int .i64 p.tos, .int .i64 1, .int .i64 (20 + no + n), .int .i64 2, .int .i64 p.id, .int .i64 2, .int .i64 (flagsB p), .int .i64 2, .int .i64 p.ttl, .int .i64 1, .int .i64 p.pr, .int .i64 1, .int .i64 0, .int .i64 2, .int .i64 p.src, .int .i64 4, .int .i64 p.dst, .int .i64 4]
end
end Go.Proofs.Ytmbmmpbfmakfbaa
/- Packets of IPv4: lists of fields that are the same. -/
set_option linter.unusedVariables false
namespace Go.Proofs.Ytmbmmpbfmakfbaa
open Go Go.RowKit
attribute [local go_sem] Oper.semAt_some

theorem range2 {w : World} {b o : Nat} {v0 v1 : Value} (h0 : w.cell? ⟨b, o, none⟩ = some v0) (h1 : w.cell? ⟨b, o + 1, none⟩ = some v1) : w.rangeAt b o [v0, v1] := fun j v hj => by
  have hlt : j < 2 := (List.getElem?_eq_some_iff.1 hj).1
  have hc : j = 0 ∨ j = 1 := by omega
  rcases hc with rfl | rfl <;> (cases hj; assumption)
theorem flds4_two (p : V4P) (no n : Nat) : ∀ j, j < 10 → ∃ x y : Int, (flds4 p no n)[j * 2]? = some (.int .i64 x) ∧ (flds4 p no n)[j * 2 + 1]? = some (.int .i64 y) := fun j hj => by
  have hc : j = 0 ∨ j = 1 ∨ j = 2 ∨ j = 3 ∨ j = 4 ∨ j = 5 ∨ j = 6 ∨ j = 7 ∨ j = 8 ∨ j = 9 := by omega
  rcases hc with rfl | rfl | rfl | rfl | rfl | rfl | rfl | rfl | rfl | rfl <;> exact ⟨_, _, rfl, rfl⟩
end Go.Proofs.Ytmbmmpbfmakfbaa
/- A drawn region that makes several struct variables of one type ('x, y := a, b'): whatever the order, each holds its value in the end. -/
set_option linter.unusedVariables false
namespace Go.Proofs.Ytmbmmpbfmakfbaa
open Go Go.RowKit

/-- A variable: the place of its making, of its store, its slot, what is stored. -/
structure Vr where
  ia : Nat
  ist : Nat
  d : Tmp
  C : Array Value
def V1 (H : Nat) (Ty : TypeId) (zs : Nat) (v : Vr) (L : Array Bool) (T : Array Value) (W : World) : Prop :=
  (L.getD v.ia true = false → T.getD v.d undef = undef ∧ L.getD v.ist true = false) ∧
    (L.getD v.ia true = true → ∃ g cs, T.getD v.d undef = .pointer (some ⟨g, 0, none⟩) ∧ H ≤ g ∧ Blk W g cs Ty ∧ cs.size = zs ∧ (L.getD v.ist true = true → cs = v.C))
def JV (w00 : World) (H : Nat) (Ty : TypeId) (zs : Nat) (vs : List Vr) (L : Array Bool) (T : Array Value) (W : World) : Prop :=
  Below w00.heap.size w00 W ∧ H ≤ W.heap.size ∧ (∀ v ∈ vs, V1 H Ty zs v L T W) ∧
    (∀ v ∈ vs, ∀ v' ∈ vs, v.d ≠ v'.d → L.getD v.ia true = true → L.getD v'.ia true = true → T.getD v.d undef ≠ T.getD v'.d undef)
section
variable {P : Program} {ops : Array Oper} {V0 : Array Value} {N : Nat} {Q : Exit → Act → World → Prop} {ds : List Deferred} {V : Array Value} {En : Env} {o : Oper} {rest : List Oper} {i : Nat}
variable {w00 : World} {H : Nat} {Ty : TypeId} {zs : Nat} {vs : List Vr}
theorem V1.go {v : Vr} {L : Array Bool} {T : Array Value} {W W' : World} (h : V1 H Ty zs v L T W) (hb : Below W.heap.size W W') {d : Option Tmp} (hd : d ≠ some v.d) (h1 : i ≠ v.ia) (h2 : i ≠ v.ist) (u : Value) :
    V1 H Ty zs v (L.setIfInBounds i true) (putV T d u) W' := by
  obtain ⟨k4, k5⟩ := h
  refine ⟨fun h => ?_, fun h => ?_⟩
  · rw [getD_set_ne true h1] at h
    rw [putV_ne hd, getD_set_ne true h2]
    exact k4 h
  · rw [getD_set_ne true h1] at h
    obtain ⟨g, cs, e1, e2, e3, e4, e5⟩ := k5 h
    refine ⟨g, cs, by rw [putV_ne hd]; exact e1, e2, e3.to hb, e4, fun h => ?_⟩
    rw [getD_set_ne true h2] at h
    exact e5 h
theorem vr_val {v : Value} (hlk : (o.looksAt ops).all (fun t => (look En t).isNone) = true) (hs : notSel o = true) (hd : dfree En o = true) (hdn : o.dst.isSome = true) (hw : Region.wanted o (yielded ops V) = true) (hne : ∀ x ∈ vs, o.dst ≠ some x.d ∧ i ≠ x.ia ∧ i ≠ x.ist)
    (hv : ∀ w, Below w00.heap.size w00 w → (execOp (⟨V, []⟩ : Act).eval o).run P w = .ok (.value v) w) (h : lstL P ops V0 N (JV w00 H Ty zs vs) (StayT Ty) Q ds (i + 1) rest (putV V o.dst v) En) : lstL P ops V0 N (JV w00 H Ty zs vs) (StayT Ty) Q ds i (o :: rest) V En :=
  lstL_opv v (List.all_eq_true.2 fun t ht => List.all_eq_true.1 hlk t (gslots_in ht)) hw hd hdn (fun L a w hS _ _ _ hk => by
    rw [exec_agree hs fun t ht => Rt_none (List.all_eq_true.1 hlk t ht) (hk t ht), hv w hS.1]
    obtain ⟨k1, k2, k3, k4⟩ := hS
    refine ⟨?_, ⟨k1, k2, fun x hx => (k3 x hx).go (Below.refl _ _) (hne x hx).1 (hne x hx).2.1 (hne x hx).2.2 v, fun x hx y hy hxy lx ly => ?_⟩, StayT.refl _ _⟩
    · cases e : o.dst with
      | none => rw [e] at hdn; cases hdn
      | some d => rfl
    · rw [getD_set_ne true (hne x hx).2.1] at lx
      rw [getD_set_ne true (hne y hy).2.1] at ly
      rw [putV_ne (hne x hx).1, putV_ne (hne y hy).1]
      exact k4 x hx y hy hxy lx ly) h
theorem vr_row (hlk : (o.looksAt ops).all (fun t => (look En t).isNone) = true) (hs : notSel o = true) (hd : dfree En o = true) (hdn : o.dst.isSome = true) (hw : Region.wanted o (yielded ops V) = true) (hne : ∀ x ∈ vs, o.dst ≠ some x.d ∧ i ≠ x.ia ∧ i ≠ x.ist)
    (ty : TypeId) (x : Operand) (ho : o.op = .load ty x) (g : Nat) (hx : (⟨V, []⟩ : Act).eval x = .pointer (some ⟨g, 0, none⟩)) (t : TypeId) (cs : Array Value) (d : TypeDesc) (hh : ∀ w, Below w00.heap.size w00 w → Blk w g cs t)
    (hu : P.underlying ty = some d) (hdd : (match d with | .struct _ | .array _ _ => true | _ => false) = true) (hi : (P.info? ty).map (·.size) = some cs.size) (h : lstL P ops V0 N (JV w00 H Ty zs vs) (StayT Ty) Q ds (i + 1) rest (putV V o.dst (.agg cs)) En) : lstL P ops V0 N (JV w00 H Ty zs vs) (StayT Ty) Q ds i (o :: rest) V En :=
  vr_val hlk hs hd hdn hw hne (fun w hS => by
    unfold execOp
    simp only [ho, hx, Instr.loadAt, Instr.sureAddr, Sem.run_bind, Sem.run_pure, Result.andThen_ok, run_loadVar_row w g t ty cs _ d (hh w hS).at_ hu hdd hi]) h
theorem vr_alloc (x : Vr) (hx : x ∈ vs) (hg : (gslots ops o).all (fun t => (look En t).isNone) = true) (hd : o.dst = some x.d) (hw : Region.wanted o (yielded ops V) = true) (Zc : Array Value) (hz : Zc.size = zs) (hdN : x.d < N) (h1 : i = x.ia) (h2 : ∀ y ∈ vs, i ≠ y.ist ∧ (y.d = x.d → y = x) ∧ (y.d ≠ x.d → i ≠ y.ia))
    (hr : ∀ (a : Act) w, (execOp a.eval o).run P w = .ok (.value (.pointer (some ⟨w.heap.size, 0, none⟩))) (w.alloc (.cells Zc Ty)))
    (h : lstL P ops V0 N (JV w00 H Ty zs vs) (StayT Ty) Q ds (i + 1) rest V ((x.d, fun u _ => ∃ g, u = .pointer (some ⟨g, 0, none⟩)) :: En)) : lstL P ops V0 N (JV w00 H Ty zs vs) (StayT Ty) Q ds i (o :: rest) V En :=
  lstL_op (fun u _ => ∃ g, u = .pointer (some ⟨g, 0, none⟩)) hg hw (fun u w w' h _ => h) (fun L a w hS h0 hsz hpe hk => by
    obtain ⟨k1, k2, k3, k4⟩ := hS
    have hb : Below w.heap.size w (w.alloc (.cells Zc Ty)) := (Below.refl _ w).alloc (Nat.le_refl _) _
    have hnew : (putV a.tmps o.dst (.pointer (some ⟨w.heap.size, 0, none⟩))).getD x.d undef = .pointer (some ⟨w.heap.size, 0, none⟩) := by rw [hd]; simp [putV, hsz, hdN]
    have hold : ∀ y ∈ vs, y.d ≠ x.d → (putV a.tmps o.dst (.pointer (some ⟨w.heap.size, 0, none⟩))).getD y.d undef = a.tmps.getD y.d undef := fun y _ hy => putV_ne (by rw [hd]; exact fun e => hy (Option.some.inj e).symm) _
    have hlt : ∀ y ∈ vs, y.d ≠ x.d → L.getD y.ia true = true → a.tmps.getD y.d undef ≠ .pointer (some ⟨w.heap.size, 0, none⟩) := fun y hy hyx hl e => by
      obtain ⟨g, cs, e1, e2, e3, _⟩ := (k3 y hy).2 hl
      rw [e1] at e
      have := e3.lt
      cases e
      omega
    rw [hr a w]
    refine ⟨by rw [hd]; exact ⟨_, rfl⟩, ⟨k1.trans (hb.mono k1.size), Nat.le_trans k2 hb.size, fun y hy => ?_, fun y hy z hz' hyz ly lz => ?_⟩, StayT.of hb⟩
    · by_cases e : y.d = x.d
      · obtain rfl := (h2 y hy).2.1 e
        refine ⟨fun h => ?_, fun h => ?_⟩
        · exfalso
          rw [← h1] at h
          rcases Nat.lt_or_ge i L.size with hl | hl
          · simp [hl] at h
          · have : L.getD i true = true := by simp [Array.getElem?_eq_none hl]
            rw [this] at h0; cases h0
        · refine ⟨w.heap.size, Zc, hnew, k2, Blk.new w Zc Ty, hz, fun h' => ?_⟩
          rw [getD_set_ne true (h2 y hy).1] at h'
          have := ((k3 y hy).1 (by rw [← h1]; exact h0)).2
          rw [this] at h'; cases h'
      · exact (k3 y hy).go hb (by rw [hd]; exact fun e' => e (Option.some.inj e').symm) ((h2 y hy).2.2 e) (h2 y hy).1 _
    · by_cases e : y.d = x.d
      · have hzx : z.d ≠ x.d := fun e' => hyz (e.trans e'.symm)
        rw [getD_set_ne true ((h2 z hz').2.2 hzx)] at lz
        rw [e, hnew, hold z hz' hzx]
        exact fun e' => hlt z hz' hzx lz e'.symm
      · rw [getD_set_ne true ((h2 y hy).2.2 e)] at ly
        by_cases e2 : z.d = x.d
        · rw [e2, hnew, hold y hy e]
          exact hlt y hy e ly
        · rw [getD_set_ne true ((h2 z hz').2.2 e2)] at lz
          rw [hold y hy e, hold z hz' e2]
          exact k4 y hy z hz' hyz ly lz) (by rw [keyOf_some hd]; exact h)
theorem vr_store (x : Vr) (hx : x ∈ vs) {e : Tmp} (hg : (gslots ops o).all (fun t => (look En t).isNone) = true) (hw : Region.wanted o (yielded ops V) = true) (hd : o.dst = none) (h1 : i = x.ist) (h2 : ∀ y ∈ vs, i ≠ y.ia ∧ (y.d = x.d → y = x) ∧ (y.d ≠ x.d → i ≠ y.ist)) (hH : w00.heap.size ≤ H) (ho : o.op = .store Ty (.tmp x.d) (.tmp e))
    (hl0 : look En x.d = some (fun u _ => ∃ g, u = .pointer (some ⟨g, 0, none⟩))) (hle : (look En e).isNone = true) (hVe : V.getD e undef = .agg x.C) (hCz : x.C.size = zs) (hC1 : x.C.all (·.oneCell') = true) (hi : (P.info? Ty).map (·.size) = some zs)
    (h : lstL P ops V0 N (JV w00 H Ty zs vs) (StayT Ty) Q ds (i + 1) rest V ((N + i, fun _ _ => True) :: En)) : lstL P ops V0 N (JV w00 H Ty zs vs) (StayT Ty) Q ds i (o :: rest) V En :=
  lstL_op (fun _ _ => True) hg hw (fun _ _ _ _ _ => trivial) (fun L a w hS h0 hsz hpe hk => by
    obtain ⟨k1, k2, k3, k4⟩ := hS
    have hd0 : x.d ∈ o.looksAt ops := List.mem_append_left _ (List.mem_filterMap.2 ⟨.tmp x.d, by simp [Op.operands, ho], rfl⟩)
    have hde : e ∈ o.looksAt ops := List.mem_append_left _ (List.mem_filterMap.2 ⟨.tmp e, by simp [Op.operands, ho], rfl⟩)
    obtain ⟨g, hgp⟩ : ∃ g, a.tmps.getD x.d undef = .pointer (some ⟨g, 0, none⟩) := by have := hk x.d hd0; unfold Rt at this; rw [hl0] at this; exact this
    have hF1 : a.tmps.getD e undef = .agg x.C := (Rt_none hle (hk e hde)).trans hVe
    have hLa : L.getD x.ia true = true := by
      cases hl : L.getD x.ia true with
      | true => rfl
      | false => have := ((k3 x hx).1 hl).1; rw [hgp] at this; cases this
    obtain ⟨g', cs, e1, e2, e3, e4, e5⟩ := (k3 x hx).2 hLa
    rw [hgp] at e1
    cases e1
    have hxv : a.eval (.tmp x.d) = .pointer (some ⟨g, 0, none⟩) := hgp
    have hyv : a.eval (.tmp e) = .agg x.C := hF1
    unfold execOp
    simp only [ho, hxv, hyv, Instr.storeAt, Instr.sureAddr, Sem.run_bind, Sem.run_pure, Result.andThen_ok, run_storeVar_row w g Ty Ty cs x.C e3.at_ (by rw [hi, hCz]) (by rw [e4, hCz]) hC1]
    have hst : StayT Ty w (w.setRow g x.C) := ⟨by rw [setRow_size]; exact Nat.le_refl _, fun k c T' fz hT hk => by
      have : k ≠ g := fun e => by
        subst e
        rw [e3.at_] at hk
        cases hk
        exact hT rfl
      rw [row_ne w g k x.C this]; exact hk⟩
    refine ⟨hd, trivial, ⟨below_row k1 (Nat.le_trans hH e2) x.C, by rw [setRow_size]; exact k2, fun y hy => ?_, fun y hy z hz hyz ly lz => ?_⟩, hst⟩
    · by_cases e : y.d = x.d
      · obtain rfl := (h2 y hy).2.1 e
        refine ⟨fun h => ?_, fun _ => ?_⟩
        · rw [getD_set_ne true (h2 y hy).1, hLa] at h; cases h
        · exact ⟨g, y.C, hgp, e2, ⟨setRow_heap w g cs y.C Ty _ e3.at_⟩, hCz, fun _ => rfl⟩
      · obtain ⟨m1, m2⟩ := k3 y hy
        refine ⟨fun h => ?_, fun h => ?_⟩
        · rw [getD_set_ne true (h2 y hy).1] at h
          rw [getD_set_ne true ((h2 y hy).2.2 e)]
          exact m1 h
        · rw [getD_set_ne true (h2 y hy).1] at h
          obtain ⟨g2, c2, f1, f2, f3, f4, f5⟩ := m2 h
          have hne : g2 ≠ g := fun e' => by
            refine k4 y hy x hx e h hLa ?_
            rw [f1, hgp, e']
          refine ⟨g2, c2, f1, f2, ⟨(row_ne w g g2 x.C hne).trans f3.at_⟩, f4, fun h' => ?_⟩
          rw [getD_set_ne true ((h2 y hy).2.2 e)] at h'
          exact f5 h'
    · rw [getD_set_ne true (h2 y hy).1] at ly
      rw [getD_set_ne true (h2 z hz).1] at lz
      exact k4 y hy z hz hyz ly lz) (by rw [keyOf_ge hd]; exact h)
end
end Go.Proofs.Ytmbmmpbfmakfbaa
