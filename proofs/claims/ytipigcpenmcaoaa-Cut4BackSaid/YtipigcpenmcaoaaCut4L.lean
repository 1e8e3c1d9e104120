/- The laws of layer 13: awake, same. -/
import Derived.Test.YtipigcpenmcaoaaCut4K
import Derived.Test.YtipigcpenmcaoaaV4Q
import Derived.Deep.OwnRows
set_option linter.unusedVariables false
namespace Go.Proofs.Ytipigcpenmcaoaa
open Go Go.RowKit
attribute [local go_sem] Oper.semAt_some

def zs (n : Nat) : List Int := List.replicate n 0
theorem zs_len (n : Nat) : (zs n).length = n := List.length_replicate
theorem zs_take (k n : Nat) (h : k ≤ n) : (zs n).take k = zs k := by unfold zs; rw [List.take_replicate, Nat.min_eq_left h]
theorem zs_drop (k n : Nat) : (zs n).drop k = zs (n - k) := by unfold zs; rw [List.drop_replicate]
theorem zs_byts (n : Nat) : Byts (zs n) := fun x hx => by
  rw [List.eq_of_mem_replicate hx]; constructor <;> omega
theorem made_u8 (n : Nat) : madeCells #[.int .u8 0] n = (u8s (zs n)).toArray := by
  unfold zs
  apply Array.ext'
  simp only [madeCells, u8s, Array.toList_map, Array.toList_range, List.map_replicate]
  apply List.ext_getElem
  · simp
  · intro i h1 h2
    simp [Nat.mod_one]
theorem wpList_make_bytes {ops : Array Oper} {rest : List Oper} {o : Oper} {a : Act} {Q : Exit → Act → World → Prop} (w : World) (hg : o.guard = none) (l c : Operand) (hop : o.op = .makeSlice 22 l c) (n : Nat) (hl : a.eval l = .int .i64 n) (hc : a.eval c = .int .i64 n) (hn : n ≤ 100000)
    (h : wpList Try.prog ops Q rest (a.put o.dst (.slice (some ⟨w.heap.size, 0, none⟩) n n)) (w.alloc (.cells (u8s (zs n)).toArray 5))) : wpList Try.prog ops Q (o :: rest) a w := by
  obtain ⟨i0, hi, hz0, hz1, hz2⟩ := info_parts info_u8
  have hr := run_make_row (P := Try.prog) 22 5 i0 (.int .u8 0) Try.underlying22 hi hz0 hz1 rfl .i64 .i64 n (by rw [hz2]; omega) (by omega) w
  rw [made_u8] at hr
  refine wpList_plain hg fun K hK => ?_
  unfold Oper.wp execOp
  simp only [hop, hl, hc, hr, Sem.run_bind, Sem.run_pure, Result.andThen_ok]
  exact hK _ _ h
theorem wpList_load_at {ops : Array Oper} {rest : List Oper} {o : Oper} {a : Act} {Q : Exit → Act → World → Prop} {w : World} (hgd : o.guard = none) (ty : TypeId) (x : Operand) (ho : o.op = .load ty x) (b off : Nat) (hx : a.eval x = .pointer (some ⟨b, off, none⟩)) (C : Array Value) (d : TypeDesc) (hc : w.rangeAt b off C.toList)
    (hu : Try.prog.underlying ty = some d) (hd : d.isRow = true) (hi : (Try.prog.info? ty).map (·.size) = some C.size) (h : wpList Try.prog ops Q rest (a.put o.dst (.agg C)) w) : wpList Try.prog ops Q (o :: rest) a w := by
  refine wpList_load_mid hgd ty x ho b off hx C.toList d hc hu hd (by rw [Array.length_toList]; exact hi) ?_
  rw [Array.toArray_toList]
  exact h
theorem tameL_at {P : Program} {ops : Array Oper} {Q : Exit → Act → World → Prop} {S : World → Prop} {rest : List Oper} {o : Oper} {a : Act} (hw : Region.wanted o (yielded ops a.tmps) = true) (ty : TypeId) (x : Operand) (ho : o.op = .load ty x) (b off : Nat) (hx : a.eval x = .pointer (some ⟨b, off, none⟩)) (C : Array Value) (d : TypeDesc) (hc : ∀ w, S w → w.rangeAt b off C.toList)
    (hu : P.underlying ty = some d) (hd : d.isRow = true) (hi : (P.info? ty).map (·.size) = some C.size) (h : tameL P ops Q S rest (a.put o.dst (.agg C))) : tameL P ops Q S (o :: rest) a := by
  refine tameL_mid hw ty x ho b off hx C.toList d hc hu hd (by rw [Array.length_toList]; exact hi) ?_
  rw [Array.toArray_toList]
  exact h
/-- The i-th packet of a list. -/
theorem lr4_get {w : World} {A : Option Addr} {n c : Nat} {qs : List kV4.β} {l : List V4P} (hL : LR kV4 w A n c qs) (hq : qs.map (·.p) = l) {i : Nat} {x : V4P} (hx : l[i]? = some x) :
    ∃ b off ao no co a m k, A = some ⟨b, off, none⟩ ∧ i < n ∧ b < w.heap.size ∧ w.rangeAt b (off + i * 11) (cells4 x ao no co a m k).toList ∧ RB w ao no co x.opts ∧ RB w a m k x.data := by
  have hi : i < n := by
    have h1 := (List.getElem?_eq_some_iff.1 hx).1
    rw [← hq, List.length_map, hL.len] at h1; exact h1
  obtain ⟨b, off, y, e, hlt, hy, _, hr, hs⟩ := hL.mid hi
  have h2 : (qs.map (·.p))[i]? = some y.p := by rw [List.getElem?_map, hy]; rfl
  rw [hq, hx] at h2
  obtain rfl := Option.some.inj h2
  exact ⟨b, off, y.ao, y.no, y.co, y.a, y.n, y.c, e, hi, hlt, hr, hs _ (List.mem_cons_self ..), hs _ (List.mem_cons_of_mem _ (List.mem_singleton.2 rfl))⟩
theorem lr4_len {w : World} {A : Option Addr} {n c : Nat} {qs : List kV4.β} {l : List V4P} (hL : LR kV4 w A n c qs) (hq : qs.map (·.p) = l) : l.length = n := by rw [← hq, List.length_map, hL.len]

def wake13 : V4P := ⟨0, 0, 0, 9, 17, 0, 0, false, false, [], zs 100⟩
def part13 (off : Int) (mf : Bool) (k : Nat) : V4P := ⟨0, 0, off, 9, 17, 0, 0, false, mf, [], zs k⟩
theorem copied_nil : copiedV [] = [] := by decide +kernel
theorem wake13_frags : frags4 wake13 68 = [part13 0 true 48, part13 48 true 48, part13 96 false 4] := by
  have f1 : fit4 20 100 68 = 48 := by decide
  have f2 : fit4 20 52 68 = 48 := by decide
  have f3 : fit4 20 4 68 = 4 := by decide
  unfold frags4
  show fragsF 68 false (copiedV []) ((zs 100).length + 1) wake13 (zs 100) = _
  rw [copied_nil, zs_len]
  rw [fragsF]
  simp only [show wake13.opts = [] from rfl, List.length_nil, Nat.add_zero, zs_len, f1, if_neg (show ¬ (48 : Nat) = 100 by decide)]
  rw [fragsF]
  simp only [List.length_nil, Nat.add_zero, zs_drop, zs_len, f2, if_neg (show ¬ (48 : Nat) = 52 by decide)]
  rw [fragsF]
  simp only [List.length_nil, Nat.add_zero, zs_drop, zs_len, f3, if_pos]
  simp only [frag1, wake13, part13, List.length_nil, Nat.add_zero, zs_len, f1, f2, f3]
  rw [zs_take 48 100 (by decide), zs_take _ _ (by decide), zs_take _ _ (by decide)]
  rfl
theorem wake13_code : cutK4 wake13 68 = 0 := by
  unfold cutK4
  rw [if_neg (by decide), show wake13.data.length = 100 from zs_len 100]
  rfl
theorem wake13_list : cutR4 wake13 68 = [part13 0 true 48, part13 48 true 48, part13 96 false 4] := by
  unfold cutR4
  rw [if_pos wake13_code, show wake13.data.length = 100 from zs_len 100, if_neg (by decide), wake13_frags]
set_option maxRecDepth 100000 in
set_option maxHeartbeats 2000000 in
theorem awake13 (w : World) : Calls Try.prog 13 #[] w fun e w' => e = .returned (.bool true) ∧ Below w.heap.size w w' := by
  have hl := RB.lit w 5 (zs 100) (zs_byts _) (by rw [zs_len]; decide)
  rw [zs_len] at hl
  have hb0 := (Below.refl w.heap.size w).alloc (Nat.le_refl _) (.cells (u8s (zs 100)).toArray 5)
  have hC := Cut4_any wake13 none 0 0 (some ⟨w.heap.size, 0, none⟩) 100 100 68 _ (RB.nil _) hl (by decide) (by decide)
  unfold Cut4Out at hC
  rw [wake13_code, wake13_list] at hC
  have hsz : (w.alloc (.cells (u8s (zs 100)).toArray 5)).heap.size = w.heap.size + 1 := by simp
  generalize hw1 : w.alloc (.cells (u8s (zs 100)).toArray 5) = w1 at *
  replace hC := Lib.hid hC
  replace hb0 := Lib.hid hb0
  replace hsz := Lib.hid hsz
  replace hl := 0
  go_enter Try.func13, Try.ntmps13
  go_wp2_with (first
    | (refine wpList_make_bytes _ rfl (.const (.int .i64 100)) (.const (.int .i64 100)) rfl 100 rfl rfl (by decide) ?_)
    | (go_at_call 14; refine (hC.out).mono ?_; rintro e w2 ⟨A2, n2, c2, ps, rfl, hL, hps, hB2⟩; obtain rfl := lr4_len hL hps; obtain ⟨b, off, ao0, no0, co0, a0, m0, k0, rfl, _, _, r0, _, d0⟩ := lr4_get hL hps (i := 0) rfl; obtain ⟨b', off', ao1, no1, co1, a1, m1, k1, e1, _, _, r1, _, _⟩ := lr4_get hL hps (i := 1) rfl; cases e1; obtain ⟨b', off', ao2, no2, co2, a2, m2, k2, e2, _, _, r2, _, d2⟩ := lr4_get hL hps (i := 2) rfl; cases e2; obtain rfl : 48 = m0 := (zs_len 48).symm.trans d0.len; obtain rfl : 4 = m2 := (zs_len 4).symm.trans d2.len; have x1 : w2.cell? ⟨b, off + 10, none⟩ = _ := r0 10 (.slice a0 48 k0) rfl; have x2 : w2.cell? ⟨b, off + 22 + 10, none⟩ = _ := r2 10 (.slice a2 4 k2) rfl; have x3 : w2.cell? ⟨b, off + 11 + 8, none⟩ = _ := r1 8 (.bool true) rfl; have x4 : w2.cell? ⟨b, off + 11 + 2, none⟩ = _ := r1 2 (.int .i64 48) rfl; have hc2 := hL.nc; have hbb := Lib.hid (hb0.out.trans (hB2.mono hb0.out.size)); clear r0 r1 r2 d0 d2 hL hps hB2)
    | fail)
  trace_state
  go_ret
  exact ⟨by first | rfl | simp, hbb.out⟩
theorem en_V4RSame (args : Array Value) (w : World) : (callFunc 22 args).run Try.prog w = .ok (.enter 22 args) w := enters Try.func22 (by kernel_rfl) (by kernel_rfl) args w
set_option maxRecDepth 100000 in
set_option maxHeartbeats 2000000 in
theorem Same13_any (A1 : Option Addr) (n1 c1 : Nat) (A2 : Option Addr) (n2 c2 : Nat) (qs1 qs2 : List kV4.β) (l : List V4P) (w : World) (hL1 : LR kV4 w A1 n1 c1 qs1) (hL2 : LR kV4 w A2 n2 c2 qs2) (hp1 : qs1.map (·.p) = l) (hp2 : qs2.map (·.p) = l) (hn : n1 ≤ 100000) :
    Calls Try.prog 16 #[.slice A1 n1 c1, .slice A2 n2 c2] w fun e w' => e = .returned (.bool true) ∧ Below w.heap.size w w' := by
  have e1 := lr4_len hL1 hp1
  obtain rfl : n1 = n2 := by have := lr4_len hL2 hp2; omega
  replace e1 := Lib.hid e1
  go_enter Try.func16, Try.ntmps16
  go_wp2
  go_loopw [13] (fun v wr => ∃ k : Nat, k ≤ n1 ∧ v = .int .i64 k ∧ Below w.heap.size w wr) (fun v _ => n1 - (intOf v).toNat)
  case atStart => exact ⟨0, Nat.zero_le _, rfl, Below.refl _ _⟩
  case round =>
    obtain ⟨k, hk, rfl, hBl⟩ := hrel
    by_cases hlt : k < n1
    · obtain ⟨x, hx⟩ : ∃ x, l[k]? = some x := ⟨_, List.getElem?_eq_getElem (by rw [e1.out]; exact hlt)⟩
      obtain ⟨b, off, ao, no, co, a, m, d, rfl, _, hbl, hr1, ho1, hd1⟩ := lr4_get hL1 hp1 hx
      obtain ⟨b', off', ao', no', co', a', m', d', rfl, _, hbl', hr2, ho2, hd2⟩ := lr4_get hL2 hp2 hx
      obtain rfl : no = no' := by rw [← ho1.len, ho2.len]
      obtain rfl : m = m' := by rw [← hd1.len, hd2.len]
      have hnc1 := hL1.nc
      have hnc2 := hL2.nc
      have hSm := Lib.hid (fun W (hW : Below w.heap.size w W) => RefSame4_same x ao no co a m d ao' co' a' d' W (ho1.below hW) (hd1.below hW) (ho2.below hW) (hd2.below hW))
      have hK := Lib.hid (show ∀ W W', (fun W => Below w.heap.size w W) W → Below W.heap.size W W' → (fun W => Below w.heap.size w W) W' from fun W W' h1 h2 => h1.trans (h2.mono h1.size))
      have hM1 := Lib.hid (fun W (hW : Below w.heap.size w W) => rangeAt_below hr1 hW hbl)
      have hM2 := Lib.hid (fun W (hW : Below w.heap.size w W) => rangeAt_below hr2 hW hbl')
      have hf1 := Lib.hid (show (Try.prog.info? 24).map (·.size) = some (cells4 x ao no co a m d).size from info_v4)
      have hf2 := Lib.hid (show (Try.prog.info? 24).map (·.size) = some (cells4 x ao' no co' a' m d').size from info_v4)
      have hlti : (k : Int) < (n1 : Int) := by omega
      have hge : decide ((n1 : Int) ≤ (k : Int)) = false := by simp; omega
      have hge2 : decide (n1 ≤ k) = false := by simp; omega
      have hC1 := Lib.hid (show ∀ W, (fun W => Below w.heap.size w W) W → True ∧ True ∧ True from fun _ _ => ⟨trivial, trivial, trivial⟩)
      replace hr1 := 0
      replace hr2 := 0
      replace hd1 := 0
      replace hd2 := 0
      replace ho1 := 0
      replace ho2 := 0
      clear hx hbl hbl'
      go_wp2
      refine wp_region_tame (fun W => Below w.heap.size w W) (by kernel_rfl) (by kernel_rfl) hBl.drew ?_
      repeat (first
        | (refine tameL_skip rfl ?_; simp only [Act.put, List.setIfInBounds_toArray, List.set_cons_zero, List.set_cons_succ])
        | (refine tameL_at rfl 24 (.tmp 18) rfl b (off + k * 11) rfl (cells4 x ao no co a m d) _ (fun W hS => hM1.out W hS) Try.underlying24 rfl hf1.out ?_; simp only [Act.put, List.setIfInBounds_toArray, List.set_cons_zero, List.set_cons_succ])
        | (refine tameL_at rfl 24 (.tmp 22) rfl b' (off' + k * 11) rfl (cells4 x ao' no co' a' m d') _ (fun W hS => hM2.out W hS) Try.underlying24 rfl hf2.out ?_; simp only [Act.put, List.setIfInBounds_toArray, List.set_cons_zero, List.set_cons_succ])
        | (refine tameL_call2 (v := .bool true) rfl 22 (.tmp 19) (.tmp 23) _ rfl en_V4RSame rfl rfl ?_ ?_; exact fun W hS => (hSm.out W hS).mono fun e W' ⟨he, hb⟩ => ⟨he, hK.out W W' hS hb⟩; simp only [Act.put, List.setIfInBounds_toArray, List.set_cons_zero, List.set_cons_succ])
        | (refine tameL_val (v := ?_) rfl (fun W hS => ?_) ?_; rotate_left; (· (obtain ⟨g0, g1, g2⟩ := hC1.out W hS; clear hS; go_simp; try with_reducible rfl)); simp only [Act.put, List.setIfInBounds_toArray, List.set_cons_zero, List.set_cons_succ]))
      refine tameL_nil fun W hS => ?_
      go_wp2
      go_roundw
      case rel => exact ⟨k + 1, by omega, by go_num, hS⟩
      case measure => simp [intOf]; omega
    · obtain rfl : k = n1 := by omega
      go_wp2
      go_ret
      exact ⟨by first | rfl | simp, hBl⟩
end Go.Proofs.Ytipigcpenmcaoaa
