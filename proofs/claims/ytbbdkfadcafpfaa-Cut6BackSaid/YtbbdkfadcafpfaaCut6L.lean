/- The law's awake (layer 14). -/
import Derived.Test.YtbbdkfadcafpfaaCut6A
import Derived.Test.YtbbdkfadcafpfaaV6Back0
import Derived.Deep.OwnRows
import Derived.Test.YtbbdkfadcafpfaaSame6R
import Derived.Test.YtbbdkfadcafpfaaEqual
set_option linter.unusedVariables false
namespace Go.Proofs.Ytbbdkfadcafpfaa
open Go Go.RowKit
attribute [local go_sem] Oper.semAt_some

def zs (n : Nat) : List Int := List.replicate n 0
theorem zs_len (n : Nat) : (zs n).length = n := List.length_replicate
theorem zs_take (k n : Nat) (h : k ≤ n) : (zs n).take k = zs k := by unfold zs; rw [List.take_replicate, Nat.min_eq_left h]
theorem zs_drop (k n : Nat) : (zs n).drop k = zs (n - k) := by unfold zs; rw [List.drop_replicate]
theorem zs_byts (n : Nat) : Byts (zs n) := fun x hx => by
  rw [List.eq_of_mem_replicate hx]; constructor <;> omega

theorem made_u8 (n : Nat) : madeCells #[.int .u8 0] n = (u8s (zs n)).toArray := by
  unfold zs
  apply Array.ext'
  simp only [madeCells, u8s, Array.toList_map, Array.toList_range, List.map_replicate]
  apply List.ext_getElem
  · simp
  · intro i h1 h2
    simp [Nat.mod_one]
theorem wpList_make_bytes {ops : Array Oper} {rest : List Oper} {o : Oper} {a : Act} {Q : Exit → Act → World → Prop} (w : World) (hg : o.guard = none) (l c : Operand) (hop : o.op = .makeSlice 24 l c) (n : Nat) (hl : a.eval l = .int .i64 n) (hc : a.eval c = .int .i64 n) (hn : n ≤ 100000)
    (h : wpList Try.prog ops Q rest (a.put o.dst (.slice (some ⟨w.heap.size, 0, none⟩) n n)) (w.alloc (.cells (u8s (zs n)).toArray 5))) : wpList Try.prog ops Q (o :: rest) a w := by
  obtain ⟨i0, hi, hz0, hz1, hz2⟩ := info_parts info_u8
  have hr := run_make_row (P := Try.prog) 24 5 i0 (.int .u8 0) Try.underlying24 hi hz0 hz1 rfl .i64 .i64 n (by rw [hz2]; omega) (by omega) w
  rw [made_u8] at hr
  refine wpList_plain hg fun K hK => ?_
  unfold Oper.wp execOp
  simp only [hop, hl, hc, hr, Sem.run_bind, Sem.run_pure, Result.andThen_ok]
  exact hK _ _ h
def wake14 : V6P := ⟨0, 0, 4, 0, z16, z16, zs 1300⟩
theorem wake14_cells (A : Option Addr) (n c : Nat) : V6V #[.int .i64 0, .int .i64 0, .int .i64 4, .int .i64 0, .int .u8 0, .int .u8 0, .int .u8 0, .int .u8 0, .int .u8 0, .int .u8 0, .int .u8 0, .int .u8 0, .int .u8 0, .int .u8 0, .int .u8 0, .int .u8 0, .int .u8 0, .int .u8 0, .int .u8 0, .int .u8 0, .int .u8 0, .int .u8 0, .int .u8 0, .int .u8 0, .int .u8 0, .int .u8 0, .int .u8 0, .int .u8 0, .int .u8 0, .int .u8 0, .int .u8 0, .int .u8 0, .int .u8 0, .int .u8 0, .int .u8 0, .int .u8 0, .slice A n c] wake14 A n c := by
  have h : V6V ((zeroVx.setIfInBounds 2 (.int .i64 4)).setIfInBounds 36 (.slice A n c)) wake14 A n c := (V6V.next (p := zeroV) zeroVV 4).data A n c (zs 1300)
  exact h
theorem wake14_len : wake14.data.length = 1300 := zs_len 1300
theorem wake14_code : cutK wake14 7 1280 = 0 := by
  unfold cutK
  rw [if_neg (by decide), wake14_len]
  rfl
theorem wake14_rest : cutR wake14 7 1280 = [fragOf wake14 7 (0, true, zs 1232), fragOf wake14 7 (1232, false, zs 68)] := by
  unfold cutR
  rw [if_pos wake14_code, wake14_len, if_neg (by decide)]
  have : chunksC 1232 wake14.data = [(0, true, zs 1232), (1232, false, zs 68)] := by
    unfold chunksC
    rw [wake14_len, chunksF_step, wake14_len, if_pos (by decide), chunksF_step, wake14_len, if_neg (by decide)]
    show [(0, true, ((zs 1300).drop 0).take 1232), (1232, false, (zs 1300).drop 1232)] = _
    rw [List.drop_zero, zs_take _ _ (by decide), zs_drop]
  show (chunksC 1232 wake14.data).map _ = _
  rw [this]; rfl
theorem wake14_part : isPart (fragOf wake14 7 (1232, false, zs 68)) = true ∧ fOff (fragOf wake14 7 (1232, false, zs 68)) = 1232 ∧ fId (fragOf wake14 7 (1232, false, zs 68)) = 7 ∧ fMore (fragOf wake14 7 (1232, false, zs 68)) = false ∧ fRest (fragOf wake14 7 (1232, false, zs 68)) = zs 68 := by
  have hp : isPart (fragOf wake14 7 (1232, false, zs 68)) = true := by
    unfold isPart fragOf
    simp [bytesF_len]
  obtain ⟨_, b1, b2, b3, b4⟩ := back_F (nx := 4) (off := 1232) (id := 7) (m := false) (by decide) (zs 68)
  unfold fOff fId fMore fRest
  rw [hp]
  exact ⟨rfl, b1, b2, b3, b4⟩
theorem wpList_load_at {ops : Array Oper} {rest : List Oper} {o : Oper} {a : Act} {Q : Exit → Act → World → Prop} {w : World} (hgd : o.guard = none) (ty : TypeId) (x : Operand) (ho : o.op = .load ty x) (b off : Nat) (hx : a.eval x = .pointer (some ⟨b, off, none⟩)) (C : Array Value) (d : TypeDesc) (hc : w.rangeAt b off C.toList)
    (hu : Try.prog.underlying ty = some d) (hd : d.isRow = true) (hi : (Try.prog.info? ty).map (·.size) = some C.size) (h : wpList Try.prog ops Q rest (a.put o.dst (.agg C)) w) : wpList Try.prog ops Q (o :: rest) a w := by
  refine wpList_load_mid hgd ty x ho b off hx C.toList d hc hu hd (by rw [Array.length_toList]; exact hi) ?_
  rw [Array.toArray_toList]
  exact h

theorem wake14_two {w : World} {A2 : Option Addr} {n2 c2 : Nat} {ps : List kV6.β} {x y : V6P} (hL : LR kV6 w A2 n2 c2 ps) (hps : ps.map (·.1) = [x, y]) : 2 = n2 := by
  have h := congrArg List.length hps
  rw [List.length_map, hL.len] at h
  exact h.symm
theorem wake14_snd {w : World} {A2 : Option Addr} {c2 : Nat} {ps : List kV6.β} {x y : V6P} (hL : LR kV6 w A2 2 c2 ps) (hps : ps.map (·.1) = [x, y]) :
    ∃ b2 o2 Pf Af mf cf, A2 = some ⟨b2, o2, none⟩ ∧ b2 < w.heap.size ∧ w.rangeAt b2 (o2 + 37) Pf.toList ∧ V6V Pf y Af mf cf ∧ RB w Af mf cf y.data := by
  obtain ⟨b2, o2, ⟨pf, Pf, Af, mf, cf⟩, e, hlt, hx, hok, hra, hsl⟩ := hL.mid (i := 1) (by decide)
  have h1 : (ps.map (·.1))[1]? = some pf := by rw [List.getElem?_map, hx]; rfl
  rw [hps] at h1
  obtain rfl : y = pf := by simpa using h1
  exact ⟨b2, o2, Pf, Af, mf, cf, e, hlt, (show w.rangeAt b2 (o2 + 1 * 37) Pf.toList from hra), hok, hsl (Af, mf, cf, y.data) (List.mem_singleton.2 rfl)⟩
theorem wake14_Part (Pf : Array Value) (Af : Option Addr) (mf cf : Nat) (w : World) (hok : V6V Pf (fragOf wake14 7 (1232, false, zs 68)) Af mf cf) (hd : RB w Af mf cf (fragOf wake14 7 (1232, false, zs 68)).data) :
    Calls Try.prog 35 #[.agg Pf] w fun e w' => ∃ (x0 : Int) (A4 : Option Addr) (c4 : Nat), e = .returned (.tuple #[.agg #[.int .i64 x0, .int .i64 1232, .int .i64 7, .bool false], .slice A4 68 c4, .bool true]) ∧ Below w.heap.size w w' := by
  have hl : (fragOf wake14 7 (1232, false, zs 68)).data.length = 76 := by simp [fragOf, bytesF_len, zs_len]
  refine (Part_any Pf _ Af mf cf w hok hd (by rw [← hd.len, hl]; decide)).mono ?_
  obtain ⟨e1, e2, e3, e4, e5⟩ := wake14_part
  unfold PartOut
  rw [e1, e2, e3, e4, e5]
  rintro e w' ⟨A4, n4, c4, rfl, h4, hB⟩
  obtain rfl : n4 = 68 := by rw [← h4.len, zs_len]
  exact ⟨_, A4, c4, rfl, hB⟩
set_option maxRecDepth 100000 in
set_option maxHeartbeats 2000000 in
theorem awake14 (w : World) : Calls Try.prog 32 #[] w fun e w' => e = .returned (.bool true) ∧ Below w.heap.size w w' := by
  have hl := RB.lit w 5 (zs 1300) (zs_byts _) (by rw [zs_len]; decide)
  rw [zs_len] at hl
  have hb0 := (Below.refl w.heap.size w).alloc (Nat.le_refl _) (.cells (u8s (zs 1300)).toArray 5)
  have hC := Cut6_any _ wake14 (some ⟨w.heap.size, 0, none⟩) 1300 1300 7 1280 _ (wake14_cells _ _ _) hl (by decide)
  unfold CutOut at hC
  rw [wake14_code, wake14_rest] at hC
  have hsz : (w.alloc (.cells (u8s (zs 1300)).toArray 5)).heap.size = w.heap.size + 1 := by simp
  generalize hw1 : w.alloc (.cells (u8s (zs 1300)).toArray 5) = w1 at *
  replace hC := Lib.hid hC
  replace hb0 := Lib.hid hb0
  replace hsz := Lib.hid hsz
  replace hl := 0
  go_enter Try.func32, Try.ntmps32
  go_wp2_with (first
    | (refine wpList_make_bytes _ rfl (.const (.int .i64 1300)) (.const (.int .i64 1300)) rfl 1300 rfl rfl (by decide) ?_)
    | (go_at_call 33; refine (hC.out).mono ?_; rintro e w2 ⟨A2, n2, c2, ps, rfl, hL, hps, hB2⟩; obtain rfl := wake14_two hL hps; obtain ⟨b2, o2, Pf, Af, mf, cf, rfl, hb2, hra, hok, hd⟩ := wake14_snd hL hps; have hP := Lib.hid (wake14_Part Pf Af mf cf w2 hok hd); have hra2 := Lib.hid hra; have hVf := Lib.hid (show (Try.prog.info? 26).map (·.size) = some Pf.size by rw [hok.size]; exact info_v6); have hbb := Lib.hid (hb0.out.trans (hB2.mono hb0.out.size)); have hc2 := hL.nc; clear hra hok hd hps hL hB2)
    | (refine wpList_load_at rfl 26 (.tmp 21) rfl b2 (o2 + 37) rfl Pf _ hra2.out Try.underlying26 rfl hVf.out ?_)
    | (go_at_call 35; refine (hP.out).mono ?_; rintro e w3 ⟨x0, A4, c4, rfl, hB3⟩; have hbc := Lib.hid (hbb.out.trans (hB3.mono hbb.out.size)); replace hB3 := 0)
    | fail)
  go_ret
  exact ⟨by first | rfl | simp, hbc.out.alloc hbc.out.size _⟩
end Go.Proofs.Ytbbdkfadcafpfaa
/- The law Cut6Cuts: its walk. -/
set_option linter.unusedVariables false
namespace Go.Proofs.Ytbbdkfadcafpfaa
open Go Go.RowKit
attribute [local go_sem] Oper.semAt_some

theorem en_V6RSame (args : Array Value) (w : World) : (callFunc 22 args).run Try.prog w = .ok (.enter 22 args) w := enters Try.func22 (by kernel_rfl) (by kernel_rfl) args w
theorem sameV_refl (p : V6P) : sameV p p = true := by simp [sameV]
theorem cut6_mid {w : World} {A : Option Addr} {n c : Nat} {ps : List kV6.β} (hL : LR kV6 w A n c ps) {i : Nat} (hi : i < n) :
    ∃ b off y Pf Af mf cf, A = some ⟨b, off, none⟩ ∧ b < w.heap.size ∧ (ps.map (·.1))[i]? = some y ∧ w.rangeAt b (off + i * 37) Pf.toList ∧ V6V Pf y Af mf cf ∧ RB w Af mf cf y.data := by
  obtain ⟨b2, o2, ⟨pf, Pf, Af, mf, cf⟩, e, hlt, hx, hok, hra, hsl⟩ := hL.mid hi
  exact ⟨b2, o2, pf, Pf, Af, mf, cf, e, hlt, by rw [List.getElem?_map, hx]; rfl, hra, hok, hsl (Af, mf, cf, pf.data) (List.mem_singleton.2 rfl)⟩
theorem cutR_len (p : V6P) (id mtu : Int) : (cutR p id mtu).length ≤ p.data.length + 1 := by
  unfold cutR
  split
  · split
    · simp
    · rw [List.length_map]
      exact chunksF_len _ _ _ _ _
  · simp
theorem tameL_at {P : Program} {ops : Array Oper} {Q : Exit → Act → World → Prop} {S : World → Prop} {rest : List Oper} {o : Oper} {a : Act} (hw : Region.wanted o (yielded ops a.tmps) = true) (ty : TypeId) (x : Operand) (ho : o.op = .load ty x) (b off : Nat) (hx : a.eval x = .pointer (some ⟨b, off, none⟩)) (C : Array Value) (d : TypeDesc) (hc : ∀ w, S w → w.rangeAt b off C.toList)
    (hu : P.underlying ty = some d) (hd : d.isRow = true) (hi : (P.info? ty).map (·.size) = some C.size) (h : tameL P ops Q S rest (a.put o.dst (.agg C))) : tameL P ops Q S (o :: rest) a := by
  refine tameL_mid hw ty x ho b off hx C.toList d hc hu hd (by rw [Array.length_toList]; exact hi) ?_
  rw [Array.toArray_toList]
  exact h

set_option maxRecDepth 100000 in
set_option maxHeartbeats 4000000 in
theorem Cut6Cuts_walk (P : Array Value) (p : V6P) (A : Option Addr) (n c : Nat) (id mtu : Int) (w : World) (h : V6V P p A n c) (hr : RB w A n c p.data) :
    Calls Try.prog 7 #[.agg P, .int .i64 id, .int .i64 mtu] w fun e w' => e = .returned (.bool true) ∧ Below w.heap.size w w' := by
  have hb0 := Lib.hid ((Below.refl _ w).alloc (Nat.le_refl _) (.cells P 26))
  have kP0 := Blk.new w P 26
  have c36 := kP0.cell 36 _ h.h36
  have kP := Lib.hid kP0
  clear kP0
  by_cases hn : 6000 < n
  · have hni : (6000 : Int) < n := by omega
    clear h hr
    go_enter Try.func7, Try.ntmps7
    go_wp2_with (first
      | (go_at_call 32; refine (awake14 _).mono ?_; rintro e w1 ⟨rfl, hB1⟩)
      | fail)
    go_ret
    exact ⟨by first | rfl | simp, hb0.out.trans (hB1.mono hb0.out.size)⟩
  have hni : ¬ (6000 : Int) < n := by omega
  have hV := Lib.hid (show (Try.prog.info? 26).map (·.size) = some P.size by rw [h.size]; exact info_v6)
  have hC := Lib.hid (fun W (hW : Below w.heap.size w W) => Cut6_any P p A n c id mtu W h (hr.below hW) (by omega))
  have hRC := Lib.hid (fun W (hW : Below w.heap.size w W) => RefCut6_any P p A n c id mtu W h (hr.below hW) (by omega))
  have hP := Lib.hid (fun W (hW : Below w.heap.size w W) => Part_any P p A n c W h (hr.below hW) (by omega))
  have hRP := Lib.hid (fun W (hW : Below w.heap.size w W) => RefPart_any P p A n c W h (hr.below hW) (by omega))
  have hlist : ∀ W1 W2 A1 n1 c1 ps1 A2 n2 c2 ps2, LR kV6 W1 A1 n1 c1 ps1 → LR kV6 W2 A2 n2 c2 ps2 → ps1.map (·.1) = cutR p id mtu → ps2.map (·.1) = cutR p id mtu → n1 = n2 := fun W1 W2 A1 n1 c1 ps1 A2 n2 c2 ps2 h1 h2 e1 e2 => by
    rw [← h1.len, ← h2.len, ← List.length_map (·.1), e1, ← e2, List.length_map]
  replace hlist := Lib.hid hlist
  have hrl := cutR_len p id mtu
  rw [hr.len] at hrl
  unfold CutOut at hC hRC
  generalize cutK p id mtu = kk at *
  generalize cutR p id mtu = rr at *
  unfold PartOut at hP hRP
  generalize fNx p = x0 at *
  generalize fOff p = x1 at *
  generalize fId p = x2 at *
  generalize fMore p = x3 at *
  generalize fRest p = fr at *
  generalize isPart p = ok at *
  clear h hr
  go_enter Try.func7, Try.ntmps7
  go_wp2_with (first
    | (refine wpList_load_row rfl 26 (.tmp 3) rfl w.heap.size rfl _ P _ _ kP1.out.at_ Try.underlying26 rfl hV.out ?_)
    | (refine wpList_load_row rfl 26 (.tmp 3) rfl w.heap.size rfl _ P _ _ kP.out.at_ Try.underlying26 rfl hV.out ?_)
    | (go_at_call 33; refine (hC.out _ hb0.out).mono ?_; rintro e w1 ⟨A1, n1, c1, ps1, rfl, hL1, hp1, hB1⟩; have hb1 := Lib.hid (hb0.out.trans (hB1.mono hb0.out.size)); have kP1 := Lib.hid (kP.out.to hB1); replace hL1 := Lib.hid hL1; replace hp1 := Lib.hid hp1; replace hB1 := 0)
    | (go_at_call 34; refine (hRC.out _ hb1.out).mono ?_; rintro e w2 ⟨A2, n2, c2, ps2, rfl, hL2, hp2, hB2⟩; obtain rfl := hlist.out _ _ _ _ _ _ _ _ _ _ hL1.out hL2 hp1.out hp2; have hb2 := Lib.hid (hb1.out.trans (hB2.mono hb1.out.size)); have kP2 := Lib.hid (kP1.out.to hB2); replace hL1 := Lib.hid (hL1.out.below hB2); replace hL2 := Lib.hid hL2; replace hp2 := Lib.hid hp2; replace hB2 := 0)
    | fail)
  replace hC := 0
  replace hRC := 0
  replace kP1 := 0
  replace hb1 := 0
  replace hlist := 0
  have hn6 : n1 ≤ 6001 := by have := hL1.out.len; have h2 := congrArg List.length hp1.out; rw [List.length_map] at h2; omega
  go_loopw [49] (fun v wr => ∃ k : Nat, k ≤ n1 ∧ v = .int .i64 k ∧ Below w2.heap.size w2 wr) (fun v _ => n1 - (intOf v).toNat)
  case atStart => exact ⟨0, Nat.zero_le _, rfl, Below.refl _ _⟩
  case round =>
    obtain ⟨k, hk, rfl, hBl⟩ := hrel
    by_cases hlt : k < n1
    · obtain ⟨b, off, y, Pf, Af, mf, cf, rfl, hbl, hq, hr1, hv1, hd1⟩ := cut6_mid hL1.out hlt
      obtain ⟨b', off', y', Pg, Ag, mg, cg, rfl, hbl', hq', hr2, hv2, hd2⟩ := cut6_mid hL2.out hlt
      obtain rfl : y' = y := by rw [hp1.out] at hq; rw [hp2.out, hq] at hq'; exact (Option.some.inj hq').symm
      have hnc1 := hL1.out.nc
      have hnc2 := hL2.out.nc
      have hSm := Lib.hid (fun W (hW : Below w2.heap.size w2 W) => RefV6Same_any Pf Pg y' y' Af Ag mf cf mg cg W hv1 hv2 (hd1.below hW) (hd2.below hW))
      rw [sameV_refl] at hSm
      have hK := Lib.hid (show ∀ W W', (fun W => Below w2.heap.size w2 W) W → Below W.heap.size W W' → (fun W => Below w2.heap.size w2 W) W' from fun W W' h1 h2 => h1.trans (h2.mono h1.size))
      have hM1 := Lib.hid (fun W (hW : Below w2.heap.size w2 W) => rangeAt_below hr1 hW hbl)
      have hM2 := Lib.hid (fun W (hW : Below w2.heap.size w2 W) => rangeAt_below hr2 hW hbl')
      have hf1 := Lib.hid (show (Try.prog.info? 26).map (·.size) = some Pf.size by rw [hv1.size]; exact info_v6)
      have hf2 := Lib.hid (show (Try.prog.info? 26).map (·.size) = some Pg.size by rw [hv2.size]; exact info_v6)
      have hlti : (k : Int) < (n1 : Int) := by omega
      have hge : decide ((n1 : Int) ≤ (k : Int)) = false := by simp; omega
      have hge2 : decide (n1 ≤ k) = false := by simp; omega
      have hC1 := Lib.hid (show ∀ W, (fun W => Below w2.heap.size w2 W) W → True ∧ True ∧ True from fun _ _ => ⟨trivial, trivial, trivial⟩)
      replace hr1 := 0
      replace hr2 := 0
      replace hd1 := 0
      replace hd2 := 0
      replace hv1 := 0
      replace hv2 := 0
      replace hP := 0
      replace hRP := 0
      clear hq hq' hbl hbl'
      go_wp2
      refine wp_region_tame (fun W => Below w2.heap.size w2 W) (by kernel_rfl) (by kernel_rfl) hBl.drew ?_
      repeat (first
        | (refine tameL_skip rfl ?_; simp only [Act.put, List.setIfInBounds_toArray, List.set_cons_zero, List.set_cons_succ])
        | (refine tameL_at rfl 26 (.tmp 54) rfl b (off + k * 37) rfl Pf _ (fun W hS => hM1.out W hS) Try.underlying26 rfl hf1.out ?_; simp only [Act.put, List.setIfInBounds_toArray, List.set_cons_zero, List.set_cons_succ])
        | (refine tameL_at rfl 26 (.tmp 58) rfl b' (off' + k * 37) rfl Pg _ (fun W hS => hM2.out W hS) Try.underlying26 rfl hf2.out ?_; simp only [Act.put, List.setIfInBounds_toArray, List.set_cons_zero, List.set_cons_succ])
        | (refine tameL_call2 (v := .bool true) rfl 22 (.tmp 55) (.tmp 59) _ rfl en_V6RSame rfl rfl ?_ ?_; exact fun W hS => (hSm.out W hS).mono fun e W' ⟨he, hb⟩ => ⟨he, hK.out W W' hS hb⟩; simp only [Act.put, List.setIfInBounds_toArray, List.set_cons_zero, List.set_cons_succ])
        | (refine tameL_val (v := ?_) rfl (fun W hS => ?_) ?_; rotate_left; (· (obtain ⟨g0, g1, g2⟩ := hC1.out W hS; clear hS; go_simp; try with_reducible rfl)); simp only [Act.put, List.setIfInBounds_toArray, List.set_cons_zero, List.set_cons_succ]))
      refine tameL_nil fun W hS => ?_
      go_wp2
      go_roundw
      case rel => exact ⟨k + 1, by omega, by go_num, hS⟩
      case measure => simp [intOf]; omega
    · obtain rfl : k = n1 := by omega
      have hb3 := Lib.hid (hb2.out.trans (hBl.mono hb2.out.size))
      have kP3 := Lib.hid (kP2.out.to hBl)
      replace kP := 0
      replace kP2 := 0
      replace hL1 := 0
      replace hL2 := 0
      clear hBl
      go_wp2_with (first
        | (refine wpList_load_row rfl 26 (.tmp 3) rfl w.heap.size rfl _ P _ _ kP4.out.at_ Try.underlying26 rfl hV.out ?_)
        | (refine wpList_load_row rfl 26 (.tmp 3) rfl w.heap.size rfl _ P _ _ kP3.out.at_ Try.underlying26 rfl hV.out ?_)
        | (go_at_call 35; refine (hP.out _ hb3.out).mono ?_; rintro e w4 ⟨A4, n4, c4, rfl, h4, hB4⟩; have hb4 := Lib.hid ((hb3.out.trans (hB4.mono hb3.out.size)).alloc (hb3.out.trans (hB4.mono hb3.out.size)).size (.cells #[.int .i64 x0, .int .i64 x1, .int .i64 x2, .bool x3] 36)); have kP4 := Lib.hid ((kP3.out.to hB4).alloc (.cells #[.int .i64 x0, .int .i64 x1, .int .i64 x2, .bool x3] 36)); have kF4 := Lib.hid (Blk.new w4 #[.int .i64 x0, .int .i64 x1, .int .i64 x2, .bool x3] 36); replace h4 := Lib.hid (h4.alloc (.cells #[.int .i64 x0, .int .i64 x1, .int .i64 x2, .bool x3] 36)); replace hB4 := 0)
        | (go_at_call 36; refine (hRP.out _ hb4.out).mono ?_; rintro e w5 ⟨A5, n5, c5, rfl, h5, hB5⟩; have kF5 := kF4.out.to hB5; have hlt5 := kF5.lt; obtain ⟨⟨z0, z1, z2, z3⟩, f0, f1, f2, f3⟩ := kF5.z4; have hb5 := Lib.hid ((hb4.out.trans (hB5.mono hb4.out.size)).alloc (hb4.out.trans (hB5.mono hb4.out.size)).size (.cells #[.int .i64 x0, .int .i64 x1, .int .i64 x2, .bool x3] 36)); replace h4 := Lib.hid ((h4.out.below hB5).alloc (.cells #[.int .i64 x0, .int .i64 x1, .int .i64 x2, .bool x3] 36)); replace h5 := Lib.hid (h5.alloc (.cells #[.int .i64 x0, .int .i64 x1, .int .i64 x2, .bool x3] 36)); clear f0 f1 f2 f3 kF5; replace hB5 := 0)
        | (go_at_call 16; refine (Equal_same _ _ _ _ _ _ _ _ h4.out h5.out).mono ?_; rintro e w' ⟨rfl, rfl⟩)
        | (go_at_call 32; refine (awake14 _).mono ?_; rintro e w6 ⟨rfl, hB6⟩)
        | fail)
      go_ret
      exact ⟨by first | rfl | simp, hb5.out.trans (hB6.mono hb5.out.size)⟩
end Go.Proofs.Ytbbdkfadcafpfaa
