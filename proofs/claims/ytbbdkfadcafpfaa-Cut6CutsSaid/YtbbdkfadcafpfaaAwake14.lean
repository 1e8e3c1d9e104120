/- The law's awake (layer 14). -/
import Derived.Test.YtbbdkfadcafpfaaCut6A
import Derived.Test.YtbbdkfadcafpfaaV6Back0
import Derived.Deep.OwnRows
set_option linter.unusedVariables false
namespace Go.Proofs.Ytbbdkfadcafpfaa
open Go Go.RowKit
attribute [local go_sem] Oper.semAt_some

def zs (n : Nat) : List Int := List.replicate n 0
theorem zs_len (n : Nat) : (zs n).length = n := List.length_replicate
theorem zs_take (k n : Nat) (h : k ≤ n) : (zs n).take k = zs k := by unfold zs; rw [List.take_replicate, Nat.min_eq_left h]
theorem zs_drop (k n : Nat) : (zs n).drop k = zs (n - k) := by unfold zs; rw [List.drop_replicate]
theorem zs_byts (n : Nat) : Byts (zs n) := fun x hx => by
  rw [List.eq_of_mem_replicate hx]; constructor <;> omega

theorem made_u8 (n : Nat) : madeCells #[.int .u8 0] n = (u8s (zs n)).toArray := by
  unfold zs
  apply Array.ext'
  simp only [madeCells, u8s, Array.toList_map, Array.toList_range, List.map_replicate]
  apply List.ext_getElem
  · simp
  · intro i h1 h2
    simp [Nat.mod_one]
theorem wpList_make_bytes {ops : Array Oper} {rest : List Oper} {o : Oper} {a : Act} {Q : Exit → Act → World → Prop} (w : World) (hg : o.guard = none) (l c : Operand) (hop : o.op = .makeSlice 24 l c) (n : Nat) (hl : a.eval l = .int .i64 n) (hc : a.eval c = .int .i64 n) (hn : n ≤ 100000)
    (h : wpList Try.prog ops Q rest (a.put o.dst (.slice (some ⟨w.heap.size, 0, none⟩) n n)) (w.alloc (.cells (u8s (zs n)).toArray 5))) : wpList Try.prog ops Q (o :: rest) a w := by
  obtain ⟨i0, hi, hz0, hz1, hz2⟩ := info_parts info_u8
  have hr := run_make_row (P := Try.prog) 24 5 i0 (.int .u8 0) Try.underlying24 hi hz0 hz1 rfl .i64 .i64 n (by rw [hz2]; omega) (by omega) w
  rw [made_u8] at hr
  refine wpList_plain hg fun K hK => ?_
  unfold Oper.wp execOp
  simp only [hop, hl, hc, hr, Sem.run_bind, Sem.run_pure, Result.andThen_ok]
  exact hK _ _ h
def wake14 : V6P := ⟨0, 0, 4, 0, z16, z16, zs 1300⟩
theorem wake14_cells (A : Option Addr) (n c : Nat) : V6V #[.int .i64 0, .int .i64 0, .int .i64 4, .int .i64 0, .int .u8 0, .int .u8 0, .int .u8 0, .int .u8 0, .int .u8 0, .int .u8 0, .int .u8 0, .int .u8 0, .int .u8 0, .int .u8 0, .int .u8 0, .int .u8 0, .int .u8 0, .int .u8 0, .int .u8 0, .int .u8 0, .int .u8 0, .int .u8 0, .int .u8 0, .int .u8 0, .int .u8 0, .int .u8 0, .int .u8 0, .int .u8 0, .int .u8 0, .int .u8 0, .int .u8 0, .int .u8 0, .int .u8 0, .int .u8 0, .int .u8 0, .int .u8 0, .slice A n c] wake14 A n c := by
  have h : V6V ((zeroVx.setIfInBounds 2 (.int .i64 4)).setIfInBounds 36 (.slice A n c)) wake14 A n c := (V6V.next (p := zeroV) zeroVV 4).data A n c (zs 1300)
  exact h
theorem wake14_len : wake14.data.length = 1300 := zs_len 1300
theorem wake14_code : cutK wake14 7 1280 = 0 := by
  unfold cutK
  rw [if_neg (by decide), wake14_len]
  rfl
theorem wake14_rest : cutR wake14 7 1280 = [fragOf wake14 7 (0, true, zs 1232), fragOf wake14 7 (1232, false, zs 68)] := by
  unfold cutR
  rw [if_pos wake14_code, wake14_len, if_neg (by decide)]
  have : chunksC 1232 wake14.data = [(0, true, zs 1232), (1232, false, zs 68)] := by
    unfold chunksC
    rw [wake14_len, chunksF_step, wake14_len, if_pos (by decide), chunksF_step, wake14_len, if_neg (by decide)]
    show [(0, true, ((zs 1300).drop 0).take 1232), (1232, false, (zs 1300).drop 1232)] = _
    rw [List.drop_zero, zs_take _ _ (by decide), zs_drop]
  show (chunksC 1232 wake14.data).map _ = _
  rw [this]; rfl
theorem wake14_part : isPart (fragOf wake14 7 (1232, false, zs 68)) = true ∧ fOff (fragOf wake14 7 (1232, false, zs 68)) = 1232 ∧ fId (fragOf wake14 7 (1232, false, zs 68)) = 7 ∧ fMore (fragOf wake14 7 (1232, false, zs 68)) = false ∧ fRest (fragOf wake14 7 (1232, false, zs 68)) = zs 68 := by
  have hp : isPart (fragOf wake14 7 (1232, false, zs 68)) = true := by
    unfold isPart fragOf
    simp [bytesF_len]
  obtain ⟨_, b1, b2, b3, b4⟩ := back_F (nx := 4) (off := 1232) (id := 7) (m := false) (by decide) (zs 68)
  unfold fOff fId fMore fRest
  rw [hp]
  exact ⟨rfl, b1, b2, b3, b4⟩
theorem wpList_load_at {ops : Array Oper} {rest : List Oper} {o : Oper} {a : Act} {Q : Exit → Act → World → Prop} {w : World} (hgd : o.guard = none) (ty : TypeId) (x : Operand) (ho : o.op = .load ty x) (b off : Nat) (hx : a.eval x = .pointer (some ⟨b, off, none⟩)) (C : Array Value) (d : TypeDesc) (hc : w.rangeAt b off C.toList)
    (hu : Try.prog.underlying ty = some d) (hd : d.isRow = true) (hi : (Try.prog.info? ty).map (·.size) = some C.size) (h : wpList Try.prog ops Q rest (a.put o.dst (.agg C)) w) : wpList Try.prog ops Q (o :: rest) a w := by
  refine wpList_load_mid hgd ty x ho b off hx C.toList d hc hu hd (by rw [Array.length_toList]; exact hi) ?_
  rw [Array.toArray_toList]
  exact h

theorem wake14_two {w : World} {A2 : Option Addr} {n2 c2 : Nat} {ps : List kV6.β} {x y : V6P} (hL : LR kV6 w A2 n2 c2 ps) (hps : ps.map (·.1) = [x, y]) : 2 = n2 := by
  have h := congrArg List.length hps
  rw [List.length_map, hL.len] at h
  exact h.symm
theorem wake14_snd {w : World} {A2 : Option Addr} {c2 : Nat} {ps : List kV6.β} {x y : V6P} (hL : LR kV6 w A2 2 c2 ps) (hps : ps.map (·.1) = [x, y]) :
    ∃ b2 o2 Pf Af mf cf, A2 = some ⟨b2, o2, none⟩ ∧ b2 < w.heap.size ∧ w.rangeAt b2 (o2 + 37) Pf.toList ∧ V6V Pf y Af mf cf ∧ RB w Af mf cf y.data := by
  obtain ⟨b2, o2, ⟨pf, Pf, Af, mf, cf⟩, e, hlt, hx, hok, hra, hsl⟩ := hL.mid (i := 1) (by decide)
  have h1 : (ps.map (·.1))[1]? = some pf := by rw [List.getElem?_map, hx]; rfl
  rw [hps] at h1
  obtain rfl : y = pf := by simpa using h1
  exact ⟨b2, o2, Pf, Af, mf, cf, e, hlt, (show w.rangeAt b2 (o2 + 1 * 37) Pf.toList from hra), hok, hsl (Af, mf, cf, y.data) (List.mem_singleton.2 rfl)⟩
theorem wake14_Part (Pf : Array Value) (Af : Option Addr) (mf cf : Nat) (w : World) (hok : V6V Pf (fragOf wake14 7 (1232, false, zs 68)) Af mf cf) (hd : RB w Af mf cf (fragOf wake14 7 (1232, false, zs 68)).data) :
    Calls Try.prog 35 #[.agg Pf] w fun e w' => ∃ (x0 : Int) (A4 : Option Addr) (c4 : Nat), e = .returned (.tuple #[.agg #[.int .i64 x0, .int .i64 1232, .int .i64 7, .bool false], .slice A4 68 c4, .bool true]) ∧ Below w.heap.size w w' := by
  have hl : (fragOf wake14 7 (1232, false, zs 68)).data.length = 76 := by simp [fragOf, bytesF_len, zs_len]
  refine (Part_any Pf _ Af mf cf w hok hd (by rw [← hd.len, hl]; decide)).mono ?_
  obtain ⟨e1, e2, e3, e4, e5⟩ := wake14_part
  unfold PartOut
  rw [e1, e2, e3, e4, e5]
  rintro e w' ⟨A4, n4, c4, rfl, h4, hB⟩
  obtain rfl : n4 = 68 := by rw [← h4.len, zs_len]
  exact ⟨_, A4, c4, rfl, hB⟩
set_option maxRecDepth 100000 in
set_option maxHeartbeats 2000000 in
theorem awake14 (w : World) : Calls Try.prog 32 #[] w fun e w' => e = .returned (.bool true) ∧ Below w.heap.size w w' := by
  have hl := RB.lit w 5 (zs 1300) (zs_byts _) (by rw [zs_len]; decide)
  rw [zs_len] at hl
  have hb0 := (Below.refl w.heap.size w).alloc (Nat.le_refl _) (.cells (u8s (zs 1300)).toArray 5)
  have hC := Cut6_any _ wake14 (some ⟨w.heap.size, 0, none⟩) 1300 1300 7 1280 _ (wake14_cells _ _ _) hl (by decide)
  unfold CutOut at hC
  rw [wake14_code, wake14_rest] at hC
  have hsz : (w.alloc (.cells (u8s (zs 1300)).toArray 5)).heap.size = w.heap.size + 1 := by simp
  generalize hw1 : w.alloc (.cells (u8s (zs 1300)).toArray 5) = w1 at *
  replace hC := Lib.hid hC
  replace hb0 := Lib.hid hb0
  replace hsz := Lib.hid hsz
  replace hl := 0
  go_enter Try.func32, Try.ntmps32
  go_wp2_with (first
    | (refine wpList_make_bytes _ rfl (.const (.int .i64 1300)) (.const (.int .i64 1300)) rfl 1300 rfl rfl (by decide) ?_)
    | (go_at_call 33; refine (hC.out).mono ?_; rintro e w2 ⟨A2, n2, c2, ps, rfl, hL, hps, hB2⟩; obtain rfl := wake14_two hL hps; obtain ⟨b2, o2, Pf, Af, mf, cf, rfl, hb2, hra, hok, hd⟩ := wake14_snd hL hps; have hP := Lib.hid (wake14_Part Pf Af mf cf w2 hok hd); have hra2 := Lib.hid hra; have hVf := Lib.hid (show (Try.prog.info? 26).map (·.size) = some Pf.size by rw [hok.size]; exact info_v6); have hbb := Lib.hid (hb0.out.trans (hB2.mono hb0.out.size)); have hc2 := hL.nc; clear hra hok hd hps hL hB2)
    | (refine wpList_load_at rfl 26 (.tmp 21) rfl b2 (o2 + 37) rfl Pf _ hra2.out Try.underlying26 rfl hVf.out ?_)
    | (go_at_call 35; refine (hP.out).mono ?_; rintro e w3 ⟨x0, A4, c4, rfl, hB3⟩; have hbc := Lib.hid (hbb.out.trans (hB3.mono hbb.out.size)); replace hB3 := 0)
    | fail)
  go_ret
  exact ⟨by first | rfl | simp, hbc.out.alloc hbc.out.size _⟩
end Go.Proofs.Ytbbdkfadcafpfaa
