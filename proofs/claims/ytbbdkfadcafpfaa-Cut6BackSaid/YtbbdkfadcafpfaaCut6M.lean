/- Fragments of IPv6: plain facts: the chunks, one behind the other, are the data; where each begins; whether more follow. -/
import Derived.Test.YtbbdkfadcafpfaaCut6L
set_option linter.unusedVariables false
namespace Go.Proofs.Ytbbdkfadcafpfaa
open Go Go.RowKit

section
variable {most size : Nat} {data : List Int}
theorem chunksF_ne (hz : 0 < size) : ∀ (f a : Nat), a < data.length → data.length < f + a → 0 < (chunksF most size data f a).length
  | 0, a, h1, h2 => by omega
  | f + 1, a, h1, h2 => by
    rw [chunksF_step]
    split <;> simp
theorem chunksF_all (hz : 0 < size) (hs : size ≤ most) : ∀ (f a : Nat), a < data.length → data.length < f + a → (chunksF most size data f a).flatMap (·.2.2) = data.drop a
  | 0, a, h1, h2 => by omega
  | f + 1, a, h1, h2 => by
    rw [chunksF_step]
    split
    · rename_i hm
      rw [List.flatMap_cons, chunksF_all hz hs f (a + size) (by omega) (by omega)]
      show (data.drop a).take size ++ data.drop (a + size) = data.drop a
      rw [← List.drop_drop, List.take_append_drop]
    · simp
theorem chunksF_at (hz : 0 < size) (hs : size ≤ most) : ∀ (f a : Nat), a < data.length → data.length < f + a → ∀ i x, (chunksF most size data f a)[i]? = some x →
    x.1 = a + (((chunksF most size data f a).take i).flatMap (·.2.2)).length ∧ x.2.1 = decide (i + 1 < (chunksF most size data f a).length)
  | 0, a, h1, h2, i, x, hx => by omega
  | f + 1, a, h1, h2, i, x, hx => by
    rw [chunksF_step] at hx ⊢
    split at hx
    · rename_i hm
      rw [if_pos hm]
      have hne := chunksF_ne (most := most) (data := data) hz f (a + size) (by omega) (by omega)
      cases i with
      | zero =>
        obtain rfl := Option.some.inj hx
        refine ⟨by simp, ?_⟩
        rw [List.length_cons]
        exact (decide_eq_true (by omega)).symm
      | succ i =>
        rw [List.getElem?_cons_succ] at hx
        obtain ⟨e1, e2⟩ := chunksF_at hz hs f (a + size) (by omega) (by omega) i x hx
        refine ⟨?_, ?_⟩
        · rw [e1, List.take_succ_cons, List.flatMap_cons, List.length_append]
          have : ((data.drop a).take size).length = size := by rw [List.length_take, List.length_drop]; omega
          show a + size + _ = a + (((data.drop a).take size).length + _)
          rw [this]; omega
        · rw [e2, List.length_cons]
          exact decide_eq_decide.2 (by omega)
    · rename_i hm
      rw [if_neg hm]
      cases i with
      | zero =>
        obtain rfl := Option.some.inj hx
        exact ⟨by simp, by simp⟩
      | succ i => simp at hx
end
/-- Of the i-th fragment, where a packet is too long. -/
theorem chunksC_at {mo : Nat} {data : List Int} (h1 : 8 ≤ mo) (h2 : mo < data.length) :
    2 ≤ (chunksC mo data).length ∧ (chunksC mo data).flatMap (·.2.2) = data ∧ ∀ i x, (chunksC mo data)[i]? = some x →
      x.1 = (((chunksC mo data).take i).flatMap (·.2.2)).length ∧ x.2.1 = decide (i + 1 < (chunksC mo data).length) ∧ x.1 % 8 = 0 ∧ x.1 < data.length ∧ x.2.2.length ≤ mo := by
  have hz : 0 < mo / 8 * 8 := by omega
  have hs : mo / 8 * 8 ≤ mo := by omega
  refine ⟨?_, ?_, fun i x hx => ?_⟩
  · unfold chunksC
    rw [chunksF_step, if_pos (show mo < data.length - 0 from h2), List.length_cons]
    have := chunksF_ne (most := mo) (size := mo / 8 * 8) (data := data) hz data.length (0 + mo / 8 * 8) (by omega) (by omega)
    omega
  · have := chunksF_all (data := data) hz hs (data.length + 1) 0 (by omega) (by omega)
    rw [List.drop_zero] at this
    exact this
  · obtain ⟨e1, e2⟩ := chunksF_at (data := data) hz hs (data.length + 1) 0 (by omega) (by omega) i x hx
    obtain ⟨e3, e4, e5⟩ := chunksF_mem (most := mo) (size := mo / 8 * 8) (data := data) (by omega) hs (by omega) (data.length + 1) 0 (by omega) (by omega) x (List.mem_of_getElem? hx)
    rw [Nat.zero_add] at e1
    exact ⟨e1, e2, e3, e4, e5⟩
theorem fragOf_part {p : V6P} {id : Int} {a : Nat} {m : Bool} {d : List Int} (hok : okF p.nx a id) : isPart (fragOf p id (a, m, d)) = true ∧ fNx (fragOf p id (a, m, d)) = p.nx ∧ fOff (fragOf p id (a, m, d)) = a ∧ fId (fragOf p id (a, m, d)) = id ∧ fMore (fragOf p id (a, m, d)) = m ∧ fRest (fragOf p id (a, m, d)) = d := by
  have hp : isPart (fragOf p id (a, m, d)) = true := by
    unfold isPart fragOf
    simp [bytesF_len]
  obtain ⟨b0, b1, b2, b3, b4⟩ := back_F (m := m) hok d
  unfold fNx fOff fId fMore fRest
  rw [hp]
  exact ⟨rfl, b0, b1, b2, b3, b4⟩
end Go.Proofs.Ytbbdkfadcafpfaa
/- The law Cut6Back: its walk. -/
set_option linter.unusedVariables false
namespace Go.Proofs.Ytbbdkfadcafpfaa
open Go Go.RowKit
attribute [local go_sem] Oper.semAt_some

theorem en_L14Awake (args : Array Value) (w : World) : (callFunc 32 args).run Try.prog w = .ok (.enter 32 args) w := enters Try.func32 (by kernel_rfl) (by kernel_rfl) args w
theorem en_V6Same (args : Array Value) (w : World) : (callFunc 21 args).run Try.prog w = .ok (.enter 21 args) w := enters Try.func21 (by kernel_rfl) (by kernel_rfl) args w
theorem en_V6Size (args : Array Value) (w : World) : (callFunc 17 args).run Try.prog w = .ok (.enter 17 args) w := enters Try.func17 (by kernel_rfl) (by kernel_rfl) args w
theorem wpList_load_XW {ops : Array Oper} {rest : List Oper} {op : Oper} {a : Act} {W : World} {Q : Exit → Act → World → Prop} (hgd : Region.wanted op (yielded ops a.tmps) = true) (x : Operand) (ho : op.op = .load 26 x)
    (g : Nat) (hx : a.eval x = .pointer (some ⟨g, 0, none⟩)) (cs : Array Value) (hk : Blk W g cs 26) (hs : cs.size = 37)
    (h : wpList Try.prog ops Q rest (a.put op.dst (.agg cs)) W) : wpList Try.prog ops Q (op :: rest) a W :=
  BigFrame.wpList_want hgd fun _ hK => by
    unfold Oper.wp execOp
    simp only [ho, hx, Instr.loadAt, Instr.sureAddr, Sem.run_bind, Sem.run_pure, Result.andThen_ok, run_load_V hk hs]
    exact hK _ _ h

set_option maxRecDepth 100000 in
set_option maxHeartbeats 4000000 in
theorem Cut6Back_bad (P : Array Value) (p : V6P) (A : Option Addr) (n c : Nat) (id mtu : Int) (w : World) (h : V6V P p A n c) (hr : RB w A n c p.data) (hn : n ≤ 6000) (hk : cutK p id mtu ≠ 0) :
    Calls Try.prog 8 #[.agg P, .int .i64 id, .int .i64 mtu] w fun e w' => e = .returned (.bool true) ∧ Below w.heap.size w w' := by
  have hb0 := Lib.hid ((Below.refl _ w).alloc (Nat.le_refl _) (.cells P 26))
  have kP0 := Blk.new w P 26
  have c36 := kP0.cell 36 _ h.h36
  have kP := Lib.hid kP0
  clear kP0
  have hni : ¬ (6000 : Int) < n := by omega
  have hV := Lib.hid (show (Try.prog.info? 26).map (·.size) = some P.size by rw [h.size]; exact info_v6)
  have hC := Lib.hid (fun W (hW : Below w.heap.size w W) => Cut6_any P p A n c id mtu W h (hr.below hW) (by omega))
  unfold CutOut at hC
  have hrr : cutR p id mtu = [] := by unfold cutR; rw [if_neg hk]
  rw [hrr] at hC
  have hne : (cutK p id mtu != 0) = true := by simpa using hk
  have hne2 : (cutK p id mtu == 0) = false := by simpa using hk
  generalize cutK p id mtu = kk at *
  clear h hr hk hrr
  go_enter Try.func8, Try.ntmps8
  go_wp2_with (first
    | (refine wpList_load_row rfl 26 (.tmp 3) rfl w.heap.size rfl _ P _ _ kP.out.at_ Try.underlying26 rfl hV.out ?_)
    | (go_at_call 33; refine (hC.out _ hb0.out).mono ?_; rintro e w1 ⟨A1, n1, c1, ps1, rfl, hL1, hp1, hB1⟩; obtain rfl : n1 = 0 := (by have := congrArg List.length hp1; rw [List.length_map, hL1.len] at this; exact this); have hb1 := Lib.hid (hb0.out.trans (hB1.mono hb0.out.size)); replace hL1 := 0; replace hp1 := 0; replace hB1 := 0)
    | fail)
  have hK := Lib.hid (show ∀ W W', (fun W => Below w1.heap.size w1 W) W → Below W.heap.size W W' → (fun W => Below w1.heap.size w1 W) W' from fun W W' h1 h2 => h1.trans (h2.mono h1.size))
  have hC1 := Lib.hid (show ∀ W, (fun W => Below w1.heap.size w1 W) W → True ∧ True ∧ True from fun _ _ => ⟨trivial, trivial, trivial⟩)
  refine wp_region_tame (fun W => Below w1.heap.size w1 W) (by kernel_rfl) (by kernel_rfl) (Below.refl _ _).drew ?_
  repeat (first
    | (refine tameL_skip rfl ?_; simp only [Act.put, List.setIfInBounds_toArray, List.set_cons_zero, List.set_cons_succ])
    | (refine tameL_call0 (v := .bool true) rfl 32 _ rfl en_L14Awake ?_ ?_; exact fun W hS => (awake14 W).mono fun e W' ⟨he, hb⟩ => ⟨he, hK.out W W' hS hb⟩; simp only [Act.put, List.setIfInBounds_toArray, List.set_cons_zero, List.set_cons_succ])
    | (refine tameL_val (v := ?_) rfl (fun W hS => ?_) ?_; rotate_left; (· (obtain ⟨g0, g1, g2⟩ := hC1.out W hS; clear hS; go_simp; try with_reducible rfl)); simp only [Act.put, List.setIfInBounds_toArray, List.set_cons_zero, List.set_cons_succ]))
  refine tameL_nil fun W hS => ?_
  go_wp2
  go_ret
  exact ⟨by first | rfl | simp, hb1.out.trans (hS.mono hb1.out.size)⟩

set_option maxRecDepth 100000 in
set_option maxHeartbeats 4000000 in
theorem Cut6Back_one (P : Array Value) (p : V6P) (A : Option Addr) (n c : Nat) (id mtu : Int) (w : World) (h : V6V P p A n c) (hr : RB w A n c p.data) (hn : n ≤ 6000) (hk : cutK p id mtu = 0) (h5 : (40 + n : Int) ≤ mtu) :
    Calls Try.prog 8 #[.agg P, .int .i64 id, .int .i64 mtu] w fun e w' => e = .returned (.bool true) ∧ Below w.heap.size w w' := by
  have hb0 := Lib.hid ((Below.refl _ w).alloc (Nat.le_refl _) (.cells P 26))
  have kP0 := Blk.new w P 26
  have c36 := kP0.cell 36 _ h.h36
  have kP := Lib.hid kP0
  clear kP0
  have hni : ¬ (6000 : Int) < n := by omega
  have hV := Lib.hid (show (Try.prog.info? 26).map (·.size) = some P.size by rw [h.size]; exact info_v6)
  have hC := Lib.hid (fun W (hW : Below w.heap.size w W) => Cut6_any P p A n c id mtu W h (hr.below hW) (by omega))
  unfold CutOut at hC
  have hrr : cutR p id mtu = [p] := by unfold cutR; rw [if_pos hk, hr.len, if_pos h5]
  rw [hrr, hk] at hC
  have hSz := Lib.hid (fun W => V6Size_any P p A n c W h (by omega))
  have hSm := Lib.hid (fun W (hW : Below w.heap.size w W) Pf Af mf cf (hv : V6V Pf p Af mf cf) (hd : RB W Af mf cf p.data) => V6Same_any P Pf p p A Af n c mf cf W h hv (hr.below hW) hd)
  rw [sameV_refl] at hSm
  have d5 : decide ((40 + n : Int) ≤ mtu) = true := decide_eq_true h5
  clear h hr hk hrr
  go_enter Try.func8, Try.ntmps8
  go_wp2_with (first
    | (refine wpList_load_row rfl 26 (.tmp 3) rfl w.heap.size rfl _ P _ _ kP.out.at_ Try.underlying26 rfl hV.out ?_)
    | (go_at_call 33; refine (hC.out _ hb0.out).mono ?_; rintro e w1 ⟨A1, n1, c1, ps1, rfl, hL1, hp1, hB1⟩; obtain rfl : n1 = 1 := (by have := congrArg List.length hp1; rw [List.length_map, hL1.len] at this; exact this); have hb1 := Lib.hid (hb0.out.trans (hB1.mono hb0.out.size)); obtain ⟨b, off, y, Pf, Af, mf, cf, rfl, hbl, hq, hr1, hv1, hd1⟩ := cut6_mid hL1 (i := 0) (by decide); obtain rfl : p = y := (by rw [hp1] at hq; simpa using hq); have hnc1 := hL1.nc; have hSm1 := Lib.hid (fun W (hW : Below w1.heap.size w1 W) => hSm.out W (hb1.out.trans (hW.mono hb1.out.size)) Pf Af mf cf hv1 (hd1.below hW)); have kP1 := Lib.hid (fun W (hW : Below w1.heap.size w1 W) => ((kP.out.to hB1).to hW).at_); have hM1 := Lib.hid (fun W (hW : Below w1.heap.size w1 W) => rangeAt_below hr1 hW hbl); have hf1 := Lib.hid (show (Try.prog.info? 26).map (·.size) = some Pf.size by rw [hv1.size]; exact info_v6); replace hL1 := 0; replace hp1 := 0; replace hB1 := 0; replace hr1 := 0; replace hv1 := 0; replace hd1 := 0; clear hq hbl)
    | fail)
  have hK := Lib.hid (show ∀ W W', (fun W => Below w1.heap.size w1 W) W → Below W.heap.size W W' → (fun W => Below w1.heap.size w1 W) W' from fun W W' h1 h2 => h1.trans (h2.mono h1.size))
  have hC1 := Lib.hid (show ∀ W, (fun W => Below w1.heap.size w1 W) W → True ∧ True ∧ True from fun _ _ => ⟨trivial, trivial, trivial⟩)
  refine wp_region_tame (fun W => Below w1.heap.size w1 W) (by kernel_rfl) (by kernel_rfl) (Below.refl _ _).drew ?_
  repeat (first
    | (refine tameL_skip rfl ?_; simp only [Act.put, List.setIfInBounds_toArray, List.set_cons_zero, List.set_cons_succ])
    | (refine tameL_at rfl 26 (.tmp 46) rfl b off rfl Pf _ (fun W hS => by simpa using hM1.out W hS) Try.underlying26 rfl hf1.out ?_; simp only [Act.put, List.setIfInBounds_toArray, List.set_cons_zero, List.set_cons_succ])
    | (refine tameL_row rfl 26 (.tmp 3) rfl w.heap.size rfl _ P _ _ (fun W hS => kP1.out W hS) Try.underlying26 rfl hV.out ?_; simp only [Act.put, List.setIfInBounds_toArray, List.set_cons_zero, List.set_cons_succ])
    | (refine tameL_call2 (v := .bool true) rfl 21 (.tmp 44) (.tmp 47) _ rfl en_V6Same rfl rfl ?_ ?_; exact fun W hS => (hSm1.out W hS).mono fun e W' ⟨he, hb⟩ => ⟨he, hK.out W W' hS hb⟩; simp only [Act.put, List.setIfInBounds_toArray, List.set_cons_zero, List.set_cons_succ])
    | (refine tameL_call1 (v := .int .i64 (40 + n)) rfl 17 (.tmp 50) _ rfl en_V6Size rfl ?_ ?_; exact fun W hS => (hSz.out W).mono fun e W' ⟨he, hb⟩ => ⟨he, hK.out W W' hS hb⟩; simp only [Act.put, List.setIfInBounds_toArray, List.set_cons_zero, List.set_cons_succ])
    | (refine tameL_call0 (v := .bool true) rfl 32 _ rfl en_L14Awake ?_ ?_; exact fun W hS => (awake14 W).mono fun e W' ⟨he, hb⟩ => ⟨he, hK.out W W' hS hb⟩; simp only [Act.put, List.setIfInBounds_toArray, List.set_cons_zero, List.set_cons_succ])
    | (refine tameL_val (v := ?_) rfl (fun W hS => ?_) ?_; rotate_left; (· (obtain ⟨g0, g1, g2⟩ := hC1.out W hS; clear hS; go_simp; try with_reducible rfl)); simp only [Act.put, List.setIfInBounds_toArray, List.set_cons_zero, List.set_cons_succ]))
  refine tameL_nil fun W hS => ?_
  go_wp2
  go_ret
  exact ⟨by first | rfl | simp, hb1.out.trans (hS.mono hb1.out.size)⟩
end Go.Proofs.Ytbbdkfadcafpfaa
/- The law Cut6Back: its walk, where the packet is too long. -/
set_option linter.unusedVariables false
namespace Go.Proofs.Ytbbdkfadcafpfaa
open Go Go.RowKit
attribute [local go_sem] Oper.semAt_some

set_option maxRecDepth 100000 in
set_option maxHeartbeats 8000000 in
theorem Cut6Back_many (P : Array Value) (p : V6P) (A : Option Addr) (n c : Nat) (id mtu : Int) (w : World) (h : V6V P p A n c) (hr : RB w A n c p.data) (hn : n ≤ 6000) (hk : cutK p id mtu = 0) (h5 : ¬ (40 + n : Int) ≤ mtu) :
    Calls Try.prog 8 #[.agg P, .int .i64 id, .int .i64 mtu] w fun e w' => e = .returned (.bool true) ∧ Below w.heap.size w w' := by
  have hb0 := Lib.hid ((Below.refl _ w).alloc (Nat.le_refl _) (.cells P 26))
  have kP0 := Blk.new w P 26
  have c36 := kP0.cell 36 _ h.h36
  have kP := Lib.hid kP0
  clear kP0
  have hni : ¬ (6000 : Int) < n := by omega
  have hV := Lib.hid (show (Try.prog.info? 26).map (·.size) = some P.size by rw [h.size]; exact info_v6)
  have hC := Lib.hid (fun W (hW : Below w.heap.size w W) => Cut6_any P p A n c id mtu W h (hr.below hW) (by omega))
  unfold CutOut at hC
  obtain ⟨mo, hmo⟩ : ∃ mo, (mtu - 48).toNat = mo := ⟨_, rfl⟩
  have hrr : cutR p id mtu = (chunksC mo p.data).map (fragOf p id) := by unfold cutR; rw [if_pos hk, hr.len, if_neg h5, hmo]
  have hlen := hr.len
  have hkk := hk
  unfold cutK at hkk
  have hk3 : ¬ (mtu < 1280 ∨ 65535 < mtu ∨ fitsB id 4 = false) := fun h' => by rw [if_pos h'] at hkk; exact absurd hkk (by decide)
  rw [if_neg hk3] at hkk
  obtain ⟨⟨ht0, ht1⟩, ⟨hn0, hn1⟩, ⟨hp0, hp1⟩, ⟨hf0, hf1⟩, hn9⟩ := checkV_ok hkk
  have hid : fitsP id 4 := by
    cases h3 : fitsB id 4
    · exact absurd (.inr (.inr h3)) hk3
    · exact of_decide_eq_true h3
  have hnx : fitsP p.nx 1 := ⟨by omega, hn0, by simpa using hn1⟩
  obtain ⟨hc2, hall, hat⟩ := chunksC_at (mo := mo) (data := p.data) (by omega) (by omega)
  have hmtu : (48 : Int) + mo = mtu := by omega
  rw [hrr, hk] at hC
  have hok : ∀ (i a : Nat) (m : Bool) (d : List Int), (chunksC mo p.data)[i]? = some (a, m, d) → okF p.nx a id := fun i a m d hx => by
    obtain ⟨_, _, e3, e4, _⟩ := hat i _ hx
    exact ⟨hnx, hid, by omega, by have : a < p.data.length := e4; omega, by have : a % 8 = 0 := e3; omega⟩
  have hcl : (chunksC mo p.data).length ≤ n + 1 := by rw [← hlen]; exact chunksF_len _ _ _ _ _
  generalize chunksC mo p.data = L at *
  have hr0 := Lib.hid (fun W (hW : Below w.heap.size w W) => hr.below hW)
  have hVP := Lib.hid h
  replace hok := Lib.hid hok
  replace hat := Lib.hid hat
  replace hall := Lib.hid hall
  replace hid := 0
  replace hnx := 0
  clear h hr hk hrr hkk hk3 ht0 ht1 hn0 hn1 hp0 hp1 hf0 hf1 hn9 h5 hmo
  go_enter Try.func8, Try.ntmps8
  go_wp2_with (first
    | (refine wpList_load_row rfl 26 (.tmp 3) rfl w.heap.size rfl _ P _ _ kP.out.at_ Try.underlying26 rfl hV.out ?_)
    | (go_at_call 33; refine (hC.out _ hb0.out).mono ?_; rintro e w1 ⟨A1, n1, c1, ps1, rfl, hL1, hp1, hB1⟩; obtain rfl : n1 = L.length := (by have := congrArg List.length hp1; rw [List.length_map, List.length_map, hL1.len] at this; exact this); have hb1 := Lib.hid (hb0.out.trans (hB1.mono hb0.out.size)); have kP1 := Lib.hid (kP.out.to hB1); have hne1 : (L.length == 1) = false := (by simp; omega); have hne2 : ¬ L.length = 1 := (by omega); have hne3 : ((L.length : Int) == 1) = false := (by simp; omega); replace hL1 := Lib.hid hL1; replace hp1 := Lib.hid hp1; replace hB1 := 0)
    | fail)
  replace hC := 0
  replace kP := 0
  replace hb0 := 0
  have hl6 : L.length ≤ 6001 := by omega
  have kA := Lib.hid (fun W (hW : Below w1.heap.size w1 W) => kP1.out.to hW)
  have hbA := Lib.hid (fun W (hW : Below w1.heap.size w1 W) => hb1.out.trans (hW.mono hb1.out.size))
  have hlt0 := Lib.hid kP1.out.lt
  replace kP1 := 0
  replace hb1 := 0
  go_loopw [9, 62] (fun vo v wr => ∃ (k : Nat) (A9 : Option Addr) (m9 c9 : Nat), k ≤ L.length ∧ v = .int .i64 k ∧ vo = .slice A9 m9 c9 ∧ OB wr w1.heap.size A9 m9 c9 ((L.take k).flatMap (·.2.2)) ∧ m9 ≤ n ∧ Below w1.heap.size w1 wr) (fun _ v _ => L.length - (intOf v).toNat)
  case atStart => exact ⟨0, none, 0, 0, Nat.zero_le _, rfl, rfl, OB.nil _ _, Nat.zero_le _, Below.refl _ _⟩
  case round =>
    obtain ⟨k, A9, m9, c9, hk, rfl, rfl, ho9, hm9, hBl⟩ := hrel
    have hml := ho9.len
    by_cases hlt : k < L.length
    · obtain ⟨b, off, y, Pf, Af, mf, cf, rfl, hbl, hq, hr1, hv1, hd1⟩ := cut6_mid hL1.out hlt
      have hnc1 := hL1.out.nc
      obtain ⟨⟨a, m, d⟩, hx⟩ : ∃ x, L[k]? = some x := ⟨_, List.getElem?_eq_getElem hlt⟩
      obtain rfl : y = fragOf p id (a, m, d) := by rw [hp1.out, List.getElem?_map, hx] at hq; exact (Option.some.inj hq).symm
      obtain ⟨e1, e2, e3, e4, e5⟩ := hat.out k _ hx
      obtain ⟨q1, q2, q3, q4, q5, q6⟩ := fragOf_part (m := m) (d := d) (hok.out k a m d hx)
      dsimp only at e1 e2 e3 e4 e5
      rw [hml] at e1
      subst e1
      have hmf : mf = 8 + d.length := by rw [← hd1.len]; simp [fragOf, bytesF_len]
      have htk : (L.take (k + 1)).flatMap (·.2.2) = (L.take k).flatMap (·.2.2) ++ d := by rw [List.take_add_one, hx]; simp
      have hdn : a + d.length ≤ n := by
        have h0 := congrArg List.length hall.out
        rw [← List.take_append_drop (k + 1) L, List.flatMap_append, List.length_append, htk, List.length_append, hml] at h0
        rw [hlen] at h0
        omega
      have hPt := fun W (hW : Below wr.heap.size wr W) => Part_any Pf _ Af mf cf W hv1 (hd1.below (hBl.trans (hW.mono hBl.size))) (by omega)
      unfold PartOut at hPt
      rw [q1, q2, q3, q4, q5, q6] at hPt
      have hSz := Lib.hid (fun W => V6Size_any Pf _ Af mf cf W hv1 (by omega))
      have hpf2 := Lib.hid hv1.h2
      have hpf3 := Lib.hid (show Pf[3]? = some (.int .i64 p.hp) from hv1.h3)
      have hpfs := Lib.hid (show ∀ j, j < 16 → Pf[4 + j]? = some (.int .u8 (p.src[j]?.getD 0)) from hv1.hs)
      have hpfd := Lib.hid (show ∀ j, j < 16 → Pf[20 + j]? = some (.int .u8 (p.dst[j]?.getD 0)) from hv1.hd)
      have hM1 := Lib.hid (rangeAt_below hr1 hBl hbl)
      have hfz := Lib.hid hv1.size
      have hf1 := Lib.hid (show (Try.prog.info? 26).map (·.size) = some Pf.size by rw [hv1.size]; exact info_v6)
      have hf2 := Lib.hid (show zeroVx.size = Pf.size by rw [hv1.size]; rfl)
      have hf3 := Lib.hid hv1.one
      have hrA := Lib.hid (hr0.out _ (hbA.out _ hBl))
      have kPr := Lib.hid (kA.out _ hBl)
      have hmi : decide ((k : Int) + 1 < (L.length : Int)) = m := by rw [e2]; exact decide_eq_decide.2 (by omega)
      have hmt : decide (mtu < 40 + (8 + (d.length : Int))) = false := decide_eq_false (by omega)
      have hlti : (k : Int) < (L.length : Int) := by omega
      have hbz := hBl.size
      have hltP : w.heap.size < wr.heap.size := by have := hlt0.out; omega
      have hnP : wr.heap.size ≠ w.heap.size := by omega
      replace hPt := Lib.hid hPt
      replace ho9 := Lib.hid ho9
      replace hBl := Lib.hid hBl
      replace htk := Lib.hid htk
      replace hr1 := 0
      replace hv1 := 0
      replace hd1 := 0
      clear hq hbl hml e2 e3 e4 hx q1 q2 q3 q4 q5 q6
      go_wp2_with (first
        | (refine wpList_store_row rfl 26 (.tmp 11) (.tmp 66) rfl wr.heap.size Pf rfl rfl _ zeroVx (Blk.new wr zeroVx 26).at_ hf1.out hf2.out hf3.out ?_; have hbe : Below wr.heap.size wr ((wr.alloc (.cells zeroVx 26)).setRow wr.heap.size Pf) := below_row ((Below.refl _ wr).alloc (Nat.le_refl _) _) (Nat.le_refl _) _; have kX : Blk ((wr.alloc (.cells zeroVx 26)).setRow wr.heap.size Pf) wr.heap.size Pf 26 := ⟨setRow_heap _ _ _ _ _ _ (Blk.new wr zeroVx 26).at_⟩; generalize (wr.alloc (.cells zeroVx 26)).setRow wr.heap.size Pf = w5 at *; replace kX := Lib.hid kX; replace hbe := Lib.hid hbe)
        | (refine wpList_load_at rfl 26 (.tmp 65) rfl b (off + k * 37) rfl Pf _ hM1.out Try.underlying26 rfl hf1.out ?_)
        | (refine wpList_load_XW rfl (.tmp 11) rfl wr.heap.size rfl Pf kX6.out hfz.out ?_)
        | (refine wpList_load_XW rfl (.tmp 11) rfl wr.heap.size rfl Pf kX.out hfz.out ?_)
        | (go_at_call 35; refine (hPt.out _ hbe.out).mono ?_; rintro e w6 ⟨A4, n4, c4, rfl, h4, hB6⟩; obtain rfl : d.length = n4 := h4.len; have hb6 := Lib.hid ((hbe.out.trans (hB6.mono hbe.out.size)).alloc (hbe.out.trans (hB6.mono hbe.out.size)).size (.cells #[.int .i64 p.nx, .int .i64 (a : Int), .int .i64 id, .bool m] 36)); have kX6 := Lib.hid ((kX.out.to hB6).alloc (.cells #[.int .i64 p.nx, .int .i64 (a : Int), .int .i64 id, .bool m] 36)); have kF6 := Lib.hid (Blk.new w6 #[.int .i64 p.nx, .int .i64 (a : Int), .int .i64 id, .bool m] 36); replace h4 := Lib.hid (h4.alloc (.cells #[.int .i64 p.nx, .int .i64 (a : Int), .int .i64 id, .bool m] 36)); replace hB6 := 0)
        | (go_at_call 17; refine (hSz.out _).mono ?_; rintro e w7 ⟨rfl, hB7⟩; have hb7 := Lib.hid (hb6.out.trans (hB7.mono hb6.out.size)); have kX7 := Lib.hid (kX6.out.to hB7); have kP7 := Lib.hid (kPr.out.to hb7.out); have kF7 := kF6.out.to hB7; obtain ⟨⟨z0, z1, z2, z3⟩, _⟩ := kF7.z4; have x3 := kX7.out.cell 3 _ hpf3.out; have y2 := kP7.out.cell 2 _ hVP.out.h2; have y3 := kP7.out.cell 3 _ hVP.out.h3; have g1 := Lib.hid (fun j (hj : j < 16) => kX7.out.cell (4 + j) _ (hpfs.out j hj)); have g2 := Lib.hid (fun j (hj : j < 16) => kP7.out.cell (4 + j) _ (hVP.out.hs j hj)); have g3 := Lib.hid (fun j (hj : j < 16) => kX7.out.cell (20 + j) _ (hpfd.out j hj)); have g4 := Lib.hid (fun j (hj : j < 16) => kP7.out.cell (20 + j) _ (hVP.out.hd j hj)); replace h4 := Lib.hid (h4.out.below hB7); have ho7 := Lib.hid (ho9.out.below hb7.out); replace hB7 := 0; clear kF7)
        | (refine wpList_load_six rfl (.tmp 112) rfl wr.heap.size 4 rfl p.src hVP.out.ls g1.out ?_)
        | (refine wpList_load_six rfl (.tmp 114) rfl w.heap.size 4 rfl p.src hVP.out.ls g2.out ?_)
        | (refine wpList_load_six rfl (.tmp 119) rfl wr.heap.size 20 rfl p.dst hVP.out.ld g3.out ?_)
        | (refine wpList_load_six rfl (.tmp 121) rfl w.heap.size 20 rfl p.dst hVP.out.ld g4.out ?_)
        | (refine wpList_neq_six rfl (.tmp 113) (.tmp 115) rfl p.src p.src rfl rfl hVP.out.ls hVP.out.ls hVP.out.bs hVP.out.bs ?_; rw [beq_self_eq_true p.src])
        | (refine wpList_neq_six rfl (.tmp 120) (.tmp 122) rfl p.dst p.dst rfl rfl hVP.out.ld hVP.out.ld hVP.out.bd hVP.out.bd ?_; rw [beq_self_eq_true p.dst])
        | (at_builtin; refine wpList_append_bytes _ rfl (.tmp 132) (.tmp 133) rfl rfl rfl ho7.out h4.out (by omega) (Nat.le_trans hbz hb7.out.size) ?_; intro A8 c8 w8 ho8 hg8 hr8; have hb8 := ((hBl.out.trans (hb7.out.mono hbz)).grown hg8 (Nat.le_trans hbz hb7.out.size) (fun k hk => (ho7.out.blk hk).1)))
        | fail)
      go_roundw
      case rel => exact ⟨k + 1, A8, a + d.length, c8, by omega, by go_num, rfl, by rw [htk.out]; exact ho8, hdn, hb8⟩
      case measure => simp [intOf]; omega
    · obtain rfl : k = L.length := by omega
      rw [List.take_length, hall.out] at ho9
      obtain rfl : m9 = n := by rw [← hlen, ← hml, List.take_length, hall.out]
      have c36' := (kA.out _ hBl).cell 36 _ hVP.out.h36
      have hrE := Lib.hid (hr0.out _ (hbA.out _ hBl))
      have hbE := Lib.hid (hbA.out _ hBl)
      replace ho9 := Lib.hid ho9.rb
      replace hL1 := 0
      replace hp1 := 0
      clear hBl hml
      go_wp2_with (first
        | (go_at_call 16; refine (Equal_same _ _ _ _ _ _ _ _ ho9.out hrE.out).mono ?_; rintro e w' ⟨rfl, rfl⟩)
        | (go_at_call 32; refine (awake14 _).mono ?_; rintro e w6 ⟨rfl, hB6⟩)
        | fail)
      go_ret
      exact ⟨by first | rfl | simp, hbE.out.trans (hB6.mono hbE.out.size)⟩

set_option maxRecDepth 100000 in
set_option maxHeartbeats 1000000 in
theorem Cut6Back_walk (P : Array Value) (p : V6P) (A : Option Addr) (n c : Nat) (id mtu : Int) (w : World) (h : V6V P p A n c) (hr : RB w A n c p.data) :
    Calls Try.prog 8 #[.agg P, .int .i64 id, .int .i64 mtu] w fun e w' => e = .returned (.bool true) ∧ Below w.heap.size w w' := by
  by_cases hn : 6000 < n
  · have hb0 := Lib.hid ((Below.refl _ w).alloc (Nat.le_refl _) (.cells P 26))
    have c36 := (Blk.new w P 26).cell 36 _ h.h36
    have hni : (6000 : Int) < n := by omega
    clear h hr
    go_enter Try.func8, Try.ntmps8
    go_wp2_with (first
      | (go_at_call 32; refine (awake14 _).mono ?_; rintro e w1 ⟨rfl, hB1⟩)
      | fail)
    go_ret
    exact ⟨by first | rfl | simp, hb0.out.trans (hB1.mono hb0.out.size)⟩
  by_cases hk : cutK p id mtu = 0
  · by_cases h5 : (40 + n : Int) ≤ mtu
    · exact Cut6Back_one P p A n c id mtu w h hr (by omega) hk h5
    · exact Cut6Back_many P p A n c id mtu w h hr (by omega) hk h5
  · exact Cut6Back_bad P p A n c id mtu w h hr (by omega) hk
end Go.Proofs.Ytbbdkfadcafpfaa
