/- Fragments of IPv4 (the reference): walk of Cut. -/
import Derived.Test.YtipigcpenmcaoaaCut4K
import Derived.Test.YtipigcpenmcaoaaCut4R
import Derived.Test.YtipigcpenmcaoaaV4R
import Derived.Test.YtipigcpenmcaoaaHeld
import Derived.Test.YtipigcpenmcaoaaMake
import Derived.Test.YtipigcpenmcaoaaRound
import Derived.Deep.DeepCutAuto
set_option linter.unusedVariables false
namespace Go.Proofs.Ytipigcpenmcaoaa
open Go Go.RowKit

set_option maxRecDepth 100000 in
set_option maxHeartbeats 2000000 in
theorem RefCut4_bad (p : V4P) (ao : Option Addr) (no co : Nat) (a : Option Addr) (n c : Nat) (mtu : Int) (w : World) (hro : RB w ao no co p.opts) (hr : RB w a n c p.data) (hno : no ≤ 100000) (hn : n ≤ 100000) (hbad : mtu < 68 ∨ 65535 < mtu ∨ checkV4 p no n ≠ 0) :
    Calls Try.prog 15 #[.agg (cells4 p ao no co a n c), .int .i64 mtu] w (Cut4Out w p mtu) := by
  have hlo := hro.len
  have hlr := hr.len
  have hb0 := Lib.hid ((Below.refl _ w).alloc (Nat.le_refl _) (.cells (cells4 p ao no co a n c) 24))
  have kP := Lib.hid (Blk.new w (cells4 p ao no co a n c) 24)
  have hV := Lib.hid (show (Try.prog.info? 24).map (·.size) = some (cells4 p ao no co a n c).size from info_v4)
  by_cases h1 : mtu < 68
  · have e1 := Lib.hid (show cutK4 p mtu = 1 by unfold cutK4; rw [if_pos (.inl h1)])
    have d1 : decide (mtu < 68) = true := decide_eq_true h1
    clear hro hr hbad
    go_enter Try.func15, Try.ntmps15
    go_wp2
    go_ret2
    exact Cut4Out.bad e1.out (by decide) hb0.out
  have d1 : decide (mtu < 68) = false := decide_eq_false h1
  by_cases h2 : 65535 < mtu
  · have e1 := Lib.hid (show cutK4 p mtu = 1 by unfold cutK4; rw [if_pos (.inr h2)])
    have d2 : decide (65535 < mtu) = true := decide_eq_true h2
    clear hro hr hbad
    go_enter Try.func15, Try.ntmps15
    go_wp2
    go_ret2
    exact Cut4Out.bad e1.out (by decide) hb0.out
  have d2 : decide (65535 < mtu) = false := decide_eq_false h2
  have h3 : checkV4 p no n ≠ 0 := by rcases hbad with h | h | h; exact absurd h h1; exact absurd h h2; exact h
  have hK := fun W => RefCheck4_any p ao no co a n c W hno hn
  have e1 := Lib.hid (show cutK4 p mtu = checkV4 p no n by unfold cutK4; rw [if_neg (by omega), hlo, hlr, if_pos h3])
  have hcd := Lib.hid h3
  have hne : (checkV4 p no n != 0) = true := by simpa using h3
  generalize checkV4 p no n = kk at *
  replace hK := Lib.hid hK
  clear hro hr hbad h3
  go_enter Try.func15, Try.ntmps15
  go_wp2_with (first
    | (refine wpList_load_row rfl 24 (.tmp 2) rfl w.heap.size rfl _ (cells4 p ao no co a n c) _ _ kP.out.at_ Try.underlying24 rfl hV.out ?_)
    | (go_at_call 56; refine (hK.out _).mono ?_; rintro e w1 ⟨rfl, hB1⟩; have hb1 := Lib.hid (hb0.out.trans (hB1.mono hb0.out.size)); replace hB1 := 0)
    | fail)
  go_ret2
  exact Cut4Out.bad e1.out hcd.out hb1.out

/-- A packet that is p but for its place, its options (and what a fragment has of its own). -/
def RelF (p q : V4P) (cur : Int) (os : List Int) : Prop := { q with mf := p.mf, data := p.data } = { p with off := cur, opts := os }
theorem RelF.refl (p : V4P) : RelF p p p.off p.opts := rfl
theorem RelF.step {p q : V4P} {cur : Int} {os : List Int} (h : RelF p q cur os) (mtu : Int) (more : Bool) (left : List Int) :
    frag1 mtu more q left = { p with off := cur, opts := os, mf := more || decide (fit4 (20 + os.length) left.length mtu < left.length), data := left.take (fit4 (20 + os.length) left.length mtu) } ∧ q.opts = os ∧ q.off = cur := by
  obtain ⟨q1, q2, q3, q4, q5, q6, q7, q8, q9, q10, q11⟩ := q
  obtain ⟨p1, p2, p3, p4, p5, p6, p7, p8, p9, p10, p11⟩ := p
  unfold RelF at h
  simp only [V4P.mk.injEq] at h
  obtain ⟨rfl, rfl, rfl, rfl, rfl, rfl, rfl, rfl, _, rfl, _⟩ := h
  exact ⟨rfl, rfl, rfl⟩
theorem RelF.next {p : V4P} {cur : Int} {os others : List Int} {m : Bool} {d : List Int} {k : Int} : RelF p { ({ p with off := cur, opts := os, mf := m, data := d } : V4P) with off := k, opts := others } k others := rfl
theorem fragsF_round {p q : V4P} {cur : Int} {os : List Int} (h : RelF p q cur os) (mtu : Int) (more : Bool) (others left : List Int) (f : Nat) :
    fragsF mtu more others (f + 1) q left =
      if fit4 (20 + os.length) left.length mtu = left.length then [frag1 mtu more q left]
      else frag1 mtu more q left :: fragsF mtu more others f { frag1 mtu more q left with off := cur + fit4 (20 + os.length) left.length mtu, opts := others } (left.drop (fit4 (20 + os.length) left.length mtu)) := by
  obtain ⟨_, h2, h3⟩ := h.step mtu more left
  conv => lhs; unfold fragsF
  rw [h2, h3]
/-- What holds at the head of the loop. -/
def RefInv (p : V4P) (mtu : Int) (A3 : Option Addr) (no c3 : Nat) (A4 : Option Addr) (n c4 : Nat) (w : World) (M : Nat) (vo vd vp vf : Value) (wr : World) : Prop :=
  ∃ (f : Nat) (q : V4P) (left : List Int) (pre : List V4P) (cur : Int) (os : List Int) (Al : Option Addr) (nl cl : Nat) (Ao : Option Addr) (mo ko : Nat) (A5 : Option Addr) (c5 : Nat) (qs : List kV4.β) (fst : Bool),
    vo = .slice A5 pre.length c5 ∧ vd = .slice Al nl cl ∧ vp = .slice Ao mo ko ∧ vf = .bool fst ∧ LS kV4 wr M 24 A5 pre.length c5 qs ∧ qs.map (·.p) = pre ∧
    RB wr Al nl cl left ∧ (0 < nl → ∀ k, ownBlk Al = some k → k < M ∧ k ≠ w.heap.size) ∧ RB wr Ao mo ko os ∧ mo ≤ 40 ∧ RelF p q cur os ∧
    Blk wr w.heap.size (cells4 { p with off := cur } A3 no c3 A4 n c4) 24 ∧ RB wr A3 no c3 p.opts ∧
    frags4 p mtu = pre ++ (if fst = true ∨ 0 < nl then fragsF mtu p.mf (copiedV p.opts) (f + 1) q left else []) ∧ nl ≤ f ∧ nl ≤ 65535 ∧ 0 ≤ cur ∧ cur + nl ≤ 131070 ∧ Below w.heap.size w wr ∧ M ≤ wr.heap.size ∧ (fst = true → 0 < nl)
def lenOf : Value → Nat
  | .slice _ n _ => n
  | _ => 0
theorem cut4_fin6 {p : V4P} {ao : Option Addr} {no co : Nat} {a : Option Addr} {n c : Nat} {w X : World} {A3 A4 : Option Addr} {c3 c4 : Nat} (k : Blk X w.heap.size (cells4 p ao no co a n c) 24) (ho : OB X (w.heap.size + 1) A3 no c3 p.opts) (hd : OB X (w.heap.size + 1) A4 n c4 p.data) (hb : Below w.heap.size w X) :
    ∃ B3 d3 B4' d4, ((A3 = B3 ∧ c3 = d3) ∧ (A4 = B4' ∧ c4 = d4)) ∧ Blk ((X.setCell ⟨w.heap.size, 9, none⟩ (.slice A3 no c3)).setCell ⟨w.heap.size, 10, none⟩ (.slice A4 n c4)) w.heap.size (cells4 p B3 no d3 B4' n d4) 24 ∧
      RB ((X.setCell ⟨w.heap.size, 9, none⟩ (.slice A3 no c3)).setCell ⟨w.heap.size, 10, none⟩ (.slice A4 n c4)) B3 no d3 p.opts ∧ RB ((X.setCell ⟨w.heap.size, 9, none⟩ (.slice A3 no c3)).setCell ⟨w.heap.size, 10, none⟩ (.slice A4 n c4)) B4' n d4 p.data ∧
      (∀ k, ownBlk B4' = some k → w.heap.size < k) ∧ (∀ k, ownBlk B3 = some k → w.heap.size < k) ∧ Below w.heap.size w ((X.setCell ⟨w.heap.size, 9, none⟩ (.slice A3 no c3)).setCell ⟨w.heap.size, 10, none⟩ (.slice A4 n c4)) := by
  have nb := nb_cells4 k
  have nb' := nb_cells4 (X := X.setCell ⟨w.heap.size, 9, none⟩ (.slice A3 no c3)) (q := p) (x1 := A3) (x2 := no) (x3 := c3) (y1 := a) (y2 := n) (y3 := c) (by simpa using k.set 9 (.slice A3 no c3))
  exact ⟨A3, c3, A4, c4, ⟨⟨rfl, rfl⟩, rfl, rfl⟩, by simpa using (k.set 9 (.slice A3 no c3)).set 10 (.slice A4 n c4), (ho.rb.farN nb 9 _).farN nb' 10 _, (hd.rb.farN nb 9 _).farN nb' 10 _, fun j hj => (hd.blk hj).1, fun j hj => (ho.blk hj).1,
    (hb.setCell (p := ⟨w.heap.size, 9, none⟩) (Nat.le_refl _) _).setCell (p := ⟨w.heap.size, 10, none⟩) (Nat.le_refl _) _⟩

set_option maxRecDepth 100000 in
set_option maxHeartbeats 4000000 in
theorem RefCut4_good (p : V4P) (ao : Option Addr) (no co : Nat) (a : Option Addr) (n c : Nat) (mtu : Int) (w : World) (hro : RB w ao no co p.opts) (hr : RB w a n c p.data) (h1 : ¬ mtu < 68) (h2 : ¬ 65535 < mtu) (h3 : checkV4 p no n = 0) :
    Calls Try.prog 15 #[.agg (cells4 p ao no co a n c), .int .i64 mtu] w (Cut4Out w p mtu) := by
  have hlo := hro.len
  have hlr := hr.len
  obtain ⟨b1, b2, b3, b4⟩ := checkV4_ok h3
  have hb0 := Lib.hid ((Below.refl _ w).alloc (Nat.le_refl _) (.cells (cells4 p ao no co a n c) 24))
  have kP := Lib.hid (Blk.new w (cells4 p ao no co a n c) 24)
  have hV := Lib.hid (show (Try.prog.info? 24).map (·.size) = some (cells4 p ao no co a n c).size from info_v4)
  have d1 : decide (mtu < 68) = false := decide_eq_false h1
  have d2 : decide (65535 < mtu) = false := decide_eq_false h2
  have hK := fun W => RefCheck4_any p ao no co a n c W (by omega) (by omega)
  rw [h3] at hK
  replace hK := Lib.hid hK
  have hcr := Lib.hid (fun X (hX : Below w.heap.size w X) => hro.below hX)
  have hcd := Lib.hid (fun X (hX : Below w.heap.size w X) => hr.below hX)
  have hee := Lib.hid (show ((20 + no + n : Int) ≤ mtu → cutK4 p mtu = 0 ∧ cutR4 p mtu = [p]) ∧ (¬ (20 + no + n : Int) ≤ mtu → p.df = true → cutK4 p mtu = 6) ∧ (¬ (20 + no + n : Int) ≤ mtu → p.df = false → cutK4 p mtu = 0 ∧ cutR4 p mtu = frags4 p mtu) from by
    have e0 : cutK4 p mtu = if (20 + no + n : Int) ≤ mtu then 0 else if p.df = true then 6 else 0 := by unfold cutK4; rw [if_neg (by omega), hlo, hlr, if_neg (by omega)]
    refine ⟨fun h => ?_, fun h hd => by rw [e0, if_neg h, if_pos hd], fun h hd => ?_⟩
    · have e1 : cutK4 p mtu = 0 := by rw [e0, if_pos h]
      exact ⟨e1, by unfold cutR4; rw [if_pos e1, hlo, hlr, if_pos h]⟩
    · have e1 : cutK4 p mtu = 0 := by rw [e0, if_neg h, if_neg (by simp [hd])]
      exact ⟨e1, by unfold cutR4; rw [if_pos e1, hlo, hlr, if_neg h]⟩)
  clear hro hr h3
  go_enter Try.func15, Try.ntmps15
  go_upto_region 6 with (first
    | (refine wpList_load_row rfl 24 (.tmp 2) rfl w.heap.size rfl _ (cells4 p ao no co a n c) _ _ kP.out.at_ Try.underlying24 rfl hV.out ?_)
    | (go_at_call 56; refine (hK.out _).mono ?_; rintro e w1 ⟨rfl, hB1⟩; have kP1 := Lib.hid (kP.out.to hB1); have hb1 := Lib.hid (hb0.out.trans (hB1.mono hb0.out.size)); replace hB1 := 0)
    | fail)
  go_cut [] (fun wx => ∃ A3 c3 A4 c4, Blk wx w.heap.size (cells4 p A3 no c3 A4 n c4) 24 ∧ RB wx A3 no c3 p.opts ∧ RB wx A4 n c4 p.data ∧ (∀ k, ownBlk A4 = some k → w.heap.size < k) ∧ (∀ k, ownBlk A3 = some k → w.heap.size < k) ∧ Below w.heap.size w wx)
  case first =>
    have kd' := kP1.out.drew
    have e9 := kd'.cell 9 (.slice ao no co) rfl
    have e10 := kd'.cell 10 (.slice a n c) rfl
    have hbd := Lib.hid hb1.out.drew
    have hNd := Lib.hid (show w.heap.size + 1 ≤ w1.drew.heap.size from kd'.lt)
    have kd := Lib.hid kd'
    clear kd'
    have hsO := Lib.hid (show 0 + no ≤ 140737488355328 by omega)
    have hsD := Lib.hid (show 0 + n ≤ 140737488355328 by omega)
    go_region_law (first
    | (refine step_append_bytes (A := none) (n := 0) (c := 0) (A' := ao) (m := no) (c' := co) (base := w.heap.size + 1) (bs := []) (ys := p.opts) rfl (.const (.slice none 0 0)) (.tmp 26) rfl (by simp [Act.eval]) (by simp [Act.eval]) (OB.nil _ _) (hcr.out _ hbD.out) hsO.out hND.out ?_; intro A3 c3 wOD hoO hg hr; have hBx := (Below.refl _ _).grown hg (Nat.le_refl _) (fun k hk => by cases hk); have kO := kD.out.to hBx; have hbO := Lib.hid (hbD.out.trans (hBx.mono hbD.out.size)); have hNO := Lib.hid (show w.heap.size + 1 ≤ _ from kO.lt); have e9O := kO.cell 9 (.slice ao no co) rfl; have e10O := kO.cell 10 (.slice a n c) rfl; have hoD2 := Lib.hid (hoD.out.below hBx); replace hoO := Lib.hid hoO; have f9 := kO.frz 9; have c10 := (kO.set 9 (.slice A3 no c3)).cell 10 (.slice a n c) rfl; have f10 := (kO.set 9 (.slice A3 no c3)).frz 10; replace kO := Lib.hid kO; replace hBx := 0; clear hg hr)
    | (refine step_append_bytes (A := none) (n := 0) (c := 0) (A' := a) (m := n) (c' := c) (base := w.heap.size + 1) (bs := []) (ys := p.data) rfl (.const (.slice none 0 0)) (.tmp 29) rfl (by simp [Act.eval]) (by simp [Act.eval, Act.put]) (OB.nil _ _) (hcd.out _ hbO.out) hsD.out hNO.out ?_; intro A4 c4 wDO hoD hg hr; have hBx := (Below.refl _ _).grown hg (Nat.le_refl _) (fun k hk => by cases hk); have kD := kO.out.to hBx; have hbD := Lib.hid (hbO.out.trans (hBx.mono hbO.out.size)); have hND := Lib.hid (show w.heap.size + 1 ≤ _ from kD.lt); have e9D := kD.cell 9 (.slice ao no co) rfl; have e10D := kD.cell 10 (.slice a n c) rfl; have hoO2 := Lib.hid (hoO.out.below hBx); replace hoD := Lib.hid hoD; have f9 := kD.frz 9; have c10 := (kD.set 9 (.slice A3 no c3)).cell 10 (.slice a n c) rfl; have f10 := (kD.set 9 (.slice A3 no c3)).frz 10; replace kD := Lib.hid kD; replace hBx := 0; clear hg hr)
    | (refine step_append_bytes (A := none) (n := 0) (c := 0) (A' := ao) (m := no) (c' := co) (base := w.heap.size + 1) (bs := []) (ys := p.opts) rfl (.const (.slice none 0 0)) (.tmp 26) rfl (by simp [Act.eval]) (by simp [Act.eval]) (OB.nil _ _) (hcr.out _ hbd.out) hsO.out hNd.out ?_; intro A3 c3 wOd hoO hg hr; have hBx := (Below.refl _ _).grown hg (Nat.le_refl _) (fun k hk => by cases hk); have kO := kd.out.to hBx; have hbO := Lib.hid (hbd.out.trans (hBx.mono hbd.out.size)); have hNO := Lib.hid (show w.heap.size + 1 ≤ _ from kO.lt); have e9O := kO.cell 9 (.slice ao no co) rfl; have e10O := kO.cell 10 (.slice a n c) rfl; replace hoO := Lib.hid hoO; replace kO := Lib.hid kO; replace hBx := 0; clear hg hr)
    | (refine step_append_bytes (A := none) (n := 0) (c := 0) (A' := a) (m := n) (c' := c) (base := w.heap.size + 1) (bs := []) (ys := p.data) rfl (.const (.slice none 0 0)) (.tmp 29) rfl (by simp [Act.eval]) (by simp [Act.eval, Act.put]) (OB.nil _ _) (hcd.out _ hbd.out) hsD.out hNd.out ?_; intro A4 c4 wDd hoD hg hr; have hBx := (Below.refl _ _).grown hg (Nat.le_refl _) (fun k hk => by cases hk); have kD := kd.out.to hBx; have hbD := Lib.hid (hbd.out.trans (hBx.mono hbd.out.size)); have hND := Lib.hid (show w.heap.size + 1 ≤ _ from kD.lt); have e9D := kD.cell 9 (.slice ao no co) rfl; have e10D := kD.cell 10 (.slice a n c) rfl; replace hoD := Lib.hid hoD; replace kD := Lib.hid kD; replace hBx := 0; clear hg hr))
    all_goals
      go_wp2_with fail
      go_meet
      first
        | (obtain ⟨B3, d3, B4', d4, _, h⟩ := cut4_fin6 kD.out (by have := hoO2.out; rwa [Nat.zero_add] at this) (by have := hoD.out; rwa [Nat.zero_add] at this) hbD.out; exact ⟨B3, d3, B4', d4, h⟩)
        | (obtain ⟨B3, d3, B4', d4, _, h⟩ := cut4_fin6 kO.out (by have := hoO.out; rwa [Nat.zero_add] at this) (by have := hoD2.out; rwa [Nat.zero_add] at this) hbO.out; exact ⟨B3, d3, B4', d4, h⟩)
  case rest =>
    obtain ⟨A3, c3, A4, c4, k5, ro5, r5, hf4, hf3, hb5⟩ := hcut
    have hS := Lib.hid (fun W => RefSize4_any p A3 no c3 A4 n c4 W (by omega) (by omega))
    have hV5 := Lib.hid (show (Try.prog.info? 24).map (·.size) = some (cells4 p A3 no c3 A4 n c4).size from info_v4)
    replace k5 := Lib.hid k5
    replace ro5 := Lib.hid ro5
    replace r5 := Lib.hid r5
    replace hf4 := Lib.hid hf4
    replace hf3 := Lib.hid hf3
    replace hb5 := Lib.hid hb5
    replace kP := 0
    replace hV := 0
    replace hK := 0
    replace kP1 := 0
    by_cases h4 : (20 + no + n : Int) ≤ mtu
    · have d4 : decide ((20 + no + n : Int) ≤ mtu) = true := decide_eq_true h4
      have e1 := Lib.hid (hee.out.1 h4)
      clear h4
      go_wp2_with (first
        | (refine wpList_build1 _ rfl 26 24 (.tmp 37) rfl (cells4 p A3 no c3 A4 n c4) rfl 11 rfl (by decide) (by decide) Try.underlying26 (.agg zero4c) 112 info_v4z ?_)
        | (refine wpList_load_row rfl 24 (.tmp 2) rfl w.heap.size rfl _ (cells4 p A3 no c3 A4 n c4) _ _ k6.out.at_ Try.underlying24 rfl hV5.out ?_)
        | (refine wpList_load_row rfl 24 (.tmp 2) rfl w.heap.size rfl _ (cells4 p A3 no c3 A4 n c4) _ _ k5.out.at_ Try.underlying24 rfl hV5.out ?_)
        | (go_at_call 57; refine (hS.out _).mono ?_; rintro e w6 ⟨rfl, hB6⟩; have k6 := Lib.hid (k5.out.to hB6); have ro6 := Lib.hid (ro5.out.below hB6); have r6 := Lib.hid (r5.out.below hB6); have hb6 := Lib.hid (hb5.out.trans (hB6.mono hb5.out.size)); replace hB6 := 0; replace k5 := 0)
        | fail)
      go_ret2
      have hk := Blk.new w6 (cells4 p A3 no c3 A4 n c4) 24
      refine Cut4Out.one e1.out.1 (LR.one4 (κ := kV4) (x := ⟨p, A3, no, c3, A4, n, c4⟩) trivial hk (fun s hs => ?_)) (e1.out.2.symm) (hb6.out.alloc hb6.out.size _)
      rcases List.mem_cons.1 hs with rfl | hs
      · exact ro6.out.alloc _
      · rw [List.mem_singleton.1 hs]
        exact r6.out.alloc _
    · have d4 : decide ((20 + no + n : Int) ≤ mtu) = false := decide_eq_false h4
      cases hd : p.df
      · have e1 := Lib.hid (hee.out.2.2 (by omega) hd)
        have hn0 := Lib.hid (show 0 < n by omega)
        have hflen := Lib.hid (fragsF_len mtu p.mf (copiedV p.opts) (by omega) (copied_len (by omega)) (p.data.length + 1) p p.data (by omega))
        clear h4
        go_upto_region 12 with (first
          | (refine wpList_load_row rfl 24 (.tmp 2) rfl w.heap.size rfl _ (cells4 p A3 no c3 A4 n c4) _ _ k5.out.at_ Try.underlying24 rfl hV5.out ?_)
          | (go_at_call 57; refine (hS.out _).mono ?_; rintro e w6 ⟨rfl, hB6⟩; have k6 := k5.out.to hB6; have c7 := k6.cell 7 (.bool p.df) rfl; rw [hd] at c7; have ro6 := Lib.hid (ro5.out.below hB6); have r6 := Lib.hid (r5.out.below hB6); have hb6 := Lib.hid (hb5.out.trans (hB6.mono hb5.out.size)); replace hB6 := 0)
          | fail)
        replace hd := Lib.hid hd
        have kd := k6.drew
        have e8 := kd.cell 8 (.bool p.mf) rfl
        have e9 := kd.cell 9 (.slice A3 no c3) rfl
        have e10 := kd.cell 10 (.slice A4 n c4) rfl
        have hS0 := Lib.hid (show w6.drew.cell? ⟨w.heap.size, 10, none⟩ = some (.slice A4 n c4) ∧ w6.drew.cell? ⟨w.heap.size, 8, none⟩ = some (.bool p.mf) ∧ w6.drew.cell? ⟨w.heap.size, 9, none⟩ = some (.slice A3 no c3) from ⟨e10, e8, e9⟩)
        have hbd := Lib.hid hb6.out.drew
        have rod := Lib.hid (ro6.out.below (Below.refl _ w6).drew)
        have rd := Lib.hid (r6.out.below (Below.refl _ w6).drew)
        replace kd := Lib.hid kd
        clear e8 e9 e10 c7 k6
        refine wp_region_held_drew (S := fun X => X.cell? ⟨w.heap.size, 10, none⟩ = some (.slice A4 n c4) ∧ X.cell? ⟨w.heap.size, 8, none⟩ = some (.bool p.mf) ∧ X.cell? ⟨w.heap.size, 9, none⟩ = some (.slice A3 no c3)) (by kernel_rfl) hS0.out (fun hHeld => ?_)
        refine take_h (i := 0) (v := ?_) rfl rfl (by kernel_rfl) (by kernel_rfl) (by kernel_rfl) (fun _ _ _ h => h) (Or.inl ⟨by rfl, fun W hSw => ?_⟩) (by assumption) ?_
        rotate_left
        · (clear hSw; go_simp; try with_reducible rfl)
        simp only [Act.put, List.setIfInBounds_toArray, List.set_cons_zero, List.set_cons_succ]
        refine take_h (i := 1) (v := ?_) rfl rfl (by kernel_rfl) (by kernel_rfl) (by kernel_rfl) (fun _ _ _ h => h) (Or.inl ⟨by rfl, fun W hSw => ?_⟩) (by assumption) ?_
        rotate_left
        · (obtain ⟨hs0, _⟩ := hSw; go_simp; try with_reducible rfl)
        simp only [Act.put, List.setIfInBounds_toArray, List.set_cons_zero, List.set_cons_succ]
        refine take_h (i := 2) (v := ?_) rfl rfl (by kernel_rfl) (by kernel_rfl) (by kernel_rfl) (fun _ _ _ h => h) (Or.inl ⟨by rfl, fun W hSw => ?_⟩) (by assumption) ?_
        rotate_left
        · (clear hSw; go_simp; try with_reducible rfl)
        simp only [Act.put, List.setIfInBounds_toArray, List.set_cons_zero, List.set_cons_succ]
        refine take_h (i := 3) (v := ?_) rfl rfl (by kernel_rfl) (by kernel_rfl) (by kernel_rfl) (fun _ _ _ h => h) (Or.inl ⟨by rfl, fun W hSw => ?_⟩) (by assumption) ?_
        rotate_left
        · (obtain ⟨hs0, hs1⟩ := hSw; go_simp; try with_reducible rfl)
        simp only [Act.put, List.setIfInBounds_toArray, List.set_cons_zero, List.set_cons_succ]
        refine take_h (i := 4) (v := ?_) rfl rfl (by kernel_rfl) (by kernel_rfl) (by kernel_rfl) (fun _ _ _ h => h) (Or.inl ⟨by rfl, fun W hSw => ?_⟩) (by assumption) ?_
        rotate_left
        · (clear hSw; go_simp; try with_reducible rfl)
        simp only [Act.put, List.setIfInBounds_toArray, List.set_cons_zero, List.set_cons_succ]
        refine take_h (i := 5) (v := ?_) rfl rfl (by kernel_rfl) (by kernel_rfl) (by kernel_rfl) (fun _ _ _ h => h) (Or.inl ⟨by rfl, fun W hSw => ?_⟩) (by assumption) ?_
        rotate_left
        · (obtain ⟨hs0, hs1⟩ := hSw; go_simp; try with_reducible rfl)
        simp only [Act.put, List.setIfInBounds_toArray, List.set_cons_zero, List.set_cons_succ]
        refine take_h (i := 6) (v := ?_) rfl rfl (by kernel_rfl) (by kernel_rfl) (by kernel_rfl) (fun _ _ _ h => h) (Or.inl ⟨by rfl, fun W hSw => ?_⟩) (by assumption) ?_
        rotate_left
        · (clear hSw; go_simp; try with_reducible rfl)
        simp only [Act.put, List.setIfInBounds_toArray, List.set_cons_zero, List.set_cons_succ]
        refine take_h (i := 7) (v := ?_) rfl rfl (by kernel_rfl) (by kernel_rfl) (by kernel_rfl) (fun _ _ _ h => h) (Or.inl ⟨by rfl, fun W hSw => ?_⟩) (by assumption) ?_
        rotate_left
        · (clear hSw; go_simp; try with_reducible rfl)
        simp only [Act.put, List.setIfInBounds_toArray, List.set_cons_zero, List.set_cons_succ]
        refine take_h (i := 8) (v := ?_) rfl rfl (by kernel_rfl) (by kernel_rfl) (by kernel_rfl) (fun _ _ _ h => h) (Or.inl ⟨by rfl, fun W hSw => ?_⟩) (by assumption) ?_
        rotate_left
        · (clear hSw; go_simp; try with_reducible rfl)
        simp only [Act.put, List.setIfInBounds_toArray, List.set_cons_zero, List.set_cons_succ]
        refine wpAnyH_done (by kernel_rfl) ?_ _
        clear hHeld
        obtain ⟨w7, hw7⟩ : ∃ w7, w6.drew = w7 := ⟨_, rfl⟩
        rw [hw7] at kd rod rd hbd ⊢
        clear hw7
        have hlt3 := Lib.hid (fun h0 : 0 < no => rod.out.mem h0)
        have hinv : RefInv p mtu A3 no c3 A4 n c4 w w7.heap.size (.slice none 0 0) (.slice A4 n c4) (.slice A3 no c3) (.bool true) w7 :=
          ⟨n, p, p.data, [], p.off, p.opts, A4, n, c4, A3, no, c3, none, 0, [], true, rfl, rfl, rfl, rfl, LS.nil _ _ _ _, rfl, rd.out, (fun h0 k hk => ⟨rd.out.blk_lt hk h0, by have := hf4.out k hk; omega⟩), rod.out, b1, RelF.refl p, kd.out, rod.out, (by rw [if_pos (Or.inl rfl), List.nil_append, ← hlr]; rfl), Nat.le_refl _, by omega, b3, by omega, hbd.out, Nat.le_refl _, fun _ => hn0.out⟩
        go_wp2
        go_loopw [7, 8, 10, 11] (fun vo vd vp vf wr => RefInv p mtu A3 no c3 A4 n c4 w w7.heap.size vo vd vp vf wr) (fun _ vd _ _ _ => lenOf vd)
        case atStart => exact hinv
        case round =>
          clear hinv
          obtain ⟨f, q, left, pre, cur, os, Al, nl, cl, Ao, mo, ko, A5, c5, qs, fst, rfl, rfl, rfl, rfl, hls, hqs, rl, hAl, rA, hmo, hrl, kq, r3, hfs, hf, hnl, hc0, hc1, hbr, hM, hfn⟩ := hrel
          by_cases hgo : fst = true ∨ 0 < nl
          · rw [if_pos hgo, fragsF_round hrl] at hfs
            obtain ⟨hf1, hf2, hf3⟩ := hrl.step mtu p.mf left
            have hol := rA.len
            have hll := rl.len
            rw [hol, hll] at hf1 hfs
            have hfit := fit4_le (head := 20 + mo) (left := nl) (mtu := mtu) (by omega) (by omega)
            obtain ⟨m, hmf⟩ : ∃ m, fit4 (20 + mo) nl mtu = m := ⟨_, rfl⟩
            rw [hmf] at hf1 hfs hfit
            have hVq := Lib.hid (show (Try.prog.info? 24).map (·.size) = some (cells4 { p with off := cur } A3 no c3 A4 n c4).size from info_v4)
            have hone := Lib.hid (show (cells4 { p with off := cur } A3 no c3 A4 n c4).all (·.oneCell') = true by rw [← Array.all_toList, List.all_eq_true]; exact kV4.one ⟨{ p with off := cur }, A3, no, c3, A4, n, c4⟩ trivial)
            have hzs := Lib.hid (show zero4c.size = (cells4 { p with off := cur } A3 no c3 A4 n c4).size from rfl)
            have hrA := Lib.hid rA
            have hrl4 := Lib.hid rl
            have hr3 := Lib.hid r3
            have hls' := Lib.hid hls
            have hbr' := Lib.hid hbr
            have hkq := Lib.hid kq
            have hhd := Lib.hid (fun (x : V4P) (B5 : Option Addr) (d5 : Nat) W => RefHead4_any x B5 mo d5 A4 n c4 W (by omega))
            replace hfs := Lib.hid hfs
            replace hf1 := Lib.hid hf1
            replace hqs := Lib.hid hqs
            replace hmf := Lib.hid hmf
            clear rA rl r3 hls hbr kq
            have hnl0 : 0 < nl := hgo.elim hfn id
            have hMw := Lib.hid kd.out.lt
            obtain ⟨b, off, rfl, hbl, _⟩ := hrl4.out.mem hnl0
            have hgb := Lib.hid hgo
            clear hgo
            go_upto_region 14 with fail
            go_cut [52] (fun v wx => v = .bool true ∧ wx = wr)
            case first =>
              cases fst
              · have hd0 : decide ((0 : Int) < nl) = true := decide_eq_true (by omega)
                go_wp2
                go_meet
                exact ⟨rfl, rfl⟩
              · go_wp2
                go_meet
                exact ⟨rfl, rfl⟩
            case rest =>
            obtain ⟨rfl, hww⟩ := hcut
            obtain rfl := hww.symm
            go_upto_region 17 with (first
              | (refine wpList_store_row rfl 24 (.tmp 12) (.tmp 53) rfl wr.heap.size (cells4 { p with off := cur } A3 no c3 A4 n c4) rfl rfl _ zero4c (Blk.new wr zero4c 24).at_ hVq.out hzs.out hone.out ?_)
              | (refine wpList_load_row rfl 24 (.tmp 2) rfl w.heap.size rfl _ (cells4 { p with off := cur } A3 no c3 A4 n c4) _ _ hkq.out.at_ Try.underlying24 rfl hVq.out ?_)
              | fail)
            obtain ⟨w8, hw8⟩ : ∃ w8, (wr.alloc (.cells zero4c 24)).setRow wr.heap.size (cells4 { p with off := cur } A3 no c3 A4 n c4) = w8 := ⟨_, rfl⟩
            have k8 : Blk w8 wr.heap.size (cells4 { p with off := cur } A3 no c3 A4 n c4) 24 := by rw [← hw8]; exact ⟨setRow_heap _ _ _ _ _ _ (Blk.new wr zero4c 24).at_⟩
            have hB8 : Below wr.heap.size wr w8 := by rw [← hw8]; exact below_row ((Below.refl _ wr).alloc (Nat.le_refl _) _) (Nat.le_refl _) _
            rw [hw8]
            have hrA8 := Lib.hid (hrA.out.below hB8)
            have hmo8 : 0 + mo ≤ 140737488355328 := by omega
            have hk8 := Lib.hid k8
            replace hB8 := Lib.hid hB8
            clear hw8 k8
            go_upto_region 18 with (first
              | (at_builtin; refine wpList_append_bytes _ rfl (.const (.slice none 0 0)) (.tmp 54) rfl rfl rfl (OB.nil _ w8.heap.size) hrA8.out (by omega) (Nat.le_refl _) ?_; intro A6 c6 w9 ho6 hg6 hr6; have hB9 := (Below.refl _ w8).grown hg6 (Nat.le_refl _) (fun k hk => by cases hk); have k9 := hk8.out.to hB9; have c99 := k9.cell 9 (.slice A3 no c3) rfl; have f99 := k9.frz 9; replace hB9 := Lib.hid hB9; replace k9 := Lib.hid k9; replace ho6 := Lib.hid ho6; clear hg6 hr6)
              | fail)
            obtain ⟨w10, hw10⟩ : ∃ w10, w9.setCell ⟨wr.heap.size, 9, none⟩ (.slice A6 mo c6) = w10 := ⟨_, rfl⟩
            have k10 : Blk w10 wr.heap.size (cells4 { p with off := cur } A6 mo c6 A4 n c4) 24 := by rw [← hw10]; simpa using k9.out.set 9 (.slice A6 mo c6)
            have ro10 : RB w10 A6 mo c6 os := by rw [← hw10]; have := ho6.out.rb.farN (nb_cells4 k9.out) 9 (.slice A6 mo c6); rwa [Nat.zero_add] at this
            have hB10 : Below wr.heap.size wr w10 := by rw [← hw10]; exact (hB8.out.trans (hB9.out.mono hB8.out.size)).setCell (p := ⟨wr.heap.size, 9, none⟩) (Nat.le_refl _) _
            have hf6 := Lib.hid (show ∀ k, ownBlk A6 = some k → wr.heap.size < k from fun k hk => by have h1 := (ho6.out.blk hk).1; have h2 := hk8.out.lt; omega)
            rw [hw10]
            have hV10 := Lib.hid (show (Try.prog.info? 24).map (·.size) = some (cells4 { p with off := cur } A6 mo c6 A4 n c4).size from info_v4)
            replace k10 := Lib.hid k10
            replace ro10 := Lib.hid ro10
            replace hB10 := Lib.hid hB10
            clear hw10 c99 f99
            have hmm := Lib.hid (show (m : Int) = if (20 + mo + nl : Int) ≤ mtu then (nl : Int) else (mtu - (20 + mo)) / 8 * 8 by rw [← hmf.out]; unfold fit4; split <;> split <;> omega)
            go_upto_if 64 with (first
              | (refine wpList_load_row rfl 24 (.tmp 12) rfl wr.heap.size rfl _ (cells4 { p with off := cur } A6 mo c6 A4 n c4) _ _ k10.out.at_ Try.underlying24 rfl hV10.out ?_)
              | (go_at_call 58; refine (hhd.out { p with off := cur } A6 c6 _).mono ?_; rintro e w11 ⟨rfl, hB11⟩; have k11 := Lib.hid (k10.out.to hB11); have ro11 := Lib.hid (ro10.out.below hB11); replace hB11 := Lib.hid (hB10.out.trans (hB11.mono hB10.out.size)))
              | fail)
            go_cut [13] (fun v wx => v = .int .i64 (m : Nat) ∧ Blk wx wr.heap.size (cells4 { p with off := cur } A6 mo c6 A4 n c4) 24 ∧ RB wx A6 mo c6 os ∧ Below wr.heap.size wr wx)
            case first =>
              by_cases hle : (20 + mo + nl : Int) ≤ mtu
              · have dle : decide (mtu < (20 + mo + nl : Int)) = false := decide_eq_false (by omega)
                have hmn : m = nl := by have := hmm.out; rw [if_pos hle] at this; omega
                have dl2 : ¬ mtu < (20 + mo + nl : Int) := by omega
                replace hmn := Lib.hid hmn
                clear hle
                go_wp2_with fail
                go_meet
                exact ⟨by rw [hmn.out], k11.out, ro11.out, hB11.out⟩
              · have dle : decide (mtu < (20 + mo + nl : Int)) = true := decide_eq_true (by omega)
                have hq : (mtu - (20 + mo : Int)).tdiv 8 = (mtu - (20 + mo)) / 8 := Int.tdiv_eq_ediv_of_nonneg (by omega)
                have hme := Lib.hid (show (m : Int) = (mtu - (20 + mo)) / 8 * 8 from by have := hmm.out; rw [if_neg hle] at this; omega)
                have dl2 : mtu < (20 + mo + nl : Int) := by omega
                clear hle
                go_wp2_with (first
                  | (refine wpList_load_row rfl 24 (.tmp 12) rfl wr.heap.size rfl _ (cells4 { p with off := cur } A6 mo c6 A4 n c4) _ _ k11.out.at_ Try.underlying24 rfl hV10.out ?_)
                  | (go_at_call 58; refine (hhd.out { p with off := cur } A6 c6 _).mono ?_; rintro e w12 ⟨rfl, hB12⟩; have k12 := Lib.hid (k11.out.to hB12); have ro12 := Lib.hid (ro11.out.below hB12); replace hB12 := Lib.hid (hB11.out.trans (hB12.mono hB11.out.size)))
                  | fail)
                go_meet
                exact ⟨by rw [hme.out], k12.out, ro12.out, hB12.out⟩
            case rest =>
            obtain ⟨rfl, k13, ro13, hB13⟩ := hcut
            obtain ⟨wi, rfl⟩ : ∃ wi, wi = wc := ⟨_, rfl⟩
            have c8 := k13.cell 8 (.bool p.mf) rfl
            have f8 := k13.frz 8
            replace k13 := Lib.hid k13
            replace ro13 := Lib.hid ro13
            replace hB13 := Lib.hid hB13
            go_upto_region 21 with fail
            go_cut [9, 44] (fun v v2 wx => (v = .bool p.mf ∧ v2 = .bool p.mf) ∧ wx = World.setCell wi ⟨wr.heap.size, 8, none⟩ (.bool (p.mf || decide (m < nl))))
            case first =>
              cases hmv : p.mf
              · by_cases hlt0 : m < nl
                · have hlt1 : decide ((m : Int) < (nl : Int)) = true := decide_eq_true (by omega)
                  have hlt2 : decide (m < nl) = true := decide_eq_true hlt0
                  go_wp2
                  go_meet
                  exact ⟨⟨by rw [hmv], by rw [hmv]⟩, by simp [hmv, hlt2]⟩
                · have hlt1 : decide ((m : Int) < (nl : Int)) = false := decide_eq_false (by omega)
                  have hlt2 : decide (m < nl) = false := decide_eq_false hlt0
                  go_wp2
                  go_meet
                  exact ⟨⟨by rw [hmv], by rw [hmv]⟩, by simp [hmv, hlt2]⟩
              · go_wp2
                go_meet
                exact ⟨⟨by rw [hmv], by rw [hmv]⟩, by simp [hmv]⟩
            case rest =>
            obtain ⟨bx, hbx⟩ : ∃ bx, (p.mf || decide (m < nl)) = bx := ⟨_, rfl⟩
            rw [hbx] at hcut
            obtain ⟨⟨rfl, rfl⟩, hwa⟩ := hcut
            obtain ⟨wa, rfl⟩ : ∃ wa, wa = wc := ⟨_, rfl⟩
            replace hbx := Lib.hid hbx
            have ka : Blk wa wr.heap.size (cells4 { p with off := cur, mf := bx } A6 mo c6 A4 n c4) 24 := by rw [hwa]; simpa using k13.out.set 8 (.bool bx)
            have roa : RB wa A6 mo c6 os := by rw [hwa]; exact ro13.out.farN (nb_cells4 k13.out) 8 _
            have hBa : Below wr.heap.size wr wa := by rw [hwa]; exact hB13.out.setCell (p := ⟨wr.heap.size, 8, none⟩) (Nat.le_refl _) _
            have rla := Lib.hid ((hrl4.out.below hBa).first_ (show m ≤ nl by omega))
            have hlc := hrl4.out.nc
            have i1 : ((m : Nat) : Int) ≤ cl := by omega
            have i2 : m ≤ cl := by omega
            have i3 : 0 + m ≤ 140737488355328 := by omega
            replace ka := Lib.hid ka
            replace roa := Lib.hid roa
            replace hBa := Lib.hid hBa
            replace k13 := 0
            replace ro13 := 0
            replace hB13 := 0
            replace k11 := 0
            replace ro11 := 0
            replace k10 := 0
            replace ro10 := 0
            clear hwa c8 f8
            go_upto_region 23 with (first
              | (at_builtin; refine wpList_append_bytes _ rfl (.const (.slice none 0 0)) (.tmp 81) rfl rfl rfl (OB.nil _ wa.heap.size) rla.out (by omega) (Nat.le_refl _) ?_; intro A7 c7 w13 ho7 hg7 hr7; have hB13 := (Below.refl _ wa).grown hg7 (Nat.le_refl _) (fun k hk => by cases hk); have k13 := ka.out.to hB13; have c13 := k13.cell 10 (.slice A4 n c4) rfl; have f13 := k13.frz 10; replace hB13 := Lib.hid hB13; replace k13 := Lib.hid k13; replace ho7 := Lib.hid ho7; clear hg7 hr7)
              | fail)
            obtain ⟨w14, hw14⟩ : ∃ w14, w13.setCell ⟨wr.heap.size, 10, none⟩ (.slice A7 m c7) = w14 := ⟨_, rfl⟩
            obtain ⟨P9, hP9⟩ : ∃ P9, cells4 { p with off := cur, mf := bx, data := left.take m } A6 mo c6 A7 m c7 = P9 := ⟨_, rfl⟩
            have k14 : Blk w14 wr.heap.size P9 24 := by rw [← hw14, ← hP9]; simpa using k13.out.set 10 (.slice A7 m c7)
            have nb13 := nb_cells4 k13.out
            have ro14 : RB w14 A6 mo c6 os := by rw [← hw14]; exact (roa.out.below hB13.out).farN nb13 10 _
            have rd14 : RB w14 A7 m c7 (left.take m) := by rw [← hw14]; have := ho7.out.rb.farN nb13 10 (.slice A7 m c7); rwa [Nat.zero_add] at this
            have hf7 := Lib.hid (show ∀ k, ownBlk A7 = some k → wr.heap.size < k from fun k hk => by have h1 := (ho7.out.blk hk).1; have h2 := ka.out.lt; omega)
            have hB14 : Below wr.heap.size wr w14 := by rw [← hw14]; exact (hBa.out.trans (hB13.out.mono hBa.out.size)).setCell (p := ⟨wr.heap.size, 10, none⟩) (Nat.le_refl _) _
            rw [hw14]
            have hV14 := Lib.hid (show (Try.prog.info? 24).map (·.size) = some P9.size by rw [← hP9]; exact info_v4)
            have hs14 := Lib.hid (show P9.size = 11 by rw [← hP9]; rfl)
            have hq14 := Lib.hid (show kV4.cells ⟨{ p with off := cur, opts := os, mf := bx, data := left.take m }, A6, mo, c6, A7, m, c7⟩ = P9 from hP9)
            replace k14 := Lib.hid k14
            replace ro14 := Lib.hid ro14
            replace rd14 := Lib.hid rd14
            replace hB14 := Lib.hid hB14
            have hls14 := Lib.hid ((hls'.out.below hB14.out).alloc (.cells P9 24))
            have hsl14 := Lib.hid (show ∀ s ∈ kV4.sl ⟨{ p with off := cur, opts := os, mf := bx, data := left.take m }, A6, mo, c6, A7, m, c7⟩, RB (w14.alloc (.cells P9 24)) s.1 s.2.1 s.2.2.1 s.2.2.2 ∧ (0 < s.2.1 → ∀ k, ownBlk s.1 = some k → ownBlk A5 ≠ some k) from fun s hs => by
              rcases List.mem_cons.1 hs with rfl | hs
              · exact ⟨ro14.out.alloc _, fun _ k hk h5 => by have h1 := hf6.out k hk; have h2 := (hls'.out.blk h5).2; omega⟩
              · rw [List.mem_singleton.1 hs]; exact ⟨rd14.out.alloc _, fun _ k hk h5 => by have h1 := hf7.out k hk; have h2 := (hls'.out.blk h5).2; omega⟩)
            have hzM := Lib.hid (show w7.heap.size ≤ (w14.alloc (.cells P9 24)).heap.size by have := hB14.out.size; simp; omega)
            have hpl : pre.length ≤ 1000000 := by have h1 := congrArg List.length hfs.out; have h2 := hflen.out; unfold frags4 at h1; rw [List.length_append] at h1; omega
            have hnw := Lib.hid (show Blk (w14.alloc (.cells P9 24)) w14.heap.size (kV4.cells ⟨{ p with off := cur, opts := os, mf := bx, data := left.take m }, A6, mo, c6, A7, m, c7⟩) 24 from by rw [hq14.out]; exact Blk.new w14 P9 24)
            replace hP9 := Lib.hid hP9
            clear hw14 c13 f13 nb13
            go_upto_region 24 with (first
              | (refine wpList_load_row rfl 24 (.tmp 12) rfl wr.heap.size rfl _ P9 _ _ k14.out.at_ Try.underlying24 rfl hV14.out ?_)
              | (refine wpList_build1 _ rfl 26 24 (.tmp 85) rfl P9 rfl 11 hs14.out (by decide) (by decide) Try.underlying26 (.agg zero4c) 112 info_v4z ?_)
              | (at_builtin; go_loud (refine wpList_append_ls _ rfl 26 24 (.tmp 84) (.tmp 86) rfl (.agg zero4c) 112 Try.underlying26 info_v4z rfl (by decide) rfl (g := w14.heap.size) rfl hls14.out (q := ⟨{ p with off := cur, opts := os, mf := bx, data := left.take m }, A6, mo, c6, A7, m, c7⟩) trivial hnw.out hsl14.out hpl hzM.out ?_); intro A8 c8 w15 hls15 hg15 hr15)
              | fail)
            have hBM : Below w7.heap.size wr w15 := (((hB14.out.alloc (by have := hB14.out.size; omega) _).mono hM).grown hg15 hzM.out (fun k hk => (hls'.out.blk hk).1))
            have kq15 := Lib.hid (hkq.out.below hBM hMw.out)
            have c25 := kq15.out.cell 2 (.int .i64 cur) rfl
            have f25 := kq15.out.frz 2
            have nb15 := Lib.hid (nb_cells4 kq15.out)
            have r315 : RB w15 A3 no c3 p.opts := ((hr3.out.below hB14.out).alloc _).grown (fun h0 k hk h5 => by have h1 := (hls'.out.blk h5).1; have h2 := rod.out.blk_lt hk h0; omega) hg15
            have rl15 : RB w15 (some ⟨b, off, none⟩) nl cl left := ((hrl4.out.below hB14.out).alloc _).grown (fun h0 k hk h5 => by have h1 := (hls'.out.blk h5).1; have h2 := (hAl h0 k hk).1; omega) hg15
            have hbw15 : Below w.heap.size w w15 := hbr'.out.trans (hBM.mono (Nat.le_of_lt hMw.out))
            have hz15 : w7.heap.size ≤ w15.heap.size := Nat.le_trans hM hBM.size
            have hn8 : ownBlk A8 ≠ some w.heap.size := fun e => by have := (hls15.blk e).1; have := hMw.out; omega
            have hcu : IntKind.i64.wrap (cur + (m : Nat)) = cur + (m : Nat) := by rw [IntKind.wrap_i64]; omega
            replace hls15 := Lib.hid hls15
            replace rl15 := Lib.hid rl15
            replace r315 := Lib.hid r315
            replace hn8 := Lib.hid hn8
            replace hbw15 := Lib.hid hbw15
            replace hz15 := Lib.hid hz15
            replace hBM := 0
            clear hg15 hr15
            go_cut [8] (fun v wx => ∃ Ad, v = .slice Ad (nl - m) (cl - m) ∧ RB wx Ad (nl - m) (cl - m) (left.drop m) ∧ ((Ad = some ⟨b, off, none⟩ ∨ Ad = some ⟨b, off + m, none⟩)) ∧ wx = w15)
            case first =>
              have hdr := rl15.out.drop_any m (show m ≤ nl by omega)
              by_cases hcm : cl = m
              · rw [if_pos hcm] at hdr
                go_wp2
                go_meet
                exact ⟨some ⟨b, off, none⟩, by rw [show cl - m = 0 by omega], hdr, .inl rfl, rfl⟩
              · rw [if_neg hcm] at hdr
                go_wp2
                go_meet
                exact ⟨_, rfl, hdr, .inr rfl, rfl⟩
            case rest =>
            obtain ⟨Ad, rfl, hdr, hAd, hwe⟩ := hcut
            obtain rfl := hwe.symm
            have hAdk := Lib.hid (show ∀ k, ownBlk Ad = some k → k < w7.heap.size ∧ k ≠ w.heap.size from fun k hk => by
              rcases hAd with rfl | rfl <;> (cases hk; exact hAl hnl0 b rfl))
            replace hdr := Lib.hid hdr
            replace hAd := 0
            go_upto_region 26 with fail
            obtain ⟨w16, hw16⟩ : ∃ w16, w15.setCell ⟨w.heap.size, 2, none⟩ (.int .i64 (cur + (m : Nat))) = w16 := ⟨_, rfl⟩
            have k16 : Blk w16 w.heap.size (cells4 { p with off := cur + (m : Nat) } A3 no c3 A4 n c4) 24 := by rw [← hw16]; simpa using kq15.out.set 2 (.int .i64 (cur + (m : Nat)))
            have r316 : RB w16 A3 no c3 p.opts := by rw [← hw16]; exact r315.out.farN nb15.out 2 _
            have rl16 : RB w16 Ad (nl - m) (cl - m) (left.drop m) := by rw [← hw16]; exact hdr.out.farN nb15.out 2 _
            have hls16 := hls15.out.far9 hn8.out nb15.out 2 (.int .i64 (cur + (m : Nat)))
            have hb16 : Below w.heap.size w w16 := by rw [← hw16]; exact hbw15.out.setCell (p := ⟨w.heap.size, 2, none⟩) (Nat.le_refl _) _
            have hz16 : w15.heap.size = w16.heap.size := by rw [← hw16]; simp [World.setCell]
            rw [hw16] at hls16 ⊢
            have c96 := k16.cell 9 (.slice A3 no c3) rfl
            replace k16 := Lib.hid k16
            replace r316 := Lib.hid r316
            replace rl16 := Lib.hid rl16
            replace hls16 := Lib.hid hls16
            replace hb16 := Lib.hid hb16
            replace hz16 := Lib.hid hz16
            clear hw16 c25 f25
            go_wp2_with (first
              | (go_at_call 19; refine (RefCopied_any A3 no c3 p.opts _ r316.out (by omega)).mono ?_; rintro e w17 ⟨A9, n9, c9, rfl, ho9, hB17⟩; replace hB17 := Lib.hid hB17; replace ho9 := Lib.hid ho9)
              | fail)
            have hn9 := ho9.out.len
            have hcl9 := copied_len (bs := p.opts) (by omega)
            have hz17 := hB17.out.size
            go_roundw
            case rel =>
              refine ⟨f - 1, { frag1 mtu p.mf q left with off := cur + (m : Nat), opts := copiedV p.opts }, left.drop m, pre ++ [frag1 mtu p.mf q left], cur + (m : Nat), copiedV p.opts, Ad, nl - m, cl - m, A9, n9, c9, A8, c8, _, false, by simp, rfl, rfl, rfl, by rw [List.length_append]; exact hls16.out.below hB17.out, ?_, rl16.out.below hB17.out, fun _ k hk => hAdk.out k hk, ho9.out.rb, by omega, ?_, k16.out.to hB17.out, r316.out.below hB17.out, ?_, by omega, by omega, by omega, by omega, hb16.out.trans (hB17.out.mono hb16.out.size), by have := hz15.out; have := hz16.out; omega, fun h => by cases h⟩
              · rw [List.map_append, hqs.out, hf1.out, hbx.out]; rfl
              · rw [hf1.out]; exact RelF.next
              · rw [hfs.out]
                by_cases hmn : m = nl
                · rw [if_pos hmn, if_neg (show ¬ (false = true ∨ 0 < nl - m) by simp; omega), List.append_nil]
                · rw [if_neg hmn, if_pos (show false = true ∨ 0 < nl - m from .inr (by omega)), show f - 1 + 1 = f by omega, List.append_assoc]; rfl
            case measure =>
              show nl - m < nl
              omega
          · obtain rfl : fst = false := by cases fst; rfl; exact absurd (Or.inl rfl) hgo
            obtain rfl : nl = 0 := by omega
            rw [if_neg hgo, List.append_nil] at hfs
            replace hls := Lib.hid hls
            replace hfs := Lib.hid hfs
            replace hqs := Lib.hid hqs
            replace hbr := Lib.hid hbr
            replace kq := 0
            go_wp2
            go_ret2
            exact Cut4Out.one e1.out.1 hls.out.lr (hqs.out.trans (hfs.out.symm.trans e1.out.2.symm)) hbr.out
      · have e1 := Lib.hid (hee.out.2.1 (by omega) hd)
        clear h4
        go_wp2_with (first
          | (refine wpList_load_row rfl 24 (.tmp 2) rfl w.heap.size rfl _ (cells4 p A3 no c3 A4 n c4) _ _ k5.out.at_ Try.underlying24 rfl hV5.out ?_)
          | (go_at_call 57; refine (hS.out _).mono ?_; rintro e w6 ⟨rfl, hB6⟩; have k6 := k5.out.to hB6; have c7 := k6.cell 7 (.bool p.df) rfl; rw [hd] at c7; have hb6 := Lib.hid (hb5.out.trans (hB6.mono hb5.out.size)); replace hB6 := 0)
          | fail)
        go_ret2
        exact Cut4Out.bad e1.out (by decide) hb6.out

theorem RefCut4_any (p : V4P) (ao : Option Addr) (no co : Nat) (a : Option Addr) (n c : Nat) (mtu : Int) (w : World) (hro : RB w ao no co p.opts) (hr : RB w a n c p.data) (hno : no ≤ 100000) (hn : n ≤ 100000) :
    Calls Try.prog 15 #[.agg (cells4 p ao no co a n c), .int .i64 mtu] w (Cut4Out w p mtu) := by
  by_cases h1 : mtu < 68
  · exact RefCut4_bad p ao no co a n c mtu w hro hr hno hn (.inl h1)
  by_cases h2 : 65535 < mtu
  · exact RefCut4_bad p ao no co a n c mtu w hro hr hno hn (.inr (.inl h2))
  by_cases h3 : checkV4 p no n = 0
  · exact RefCut4_good p ao no co a n c mtu w hro hr h1 h2 h3
  · exact RefCut4_bad p ao no co a n c mtu w hro hr hno hn (.inr (.inr h3))
end Go.Proofs.Ytipigcpenmcaoaa
