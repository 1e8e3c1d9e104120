/- Fragments of IPv4 (cut4): walk of Cut. -/
import Derived.Test.YtipigcpenmcaoaaCut4F
import Derived.Test.YtipigcpenmcaoaaV4C
import Derived.Deep.RegionWith
set_option linter.unusedVariables false
namespace Go.Proofs.Ytipigcpenmcaoaa
open Go Go.RowKit
attribute [local go_sem] Oper.semAt_some

theorem LR.one4 {κ : Kd} {w : World} {B : Nat} {T : TypeId} {x : κ.β} (hx : κ.ok x) (hk : Blk w B (κ.cells x) T) (hr : ∀ s ∈ κ.sl x, RB w s.1 s.2.1 s.2.2.1 s.2.2.2) : LR κ w (some ⟨B, 0, none⟩) 1 1 [x] :=
  ⟨rfl, Nat.le_refl _, by unfold maxLen; omega, fun y hy => by rw [List.mem_singleton] at hy; subst hy; exact hx, fun _ => ⟨B, 0, rfl, hk.lt, fun i y hy => by
    match i, hy with
    | 0, hy =>
      obtain rfl : x = y := by simpa using hy
      refine ⟨fun j v hj => ?_, hr⟩
      rw [Nat.zero_mul, Nat.add_zero, Nat.zero_add]
      exact hk.cell j v (by rw [← Array.getElem?_toList]; exact hj)⟩⟩
theorem nb_cells4 {X : World} {gp : Nat} {q : V4P} {x1 : Option Addr} {x2 x3 : Nat} {y1 : Option Addr} {y2 y3 : Nat} (h : Blk X gp (cells4 q x1 x2 x3 y1 y2 y3) 24) : ∀ j x, X.cell? ⟨gp, j, none⟩ ≠ some (.int .u8 x) := h.nobytes (fun u hu x => by simp at hu; rcases hu with rfl | rfl | rfl | rfl | rfl | rfl | rfl | rfl | rfl | rfl | rfl <;> simp)
theorem checkV4_ok {p : V4P} {no n : Nat} (h : checkV4 p no n = 0) : no ≤ 40 ∧ 20 + no + n ≤ 65535 ∧ 0 ≤ p.off ∧ p.off ≤ 65528 := by
  unfold checkV4 at h
  split at h
  · rename_i hk
    split at h
    · omega
    · unfold okV4 placeA optsA at hk
      simp only [Bool.and_eq_true, decide_eq_true_eq] at hk
      omega
  · omega
def cutK4 (p : V4P) (mtu : Int) : Int :=
  if mtu < 68 ∨ 65535 < mtu then 1 else if checkV4 p p.opts.length p.data.length ≠ 0 then checkV4 p p.opts.length p.data.length
  else if (20 + p.opts.length + p.data.length : Int) ≤ mtu then 0 else if p.df = true then 6 else 0
def cutR4 (p : V4P) (mtu : Int) : List V4P :=
  if cutK4 p mtu = 0 then (if (20 + p.opts.length + p.data.length : Int) ≤ mtu then [p] else frags4 p mtu) else []
def Cut4Out (w : World) (p : V4P) (mtu : Int) (e : Ending) (w' : World) : Prop :=
  ∃ A2 n2 c2 qs, e = .returned (.tuple #[.slice A2 n2 c2, .int .i64 (cutK4 p mtu)]) ∧ LR kV4 w' A2 n2 c2 qs ∧ qs.map (·.p) = cutR4 p mtu ∧ Below w.heap.size w w'
theorem Cut4Out.bad {w w' : World} {p : V4P} {mtu k : Int} (hk : cutK4 p mtu = k) (h0 : k ≠ 0) (hb : Below w.heap.size w w') : Cut4Out w p mtu (.returned (.tuple #[.slice none 0 0, .int .i64 k])) w' :=
  ⟨none, 0, 0, [], by rw [hk], LR.nil _, by unfold cutR4; rw [hk, if_neg h0]; rfl, hb⟩
theorem Cut4Out.one {w w' : World} {p : V4P} {mtu : Int} {A : Option Addr} {n c : Nat} {qs : List B4} (hk : cutK4 p mtu = 0) (hl : LR kV4 w' A n c qs) (hq : qs.map (·.p) = cutR4 p mtu) (hb : Below w.heap.size w w') : Cut4Out w p mtu (.returned (.tuple #[.slice A n c, .int .i64 0])) w' :=
  ⟨A, n, c, qs, by rw [hk], hl, hq, hb⟩
set_option maxHeartbeats 400000 in
theorem Fragments_call (P : Array Value) (mtu : Int) (w : World) :
    Calls Try.prog 55 #[.agg P, .int .i64 mtu] w fun e w' => e = .returned (.func (.func 101) #[] #[.pointer (some ⟨w.heap.size, 0, none⟩), .pointer (some ⟨w.heap.size + 1, 0, none⟩)]) ∧ (w.alloc (.cells P 24)).alloc (.cells #[.int .i64 mtu] 3) = w' := by
  go_enter Try.func55, Try.ntmps55
  go_wp2
  go_ret
  exact ⟨rfl, rfl⟩

set_option maxRecDepth 100000 in
set_option maxHeartbeats 2000000 in
theorem Cut4_bad (p : V4P) (ao : Option Addr) (no co : Nat) (a : Option Addr) (n c : Nat) (mtu : Int) (w : World) (hro : RB w ao no co p.opts) (hr : RB w a n c p.data) (hno : no ≤ 100000) (hn : n ≤ 100000) (hbad : cutK4 p mtu ≠ 0) :
    Calls Try.prog 14 #[.agg (cells4 p ao no co a n c), .int .i64 mtu] w (Cut4Out w p mtu) := by
  have hlo := hro.len
  have hlr := hr.len
  have hb0 := Lib.hid ((Below.refl _ w).alloc (Nat.le_refl _) (.cells (cells4 p ao no co a n c) 24))
  have kP := Lib.hid (Blk.new w (cells4 p ao no co a n c) 24)
  have hV := Lib.hid (show (Try.prog.info? 24).map (·.size) = some (cells4 p ao no co a n c).size from info_v4)
  by_cases h1 : mtu < 68
  · have e1 := Lib.hid (show cutK4 p mtu = 1 by unfold cutK4; rw [if_pos (.inl h1)])
    have d1 : decide (mtu < 68) = true := decide_eq_true h1
    clear hro hr hbad
    go_enter Try.func14, Try.ntmps14
    go_wp2
    go_ret2
    exact Cut4Out.bad e1.out (by decide) hb0.out
  have d1 : decide (mtu < 68) = false := decide_eq_false h1
  by_cases h2 : 65535 < mtu
  · have e1 := Lib.hid (show cutK4 p mtu = 1 by unfold cutK4; rw [if_pos (.inr h2)])
    have d2 : decide (65535 < mtu) = true := decide_eq_true h2
    clear hro hr hbad
    go_enter Try.func14, Try.ntmps14
    go_wp2
    go_ret2
    exact Cut4Out.bad e1.out (by decide) hb0.out
  have d2 : decide (65535 < mtu) = false := decide_eq_false h2
  have hK := fun W => Check4_any p ao no co a n c W hno hn
  have hS := Lib.hid (fun W => Size4_any p ao no co a n c W hno hn)
  by_cases h3 : checkV4 p no n = 0
  · have h4 : ¬ (20 + no + n : Int) ≤ mtu := fun h => hbad (by unfold cutK4; rw [if_neg (by omega), hlo, hlr, if_neg (by omega), if_pos (by omega)])
    have h5 : p.df = true := by
      cases hd : p.df
      · exact absurd (by unfold cutK4; rw [if_neg (by omega), hlo, hlr, if_neg (by omega), if_neg (by omega), if_neg (by simp [hd])]) hbad
      · rfl
    have e1 := Lib.hid (show cutK4 p mtu = 6 by unfold cutK4; rw [if_neg (by omega), hlo, hlr, if_neg (by omega), if_neg (by omega), if_pos h5])
    rw [h3] at hK
    replace hK := Lib.hid hK
    have d4 : decide ((20 + no + n : Int) ≤ mtu) = false := decide_eq_false h4
    clear hro hr hbad h3
    go_enter Try.func14, Try.ntmps14
    go_wp2_with (first
      | (refine wpList_load_row rfl 24 (.tmp 2) rfl w.heap.size rfl _ (cells4 p ao no co a n c) _ _ kP1.out.at_ Try.underlying24 rfl hV.out ?_)
      | (refine wpList_load_row rfl 24 (.tmp 2) rfl w.heap.size rfl _ (cells4 p ao no co a n c) _ _ kP.out.at_ Try.underlying24 rfl hV.out ?_)
      | (go_at_call 24; refine (hK.out _).mono ?_; rintro e w1 ⟨rfl, hB1⟩; have kP1 := Lib.hid (kP.out.to hB1); have hb1 := Lib.hid (hb0.out.trans (hB1.mono hb0.out.size)); replace hB1 := 0)
      | (go_at_call 23; refine (hS.out _).mono ?_; rintro e w2 ⟨rfl, hB2⟩; have kP2 := kP1.out.to hB2; have c7 := kP2.cell 7 (.bool p.df) rfl; replace kP2 := Lib.hid kP2; have hb2 := Lib.hid (hb1.out.trans (hB2.mono hb1.out.size)); replace hB2 := 0)
      | fail)
    go_ret2
    exact Cut4Out.bad e1.out (by decide) hb2.out
  · have e1 := Lib.hid (show cutK4 p mtu = checkV4 p no n by unfold cutK4; rw [if_neg (by omega), hlo, hlr, if_pos h3])
    have hcd := Lib.hid h3
    have hne : (checkV4 p no n != 0) = true := by simpa using h3
    generalize checkV4 p no n = kk at *
    replace hK := Lib.hid hK
    clear hro hr hbad h3
    go_enter Try.func14, Try.ntmps14
    go_wp2_with (first
      | (refine wpList_load_row rfl 24 (.tmp 2) rfl w.heap.size rfl _ (cells4 p ao no co a n c) _ _ kP.out.at_ Try.underlying24 rfl hV.out ?_)
      | (go_at_call 24; refine (hK.out _).mono ?_; rintro e w1 ⟨rfl, hB1⟩; have hb1 := Lib.hid (hb0.out.trans (hB1.mono hb0.out.size)); replace hB1 := 0)
      | fail)
    go_ret2
    exact Cut4Out.bad e1.out hcd.out hb1.out

set_option maxRecDepth 100000 in
set_option maxHeartbeats 2000000 in
theorem Cut4_long (p : V4P) (ao : Option Addr) (no co : Nat) (a : Option Addr) (n c : Nat) (mtu : Int) (w : World) (hro : RB w ao no co p.opts) (hr : RB w a n c p.data) (h1 : ¬ mtu < 68) (h2 : ¬ 65535 < mtu) (h3 : checkV4 p no n = 0) (h4 : ¬ (20 + no + n : Int) ≤ mtu) (h5 : p.df = false) :
    Calls Try.prog 14 #[.agg (cells4 p ao no co a n c), .int .i64 mtu] w (Cut4Out w p mtu) := by
  have hlo := hro.len
  have hlr := hr.len
  obtain ⟨b1, b2, b3, b4⟩ := checkV4_ok h3
  have hb0 := Lib.hid ((Below.refl _ w).alloc (Nat.le_refl _) (.cells (cells4 p ao no co a n c) 24))
  have kP := Lib.hid (Blk.new w (cells4 p ao no co a n c) 24)
  have hV := Lib.hid (show (Try.prog.info? 24).map (·.size) = some (cells4 p ao no co a n c).size from info_v4)
  have d1 : decide (mtu < 68) = false := decide_eq_false h1
  have d2 : decide (65535 < mtu) = false := decide_eq_false h2
  have hK := fun W => Check4_any p ao no co a n c W (by omega) (by omega)
  have hS := Lib.hid (fun W => Size4_any p ao no co a n c W (by omega) (by omega))
  have e1 : cutK4 p mtu = 0 := by unfold cutK4; rw [if_neg (by omega), hlo, hlr, if_neg (by omega), if_neg (by omega), if_neg (by simp [h5])]
  have e2 := Lib.hid (show cutR4 p mtu = frags4 p mtu by unfold cutR4; rw [if_pos e1, hlo, hlr, if_neg h4])
  replace e1 := Lib.hid e1
  rw [h3] at hK
  replace hK := Lib.hid hK
  have d4 : decide ((20 + no + n : Int) ≤ mtu) = false := decide_eq_false h4
  have hfl : (frags4 p mtu).length ≤ 100000 := by
    have := fragsF_len mtu p.mf (copiedV p.opts) (by omega) (copied_len (by omega)) (p.data.length + 1) p p.data (by omega)
    unfold frags4; omega
  have hSq := Lib.hid (fun (w2 W : World) (hW : Below ((w2.alloc (.cells (cells4 p ao no co a n c) 24)).alloc (.cells #[.int .i64 mtu] 3)).heap.size ((w2.alloc (.cells (cells4 p ao no co a n c) 24)).alloc (.cells #[.int .i64 mtu] 3)) W) (hlt : ((w2.alloc (.cells (cells4 p ao no co a n c) 24)).alloc (.cells #[.int .i64 mtu] 3)).heap.size < W.heap.size) (hb2 : Below w.heap.size w w2) =>
    show SeqRelW Try.prog 101 #[.pointer (some ⟨w2.heap.size, 0, none⟩), .pointer (some ⟨w2.heap.size + 1, 0, none⟩)] (frags4 p mtu).length (YieldF (frags4 p mtu)) (fun k => k = ((w2.alloc (.cells (cells4 p ao no co a n c) 24)).alloc (.cells #[.int .i64 mtu] 3)).heap.size) w2.heap.size W from by
      have hs2 : ((w2.alloc (.cells (cells4 p ao no co a n c) 24)).alloc (.cells #[.int .i64 mtu] 3)).heap.size = w2.heap.size + 2 := by simp
      have hz := hb2.size
      have hbb := (hb2.alloc hb2.size (.cells (cells4 p ao no co a n c) 24))
      have hbb2 := hbb.alloc hbb.size (.cells #[.int .i64 mtu] 3)
      have hbW := hbb2.trans (hW.mono hbb2.size)
      have k1 := ((Blk.new w2 (cells4 p ao no co a n c) 24).alloc (.cells #[.int .i64 mtu] 3)).to hW
      have k2 : Boxed W (w2.heap.size + 1) 3 (.int .i64 mtu) := by
        have := Boxed.new (w2.alloc (.cells (cells4 p ao no co a n c) 24)) 3 (.int .i64 mtu)
        rw [World.size_alloc] at this
        exact Boxed.below this hW
      refine Frag_seq w2.heap.size (w2.heap.size + 1) p mtu ao no co a n c _ W k1 k2 (hro.below hbW) (hr.below hbW) (by omega) (by omega) b1 (by omega) (by omega) (by omega) (by omega) (fun h0 k hk => ?_) (fun k hk => by omega) b3 (by omega)
      obtain ⟨b, off, rfl, hlt2, _⟩ := hr.mem h0
      have hkb : b = k := Option.some.inj hk
      exact ⟨by omega, by omega, by omega⟩)
  have hcl0 : ∀ X : World, True := fun _ => trivial
  clear hro hr h3 hcl0
  go_enter Try.func14, Try.ntmps14
  go_wp2_with (first
    | (refine wpList_load_row rfl 24 (.tmp 2) rfl w.heap.size rfl _ (cells4 p ao no co a n c) _ _ kP2.out.at_ Try.underlying24 rfl hV.out ?_)
    | (refine wpList_load_row rfl 24 (.tmp 2) rfl w.heap.size rfl _ (cells4 p ao no co a n c) _ _ kP1.out.at_ Try.underlying24 rfl hV.out ?_)
    | (refine wpList_load_row rfl 24 (.tmp 2) rfl w.heap.size rfl _ (cells4 p ao no co a n c) _ _ kP.out.at_ Try.underlying24 rfl hV.out ?_)
    | (go_at_call 24; refine (hK.out _).mono ?_; rintro e w1 ⟨rfl, hB1⟩; have kP1 := Lib.hid (kP.out.to hB1); have hb1 := Lib.hid (hb0.out.trans (hB1.mono hb0.out.size)); replace hB1 := 0)
    | (go_at_call 23; refine (hS.out _).mono ?_; rintro e w2 ⟨rfl, hB2⟩; have kP2 := kP1.out.to hB2; have c7 := kP2.cell 7 (.bool p.df) rfl; rw [h5] at c7; replace kP2 := Lib.hid kP2; have hb2 := Lib.hid (hb1.out.trans (hB2.mono hb1.out.size)); replace hB2 := 0; replace kP := 0)
    | (go_at_call 55; refine (Fragments_call _ _ _).mono ?_; rintro e w3 ⟨rfl, rfl⟩)
    | (go_at_call 54; refine (CollectV4_any 101 w2.heap.size _ (frags4 p mtu) _ (by simp; omega) hfl (enters_of Try.func101 (by kernel_rfl) rfl) (fun W hW hlt => hSq.out w2 W hW hlt hb2.out)).mono ?_; rintro e w4 ⟨A5, c5, qs, rfl, hls, hq, hkx⟩; replace hls := Lib.hid hls; replace hq := Lib.hid hq; replace hkx := Lib.hid hkx)
    | fail)
  go_ret2
  have hbb := (hb2.out.alloc hb2.out.size (.cells (cells4 p ao no co a n c) 24))
  have hbb2 := hbb.alloc hbb.size (.cells #[.int .i64 mtu] 3)
  have hz := hb2.out.size
  have hkx := hkx.out
  have hs2 : ((w2.alloc (.cells (cells4 p ao no co a n c) 24)).alloc (.cells #[.int .i64 mtu] 3)).heap.size = w2.heap.size + 2 := by simp
  exact Cut4Out.one e1.out hls.out.lr (hq.out.trans e2.out.symm) ⟨hkx.os.trans hbb2.os, hkx.tape.trans hbb2.tape, hkx.output.trans hbb2.output, Nat.le_trans hbb2.size hkx.size, fun j hj => (hkx.keep j (by omega) (by omega)).trans (hbb2.block j hj)⟩

set_option maxRecDepth 100000 in
set_option maxHeartbeats 4000000 in
theorem Cut4_short (p : V4P) (ao : Option Addr) (no co : Nat) (a : Option Addr) (n c : Nat) (mtu : Int) (w : World) (hro : RB w ao no co p.opts) (hr : RB w a n c p.data) (h1 : ¬ mtu < 68) (h2 : ¬ 65535 < mtu) (h3 : checkV4 p no n = 0) (h4 : (20 + no + n : Int) ≤ mtu) :
    Calls Try.prog 14 #[.agg (cells4 p ao no co a n c), .int .i64 mtu] w (Cut4Out w p mtu) := by
  have hlo := hro.len
  have hlr := hr.len
  obtain ⟨b1, b2, b3, b4⟩ := checkV4_ok h3
  have hb0 := Lib.hid ((Below.refl _ w).alloc (Nat.le_refl _) (.cells (cells4 p ao no co a n c) 24))
  have kP := Lib.hid (Blk.new w (cells4 p ao no co a n c) 24)
  have hV := Lib.hid (show (Try.prog.info? 24).map (·.size) = some (cells4 p ao no co a n c).size from info_v4)
  have d1 : decide (mtu < 68) = false := decide_eq_false h1
  have d2 : decide (65535 < mtu) = false := decide_eq_false h2
  have hK := fun W => Check4_any p ao no co a n c W (by omega) (by omega)
  have hS := Lib.hid (fun W => Size4_any p ao no co a n c W (by omega) (by omega))
  have e1 : cutK4 p mtu = 0 := by unfold cutK4; rw [if_neg (by omega), hlo, hlr, if_neg (by omega), if_pos (by omega)]
  have e2 := Lib.hid (show cutR4 p mtu = [p] by unfold cutR4; rw [if_pos e1, hlo, hlr, if_pos h4])
  replace e1 := Lib.hid e1
  rw [h3] at hK
  replace hK := Lib.hid hK
  have d4 : decide ((20 + no + n : Int) ≤ mtu) = true := decide_eq_true h4
  have hro' := Lib.hid hro
  have hr' := Lib.hid hr
  clear hro hr h3
  go_enter Try.func14, Try.ntmps14
  go_wp2_with (first
    | (refine wpList_load_row rfl 24 (.tmp 2) rfl w.heap.size rfl _ (cells4 p ao no co a n c) _ _ kP1.out.at_ Try.underlying24 rfl hV.out ?_)
    | (refine wpList_load_row rfl 24 (.tmp 2) rfl w.heap.size rfl _ (cells4 p ao no co a n c) _ _ kP.out.at_ Try.underlying24 rfl hV.out ?_)
    | (go_at_call 24; refine (hK.out _).mono ?_; rintro e w1 ⟨rfl, hB1⟩; have kP1 := Lib.hid (kP.out.to hB1); have hb1 := Lib.hid (hb0.out.trans (hB1.mono hb0.out.size)); replace hB1 := 0)
    | (go_at_call 23; refine (hS.out _).mono ?_; rintro e w2 ⟨rfl, hB2⟩; have kP2 := Lib.hid (kP1.out.to hB2); have hb2 := Lib.hid (hb1.out.trans (hB2.mono hb1.out.size)); replace hB2 := 0; replace kP := 0)
    | fail)
  have kd := kP2.out.drew
  have e9 := kd.cell 9 (.slice ao no co) rfl
  have e10 := kd.cell 10 (.slice a n c) rfl
  have hbd := Lib.hid (hb2.out.drew)
  replace kd := Lib.hid kd
  have hCo := Lib.hid (fun X (hX : Below w.heap.size w X) => Clone_any ao no co p.opts X (hro'.out.below hX) (by omega))
  have hCd := Lib.hid (fun X (hX : Below w.heap.size w X) => Clone_any a n c p.data X (hr'.out.below hX) (by omega))
  have ho9 := Lib.hid (show Below w.heap.size w w2.drew from hbd.out)
  go_region_with (first
    | (go_at_call_of 53 (Value.slice ao no co); refine (hCo.out _ ho9.out).mono ?_; rintro e w3 ⟨A3, c3, rfl, ho3, hB3⟩; have hb3 := Lib.hid (ho9.out.trans (hB3.mono ho9.out.size)); have k3 := kd.out.to hB3; have e103 := k3.cell 10 (.slice a n c) rfl; replace k3 := Lib.hid k3; replace ho3 := Lib.hid ho3)
    | (go_at_call_of 53 (Value.slice a n c); refine (hCd.out _ hb3.out).mono ?_; rintro e w4 ⟨A4, c4, rfl, ho4, hB4⟩; have hb4 := Lib.hid (hb3.out.trans (hB4.mono hb3.out.size)); have k4 := k3.out.to hB4; have c9 := k4.cell 9 (.slice ao no co) rfl; have f9 := k4.frz 9; have c10 := (k4.set 9 (.slice A3 no c3)).cell 10 (.slice a n c) rfl; have f10 := (k4.set 9 (.slice A3 no c3)).frz 10; have ho34 := Lib.hid (ho3.out.below hB4); replace ho4 := Lib.hid ho4)
    | fail)
  all_goals
    obtain ⟨w5, hw5⟩ : ∃ w5, (w4.setCell ⟨w.heap.size, 9, none⟩ (.slice A3 no c3)).setCell ⟨w.heap.size, 10, none⟩ (.slice A4 n c4) = w5 := ⟨_, rfl⟩
    have k5 : Blk w5 w.heap.size (cells4 p A3 no c3 A4 n c4) 24 := by rw [← hw5]; simpa using (k4.set 9 (.slice A3 no c3)).set 10 (.slice A4 n c4)
    have nb4 := nb_cells4 k4
    have nb4' := nb_cells4 (X := w4.setCell ⟨w.heap.size, 9, none⟩ (.slice A3 no c3)) (q := p) (x1 := A3) (x2 := no) (x3 := c3) (y1 := a) (y2 := n) (y3 := c) (by simpa using k4.set 9 (.slice A3 no c3))
    have ro5 := (ho34.out.rb.farN nb4 9 (.slice A3 no c3)).farN nb4' 10 (.slice A4 n c4)
    have r5 := (ho4.out.rb.farN nb4 9 (.slice A3 no c3)).farN nb4' 10 (.slice A4 n c4)
    have hb5 := (hb4.out.setCell (p := ⟨w.heap.size, 9, none⟩) (Nat.le_refl _) (.slice A3 no c3)).setCell (p := ⟨w.heap.size, 10, none⟩) (Nat.le_refl _) (.slice A4 n c4)
    rw [hw5] at ro5 r5 hb5 ⊢
    replace k5 := Lib.hid k5
    replace ro5 := Lib.hid ro5
    replace r5 := Lib.hid r5
    replace hb5 := Lib.hid hb5
    have hV5 := Lib.hid (show (Try.prog.info? 24).map (·.size) = some (cells4 p A3 no c3 A4 n c4).size from info_v4)
    clear hw5 nb4 nb4' c9 c10 f9 f10 k4
    go_wp2_with (first
      | (refine wpList_build1 _ rfl 26 24 (.tmp 30) rfl (cells4 p A3 no c3 A4 n c4) rfl 11 rfl (by decide) (by decide) Try.underlying26 (.agg zero4c) 112 info_v4z ?_)
      | (refine wpList_load_row rfl 24 (.tmp 2) rfl w.heap.size rfl _ (cells4 p A3 no c3 A4 n c4) _ _ k5.out.at_ Try.underlying24 rfl hV5.out ?_)
      | fail)
    go_ret2
    have hk := Blk.new w5 (cells4 p A3 no c3 A4 n c4) 24
    refine Cut4Out.one e1.out (LR.one4 (κ := kV4) (x := ⟨p, A3, no, c3, A4, n, c4⟩) trivial hk (fun s hs => ?_)) (e2.out.symm) (hb5.out.alloc hb5.out.size _)
    rcases List.mem_cons.1 hs with rfl | hs
    · exact ro5.out.alloc _
    · rw [List.mem_singleton.1 hs]
      exact r5.out.alloc _
/-- Cut, whatever the packet. -/
theorem Cut4_any (p : V4P) (ao : Option Addr) (no co : Nat) (a : Option Addr) (n c : Nat) (mtu : Int) (w : World) (hro : RB w ao no co p.opts) (hr : RB w a n c p.data) (hno : no ≤ 100000) (hn : n ≤ 100000) :
    Calls Try.prog 14 #[.agg (cells4 p ao no co a n c), .int .i64 mtu] w (Cut4Out w p mtu) := by
  by_cases hbad : cutK4 p mtu = 0
  · have hb := hbad
    unfold cutK4 at hb
    rw [hro.len, hr.len] at hb
    by_cases h1 : mtu < 68 ∨ 65535 < mtu
    · rw [if_pos h1] at hb; cases hb
    rw [if_neg h1] at hb
    by_cases h3 : checkV4 p no n = 0
    · rw [if_neg (by omega)] at hb
      by_cases h4 : (20 + no + n : Int) ≤ mtu
      · exact Cut4_short p ao no co a n c mtu w hro hr (by omega) (by omega) h3 h4
      · rw [if_neg h4] at hb
        cases hd : p.df
        · exact Cut4_long p ao no co a n c mtu w hro hr (by omega) (by omega) h3 h4 hd
        · rw [if_pos hd] at hb; cases hb
    · rw [if_pos h3] at hb
      exact absurd hb h3
  · exact Cut4_bad p ao no co a n c mtu w hro hr hno hn hbad
end Go.Proofs.Ytipigcpenmcaoaa
