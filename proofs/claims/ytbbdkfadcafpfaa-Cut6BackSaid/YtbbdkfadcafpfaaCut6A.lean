/- Fragments of IPv6 (cut6): what a packet has of a fragment: walks of Part; Cut whole. -/
import Derived.Test.YtbbdkfadcafpfaaCut6Y
import Derived.Test.YtbbdkfadcafpfaaCut6R
import Derived.Test.YtbbdkfadcafpfaaParseFrag8
import Derived.Test.YtbbdkfadcafpfaaParseFragR8
set_option linter.unusedVariables false
namespace Go.Proofs.Ytbbdkfadcafpfaa
open Go Go.RowKit
attribute [local go_sem] Oper.semAt_some

theorem Cut6_any (P : Array Value) (p : V6P) (A : Option Addr) (n c : Nat) (id mtu : Int) (w : World) (h : V6V P p A n c) (hr : RB w A n c p.data) (hn : n ≤ 60000) :
    Calls Try.prog 33 #[.agg P, .int .i64 id, .int .i64 mtu] w (CutOut w p id mtu) := by
  by_cases h1 : mtu < 1280
  · exact Cut6_arg P p id mtu w (.inl h1)
  by_cases h2 : 65535 < mtu
  · exact Cut6_arg P p id mtu w (.inr (.inl h2))
  cases h3 : fitsB id 4
  · exact Cut6_arg P p id mtu w (.inr (.inr h3))
  by_cases h4 : checkV p n = 0
  · by_cases h5 : (40 + n : Int) ≤ mtu
    · exact Cut6_short P p A n c id mtu w h hr h1 h2 h3 h4 (by omega) h5
    · exact Cut6_long P p A n c id mtu w h hr h1 h2 h3 h4 hn h5
  · exact Cut6_check P p A n c id mtu w h hr h1 h2 h3 h4
theorem RefCut6_any (P : Array Value) (p : V6P) (A : Option Addr) (n c : Nat) (id mtu : Int) (w : World) (h : V6V P p A n c) (hr : RB w A n c p.data) (hn : n ≤ 60000) :
    Calls Try.prog 34 #[.agg P, .int .i64 id, .int .i64 mtu] w (CutOut w p id mtu) := by
  by_cases h1 : mtu < 1280
  · exact RefCut6_bad P p A n c id mtu w h hr (by unfold cutK; rw [if_pos (.inl h1)]; decide)
  by_cases h2 : 65535 < mtu
  · exact RefCut6_bad P p A n c id mtu w h hr (by unfold cutK; rw [if_pos (.inr (.inl h2))]; decide)
  cases h3 : fitsB id 4
  · exact RefCut6_bad P p A n c id mtu w h hr (by unfold cutK; rw [if_pos (.inr (.inr h3))]; decide)
  by_cases h4 : checkV p n = 0
  · by_cases h5 : (40 + n : Int) ≤ mtu
    · exact RefCut6_short P p A n c id mtu w h hr h1 h2 h3 h4 hn h5
    · exact RefCut6_long P p A n c id mtu w h hr h1 h2 h3 h4 hn h5
  · exact RefCut6_bad P p A n c id mtu w h hr (by unfold cutK; rw [if_neg (by simp [h1, h2, h3]), hr.len]; exact h4)

/-- What a packet has of a fragment. -/
def isPart (p : V6P) : Bool := p.nx == 44 && decide (8 ≤ p.data.length)
def fNx (p : V6P) : Int := if isPart p = true then p.data[0]?.getD 0 else 0
def fOff (p : V6P) : Int := if isPart p = true then placeF p.data / 8 * 8 else 0
def fId (p : V6P) : Int := if isPart p = true then idF p.data else 0
def fMore (p : V6P) : Bool := if isPart p = true then placeF p.data % 2 == 1 else false
def fRest (p : V6P) : List Int := if isPart p = true then p.data.drop 8 else []
def PartOut (w : World) (p : V6P) (e : Ending) (w' : World) : Prop :=
  ∃ A2 n2 c2, e = .returned (.tuple #[.agg #[.int .i64 (fNx p), .int .i64 (fOff p), .int .i64 (fId p), .bool (fMore p)], .slice A2 n2 c2, .bool (isPart p)]) ∧ RB w' A2 n2 c2 (fRest p) ∧ Below w.heap.size w w'
theorem PartOut.no {w w' : World} {p : V6P} {A2 : Option Addr} {n2 c2 : Nat} (h : isPart p = false) (hr : RB w' A2 n2 c2 []) (hb : Below w.heap.size w w') : PartOut w p (.returned (.tuple #[.agg #[.int .i64 0, .int .i64 0, .int .i64 0, .bool false], .slice A2 n2 c2, .bool false])) w' := by
  unfold PartOut fNx fOff fId fMore fRest
  rw [h]
  exact ⟨A2, n2, c2, rfl, hr, hb⟩
theorem PartOut.yes {w w' : World} {p : V6P} {A2 : Option Addr} {n2 c2 : Nat} (h : isPart p = true) (hr : RB w' A2 n2 c2 (p.data.drop 8)) (hb : Below w.heap.size w w') : PartOut w p (.returned (.tuple #[.agg #[.int .i64 (p.data[0]?.getD 0), .int .i64 (placeF p.data / 8 * 8), .int .i64 (idF p.data), .bool (placeF p.data % 2 == 1)], .slice A2 n2 c2, .bool true])) w' := by
  unfold PartOut fNx fOff fId fMore fRest
  rw [h]
  exact ⟨A2, n2, c2, rfl, hr, hb⟩
theorem ParseFrag_yes (A : Option Addr) (n c : Nat) (bs : List Int) (w : World) (h : RB w A n c bs) (hn : n ≤ 100000) (h8 : 8 ≤ n) :
    Calls Try.prog 25 #[.slice A n c] w (FragOut w (bs[0]?.getD 0) (placeF bs / 8 * 8) (idF bs) (placeF bs % 2 == 1) (bs.drop 8) 0) := by
  obtain ⟨b, off, rfl, _⟩ := h.at_ (by omega)
  have hnc := h.nc
  by_cases h9 : 8 < c
  · exact ParseFrag_long b off n c bs w h hn h8 h9
  · obtain rfl : c = 8 := by omega
    obtain rfl : n = 8 := by omega
    exact ParseFrag_eight b off bs w h
theorem RefParseFrag_yes (A : Option Addr) (n c : Nat) (bs : List Int) (w : World) (h : RB w A n c bs) (hn : n ≤ 100000) (h8 : 8 ≤ n) :
    Calls Try.prog 26 #[.slice A n c] w (FragOut w (bs[0]?.getD 0) (placeF bs / 8 * 8) (idF bs) (placeF bs % 2 == 1) (bs.drop 8) 0) := by
  obtain ⟨b, off, rfl, _⟩ := h.at_ (by omega)
  have hnc := h.nc
  by_cases h9 : 8 < c
  · exact RefParseFrag_long b off n c bs w h hn h8 h9
  · obtain rfl : c = 8 := by omega
    obtain rfl : n = 8 := by omega
    exact RefParseFrag_eight b off bs w h
theorem RB.set4N {w : World} {B : Nat} {T : TypeId} {A : Option Addr} {n c : Nat} {bs : List Int} (h : RB w A n c bs) {a0 a1 a2 : Int} {a3 : Bool} (k : Blk w B #[.int .i64 a0, .int .i64 a1, .int .i64 a2, .bool a3] T) (v0 v1 v2 : Int) (v3 : Bool) : RB (set4 w B (.int .i64 v0) (.int .i64 v1) (.int .i64 v2) (.bool v3)) A n c bs := by
  have hk : ∀ (a0 a1 a2 : Int) (a3 : Bool) (W : World), Blk W B #[.int .i64 a0, .int .i64 a1, .int .i64 a2, .bool a3] T → ∀ j x, W.cell? ⟨B, j, none⟩ ≠ some (.int .u8 x) := fun a0 a1 a2 a3 W k => k.nobytes (fun u hu x => by simp at hu; rcases hu with rfl | rfl | rfl | rfl <;> simp)
  have k0 := k.set 0 (.int .i64 v0)
  have k1 := k0.set 1 (.int .i64 v1)
  have k2 := k1.set 2 (.int .i64 v2)
  exact (((h.farN (hk _ _ _ _ _ k) 0 _).farN (hk _ _ _ _ _ k0) 1 _).farN (hk _ _ _ _ _ k1) 2 _).farN (hk _ _ _ _ _ k2) 3 _
theorem fold4 (W : World) (B : Nat) (v0 v1 v2 v3 : Value) : (((W.setCell ⟨B, 0, none⟩ v0).setCell ⟨B, 1, none⟩ v1).setCell ⟨B, 2, none⟩ v2).setCell ⟨B, 3, none⟩ v3 = set4 W B v0 v1 v2 v3 := rfl
set_option maxRecDepth 100000 in
set_option maxHeartbeats 2000000 in
theorem Part_any (P : Array Value) (p : V6P) (A : Option Addr) (n c : Nat) (w : World) (h : V6V P p A n c) (hr : RB w A n c p.data) (hn : n ≤ 100000) :
    Calls Try.prog 35 #[.agg P] w (PartOut w p) := by
  obtain ⟨W0, hW0⟩ : ∃ W0, (w.alloc (.cells P 26)).alloc (.cells #[.int .i64 0, .int .i64 0, .int .i64 0, .bool false] 36) = W0 := ⟨_, rfl⟩
  have kP : Blk W0 w.heap.size P 26 := by rw [← hW0]; exact (Blk.new w P _).alloc _
  have kF : Blk W0 (w.heap.size + 1) #[.int .i64 0, .int .i64 0, .int .i64 0, .bool false] 36 := by
    rw [← hW0]
    have := Blk.new (w.alloc (.cells P 26)) #[.int .i64 0, .int .i64 0, .int .i64 0, .bool false] 36
    rwa [World.size_alloc] at this
  have hB0 : Below w.heap.size w W0 := by rw [← hW0]; exact ((Below.refl _ w).alloc (Nat.le_refl _) _).alloc (by simp) _
  have c2 := kP.cell 2 _ h.h2
  have c36 := kP.cell 36 _ h.h36
  have hlen := hr.len
  have h2 := h.h2
  by_cases h44 : p.nx = 44
  · rw [h44] at c2 h2
    by_cases h8 : 8 ≤ n
    · have hP := Lib.hid (show isPart p = true by unfold isPart; simp [h44, hlen, h8])
      have hF := Lib.hid (ParseFrag_yes A n c p.data W0 (hr.below hB0) hn h8)
      have hY := Lib.hid (fun w' A2 n2 c2 => PartOut.yes (w := w) (w' := w') (A2 := A2) (n2 := n2) (c2 := c2) hP.out)
      generalize p.data[0]?.getD 0 = x0 at *
      generalize placeF p.data / 8 * 8 = x1 at *
      generalize idF p.data = x2 at *
      generalize (placeF p.data % 2 == 1) = x3 at *
      generalize p.data.drop 8 = dt at *
      replace hB0 := Lib.hid hB0
      replace kF := Lib.hid kF
      replace kP := Lib.hid kP
      replace h2 := Lib.hid h2
      replace hlen := 0
      replace h := 0
      replace hr := 0
      go_enter Try.func35, Try.ntmps35
      go_wp2_with (first
        | (go_at_call 25; refine (hF.out).mono ?_; rintro e w1 ⟨A2, n2, c2', rfl, r2, hB1⟩; have hBt := Lib.hid (hB0.out.trans (hB1.mono hB0.out.size)); have kF1 := (kF.out.to hB1); have hlt1 := kF1.lt; have hlt0 := (kP.out.to hB1).lt; obtain ⟨⟨z0, z1, z2, z3⟩, f0, f1, f2, f3⟩ := kF1.z4; have hr4 := Lib.hid (fun v0 v1 v2 v3 => r2.set4N kF1 v0 v1 v2 v3); clear c2; have c2 := (kP.out.to hB1).cell 2 _ h2.out; replace hB1 := 0; clear kF1 r2)
        | fail)
      all_goals
        have hlt9 : w.heap.size + 1 < (set4 w1 (w.heap.size + 1) (.int .i64 x0) (.int .i64 x1) (.int .i64 x2) (.bool x3)).heap.size := by simp [set4, World.setCell]; omega
        have hba := (Below.refl (set4 w1 (w.heap.size + 1) (.int .i64 x0) (.int .i64 x1) (.int .i64 x2) (.bool x3)).heap.size (set4 w1 (w.heap.size + 1) (.int .i64 x0) (.int .i64 x1) (.int .i64 x2) (.bool x3))).alloc (Nat.le_refl _) (.cells #[.int .i64 x0, .int .i64 x1, .int .i64 x2, .bool x3] 36)
        obtain ⟨r0, r1, r2', r3⟩ := set4_at w1 (w.heap.size + 1) (.int .i64 x0) (.int .i64 x1) (.int .i64 x2) (.bool x3) z0 z1 z2 z3
        have q0 := (hba.cell (p := ⟨w.heap.size + 1, 0, none⟩) hlt9).trans r0
        have q1 := (hba.cell (p := ⟨w.heap.size + 1, 1, none⟩) hlt9).trans r1
        have q2 := (hba.cell (p := ⟨w.heap.size + 1, 2, none⟩) hlt9).trans r2'
        have q3 := (hba.cell (p := ⟨w.heap.size + 1, 3, none⟩) hlt9).trans r3
        have hbf := (below_set4 (B := w.heap.size + 1) hBt.out (by omega) (.int .i64 x0) (.int .i64 x1) (.int .i64 x2) (.bool x3)).alloc (by have := hBt.out.size; simp [set4, World.setCell]; omega) (.cells #[.int .i64 x0, .int .i64 x1, .int .i64 x2, .bool x3] 36)
        have hob := (hr4.out x0 x1 x2 x3).alloc (.cells #[.int .i64 x0, .int .i64 x1, .int .i64 x2, .bool x3] 36)
        rw [fold4 w1 (w.heap.size + 1) (.int .i64 x0) (.int .i64 x1) (.int .i64 x2) (.bool x3)]
        clear z0 z1 z2 z3 f0 f1 f2 f3 r0 r1 r2' r3 hlt9 hba
        generalize (set4 w1 (w.heap.size + 1) (.int .i64 x0) (.int .i64 x1) (.int .i64 x2) (.bool x3)).alloc (.cells #[.int .i64 x0, .int .i64 x1, .int .i64 x2, .bool x3] 36) = Wf at *
        exact bodyPost_ret (v := .tuple #[.agg #[.int .i64 x0, .int .i64 x1, .int .i64 x2, .bool x3], .slice A2 n2 c2', .bool true]) (by simp [results, Try.results35, go_sem, q0, q1, q2, q3]) rfl (hY.out _ A2 n2 c2' hob hbf)
    · have hP := Lib.hid (show isPart p = false by unfold isPart; simp [h44, hlen]; omega)
      have hF := Lib.hid (ParseFrag_short A n c W0 (by omega))
      have hY := Lib.hid (fun w' A2 n2 c2 => PartOut.no (w := w) (w' := w') (A2 := A2) (n2 := n2) (c2 := c2) hP.out)
      replace hB0 := Lib.hid hB0
      replace kF := Lib.hid kF
      replace kP := Lib.hid kP
      replace h2 := Lib.hid h2
      replace hlen := 0
      replace h := 0
      replace hr := 0
      go_enter Try.func35, Try.ntmps35
      go_wp2_with (first
        | (go_at_call 25; refine (hF.out).mono ?_; rintro e w1 ⟨A2, n2, c2', rfl, r2, hB1⟩; have hBt := Lib.hid (hB0.out.trans (hB1.mono hB0.out.size)); have kF1 := (kF.out.to hB1); have hlt1 := kF1.lt; have hlt0 := (kP.out.to hB1).lt; obtain ⟨⟨z0, z1, z2, z3⟩, f0, f1, f2, f3⟩ := kF1.z4; have hr4 := Lib.hid (fun v0 v1 v2 v3 => r2.set4N kF1 v0 v1 v2 v3); clear c2; have c2 := (kP.out.to hB1).cell 2 _ h2.out; replace hB1 := 0; clear kF1 r2)
        | fail)
      all_goals
        have hlt9 : w.heap.size + 1 < (set4 w1 (w.heap.size + 1) (.int .i64 0) (.int .i64 0) (.int .i64 0) (.bool false)).heap.size := by simp [set4, World.setCell]; omega
        have hba := (Below.refl (set4 w1 (w.heap.size + 1) (.int .i64 0) (.int .i64 0) (.int .i64 0) (.bool false)).heap.size (set4 w1 (w.heap.size + 1) (.int .i64 0) (.int .i64 0) (.int .i64 0) (.bool false))).alloc (Nat.le_refl _) (.cells #[.int .i64 0, .int .i64 0, .int .i64 0, .bool false] 36)
        obtain ⟨r0, r1, r2', r3⟩ := set4_at w1 (w.heap.size + 1) (.int .i64 0) (.int .i64 0) (.int .i64 0) (.bool false) z0 z1 z2 z3
        have q0 := (hba.cell (p := ⟨w.heap.size + 1, 0, none⟩) hlt9).trans r0
        have q1 := (hba.cell (p := ⟨w.heap.size + 1, 1, none⟩) hlt9).trans r1
        have q2 := (hba.cell (p := ⟨w.heap.size + 1, 2, none⟩) hlt9).trans r2'
        have q3 := (hba.cell (p := ⟨w.heap.size + 1, 3, none⟩) hlt9).trans r3
        have hbf := (below_set4 (B := w.heap.size + 1) hBt.out (by omega) (.int .i64 0) (.int .i64 0) (.int .i64 0) (.bool false)).alloc (by have := hBt.out.size; simp [set4, World.setCell]; omega) (.cells #[.int .i64 0, .int .i64 0, .int .i64 0, .bool false] 36)
        have hob := (hr4.out 0 0 0 false).alloc (.cells #[.int .i64 0, .int .i64 0, .int .i64 0, .bool false] 36)
        rw [fold4 w1 (w.heap.size + 1) (.int .i64 0) (.int .i64 0) (.int .i64 0) (.bool false)]
        clear z0 z1 z2 z3 f0 f1 f2 f3 r0 r1 r2' r3 hlt9 hba
        generalize (set4 w1 (w.heap.size + 1) (.int .i64 0) (.int .i64 0) (.int .i64 0) (.bool false)).alloc (.cells #[.int .i64 0, .int .i64 0, .int .i64 0, .bool false] 36) = Wf at *
        exact bodyPost_ret (v := .tuple #[.agg #[.int .i64 0, .int .i64 0, .int .i64 0, .bool false], .slice A2 n2 c2', .bool false]) (by simp [results, Try.results35, go_sem, q0, q1, q2, q3]) rfl (hY.out _ A2 n2 c2' hob hbf)
  · have hP := Lib.hid (show isPart p = false by unfold isPart; simp [h44])
    have hne : (p.nx != 44) = true := by simpa using h44
    have hY := Lib.hid (fun w' A2 n2 c2 => PartOut.no (w := w) (w' := w') (A2 := A2) (n2 := n2) (c2 := c2) hP.out)
    have hBt := hB0
    have hlt1 := kF.lt
    obtain ⟨⟨z0, z1, z2, z3⟩, f0, f1, f2, f3⟩ := kF.z4
    generalize p.nx = nx at *
    replace hB0 := Lib.hid hB0
    replace kF := Lib.hid kF
    replace kP := Lib.hid kP
    replace h2 := Lib.hid h2
    replace hlen := 0
    replace h := 0
    replace hr := 0
    go_enter Try.func35, Try.ntmps35
    go_wp2
    all_goals
      have hfold : ((((W0.setCell ⟨(w.heap.size + 1), 0, none⟩ (.int .i64 0)).setCell ⟨(w.heap.size + 1), 1, none⟩ (.int .i64 0)).setCell ⟨(w.heap.size + 1), 2, none⟩ (.int .i64 0)).setCell ⟨(w.heap.size + 1), 3, none⟩ (.bool false)) = set4 W0 (w.heap.size + 1) (.int .i64 0) (.int .i64 0) (.int .i64 0) (.bool false) := rfl
      rw [hfold]
      obtain ⟨r0, r1, r2, r3⟩ := set4_at W0 (w.heap.size + 1) (.int .i64 0) (.int .i64 0) (.int .i64 0) (.bool false) z0 z1 z2 z3
      have hbf := below_set4 (B := (w.heap.size + 1)) hBt (by omega) (.int .i64 0) (.int .i64 0) (.int .i64 0) (.bool false)
      clear hfold z0 z1 z2 z3 f0 f1 f2 f3 hBt
      generalize set4 W0 (w.heap.size + 1) (.int .i64 0) (.int .i64 0) (.int .i64 0) (.bool false) = Wf at *
      exact bodyPost_ret (v := .tuple #[.agg #[(.int .i64 0), (.int .i64 0), (.int .i64 0), (.bool false)], .slice none 0 0, .bool false]) (by simp [results, Try.results35, go_sem, r0, r1, r2, r3]) rfl (hY.out _ none 0 0 (RB.nil _) hbf)

set_option maxRecDepth 100000 in
set_option maxHeartbeats 2000000 in
theorem RefPart_any (P : Array Value) (p : V6P) (A : Option Addr) (n c : Nat) (w : World) (h : V6V P p A n c) (hr : RB w A n c p.data) (hn : n ≤ 100000) :
    Calls Try.prog 36 #[.agg P] w (PartOut w p) := by
  obtain ⟨W0, hW0⟩ : ∃ W0, (w.alloc (.cells P 26)).alloc (.cells #[.int .i64 0, .int .i64 0, .int .i64 0, .bool false] 36) = W0 := ⟨_, rfl⟩
  have kP : Blk W0 w.heap.size P 26 := by rw [← hW0]; exact (Blk.new w P _).alloc _
  have kF : Blk W0 (w.heap.size + 1) #[.int .i64 0, .int .i64 0, .int .i64 0, .bool false] 36 := by
    rw [← hW0]
    have := Blk.new (w.alloc (.cells P 26)) #[.int .i64 0, .int .i64 0, .int .i64 0, .bool false] 36
    rwa [World.size_alloc] at this
  have hB0 : Below w.heap.size w W0 := by rw [← hW0]; exact ((Below.refl _ w).alloc (Nat.le_refl _) _).alloc (by simp) _
  have c2 := kP.cell 2 _ h.h2
  have c36 := kP.cell 36 _ h.h36
  have hlen := hr.len
  have h2 := h.h2
  by_cases h8 : 8 ≤ n
  · have hF := Lib.hid (RefParseFrag_yes A n c p.data W0 (hr.below hB0) hn h8)
    by_cases h44 : p.nx = 44
    · have hP := Lib.hid (show isPart p = true by unfold isPart; simp [h44, hlen, h8])
      have hY := Lib.hid (fun w' A2 n2 c2 => PartOut.yes (w := w) (w' := w') (A2 := A2) (n2 := n2) (c2 := c2) hP.out)
      generalize p.data[0]?.getD 0 = x0 at *
      generalize placeF p.data / 8 * 8 = x1 at *
      generalize idF p.data = x2 at *
      generalize (placeF p.data % 2 == 1) = x3 at *
      generalize p.data.drop 8 = dt at *
      rw [h44] at c2 h2
      replace hB0 := Lib.hid hB0
      replace kF := Lib.hid kF
      replace kP := Lib.hid kP
      replace h2 := Lib.hid h2
      replace hlen := 0
      replace h := 0
      replace hr := 0
      go_enter Try.func36, Try.ntmps36
      go_wp2_with (first
        | (go_at_call 26; refine (hF.out).mono ?_; rintro e w1 ⟨A2, n2, c2', rfl, r2, hB1⟩; have hBt := Lib.hid (hB0.out.trans (hB1.mono hB0.out.size)); have kF1 := (kF.out.to hB1); have hlt1 := kF1.lt; have hlt0 := (kP.out.to hB1).lt; obtain ⟨⟨z0, z1, z2, z3⟩, f0, f1, f2, f3⟩ := kF1.z4; have hr4 := Lib.hid (fun v0 v1 v2 v3 => r2.set4N kF1 v0 v1 v2 v3); clear c2; have c2 := (kP.out.to hB1).cell 2 _ h2.out; replace hB1 := 0; clear kF1 r2)
        | fail)
      all_goals
        have hlt9 : w.heap.size + 1 < (set4 w1 (w.heap.size + 1) (.int .i64 x0) (.int .i64 x1) (.int .i64 x2) (.bool x3)).heap.size := by simp [set4, World.setCell]; omega
        have hba := (Below.refl (set4 w1 (w.heap.size + 1) (.int .i64 x0) (.int .i64 x1) (.int .i64 x2) (.bool x3)).heap.size (set4 w1 (w.heap.size + 1) (.int .i64 x0) (.int .i64 x1) (.int .i64 x2) (.bool x3))).alloc (Nat.le_refl _) (.cells #[.int .i64 x0, .int .i64 x1, .int .i64 x2, .bool x3] 36)
        obtain ⟨r0, r1, r2', r3⟩ := set4_at w1 (w.heap.size + 1) (.int .i64 x0) (.int .i64 x1) (.int .i64 x2) (.bool x3) z0 z1 z2 z3
        have q0 := (hba.cell (p := ⟨w.heap.size + 1, 0, none⟩) hlt9).trans r0
        have q1 := (hba.cell (p := ⟨w.heap.size + 1, 1, none⟩) hlt9).trans r1
        have q2 := (hba.cell (p := ⟨w.heap.size + 1, 2, none⟩) hlt9).trans r2'
        have q3 := (hba.cell (p := ⟨w.heap.size + 1, 3, none⟩) hlt9).trans r3
        have hbf := (below_set4 (B := w.heap.size + 1) hBt.out (by omega) (.int .i64 x0) (.int .i64 x1) (.int .i64 x2) (.bool x3)).alloc (by have := hBt.out.size; simp [set4, World.setCell]; omega) (.cells #[.int .i64 x0, .int .i64 x1, .int .i64 x2, .bool x3] 36)
        have hob := (hr4.out x0 x1 x2 x3).alloc (.cells #[.int .i64 x0, .int .i64 x1, .int .i64 x2, .bool x3] 36)
        rw [fold4 w1 (w.heap.size + 1) (.int .i64 x0) (.int .i64 x1) (.int .i64 x2) (.bool x3)]
        clear z0 z1 z2 z3 f0 f1 f2 f3 r0 r1 r2' r3 hlt9 hba
        generalize (set4 w1 (w.heap.size + 1) (.int .i64 x0) (.int .i64 x1) (.int .i64 x2) (.bool x3)).alloc (.cells #[.int .i64 x0, .int .i64 x1, .int .i64 x2, .bool x3] 36) = Wf at *
        exact bodyPost_ret (v := .tuple #[.agg #[.int .i64 x0, .int .i64 x1, .int .i64 x2, .bool x3], .slice A2 n2 c2', .bool true]) (by simp [results, Try.results36, go_sem, q0, q1, q2, q3]) rfl (hY.out _ A2 n2 c2' hob hbf)
    · have hP := Lib.hid (show isPart p = false by unfold isPart; simp [h44])
      have hne : (p.nx != 44) = true := by simpa using h44
      have hY := Lib.hid (fun w' A2 n2 c2 => PartOut.no (w := w) (w' := w') (A2 := A2) (n2 := n2) (c2 := c2) hP.out)
      generalize p.data[0]?.getD 0 = x0 at *
      generalize placeF p.data / 8 * 8 = x1 at *
      generalize idF p.data = x2 at *
      generalize (placeF p.data % 2 == 1) = x3 at *
      generalize p.data.drop 8 = dt at *
      generalize p.nx = nx at *
      replace hB0 := Lib.hid hB0
      replace kF := Lib.hid kF
      replace kP := Lib.hid kP
      replace h2 := Lib.hid h2
      replace hlen := 0
      replace h := 0
      replace hr := 0
      go_enter Try.func36, Try.ntmps36
      go_wp2_with (first
        | (go_at_call 26; refine (hF.out).mono ?_; rintro e w1 ⟨A2, n2, c2', rfl, r2, hB1⟩; have hBt := Lib.hid (hB0.out.trans (hB1.mono hB0.out.size)); have kF1 := (kF.out.to hB1); have hlt1 := kF1.lt; have hlt0 := (kP.out.to hB1).lt; obtain ⟨⟨z0, z1, z2, z3⟩, f0, f1, f2, f3⟩ := kF1.z4; have hr4 := Lib.hid (fun v0 v1 v2 v3 => r2.set4N kF1 v0 v1 v2 v3); clear c2; have c2 := (kP.out.to hB1).cell 2 _ h2.out; replace hB1 := 0; clear kF1 r2)
        | fail)
      all_goals
        have hlt9 : w.heap.size + 1 < (set4 w1 (w.heap.size + 1) (.int .i64 0) (.int .i64 0) (.int .i64 0) (.bool false)).heap.size := by simp [set4, World.setCell]; omega
        have hba := (Below.refl (set4 w1 (w.heap.size + 1) (.int .i64 0) (.int .i64 0) (.int .i64 0) (.bool false)).heap.size (set4 w1 (w.heap.size + 1) (.int .i64 0) (.int .i64 0) (.int .i64 0) (.bool false))).alloc (Nat.le_refl _) (.cells #[.int .i64 x0, .int .i64 x1, .int .i64 x2, .bool x3] 36)
        obtain ⟨r0, r1, r2', r3⟩ := set4_at w1 (w.heap.size + 1) (.int .i64 0) (.int .i64 0) (.int .i64 0) (.bool false) z0 z1 z2 z3
        have q0 := (hba.cell (p := ⟨w.heap.size + 1, 0, none⟩) hlt9).trans r0
        have q1 := (hba.cell (p := ⟨w.heap.size + 1, 1, none⟩) hlt9).trans r1
        have q2 := (hba.cell (p := ⟨w.heap.size + 1, 2, none⟩) hlt9).trans r2'
        have q3 := (hba.cell (p := ⟨w.heap.size + 1, 3, none⟩) hlt9).trans r3
        have hbf := (below_set4 (B := w.heap.size + 1) hBt.out (by omega) (.int .i64 0) (.int .i64 0) (.int .i64 0) (.bool false)).alloc (by have := hBt.out.size; simp [set4, World.setCell]; omega) (.cells #[.int .i64 x0, .int .i64 x1, .int .i64 x2, .bool x3] 36)
        have hob := (hr4.out 0 0 0 false).alloc (.cells #[.int .i64 x0, .int .i64 x1, .int .i64 x2, .bool x3] 36)
        rw [fold4 w1 (w.heap.size + 1) (.int .i64 0) (.int .i64 0) (.int .i64 0) (.bool false)]
        clear z0 z1 z2 z3 f0 f1 f2 f3 r0 r1 r2' r3 hlt9 hba
        generalize (set4 w1 (w.heap.size + 1) (.int .i64 0) (.int .i64 0) (.int .i64 0) (.bool false)).alloc (.cells #[.int .i64 x0, .int .i64 x1, .int .i64 x2, .bool x3] 36) = Wf at *
        exact bodyPost_ret (v := .tuple #[.agg #[.int .i64 0, .int .i64 0, .int .i64 0, .bool false], .slice none 0 0, .bool false]) (by simp [results, Try.results36, go_sem, q0, q1, q2, q3]) rfl (hY.out _ none 0 0 (RB.nil _) hbf)
  · have hF := Lib.hid (RefParseFrag_short A n c W0 (by omega))
    have hP := Lib.hid (show isPart p = false by unfold isPart; simp [hlen]; omega)
    have hY := Lib.hid (fun w' A2 n2 c2 => PartOut.no (w := w) (w' := w') (A2 := A2) (n2 := n2) (c2 := c2) hP.out)
    cases hne : (p.nx != 44)
    all_goals
      generalize p.nx = nx at *
      replace hB0 := Lib.hid hB0
      replace kF := Lib.hid kF
      replace kP := Lib.hid kP
      replace h2 := Lib.hid h2
      replace hlen := 0
      replace h := 0
      replace hr := 0
      go_enter Try.func36, Try.ntmps36
      go_wp2_with (first
        | (go_at_call 26; refine (hF.out).mono ?_; rintro e w1 ⟨A2, n2, c2', rfl, r2, hB1⟩; have hBt := Lib.hid (hB0.out.trans (hB1.mono hB0.out.size)); have kF1 := (kF.out.to hB1); have hlt1 := kF1.lt; have hlt0 := (kP.out.to hB1).lt; obtain ⟨⟨z0, z1, z2, z3⟩, f0, f1, f2, f3⟩ := kF1.z4; have hr4 := Lib.hid (fun v0 v1 v2 v3 => r2.set4N kF1 v0 v1 v2 v3); clear c2; have c2 := (kP.out.to hB1).cell 2 _ h2.out; replace hB1 := 0; clear kF1 r2)
        | fail)
      all_goals
        have hlt9 : w.heap.size + 1 < (set4 w1 (w.heap.size + 1) (.int .i64 0) (.int .i64 0) (.int .i64 0) (.bool false)).heap.size := by simp [set4, World.setCell]; omega
        have hba := (Below.refl (set4 w1 (w.heap.size + 1) (.int .i64 0) (.int .i64 0) (.int .i64 0) (.bool false)).heap.size (set4 w1 (w.heap.size + 1) (.int .i64 0) (.int .i64 0) (.int .i64 0) (.bool false))).alloc (Nat.le_refl _) (.cells #[.int .i64 0, .int .i64 0, .int .i64 0, .bool false] 36)
        obtain ⟨r0, r1, r2', r3⟩ := set4_at w1 (w.heap.size + 1) (.int .i64 0) (.int .i64 0) (.int .i64 0) (.bool false) z0 z1 z2 z3
        have q0 := (hba.cell (p := ⟨w.heap.size + 1, 0, none⟩) hlt9).trans r0
        have q1 := (hba.cell (p := ⟨w.heap.size + 1, 1, none⟩) hlt9).trans r1
        have q2 := (hba.cell (p := ⟨w.heap.size + 1, 2, none⟩) hlt9).trans r2'
        have q3 := (hba.cell (p := ⟨w.heap.size + 1, 3, none⟩) hlt9).trans r3
        have hbf := (below_set4 (B := w.heap.size + 1) hBt.out (by omega) (.int .i64 0) (.int .i64 0) (.int .i64 0) (.bool false)).alloc (by have := hBt.out.size; simp [set4, World.setCell]; omega) (.cells #[.int .i64 0, .int .i64 0, .int .i64 0, .bool false] 36)
        have hob := (hr4.out 0 0 0 false).alloc (.cells #[.int .i64 0, .int .i64 0, .int .i64 0, .bool false] 36)
        rw [fold4 w1 (w.heap.size + 1) (.int .i64 0) (.int .i64 0) (.int .i64 0) (.bool false)]
        clear z0 z1 z2 z3 f0 f1 f2 f3 r0 r1 r2' r3 hlt9 hba
        generalize (set4 w1 (w.heap.size + 1) (.int .i64 0) (.int .i64 0) (.int .i64 0) (.bool false)).alloc (.cells #[.int .i64 0, .int .i64 0, .int .i64 0, .bool false] 36) = Wf at *
        exact bodyPost_ret (v := .tuple #[.agg #[.int .i64 0, .int .i64 0, .int .i64 0, .bool false], .slice none 0 0, .bool false]) (by simp [results, Try.results36, go_sem, q0, q1, q2, q3]) rfl (hY.out _ none 0 0 (RB.nil _) hbf)
end Go.Proofs.Ytbbdkfadcafpfaa
