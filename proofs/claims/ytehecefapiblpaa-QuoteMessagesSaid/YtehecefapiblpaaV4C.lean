/- Packets of IPv4: v4.Check. -/
import Derived.Test.YtehecefapiblpaaV4
import Derived.Deep.Cut
import Derived.Test.YtehecefapiblpaaBase
import Derived.Test.YtehecefapiblpaaSeq
set_option linter.unusedVariables false
namespace Go.Proofs.Ytehecefapiblpaa
open Go Go.RowKit

def fitsA (p : V4P) : Bool := fitsB p.tos 1 && (fitsB p.ttl 1 && (fitsB p.pr 1 && fitsB p.id 2))
def endsA (p : V4P) : Bool := rightB p.src && rightB p.dst
def placeA (p : V4P) (n : Nat) : Bool := decide (0 ≤ p.off) && (decide (p.off ≤ 65528) && ((p.off.tmod 8 == 0) && (!p.mf || ((n : Int) % 8 == 0))))
def optsA (no : Nat) : Bool := decide ((no : Int) ≤ 40) && ((no : Int) % 4 == 0)
def okV4 (p : V4P) (no n : Nat) : Bool := fitsA p && (endsA p && (placeA p n && optsA no))
def checkV4 (p : V4P) (no n : Nat) : Int := if okV4 p no n = true then (if (65535 : Int) < 20 + no + n ∨ (65535 : Int) - n < p.off then 6 else 0) else 1
theorem en_V4Fits (args : Array Value) (w : World) : (callFunc 66 args).run Try.prog w = .ok (.enter 66 args) w := enters Try.func66 (by kernel_rfl) (by kernel_rfl) args w
theorem en_V4Right (args : Array Value) (w : World) : (callFunc 65 args).run Try.prog w = .ok (.enter 65 args) w := enters Try.func65 (by kernel_rfl) (by kernel_rfl) args w
theorem en_V4All (args : Array Value) (w : World) : (callFunc 89 args).run Try.prog w = .ok (.enter 89 args) w := enters Try.func89 (by kernel_rfl) (by kernel_rfl) args w

section
variable (p : V4P) (Ao : Option Addr) (no co : Nat) (A : Option Addr) (n c : Nat) (w : World)
set_option maxRecDepth 100000 in
set_option maxHeartbeats 8000000 in
theorem Check4_any (hno : no ≤ 100000) (hn : n ≤ 100000) : Calls Try.prog 51 #[.agg (cells4 p Ao no co A n c)] w fun e w' => e = .returned (.int .i64 (checkV4 p no n)) ∧ Below w.heap.size w w' := by
  have hb := Lib.hid ((Below.refl _ w).alloc (Nat.le_refl _) (.cells (cells4 p Ao no co A n c) 32))
  have kB := Lib.hid (Blk.new w (cells4 p Ao no co A n c) 32)
  obtain ⟨w0, hw0⟩ : ∃ w0, w.alloc (.cells (cells4 p Ao no co A n c) 32) = w0 := ⟨_, rfl⟩
  rw [hw0] at hb kB
  have hK := Lib.hid (show ∀ W W', (fun W => Below w0.heap.size w0 W) W → Below W.heap.size W W' → (fun W => Below w0.heap.size w0 W) W' from fun W W' h1 h2 => h1.trans (h2.mono h1.size))
  have hC1 := Lib.hid (show ∀ W, (fun W => Below w0.heap.size w0 W) W → (W.cell? ⟨w.heap.size, 0, none⟩ = some (.int .i64 p.tos) ∧ W.cell? ⟨w.heap.size, 3, none⟩ = some (.int .i64 p.ttl) ∧ W.cell? ⟨w.heap.size, 4, none⟩ = some (.int .i64 p.pr) ∧ W.cell? ⟨w.heap.size, 1, none⟩ = some (.int .i64 p.id)) from fun W hW => ⟨(kB.out.to hW).cell 0 _ rfl, (kB.out.to hW).cell 3 _ rfl, (kB.out.to hW).cell 4 _ rfl, (kB.out.to hW).cell 1 _ rfl⟩)
  have hlt := kB.out.lt
  go_enter Try.func51, Try.ntmps51
  go_wp2
  refine wp_region_loose (fun W => Below w0.heap.size w0 W) (by kernel_rfl) (by kernel_rfl) (by kernel_rfl) (Below.refl _ _).drew ?_
  repeat (first
    | (refine looseL_skip (by rfl) (by rfl) rfl ?_; simp only [putV, List.setIfInBounds_toArray, List.set_cons_zero, List.set_cons_succ])
    | (refine looseL_call2 (v := .bool (fitsB (p.tos) 1)) (by rfl) rfl 66 (.tmp 8) (.const (.int .i64 1)) _ rfl en_V4Fits (by rfl) ?_ ?_; (intro vx vy W hS hx hy; cases hx; cases hy; exact (toB (Fits_any (p.tos) 1 W)).mono fun e W' ⟨he, hb⟩ => ⟨he, hK.out W W' hS hb, hb⟩); simp only [putV, List.setIfInBounds_toArray, List.set_cons_zero, List.set_cons_succ])
    | (refine looseL_call2 (v := .bool (fitsB (p.ttl) 1)) (by rfl) rfl 66 (.tmp 11) (.const (.int .i64 1)) _ rfl en_V4Fits (by rfl) ?_ ?_; (intro vx vy W hS hx hy; cases hx; cases hy; exact (toB (Fits_any (p.ttl) 1 W)).mono fun e W' ⟨he, hb⟩ => ⟨he, hK.out W W' hS hb, hb⟩); simp only [putV, List.setIfInBounds_toArray, List.set_cons_zero, List.set_cons_succ])
    | (refine looseL_call2 (v := .bool (fitsB (p.pr) 1)) (by rfl) rfl 66 (.tmp 14) (.const (.int .i64 1)) _ rfl en_V4Fits (by rfl) ?_ ?_; (intro vx vy W hS hx hy; cases hx; cases hy; exact (toB (Fits_any (p.pr) 1 W)).mono fun e W' ⟨he, hb⟩ => ⟨he, hK.out W W' hS hb, hb⟩); simp only [putV, List.setIfInBounds_toArray, List.set_cons_zero, List.set_cons_succ])
    | (refine looseL_call2 (v := .bool (fitsB (p.id) 2)) (by rfl) rfl 66 (.tmp 17) (.const (.int .i64 2)) _ rfl en_V4Fits (by rfl) ?_ ?_; (intro vx vy W hS hx hy; cases hx; cases hy; exact (toB (Fits_any (p.id) 2 W)).mono fun e W' ⟨he, hb⟩ => ⟨he, hK.out W W' hS hb, hb⟩); simp only [putV, List.setIfInBounds_toArray, List.set_cons_zero, List.set_cons_succ])
    | (refine looseL_lit (d := 19) (k := 4) (C := #[.bool (fitsB p.tos 1), .bool (fitsB p.ttl 1), .bool (fitsB p.pr 1), .bool (fitsB p.id 2)]) (T := 4) (by rfl) (by rfl) rfl rfl (fun W o' h => h.alloc h.size o') (fun W hS => ?_) ?_; (clear hS; go_simp))
    | (refine looseL_call1 (v := .bool ([fitsB p.tos 1, fitsB p.ttl 1, fitsB p.pr 1, fitsB p.id 2].all id)) (by rfl) rfl 89 (.tmp 19) _ rfl en_V4All (by rfl) ?_ ?_; (intro vx W hS hx; obtain ⟨g, rfl, hk⟩ := hx; exact (AllB_any _ 4 4 [fitsB p.tos 1, fitsB p.ttl 1, fitsB p.pr 1, fitsB p.id 2] W (RBo.blk [fitsB p.tos 1, fitsB p.ttl 1, fitsB p.pr 1, fitsB p.id 2] hk) (by decide)).mono fun e W' ⟨he, hb⟩ => ⟨he, hK.out W W' hS hb, hb⟩); simp only [putV, List.setIfInBounds_toArray, List.set_cons_zero, List.set_cons_succ])
    | (refine looseL_val (v := ?_) (by rfl) (by rfl) (by rfl) rfl (fun W hS => ?_) ?_; rotate_left; (· (obtain ⟨g0, g1, g2, g3⟩ := hC1.out W hS; clear hS; go_simp; try with_reducible rfl)); simp only [putV, List.setIfInBounds_toArray, List.set_cons_zero, List.set_cons_succ]))
  refine looseL_nil fun a W hS hsz hds hR => ?_
  have hT := tmps_lse (T := a.tmps) [19] hsz (by rw [hsz]; rfl) (by rw [hsz]; rfl) hR
  rw [List.foldl_cons, List.foldl_nil] at hT
  generalize a.tmps.getD 19 undef = u19 at hT
  simp only [List.setIfInBounds_toArray, List.set_cons_zero, List.set_cons_succ] at hT
  clear hR hsz
  obtain ⟨T, D⟩ := a
  have hD' : D = [] := hds
  subst hD'
  dsimp only at hT
  subst hT
  clear hds
  generalize [fitsB p.tos 1, fitsB p.ttl 1, fitsB p.pr 1, fitsB p.id 2].all id = b1 at *
  replace hS := Lib.hid hS
  have hC1 := Lib.hid (show ∀ W, (fun W => Below w0.heap.size w0 W) W → (W.cell? ⟨w.heap.size, 5, none⟩ = some (.int .i64 p.src) ∧ W.cell? ⟨w.heap.size, 6, none⟩ = some (.int .i64 p.dst) ∧ True ∧ True) from fun W hW => ⟨(kB.out.to hW).cell 5 _ rfl, (kB.out.to hW).cell 6 _ rfl, trivial, trivial⟩)
  go_wp2
  refine wp_region_loose (fun W => Below w0.heap.size w0 W) (by kernel_rfl) (by kernel_rfl) (by kernel_rfl) hS.out.drew ?_
  repeat (first
    | (refine looseL_skip (by rfl) (by rfl) rfl ?_; simp only [putV, List.setIfInBounds_toArray, List.set_cons_zero, List.set_cons_succ])
    | (refine looseL_call1 (v := .bool (rightB (p.src))) (by rfl) rfl 65 (.tmp 22) _ rfl en_V4Right (by rfl) ?_ ?_; (intro vx W hS hx; cases hx; exact (toB (Right4_any W (p.src))).mono fun e W' ⟨he, hb⟩ => ⟨he, hK.out W W' hS hb, hb⟩); simp only [putV, List.setIfInBounds_toArray, List.set_cons_zero, List.set_cons_succ])
    | (refine looseL_call1 (v := .bool (rightB (p.dst))) (by rfl) rfl 65 (.tmp 25) _ rfl en_V4Right (by rfl) ?_ ?_; (intro vx W hS hx; cases hx; exact (toB (Right4_any W (p.dst))).mono fun e W' ⟨he, hb⟩ => ⟨he, hK.out W W' hS hb, hb⟩); simp only [putV, List.setIfInBounds_toArray, List.set_cons_zero, List.set_cons_succ])
    | (refine looseL_lit (d := 27) (k := 2) (C := #[.bool (rightB p.src), .bool (rightB p.dst)]) (T := 4) (by rfl) (by rfl) rfl rfl (fun W o' h => h.alloc h.size o') (fun W hS => ?_) ?_; (clear hS; go_simp))
    | (refine looseL_call1 (v := .bool ([rightB p.src, rightB p.dst].all id)) (by rfl) rfl 89 (.tmp 27) _ rfl en_V4All (by rfl) ?_ ?_; (intro vx W hS hx; obtain ⟨g, rfl, hk⟩ := hx; exact (AllB_any _ 2 2 [rightB p.src, rightB p.dst] W (RBo.blk [rightB p.src, rightB p.dst] hk) (by decide)).mono fun e W' ⟨he, hb⟩ => ⟨he, hK.out W W' hS hb, hb⟩); simp only [putV, List.setIfInBounds_toArray, List.set_cons_zero, List.set_cons_succ])
    | (refine looseL_val (v := ?_) (by rfl) (by rfl) (by rfl) rfl (fun W hS => ?_) ?_; rotate_left; (· (obtain ⟨g0, g1, g2, g3⟩ := hC1.out W hS; clear hS; go_simp; try with_reducible rfl)); simp only [putV, List.setIfInBounds_toArray, List.set_cons_zero, List.set_cons_succ]))
  refine looseL_nil fun a W hS hsz hds hR => ?_
  have hT := tmps_lse (T := a.tmps) [27] hsz (by rw [hsz]; rfl) (by rw [hsz]; rfl) hR
  rw [List.foldl_cons, List.foldl_nil] at hT
  generalize a.tmps.getD 27 undef = u27 at hT
  simp only [List.setIfInBounds_toArray, List.set_cons_zero, List.set_cons_succ] at hT
  clear hR hsz
  obtain ⟨T, D⟩ := a
  have hD' : D = [] := hds
  subst hD'
  dsimp only at hT
  subst hT
  clear hds
  have hb2 := Lib.hid (hb.out.trans (hS.mono hb.out.size))
  have kW := kB.out.to hS
  have y2 : W.cell? ⟨w.heap.size, 2, none⟩ = some (.int .i64 p.off) := kW.cell 2 _ rfl
  have y8 : W.cell? ⟨w.heap.size, 8, none⟩ = some (.bool p.mf) := kW.cell 8 _ rfl
  have y9 : W.cell? ⟨w.heap.size, 9, none⟩ = some (.slice Ao no co) := kW.cell 9 _ rfl
  have y10 : W.cell? ⟨w.heap.size, 10, none⟩ = some (.slice A n c) := kW.cell 10 _ rfl
  have hltW := kW.lt
  replace kW := Lib.hid kW
  clear hS
  replace hC1 := 0
  replace hK := 0
  replace kB := 0
  replace hb := 0
  obtain ⟨b1, hb1⟩ : ∃ b, fitsA p = b := ⟨_, rfl⟩
  obtain ⟨b2, hb2'⟩ : ∃ b, endsA p = b := ⟨_, rfl⟩
  rw [show (fitsB p.tos 1 && (fitsB p.ttl 1 && (fitsB p.pr 1 && fitsB p.id 2))) = b1 from hb1, show (rightB p.src && rightB p.dst) = b2 from hb2']
  obtain ⟨x3, hx3⟩ : ∃ x, placeA p n = x := ⟨_, rfl⟩
  obtain ⟨x4, hx4⟩ : ∃ x, optsA no = x := ⟨_, rfl⟩
  have hok : okV4 p no n = [b1, b2, x3, x4].all id := by unfold okV4; rw [hb1, hb2', hx3, hx4]; simp
  have hS4 := Lib.hid (fun W => Size4_any p Ao no co A n c W hno hn)
  have hV := Lib.hid (show (Try.prog.info? 32).map (·.size) = some (cells4 p Ao no co A n c).size from info_v4)
  unfold placeA at hx3
  unfold optsA at hx4
  have hk : checkV4 p no n = if [b1, b2, x3, x4].all id = true then (if (65535 : Int) < 20 + no + n ∨ (65535 : Int) - n < p.off then 6 else 0) else 1 := by unfold checkV4; rw [hok]
  clear hok hb1 hb2'
  have hl2 := Lib.hid (show [decide ((no : Int) ≤ 40), ((no : Int) % 4 == 0)].all id = x4 by rw [← hx4]; simp)
  clear hx4
  cases hm : p.mf
  · skip
    rw [hm] at y8 hx3
    have hl1 := Lib.hid (show [decide (0 ≤ p.off), decide (p.off ≤ 65528), (p.off.tmod 8 == 0), true].all id = x3 by rw [← hx3]; simp)
    clear hx3
    replace hm := Lib.hid hm
    go_upto_region 5 with (first
      | (go_at_call 89; refine (AllB_any _ 4 4 [decide (0 ≤ p.off), decide (p.off ≤ 65528), (p.off.tmod 8 == 0), true] _ (RBo.lit W 4 [decide (0 ≤ p.off), decide (p.off ≤ 65528), (p.off.tmod 8 == 0), true]) (by decide)).mono ?_; rintro e w3 ⟨rfl, hB⟩; rw [hl1.out]; have kW3 := (kW.out.alloc _).to hB; have y9 : (w3).cell? ⟨w.heap.size, 9, none⟩ = some (.slice Ao no co) := (kW3).cell 9 _ rfl; have hb3 := Lib.hid ((hb2.out.alloc hb2.out.size _).trans (hB.mono (Nat.le_trans hb2.out.size (by simp)))); replace kW3 := Lib.hid kW3; replace hB := 0)
      | (go_at_call 89; refine (AllB_any _ 2 2 [decide ((no : Int) ≤ 40), ((no : Int) % 4 == 0)] _ (RBo.lit w3 4 [decide ((no : Int) ≤ 40), ((no : Int) % 4 == 0)]) (by decide)).mono ?_; rintro e w4 ⟨rfl, hB⟩; rw [hl2.out]; have kW4 := (kW3.out.alloc _).to hB; have y9 : (w4).cell? ⟨w.heap.size, 9, none⟩ = some (.slice Ao no co) := (kW4).cell 9 _ rfl; have hb4 := Lib.hid ((hb3.out.alloc hb3.out.size _).trans (hB.mono (Nat.le_trans hb3.out.size (by simp)))); replace kW4 := Lib.hid kW4; replace hB := 0)
      | fail)
    replace hl1 := 0
    replace hl2 := 0
    replace kW := 0
    replace kW3 := 0
    cases hall : [b1, b2, x3, x4].all id
    · rw [hall] at hk
      replace hk := Lib.hid (show checkV4 p no n = 1 from hk)
      replace hall := Lib.hid hall
      go_wp2_with (first
        | (go_at_call 89; refine (AllB_any _ 4 4 [b1, b2, x3, x4] _ (RBo.lit w4 4 [b1, b2, x3, x4]) (by decide)).mono ?_; rintro e w5 ⟨rfl, hB⟩; rw [hall.out]; have kW5 := (kW4.out.alloc _).to hB; have y9 : (w5).cell? ⟨w.heap.size, 9, none⟩ = some (.slice Ao no co) := (kW5).cell 9 _ rfl; have hb5 := Lib.hid ((hb4.out.alloc hb4.out.size _).trans (hB.mono (Nat.le_trans hb4.out.size (by simp)))); replace kW5 := Lib.hid kW5; replace hB := 0)
        | (refine wpList_load_row rfl 32 (.tmp 1) rfl w.heap.size rfl _ (cells4 p Ao no co A n c) _ _ kW5.out.at_ Try.underlying32 rfl hV.out ?_)
        | (go_at_call 90; refine (hS4.out _).mono ?_; rintro e w6 ⟨rfl, hB6⟩; have kW6 := kW5.out.to hB6; have y2 : w6.cell? ⟨w.heap.size, 2, none⟩ = some (.int .i64 p.off) := kW6.cell 2 _ rfl; have y10 : w6.cell? ⟨w.heap.size, 10, none⟩ = some (.slice A n c) := kW6.cell 10 _ rfl; have hb6 := Lib.hid (hb5.out.trans (hB6.mono hb5.out.size)); replace hB6 := 0; clear kW6)
        | fail)
      go_ret
      exact ⟨by rw [hk.out]; rfl, hb5.out⟩
    · rw [hall] at hk
      replace hall := Lib.hid hall
      by_cases h6 : (65535 : Int) < 20 + no + n
      · replace hk := Lib.hid (show checkV4 p no n = 6 by rw [hk, if_pos rfl, if_pos (.inl h6)])
        go_wp2_with (first
          | (go_at_call 89; refine (AllB_any _ 4 4 [b1, b2, x3, x4] _ (RBo.lit w4 4 [b1, b2, x3, x4]) (by decide)).mono ?_; rintro e w5 ⟨rfl, hB⟩; rw [hall.out]; have kW5 := (kW4.out.alloc _).to hB; have y9 : (w5).cell? ⟨w.heap.size, 9, none⟩ = some (.slice Ao no co) := (kW5).cell 9 _ rfl; have hb5 := Lib.hid ((hb4.out.alloc hb4.out.size _).trans (hB.mono (Nat.le_trans hb4.out.size (by simp)))); replace kW5 := Lib.hid kW5; replace hB := 0)
          | (refine wpList_load_row rfl 32 (.tmp 1) rfl w.heap.size rfl _ (cells4 p Ao no co A n c) _ _ kW5.out.at_ Try.underlying32 rfl hV.out ?_)
          | (go_at_call 90; refine (hS4.out _).mono ?_; rintro e w6 ⟨rfl, hB6⟩; have kW6 := kW5.out.to hB6; have y2 : w6.cell? ⟨w.heap.size, 2, none⟩ = some (.int .i64 p.off) := kW6.cell 2 _ rfl; have y10 : w6.cell? ⟨w.heap.size, 10, none⟩ = some (.slice A n c) := kW6.cell 10 _ rfl; have hb6 := Lib.hid (hb5.out.trans (hB6.mono hb5.out.size)); replace hB6 := 0; clear kW6)
          | fail)
        go_ret
        exact ⟨by rw [hk.out]; rfl, hb6.out⟩
      · by_cases h7 : (65535 : Int) - n < p.off
        · replace hk := Lib.hid (show checkV4 p no n = 6 by rw [hk, if_pos rfl, if_pos (.inr h7)])
          go_wp2_with (first
            | (go_at_call 89; refine (AllB_any _ 4 4 [b1, b2, x3, x4] _ (RBo.lit w4 4 [b1, b2, x3, x4]) (by decide)).mono ?_; rintro e w5 ⟨rfl, hB⟩; rw [hall.out]; have kW5 := (kW4.out.alloc _).to hB; have y9 : (w5).cell? ⟨w.heap.size, 9, none⟩ = some (.slice Ao no co) := (kW5).cell 9 _ rfl; have hb5 := Lib.hid ((hb4.out.alloc hb4.out.size _).trans (hB.mono (Nat.le_trans hb4.out.size (by simp)))); replace kW5 := Lib.hid kW5; replace hB := 0)
            | (refine wpList_load_row rfl 32 (.tmp 1) rfl w.heap.size rfl _ (cells4 p Ao no co A n c) _ _ kW5.out.at_ Try.underlying32 rfl hV.out ?_)
            | (go_at_call 90; refine (hS4.out _).mono ?_; rintro e w6 ⟨rfl, hB6⟩; have kW6 := kW5.out.to hB6; have y2 : w6.cell? ⟨w.heap.size, 2, none⟩ = some (.int .i64 p.off) := kW6.cell 2 _ rfl; have y10 : w6.cell? ⟨w.heap.size, 10, none⟩ = some (.slice A n c) := kW6.cell 10 _ rfl; have hb6 := Lib.hid (hb5.out.trans (hB6.mono hb5.out.size)); replace hB6 := 0; clear kW6)
            | fail)
          go_ret
          exact ⟨by rw [hk.out]; rfl, hb6.out⟩
        · replace hk := Lib.hid (show checkV4 p no n = 0 by rw [hk, if_pos rfl, if_neg (by omega)])
          go_wp2_with (first
            | (go_at_call 89; refine (AllB_any _ 4 4 [b1, b2, x3, x4] _ (RBo.lit w4 4 [b1, b2, x3, x4]) (by decide)).mono ?_; rintro e w5 ⟨rfl, hB⟩; rw [hall.out]; have kW5 := (kW4.out.alloc _).to hB; have y9 : (w5).cell? ⟨w.heap.size, 9, none⟩ = some (.slice Ao no co) := (kW5).cell 9 _ rfl; have hb5 := Lib.hid ((hb4.out.alloc hb4.out.size _).trans (hB.mono (Nat.le_trans hb4.out.size (by simp)))); replace kW5 := Lib.hid kW5; replace hB := 0)
            | (refine wpList_load_row rfl 32 (.tmp 1) rfl w.heap.size rfl _ (cells4 p Ao no co A n c) _ _ kW5.out.at_ Try.underlying32 rfl hV.out ?_)
            | (go_at_call 90; refine (hS4.out _).mono ?_; rintro e w6 ⟨rfl, hB6⟩; have kW6 := kW5.out.to hB6; have y2 : w6.cell? ⟨w.heap.size, 2, none⟩ = some (.int .i64 p.off) := kW6.cell 2 _ rfl; have y10 : w6.cell? ⟨w.heap.size, 10, none⟩ = some (.slice A n c) := kW6.cell 10 _ rfl; have hb6 := Lib.hid (hb5.out.trans (hB6.mono hb5.out.size)); replace hB6 := 0; clear kW6)
            | fail)
          go_ret
          exact ⟨by rw [hk.out]; rfl, hb6.out⟩
  · skip
    rw [hm] at y8 hx3
    have hl1 := Lib.hid (show [decide (0 ≤ p.off), decide (p.off ≤ 65528), (p.off.tmod 8 == 0), ((n : Int) % 8 == 0)].all id = x3 by rw [← hx3]; simp)
    clear hx3
    replace hm := Lib.hid hm
    go_upto_region 5 with (first
      | (go_at_call 89; refine (AllB_any _ 4 4 [decide (0 ≤ p.off), decide (p.off ≤ 65528), (p.off.tmod 8 == 0), ((n : Int) % 8 == 0)] _ (RBo.lit W 4 [decide (0 ≤ p.off), decide (p.off ≤ 65528), (p.off.tmod 8 == 0), ((n : Int) % 8 == 0)]) (by decide)).mono ?_; rintro e w3 ⟨rfl, hB⟩; rw [hl1.out]; have kW3 := (kW.out.alloc _).to hB; have y9 : (w3).cell? ⟨w.heap.size, 9, none⟩ = some (.slice Ao no co) := (kW3).cell 9 _ rfl; have hb3 := Lib.hid ((hb2.out.alloc hb2.out.size _).trans (hB.mono (Nat.le_trans hb2.out.size (by simp)))); replace kW3 := Lib.hid kW3; replace hB := 0)
      | (go_at_call 89; refine (AllB_any _ 2 2 [decide ((no : Int) ≤ 40), ((no : Int) % 4 == 0)] _ (RBo.lit w3 4 [decide ((no : Int) ≤ 40), ((no : Int) % 4 == 0)]) (by decide)).mono ?_; rintro e w4 ⟨rfl, hB⟩; rw [hl2.out]; have kW4 := (kW3.out.alloc _).to hB; have y9 : (w4).cell? ⟨w.heap.size, 9, none⟩ = some (.slice Ao no co) := (kW4).cell 9 _ rfl; have hb4 := Lib.hid ((hb3.out.alloc hb3.out.size _).trans (hB.mono (Nat.le_trans hb3.out.size (by simp)))); replace kW4 := Lib.hid kW4; replace hB := 0)
      | fail)
    replace hl1 := 0
    replace hl2 := 0
    replace kW := 0
    replace kW3 := 0
    cases hall : [b1, b2, x3, x4].all id
    · rw [hall] at hk
      replace hk := Lib.hid (show checkV4 p no n = 1 from hk)
      replace hall := Lib.hid hall
      go_wp2_with (first
        | (go_at_call 89; refine (AllB_any _ 4 4 [b1, b2, x3, x4] _ (RBo.lit w4 4 [b1, b2, x3, x4]) (by decide)).mono ?_; rintro e w5 ⟨rfl, hB⟩; rw [hall.out]; have kW5 := (kW4.out.alloc _).to hB; have y9 : (w5).cell? ⟨w.heap.size, 9, none⟩ = some (.slice Ao no co) := (kW5).cell 9 _ rfl; have hb5 := Lib.hid ((hb4.out.alloc hb4.out.size _).trans (hB.mono (Nat.le_trans hb4.out.size (by simp)))); replace kW5 := Lib.hid kW5; replace hB := 0)
        | (refine wpList_load_row rfl 32 (.tmp 1) rfl w.heap.size rfl _ (cells4 p Ao no co A n c) _ _ kW5.out.at_ Try.underlying32 rfl hV.out ?_)
        | (go_at_call 90; refine (hS4.out _).mono ?_; rintro e w6 ⟨rfl, hB6⟩; have kW6 := kW5.out.to hB6; have y2 : w6.cell? ⟨w.heap.size, 2, none⟩ = some (.int .i64 p.off) := kW6.cell 2 _ rfl; have y10 : w6.cell? ⟨w.heap.size, 10, none⟩ = some (.slice A n c) := kW6.cell 10 _ rfl; have hb6 := Lib.hid (hb5.out.trans (hB6.mono hb5.out.size)); replace hB6 := 0; clear kW6)
        | fail)
      go_ret
      exact ⟨by rw [hk.out]; rfl, hb5.out⟩
    · rw [hall] at hk
      replace hall := Lib.hid hall
      by_cases h6 : (65535 : Int) < 20 + no + n
      · replace hk := Lib.hid (show checkV4 p no n = 6 by rw [hk, if_pos rfl, if_pos (.inl h6)])
        go_wp2_with (first
          | (go_at_call 89; refine (AllB_any _ 4 4 [b1, b2, x3, x4] _ (RBo.lit w4 4 [b1, b2, x3, x4]) (by decide)).mono ?_; rintro e w5 ⟨rfl, hB⟩; rw [hall.out]; have kW5 := (kW4.out.alloc _).to hB; have y9 : (w5).cell? ⟨w.heap.size, 9, none⟩ = some (.slice Ao no co) := (kW5).cell 9 _ rfl; have hb5 := Lib.hid ((hb4.out.alloc hb4.out.size _).trans (hB.mono (Nat.le_trans hb4.out.size (by simp)))); replace kW5 := Lib.hid kW5; replace hB := 0)
          | (refine wpList_load_row rfl 32 (.tmp 1) rfl w.heap.size rfl _ (cells4 p Ao no co A n c) _ _ kW5.out.at_ Try.underlying32 rfl hV.out ?_)
          | (go_at_call 90; refine (hS4.out _).mono ?_; rintro e w6 ⟨rfl, hB6⟩; have kW6 := kW5.out.to hB6; have y2 : w6.cell? ⟨w.heap.size, 2, none⟩ = some (.int .i64 p.off) := kW6.cell 2 _ rfl; have y10 : w6.cell? ⟨w.heap.size, 10, none⟩ = some (.slice A n c) := kW6.cell 10 _ rfl; have hb6 := Lib.hid (hb5.out.trans (hB6.mono hb5.out.size)); replace hB6 := 0; clear kW6)
          | fail)
        go_ret
        exact ⟨by rw [hk.out]; rfl, hb6.out⟩
      · by_cases h7 : (65535 : Int) - n < p.off
        · replace hk := Lib.hid (show checkV4 p no n = 6 by rw [hk, if_pos rfl, if_pos (.inr h7)])
          go_wp2_with (first
            | (go_at_call 89; refine (AllB_any _ 4 4 [b1, b2, x3, x4] _ (RBo.lit w4 4 [b1, b2, x3, x4]) (by decide)).mono ?_; rintro e w5 ⟨rfl, hB⟩; rw [hall.out]; have kW5 := (kW4.out.alloc _).to hB; have y9 : (w5).cell? ⟨w.heap.size, 9, none⟩ = some (.slice Ao no co) := (kW5).cell 9 _ rfl; have hb5 := Lib.hid ((hb4.out.alloc hb4.out.size _).trans (hB.mono (Nat.le_trans hb4.out.size (by simp)))); replace kW5 := Lib.hid kW5; replace hB := 0)
            | (refine wpList_load_row rfl 32 (.tmp 1) rfl w.heap.size rfl _ (cells4 p Ao no co A n c) _ _ kW5.out.at_ Try.underlying32 rfl hV.out ?_)
            | (go_at_call 90; refine (hS4.out _).mono ?_; rintro e w6 ⟨rfl, hB6⟩; have kW6 := kW5.out.to hB6; have y2 : w6.cell? ⟨w.heap.size, 2, none⟩ = some (.int .i64 p.off) := kW6.cell 2 _ rfl; have y10 : w6.cell? ⟨w.heap.size, 10, none⟩ = some (.slice A n c) := kW6.cell 10 _ rfl; have hb6 := Lib.hid (hb5.out.trans (hB6.mono hb5.out.size)); replace hB6 := 0; clear kW6)
            | fail)
          go_ret
          exact ⟨by rw [hk.out]; rfl, hb6.out⟩
        · replace hk := Lib.hid (show checkV4 p no n = 0 by rw [hk, if_pos rfl, if_neg (by omega)])
          go_wp2_with (first
            | (go_at_call 89; refine (AllB_any _ 4 4 [b1, b2, x3, x4] _ (RBo.lit w4 4 [b1, b2, x3, x4]) (by decide)).mono ?_; rintro e w5 ⟨rfl, hB⟩; rw [hall.out]; have kW5 := (kW4.out.alloc _).to hB; have y9 : (w5).cell? ⟨w.heap.size, 9, none⟩ = some (.slice Ao no co) := (kW5).cell 9 _ rfl; have hb5 := Lib.hid ((hb4.out.alloc hb4.out.size _).trans (hB.mono (Nat.le_trans hb4.out.size (by simp)))); replace kW5 := Lib.hid kW5; replace hB := 0)
            | (refine wpList_load_row rfl 32 (.tmp 1) rfl w.heap.size rfl _ (cells4 p Ao no co A n c) _ _ kW5.out.at_ Try.underlying32 rfl hV.out ?_)
            | (go_at_call 90; refine (hS4.out _).mono ?_; rintro e w6 ⟨rfl, hB6⟩; have kW6 := kW5.out.to hB6; have y2 : w6.cell? ⟨w.heap.size, 2, none⟩ = some (.int .i64 p.off) := kW6.cell 2 _ rfl; have y10 : w6.cell? ⟨w.heap.size, 10, none⟩ = some (.slice A n c) := kW6.cell 10 _ rfl; have hb6 := Lib.hid (hb5.out.trans (hB6.mono hb5.out.size)); replace hB6 := 0; clear kW6)
            | fail)
          go_ret
          exact ⟨by rw [hk.out]; rfl, hb6.out⟩
end
end Go.Proofs.Ytehecefapiblpaa
/- What bytes are as a packet of IPv4. No program in sight. -/
set_option linter.unusedVariables false
namespace Go.Proofs.Ytehecefapiblpaa
open Go Go.RowKit

def chk4 (p : V4P) : Int := checkV4 p p.opts.length p.data.length
theorem checkV4_ok4 {p : V4P} {no n : Nat} (h : checkV4 p no n = 0) : no ≤ 40 ∧ 20 + no + n ≤ 65535 ∧ 0 ≤ p.off ∧ p.off ≤ 65528 := by
  unfold checkV4 at h
  split at h
  · rename_i hk
    split at h
    · omega
    · unfold okV4 placeA optsA at hk
      simp only [Bool.and_eq_true, decide_eq_true_eq] at hk
      omega
  · omega
theorem checkV4_in (p : V4P) (no n : Nat) : checkV4 p no n = 0 ∨ checkV4 p no n = 1 ∨ checkV4 p no n = 6 := by
  unfold checkV4
  split
  · split <;> simp
  · simp
/-! ### Bits -/
theorem i64_bit (k : Nat) (hk : k ≤ 15) (x : Int) (h0 : 0 ≤ x) (h1 : x < 65536) : bits .and .i64 x ((2 ^ k : Nat) : Int) = if x / ((2 ^ k : Nat) : Int) % 2 = 1 then ((2 ^ k : Nat) : Int) else 0 := by
  obtain ⟨n, rfl⟩ := Int.eq_ofNat_of_zero_le h0
  have hn : n < 2 ^ 16 := by omega
  have hp : 2 ^ k < 2 ^ 16 := Nat.pow_lt_pow_right (by decide) (by omega)
  rw [(bits_nat .i64 16 (by decide) (fun m h0 h1 => wraps63 m h0 (by omega)) n (2 ^ k) hn hp).1]
  have ht : n.testBit k = decide (n / 2 ^ k % 2 = 1) := Nat.testBit_eq_decide_div_mod_eq
  have hc : ((n : Int) / ((2 ^ k : Nat) : Int) % 2 = 1) ↔ n / 2 ^ k % 2 = 1 := by
    rw [← Int.natCast_ediv]; omega
  have hv : n &&& 2 ^ k = if n / 2 ^ k % 2 = 1 then 2 ^ k else 0 := by
    apply Nat.eq_of_testBit_eq
    intro i
    rw [Nat.testBit_and, Nat.testBit_two_pow]
    by_cases hi : k = i
    · subst hi
      rw [ht]
      by_cases h : n / 2 ^ k % 2 = 1
      · rw [if_pos h]; simp [h]
      · rw [if_neg h]; simp [h]
    · split <;> simp [hi]
  rw [hv]
  by_cases h : n / 2 ^ k % 2 = 1
  · rw [if_pos (hc.2 h), if_pos h]
  · rw [if_neg (fun h' => h (hc.1 h')), if_neg h]; rfl
theorem bit13 (x : Int) (h0 : 0 ≤ x) (h1 : x < 65536) : bits .and .i64 x 8192 = if x / 8192 % 2 = 1 then 8192 else 0 := i64_bit 13 (by decide) x h0 h1
theorem bit14 (x : Int) (h0 : 0 ≤ x) (h1 : x < 65536) : bits .and .i64 x 16384 = if x / 16384 % 2 = 1 then 16384 else 0 := i64_bit 14 (by decide) x h0 h1
theorem bit15 (x : Int) (h0 : 0 ≤ x) (h1 : x < 65536) : bits .and .i64 x 32768 = if x / 32768 % 2 = 1 then 32768 else 0 := i64_bit 15 (by decide) x h0 h1
theorem low13 (x : Int) (h0 : 0 ≤ x) (h1 : x < 65536) : bits .and .i64 x 8191 = x % 8192 := i64_mask 13 (by decide) x h0 (by omega)
theorem u8_low15 (x : Int) (h0 : 0 ≤ x) (h1 : x < 256) : bits .and .u8 x 15 = x % 16 := by
  have hc : ∀ n : Fin 256, bits .and .u8 (n.val : Int) 15 = (n.val : Int) % 16 := by decide +kernel
  have := hc ⟨x.toNat, by omega⟩
  rwa [show ((⟨x.toNat, by omega⟩ : Fin 256).val : Int) = x from Int.toNat_of_nonneg h0] at this
theorem getV2_in {bs : List Int} (h : Byts bs) (a : Int) : 0 ≤ (getV bs a 2).1 ∧ (getV bs a 2).1 < 65536 := by
  unfold getV
  split
  · simp
  · split
    · simp
    · have hb : Byts (cutI bs a.toNat (2 : Int).toNat) := fun x hx => h x (by unfold cutI at hx; exact List.mem_of_mem_drop (List.mem_of_mem_take hx))
      have hl : (cutI bs a.toNat (2 : Int).toNat).length ≤ 2 := by unfold cutI; rw [List.length_take]; simp; omega
      have h1 := beNum_hi _ hb 2 hl
      exact ⟨beNum_lo _ hb, by simpa using h1⟩
theorem getV4_in {bs : List Int} (h : Byts bs) (a : Int) : 0 ≤ (getV bs a 4).1 ∧ (getV bs a 4).1 < 4294967296 := by
  unfold getV
  split
  · simp
  · split
    · simp
    · have hb : Byts (cutI bs a.toNat (4 : Int).toNat) := fun x hx => h x (by unfold cutI at hx; exact List.mem_of_mem_drop (List.mem_of_mem_take hx))
      have hl : (cutI bs a.toNat (4 : Int).toNat).length ≤ 4 := by unfold cutI; rw [List.length_take]; simp; omega
      have h1 := beNum_hi _ hb 4 hl
      exact ⟨beNum_lo _ hb, by simpa using h1⟩
theorem getV1_one {bs : List Int} {k : Nat} (h : k < bs.length) : (getV bs (k : Int) 1).1 = bs[k]?.getD 0 := by
  unfold getV
  rw [if_neg (by omega), if_neg (by omega)]
  show beNum (cutI bs (k : Int).toNat 1) = _
  unfold cutI
  rw [Int.toNat_natCast, List.drop_eq_getElem_cons h, List.getElem?_eq_getElem h, List.take_succ_cons, List.take_zero]
  simp only [beNum, List.foldl_cons, List.foldl_nil, Option.getD_some]
  omega

/-! ### What bytes are -/
def hd4 (bs : List Int) : Nat := (bs[0]?.getD 0 % 16 * 4).toNat
def sz4 (bs : List Int) : Int := (getV bs 2 2).1
def fl4 (bs : List Int) : Int := (getV bs 6 2).1
/-- What is wrong with a head. -/
def codeO (q : Bool) (bs : List Int) : Int :=
  if bs.length < 20 then 3 else if bs[0]?.getD 0 / 16 ≠ 4 ∨ hd4 bs < 20 then 4 else if bs.length < hd4 bs ∨ ((bs.length : Int) < sz4 bs ∧ q = false) then 3 else if sz4 bs < hd4 bs ∨ 32768 ≤ fl4 bs then 4 else 0
/-- Where the data end. -/
def end4 (bs : List Int) : Nat := min (sz4 bs).toNat bs.length
def pack4 (bs : List Int) : V4P :=
  ⟨bs[1]?.getD 0, (getV bs 4 2).1, fl4 bs % 8192 * 8, bs[8]?.getD 0, bs[9]?.getD 0, (getV bs 12 4).1, (getV bs 16 4).1, decide (fl4 bs / 16384 % 2 = 1), decide (fl4 bs / 8192 % 2 = 1), (bs.take (hd4 bs)).drop 20, (bs.take (end4 bs)).drop (hd4 bs)⟩
/-- What is wrong with bytes, whole (q = false) or quoted. -/
def codeV4 (q : Bool) (bs : List Int) : Int :=
  if codeO q bs ≠ 0 then codeO q bs else if q = true then 0 else if (foldI (totalI [bs.take (hd4 bs)]) == 65535) = false then 5 else if chk4 (pack4 bs) ≠ 0 then 4 else 0
def readV4 (q : Bool) (bs : List Int) : V4P := if codeV4 q bs = 0 then pack4 bs else zero4
theorem codeO_ok {q : Bool} {bs : List Int} (h : codeO q bs = 0) : 20 ≤ bs.length ∧ bs[0]?.getD 0 / 16 = 4 ∧ 20 ≤ hd4 bs ∧ hd4 bs ≤ 60 ∧ hd4 bs ≤ bs.length ∧ (hd4 bs : Int) ≤ sz4 bs ∧ fl4 bs < 32768 ∧ (q = false → sz4 bs ≤ bs.length) := by
  unfold codeO at h
  split at h
  · omega
  split at h
  · omega
  split at h
  · omega
  split at h
  · omega
  rename_i h1 h2 h3 h4
  have h6 : hd4 bs ≤ 60 := by unfold hd4; omega
  refine ⟨by omega, ?_, by omega, h6, by omega, by omega, by omega, fun hq => ?_⟩
  · exact Decidable.byContradiction fun h => h2 (.inl h)
  · exact Decidable.byContradiction fun h => h3 (.inr ⟨by omega, hq⟩)
theorem hd4_nat {bs : List Int} (h : Byts bs) : (hd4 bs : Int) = bs[0]?.getD 0 % 16 * 4 := by
  have := h.get 0
  unfold hd4; omega
/-- A packet and a code are answered. -/
def V4Out (w : World) (p : V4P) (k : Int) (e : Ending) (w' : World) : Prop :=
  ∃ Ao no co A n c, e = .returned (.tuple #[.agg (cells4 p Ao no co A n c), .int .i64 k]) ∧ OB w' w.heap.size Ao no co p.opts ∧ OB w' w.heap.size A n c p.data ∧ Below w.heap.size w w'
theorem V4Out.bad {w w' : World} {k : Int} (hb : Below w.heap.size w w') : V4Out w zero4 k (.returned (.tuple #[.agg zero4c, .int .i64 k])) w' :=
  ⟨none, 0, 0, none, 0, 0, rfl, OB.nil _ _, OB.nil _ _, hb⟩
end Go.Proofs.Ytehecefapiblpaa
