/- Messages of ICMP (the reference): walks of Bytes, Build. -/
import Derived.Test.YtekngoallcogpaaIcmpB
set_option linter.unusedVariables false
namespace Go.Proofs.Ytekngoallcogpaa
open Go.RowKit

set_option maxRecDepth 100000 in
set_option maxHeartbeats 2000000 in
theorem RefIcmpBytes_any (m : IcmpP) (s : Int) (A : Option Addr) (n c : Nat) (w : World) (hd : RB w A n c m.data) (hok : checkI m n = 0) (hs0 : 0 ≤ s) (hs1 : s ≤ 65535) :
    Calls Try.prog 54 #[.agg (cellsI m A n c), .int .i64 s] w (Fresh w (8 + n) (bytesI m s)) := by
  obtain ⟨ht, hcd, hr, hn⟩ := checkI_ok hok
  have hvb := VBox.new w (cellsI m A n c) 24
  have hb0 := (Below.refl _ w).alloc (Nat.le_refl _) (.cells (cellsI m A n c) 24)
  have hlt0 := hvb.lt
  replace hvb := Lib.hid hvb
  replace hb0 := Lib.hid hb0
  have hlit := lit2 (w.alloc (.cells (cellsI m A n c) 24)) m.t m.cd (Byts.two ht.1 ht.2 hcd.1 hcd.2)
  rw [World.size_alloc] at hlit
  replace hlit := Lib.hid hlit
  have hwt : IntKind.u8.wrap m.t = m.t := by rw [IntKind.wrap_u8]; omega
  have hwc : IntKind.u8.wrap m.cd = m.cd := by rw [IntKind.wrap_u8]; omega
  have hr4 := Lib.hid (fits4n hr.1 hr.2)
  have hfs := Lib.hid (fitsS hs0 hs1)
  have hlen := Lib.hid hd.len
  have hD := Lib.hid (fun W (hW : Below w.heap.size w W) => hd.below hW)
  clear hd hok
  go_enter Try.func54, Try.ntmps54
  go_wp2_with (first
    | (go_at_call_of 67 (Value.int IntKind.i64 (2 : Int)); refine (RefPut_yes _ 2 2 [m.t, m.cd] s 2 _ hlit.out (by omega) hfs.out).mono ?_; rintro e w1 ⟨A1, c1, rfl, ho1, hB1⟩)
    | fail)
  have hBt1 := (hb0.out.alloc hb0.out.size (.cells #[.int .u8 m.t, .int .u8 m.cd] 5)).trans (hB1.mono (by have := hb0.out.size; simp; omega))
  have hv1 := (hvb.out.alloc (.cells #[.int .u8 m.t, .int .u8 m.cd] 5)).below hB1 (by simp; omega)
  have hF : ∀ W, Below w1.heap.size w1 W → W.cell? ⟨w.heap.size, 2, none⟩ = some (.int .i64 m.r) ∧ W.cell? ⟨w.heap.size, 3, none⟩ = some (.slice A n c) := fun W hW => by
    have := hv1.below hW hv1.lt
    exact ⟨this.at_ 2 _ rfl, this.at_ 3 _ rfl⟩
  have hT := Lib.hid (fun W (hW : Below w1.heap.size w1 W) => hBt1.trans (hW.mono hBt1.size))
  have hg1 := Lib.hid (ho1.rb)
  have hPut : ∀ W, (W.cell? ⟨w.heap.size, 2, none⟩ = some (.int .i64 m.r) ∧ W.cell? ⟨w.heap.size, 3, none⟩ = some (.slice A n c)) ∧ Below w1.heap.size w1 W → Calls Try.prog 67 #[.slice A1 (2 + 2) c1, .int .i64 m.r, .int .i64 4] W (fun e w' => ∃ A3 c3, e = .returned (.slice A3 (2 + 2 + 4) c3) ∧ OB w' w1.heap.size A3 (2 + 2 + 4) c3 ([m.t, m.cd] ++ digL s 2 ++ digL m.r 4) ∧ ((w'.cell? ⟨w.heap.size, 2, none⟩ = some (.int .i64 m.r) ∧ w'.cell? ⟨w.heap.size, 3, none⟩ = some (.slice A n c)) ∧ Below w1.heap.size w1 w')) := fun W hW =>
    (RefPut_yes A1 (2 + 2) c1 _ m.r 4 W (hg1.out.below hW.2) (by omega) hr4.out).mono fun e w' ⟨A3, c3, he, ho, hb⟩ => ⟨A3, c3, he, ho.mono hW.2.size, heldTo hF hW hb⟩
  have hs1z := hBt1.size
  replace hPut := Lib.hid hPut
  replace hF := Lib.hid hF
  clear hBt1 hv1 ho1 hB1
  go_region_held3 (fun W => (W.cell? ⟨w.heap.size, 2, none⟩ = some (.int .i64 m.r) ∧ W.cell? ⟨w.heap.size, 3, none⟩ = some (.slice A n c)) ∧ Below w1.heap.size w1 W)
    (first | assumption | exact held0 hF.out)
    (first
    | (go_at_call 67; refine Calls.mono (hPut.out _ ?_) ?_; assumption; rintro e w3 ⟨A3, c3, rfl, ho3, hS3⟩)
    | (refine step_append_bytes (A := A3) (n := 2 + 2 + 4) (c := c3) (A' := A) (m := n) (c' := c) rfl (.tmp 18) (.tmp 20) rfl rfl rfl ho3 (hD.out _ (hT.out _ hS3.2)) (by omega) hS3.2.size ?_; intro A4 c4 w4 ho4 hg hr; have hS4 := heldGr hF.out hS3 ho3 hg; clear hg hr)
    | fail)
  go_wp2
  go_ret
  exact ⟨A4, c4, by simp, by simpa [bytesI] using ho4.mono hs1z, hT.out _ hS4.2⟩

theorem en_RefIcmpBytes (args : Array Value) (w : World) : (callFunc 54 args).run Try.prog w = .ok (.enter 54 args) w := enters Try.func54 (by kernel_rfl) (by kernel_rfl) args w

set_option maxRecDepth 100000 in
set_option maxHeartbeats 2000000 in
theorem RefIcmpBuild_any (m : IcmpP) (A : Option Addr) (n c : Nat) (w : World) (hd : RB w A n c m.data) :
    Calls Try.prog 15 #[.agg (cellsI m A n c)] w (TwoOut w (builtI? m n) (checkI m n)) := by
  have hck := RefIcmpCheck_any m A n c
  have hvb := Lib.hid (VBox.new w (cellsI m A n c) 24)
  have hb0 := Lib.hid ((Below.refl _ w).alloc (Nat.le_refl _) (.cells (cellsI m A n c) 24))
  by_cases hok : checkI m n = 0
  · unfold builtI?
    rw [if_pos hok]
    have hBy := Lib.hid (fun s W (hW : Below w.heap.size w W) (h0 : 0 ≤ s) (h1 : s ≤ 65535) => RefIcmpBytes_any m s A n c W (hd.below hW) hok h0 h1)
    obtain ⟨ht, hcd, hr, hn⟩ := checkI_ok hok
    rw [hok]
    rw [hok] at hck
    have hlen := Lib.hid hd.len
    have hbz := Lib.hid (bytesI_byts (s := 0) ht hcd hd.byt)
    have hlz := Lib.hid (bytesI_length m 0)
    have hsb := Lib.hid (sumI_bd m)
    clear hd hok
    go_enter Try.func15, Try.ntmps15
    go_wp2_with (first
      | (go_at_call 18; refine (hck _).mono ?_; rintro e w1 ⟨rfl, hB1⟩; have hv1 := hvb.out.below hB1 (by simp); have hlt1 := hv1.lt; have hBt1 := hb0.out.trans (hB1.mono (by simp)); replace hv1 := Lib.hid hv1; replace hB1 := 0)
      | fail)
    have hF : ∀ W, Below w1.heap.size w1 W → (W.cell? ⟨w.heap.size, 0, none⟩ = some (.int .i64 m.t) ∧ W.cell? ⟨w.heap.size, 1, none⟩ = some (.int .i64 m.cd) ∧ W.cell? ⟨w.heap.size, 2, none⟩ = some (.int .i64 m.r) ∧ W.cell? ⟨w.heap.size, 3, none⟩ = some (.slice A n c)) := fun W hW => by
      have := hv1.out.below hW hv1.out.lt
      exact ⟨this.at_ 0 _ rfl, this.at_ 1 _ rfl, this.at_ 2 _ rfl, this.at_ 3 _ rfl⟩
    have hT := Lib.hid (fun W (hW : Below w1.heap.size w1 W) => hBt1.trans (hW.mono hBt1.size))
    replace hF := Lib.hid hF
    replace hBt1 := 0
    go_region_held3 (fun W => (W.cell? ⟨w.heap.size, 0, none⟩ = some (.int .i64 m.t) ∧ W.cell? ⟨w.heap.size, 1, none⟩ = some (.int .i64 m.cd) ∧ W.cell? ⟨w.heap.size, 2, none⟩ = some (.int .i64 m.r) ∧ W.cell? ⟨w.heap.size, 3, none⟩ = some (.slice A n c)) ∧ Below w1.heap.size w1 W)
      (first | assumption | exact held0 hF.out | exact heldAl hF.out _ (by assumption))
      (first
      | (go_at_call_of 54 (Value.int IntKind.i64 (0 : Int)); refine (hBy.out 0 _ (hT.out _ (held0 hF.out).2) (by omega) (by omega)).mono ?_; rintro e w2 ⟨A2, c2, rfl, ho2, hB2⟩; have hS2 := heldTo hF.out (held0 hF.out) hB2; have hr2 := Lib.hid (rbb_one ho2.rb); have hs2 := hS2.2.size; replace ho2 := 0; replace hB2 := 0)
      | (go_at_call 55; refine (RefOf_any _ 1 1 [bytesI m 0] _ hr2.out (small_one hbz.out (by have := hlz.out; have := hlen.out; omega))).mono ?_; rintro e w3 ⟨rfl, hB3⟩; have hS3 := heldTo hF.out (heldAl hF.out _ hS2) hB3; replace hB3 := 0)
      | (go_at_call 54; refine (hBy.out (sumI m) _ (hT.out _ hS3.2) hsb.out.1 hsb.out.2).mono ?_; rintro e w4 ⟨A4, c4, rfl, ho4, hB4⟩; have hS4 := heldTo hF.out hS3 hB4; replace hB4 := 0)
      | fail)
    go_wp2
    go_ret2
    exact ⟨_, _, _, rfl, ho4.rb, hT.out _ hS4.2⟩
  · unfold builtI?
    rw [if_neg hok]
    have hc := checkI_code m n
    generalize checkI m n = e0 at *
    go_enter Try.func15, Try.ntmps15
    rcases hc with rfl | rfl | rfl
    · exact absurd rfl hok
    all_goals
      clear hok
      go_wp2_with (go_at_call 18; refine (hck _).mono ?_; rintro e w1 ⟨rfl, hB1⟩)
      go_ret2
      exact ⟨none, 0, 0, rfl, RB.nil _, hb0.out.trans (hB1.mono (by simp))⟩
end Go.Proofs.Ytekngoallcogpaa
