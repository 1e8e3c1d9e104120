/- Messages of ICMP, of IPv6 (icmp6, and the reference): walks of Parse. -/
import Derived.Test.YtekngoallcogpaaIcmp6BR
import Derived.Test.YtekngoallcogpaaIcmpPR
set_option linter.unusedVariables false
namespace Go.Proofs.Ytekngoallcogpaa
open Go.RowKit

def code6 (s d bs : List Int) : Int := if bs.length < 8 then 3 else if 65535 < bs.length then 6 else if own6 s d bs == 65535 then 0 else 5
def read6 (s d bs : List Int) : IcmpP := if code6 s d bs = 0 then parsedI bs else ⟨0, 0, 0, []⟩
theorem Icmp6Out.bad {w w' : World} {s d bs : List Int} {k : Int} (hk : code6 s d bs = k) (h0 : k ≠ 0) (hb : Below w.heap.size w w') : IcmpOut w (read6 s d bs) (code6 s d bs) (.returned (.tuple #[.agg #[.int .i64 0, .int .i64 0, .int .i64 0, .slice none 0 0], .int .i64 k])) w' := by
  unfold read6
  rw [hk, if_neg h0]
  exact ⟨none, 0, 0, rfl, OB.nil _ _, hb⟩


set_option maxRecDepth 100000 in
set_option maxHeartbeats 2000000 in
theorem Parse6_any (s d : List Int) (A : Option Addr) (n c : Nat) (bs : List Int) (w : World) (hs : Six s) (hd : Six d) (h : RB w A n c bs) :
    Calls Try.prog 49 #[.agg (cells6 s), .agg (cells6 d), .slice A n c] w (IcmpOut w (read6 s d bs) (code6 s d bs)) := by
  have hlen := h.len
  have hnc := h.nc
  have hcm : c ≤ 9223372036854775807 := by have := h.cm; unfold maxLen at this; omega
  have hb0 := Lib.hid ((((Below.refl _ w).alloc (Nat.le_refl _) (.cells (cells6 s) 52)).alloc (by simp) (.cells (cells6 d) 52)).alloc (by simp; omega) (.cells #[.int .i64 0, .int .i64 0, .int .i64 0, .slice none 0 0] 24))
  have k1 := Lib.hid (((Blk.new w (cells6 s) 52).alloc (.cells (cells6 d) 52)).alloc (.cells #[.int .i64 0, .int .i64 0, .int .i64 0, .slice none 0 0] 24))
  have k2 := (Blk.new (w.alloc (.cells (cells6 s) 52)) (cells6 d) 52).alloc (.cells #[.int .i64 0, .int .i64 0, .int .i64 0, .slice none 0 0] 24)
  have k3 := Blk.new ((w.alloc (.cells (cells6 s) 52)).alloc (.cells (cells6 d) 52)) #[.int .i64 0, .int .i64 0, .int .i64 0, .slice none 0 0] 24
  rw [World.size_alloc] at k2
  rw [World.size_alloc, World.size_alloc] at k3
  replace k2 := Lib.hid k2
  replace k3 := Lib.hid k3
  have i1 := Lib.hid (info_six6 hs)
  have i2 := Lib.hid (info_six6 hd)
  by_cases h8 : n < 8
  · have hk := Lib.hid (show code6 s d bs = 3 by unfold code6; rw [hlen, if_pos h8])
    clear h hlen
    go_enter Try.func49, Try.ntmps49
    go_wp2
    exact bodyPost_ret (v := .tuple #[.agg #[.int .i64 0, .int .i64 0, .int .i64 0, .slice none 0 0], .int .i64 3]) (by simp [results, Try.results49, go_sem]) rfl (Icmp6Out.bad hk.out (by decide) hb0.out)
  · by_cases h9 : 65535 < n
    · have hk := Lib.hid (show code6 s d bs = 6 by unfold code6; rw [hlen, if_neg h8, if_pos h9])
      clear h hlen
      go_enter Try.func49, Try.ntmps49
      go_wp2
      exact bodyPost_ret (v := .tuple #[.agg #[.int .i64 0, .int .i64 0, .int .i64 0, .slice none 0 0], .int .i64 6]) (by simp [results, Try.results49, go_sem]) rfl (Icmp6Out.bad hk.out (by decide) hb0.out)
    · have hO := Lib.hid (fun W (hW : Below w.heap.size w W) => own6_any s d A n c bs W hs hd (h.below hW) (by omega))
      cases hq : (own6 s d bs == 65535)
      · have hk := Lib.hid (show code6 s d bs = 5 by unfold code6; rw [hlen, if_neg h8, if_neg h9, hq]; rfl)
        have hne : ¬ own6 s d bs = 65535 := by simpa using hq
        generalize own6 s d bs = ow at *
        replace hq := 0
        clear h hlen
        go_enter Try.func49, Try.ntmps49
        go_wp2_with (first
          | (refine wpList_load_row rfl 52 (.tmp 3) rfl w.heap.size rfl _ (cells6 s) _ _ k1.out.at_ Try.underlying52 rfl i1.out ?_)
          | (refine wpList_load_row rfl 52 (.tmp 4) rfl (w.heap.size + 1) rfl _ (cells6 d) _ _ k2.out.at_ Try.underlying52 rfl i2.out ?_)
          | (go_at_call 71; refine (hO.out _ hb0.out).mono ?_; rintro e w1 ⟨rfl, hB1⟩; have hv1 := k3.out.to hB1; have hlt1 := hv1.lt; obtain ⟨⟨z0, z1, z2, z3⟩, f0, f1, f2, f3⟩ := hv1.z4; have hBt := hb0.out.trans (hB1.mono hb0.out.size); replace hB1 := 0; replace hv1 := 0)
          | fail)
        have hfold : ((((w1.setCell ⟨(w.heap.size + 1 + 1), 0, none⟩ (.int .i64 0)).setCell ⟨(w.heap.size + 1 + 1), 1, none⟩ (.int .i64 0)).setCell ⟨(w.heap.size + 1 + 1), 2, none⟩ (.int .i64 0)).setCell ⟨(w.heap.size + 1 + 1), 3, none⟩ (.slice none 0 0)) = set4 w1 (w.heap.size + 1 + 1) (.int .i64 0) (.int .i64 0) (.int .i64 0) (.slice none 0 0) := rfl
        rw [hfold]
        obtain ⟨r0, r1, r2, r3⟩ := set4_at w1 (w.heap.size + 1 + 1) (.int .i64 0) (.int .i64 0) (.int .i64 0) (.slice none 0 0) z0 z1 z2 z3
        have hbf := below_set4 (B := (w.heap.size + 1 + 1)) hBt (by omega) (.int .i64 0) (.int .i64 0) (.int .i64 0) (.slice none 0 0)
        clear hfold z0 z1 z2 z3 f0 f1 f2 f3 hBt
        generalize set4 w1 (w.heap.size + 1 + 1) (.int .i64 0) (.int .i64 0) (.int .i64 0) (.slice none 0 0) = Wf at *
        exact bodyPost_ret (v := .tuple #[.agg #[(.int .i64 0), (.int .i64 0), (.int .i64 0), (.slice none 0 0)], .int .i64 5]) (by simp [results, Try.results49, go_sem, r0, r1, r2, r3]) rfl (Icmp6Out.bad hk.out (by decide) hbf)
      · have hk := Lib.hid (show code6 s d bs = 0 by unfold code6; rw [hlen, if_neg h8, if_neg h9, hq]; rfl)
        have how : own6 s d bs = 65535 := by simpa using hq
        rw [how] at hO
        replace how := 0
        replace hq := Lib.hid hq
        obtain ⟨b, off, rfl, hbl, hc⟩ := h.mem (by omega)
        have hc0 := Lib.hid (hc 0 (by omega))
        have hc1 := Lib.hid (hc 1 (by omega))
        have y0 := h.byt.get 0
        have y1 := h.byt.get 1
        have hG := Lib.hid (fun W (hW : Below w.heap.size w W) => Get_any _ n c bs 4 4 W (h.below hW) (by omega))
        have hda := h.drop_any 8 (by omega)
        obtain ⟨A8, hif⟩ : ∃ A8, (if c = 8 then some (⟨b, off, none⟩ : Addr) else some ⟨b, off + 8, none⟩) = A8 := ⟨_, rfl⟩
        rw [hif] at hda
        have hCl0 := Lib.hid (fun W (hW : Below w.heap.size w W) => Clone_any _ (n - 8) (c - 8) (bs.drop 8) W (hda.below hW) (by omega))
        replace hda := 0
        have hpar := Lib.hid (show parsedI bs = ⟨bs[0]?.getD 0, bs[1]?.getD 0, (getV bs 4 4).1, bs.drop 8⟩ from rfl)
        clear h hlen hc
        generalize bs[0]?.getD 0 = x0 at *
        generalize bs[1]?.getD 0 = x1 at *
        generalize (getV bs 4 4).1 = x2 at *
        generalize (getV bs 4 4).2 = x3 at *
        have hi4 : ¬ n = 0 := by omega
        have hw0 : IntKind.i64.wrap x0 = x0 := by rw [IntKind.wrap_i64]; omega
        have hw1 : IntKind.i64.wrap x1 = x1 := by rw [IntKind.wrap_i64]; omega
        have hi0 : 0 < n := by omega
        have hi1 : 1 < n := by omega
        have hi8 : 8 ≤ n := by omega
        have hi8' : (8 : Int) ≤ n := by omega
        have hi1' : (1 : Int) < n := by omega
        go_enter Try.func49, Try.ntmps49
        go_wp2_with (first
          | (refine wpList_load_row rfl 52 (.tmp 3) rfl w.heap.size rfl _ (cells6 s) _ _ k1.out.at_ Try.underlying52 rfl i1.out ?_)
          | (refine wpList_load_row rfl 52 (.tmp 4) rfl (w.heap.size + 1) rfl _ (cells6 d) _ _ k2.out.at_ Try.underlying52 rfl i2.out ?_)
          | (go_at_call 71; refine (hO.out _ hb0.out).mono ?_; rintro e w1 ⟨rfl, hB1⟩; have hv1 := Lib.hid (k3.out.to hB1); have hlt1 := hv1.out.lt; have hBt := Lib.hid (hb0.out.trans (hB1.mono hb0.out.size)); replace hB1 := 0)
          | (go_at_call 59; refine (hG.out _ hBt.out).mono ?_; rintro e w' ⟨rfl, rfl⟩)
          | fail)
        have hF : ∀ W, Below w.heap.size w W → (W.cell? ⟨b, off, none⟩ = some (.int .u8 x0) ∧ W.cell? ⟨b, off + 1, none⟩ = some (.int .u8 x1)) := fun W hWt =>
          ⟨by have := (hWt.cell (p := ⟨b, off + 0, none⟩) hbl).trans hc0.out; simpa using this, (hWt.cell (p := ⟨b, off + 1, none⟩) hbl).trans hc1.out⟩
        replace hF := Lib.hid hF
        go_region_held3 (fun W => (W.cell? ⟨b, off, none⟩ = some (.int .u8 x0) ∧ W.cell? ⟨b, off + 1, none⟩ = some (.int .u8 x1)) ∧ Below w.heap.size w W)
          (first | assumption | exact heldIf hF.out hBt.out.drew | exact heldIf hF.out (below_set4 hB3.out (Nat.le_trans (Nat.le_succ _) (Nat.le_succ _)) _ _ _ _))
          (first
          | (go_at_call 60; refine (hCl0.out _ hBt.out.drew).mono ?_; rintro e w3 ⟨A3, c3, rfl, ho3, hb3⟩; obtain ⟨⟨z0, z1, z2, z3⟩, f0, f1, f2, f3⟩ := (hv1.out.drew.to hb3).z4; have hB3 := Lib.hid (hBt.out.drew.trans (hb3.mono hBt.out.drew.size)); have hS3 := heldIf hF.out hB3.out; have hlt3 := (hv1.out.drew.to hb3).lt; replace hb3 := 0)
          | fail)
        go_wp2
        have hBt3 := hB3.out
        replace hBt := 0
        have hob := Lib.hid ((ho3.mono (base' := w1.heap.size) (by simp)).set4 (B := w.heap.size + 1 + 1) (by omega) (.int .i64 x0) (.int .i64 x1) (.int .i64 x2) (.slice A3 (n - 8) c3))
        replace hBt := hBt3
        have hfold : ((((w3.setCell ⟨(w.heap.size + 1 + 1), 0, none⟩ (.int .i64 x0)).setCell ⟨(w.heap.size + 1 + 1), 1, none⟩ (.int .i64 x1)).setCell ⟨(w.heap.size + 1 + 1), 2, none⟩ (.int .i64 x2)).setCell ⟨(w.heap.size + 1 + 1), 3, none⟩ (.slice A3 (n - 8) c3)) = set4 w3 (w.heap.size + 1 + 1) (.int .i64 x0) (.int .i64 x1) (.int .i64 x2) (.slice A3 (n - 8) c3) := rfl
        rw [hfold]
        obtain ⟨r0, r1, r2, r3⟩ := set4_at w3 (w.heap.size + 1 + 1) (.int .i64 x0) (.int .i64 x1) (.int .i64 x2) (.slice A3 (n - 8) c3) z0 z1 z2 z3
        have hbf := below_set4 (B := (w.heap.size + 1 + 1)) hBt (by omega) (.int .i64 x0) (.int .i64 x1) (.int .i64 x2) (.slice A3 (n - 8) c3)
        clear hfold z0 z1 z2 z3 f0 f1 f2 f3 hBt
        generalize set4 w3 (w.heap.size + 1 + 1) (.int .i64 x0) (.int .i64 x1) (.int .i64 x2) (.slice A3 (n - 8) c3) = Wf at *
        exact bodyPost_ret (v := .tuple #[.agg #[(.int .i64 x0), (.int .i64 x1), (.int .i64 x2), (.slice A3 (n - 8) c3)], .int .i64 0]) (by simp [results, Try.results49, go_sem, r0, r1, r2, r3]) rfl ((by unfold read6; rw [hk.out, if_pos rfl, hpar.out]; exact ⟨A3, n - 8, c3, rfl, hob.out.mono (by omega), hbf⟩))
end Go.Proofs.Ytekngoallcogpaa
