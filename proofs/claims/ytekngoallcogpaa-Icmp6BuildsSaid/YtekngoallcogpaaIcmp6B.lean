/- Messages of ICMP, of IPv6 (icmp6): walk of Build. -/
import Derived.Test.YtekngoallcogpaaIcmp6
import Derived.Test.YtekngoallcogpaaIcmpBR
set_option linter.unusedVariables false
namespace Go.Proofs.Ytekngoallcogpaa
open Go.RowKit

def sum6 (s d : List Int) (m : IcmpP) : Int := 65535 - own6 s d (bytesI m 0)
def built6 (s d : List Int) (m : IcmpP) : List Int := bytesI m (sum6 s d m)
def built6? (s d : List Int) (m : IcmpP) (n : Nat) : List Int := if checkI m n = 0 then built6 s d m else []
theorem sum6_bd (s d : List Int) (m : IcmpP) : 0 ≤ sum6 s d m ∧ sum6 s d m ≤ 65535 := by
  have := own6_bd s d (bytesI m 0)
  unfold sum6; omega
theorem bytesI_set2 (m : IcmpP) (s t : Int) : setN (bytesI m s) 2 (digL t 2) 2 = bytesI m t := by
  have hl := digL_length s 2
  unfold bytesI
  generalize digL s 2 = l at hl ⊢
  match l, hl with
  | [p, q], _ =>
    have := setN_two [m.t, m.cd] (digL m.r 4 ++ m.data) p q (digL t 2) 2 rfl (digL_length _ _)
    simpa using this

set_option maxRecDepth 100000 in
set_option maxHeartbeats 2000000 in
theorem Build6_any (s d : List Int) (m : IcmpP) (A : Option Addr) (n c : Nat) (w : World) (hs : Six s) (hd : Six d) (h : RB w A n c m.data) :
    Calls Try.prog 43 #[.agg (cells6 s), .agg (cells6 d), .agg (cellsI m A n c)] w (TwoOut w (built6? s d m n) (checkI m n)) := by
  have hb0 := Lib.hid ((((Below.refl _ w).alloc (Nat.le_refl _) (.cells (cells6 s) 52)).alloc (by simp) (.cells (cells6 d) 52)).alloc (by simp; omega) (.cells (cellsI m A n c) 24))
  have k1 := Lib.hid (((Blk.new w (cells6 s) 52).alloc (.cells (cells6 d) 52)).alloc (.cells (cellsI m A n c) 24))
  have k2 := (Blk.new (w.alloc (.cells (cells6 s) 52)) (cells6 d) 52).alloc (.cells (cellsI m A n c) 24)
  rw [World.size_alloc] at k2
  replace k2 := Lib.hid k2
  have i1 := Lib.hid (info_six6 hs)
  have i2 := Lib.hid (info_six6 hd)
  have hck := Lib.hid (fun W (hW : Below w.heap.size w W) => IcmpBuild_any m A n c W (h.below hW))
  by_cases hok : checkI m n = 0
  · unfold built6?
    rw [if_pos hok]
    obtain ⟨ht, hcd, hr, hn⟩ := checkI_ok hok
    have hbq := show builtI? m n = bytesI m (sumI m) by unfold builtI?; rw [if_pos hok]; rfl
    rw [hbq] at hck
    rw [hok] at hck ⊢
    have hlen := Lib.hid (fun x => show (bytesI m x).length = 8 + n by rw [bytesI_length, h.len])
    have hset0 := Lib.hid (bytesI_set2 m (sumI m) 0)
    have hset := Lib.hid (bytesI_set2 m 0 (sum6 s d m))
    have hsb := Lib.hid (sum6_bd s d m)
    have hb6 := show built6 s d m = bytesI m (sum6 s d m) from rfl
    have hs6 := show sum6 s d m = 65535 - own6 s d (bytesI m 0) from rfl
    have hown := Lib.hid (fun A n c W hR hn => own6_any s d A n c (bytesI m 0) W hs hd hR hn)
    rw [hb6]
    have hw64 : IntKind.i64.wrap (65535 - own6 s d (bytesI m 0)) = sum6 s d m := by
      have := own6_bd s d (bytesI m 0)
      have e : sum6 s d m = 65535 - own6 s d (bytesI m 0) := rfl
      rw [e, IntKind.wrap_i64]; omega
    generalize own6 s d (bytesI m 0) = ow at *
    generalize sum6 s d m = sm at *
    replace hb6 := 0
    replace hs6 := 0
    clear hok h hbq
    have hF0 := Lib.hid (fitsS (s := 0) (by omega) (by omega))
    go_enter Try.func43, Try.ntmps43
    go_wp2_with (first
      | (go_at_call 14; refine (hck.out _ hb0.out).mono ?_; rintro e w1 ⟨A1, n1, c1, rfl, hR1, hB1⟩; have hl1 := Lib.hid (show n1 = 8 + n from hR1.len.symm.trans (hlen.out _)); have hBt1 := Lib.hid (hb0.out.trans (hB1.mono (by simp; omega))); have q1 := Lib.hid (k1.out.below hB1 (by simp; omega)); have q2 := Lib.hid (k2.out.below hB1 (by simp)); replace hR1 := Lib.hid hR1; replace hB1 := 0)
      | (go_at_call_of 52 (Value.int IntKind.i64 (0 : Int)); refine (Set_ok _ _ _ _ 2 0 2 _ hR1.out (by have := hl1.out; omega) hF0.out (by have := hl1.out; omega)).mono ?_; rintro e w2 ⟨A2, c2, rfl, ho2, hB2⟩; rw [hset0.out] at ho2; have hr2 := Lib.hid ho2.rb; have hBt2 := Lib.hid (hBt1.out.trans (hB2.mono hBt1.out.size)); have p1 := Lib.hid (q1.out.below hB2 q1.out.lt); have p2 := Lib.hid (q2.out.below hB2 q2.out.lt); replace ho2 := 0; replace hB2 := 0)
      | (refine wpList_load_row rfl 52 (.tmp 3) rfl w.heap.size rfl _ (cells6 s) _ _ p1.out.at_ Try.underlying52 rfl i1.out ?_)
      | (refine wpList_load_row rfl 52 (.tmp 4) rfl (w.heap.size + 1) rfl _ (cells6 d) _ _ p2.out.at_ Try.underlying52 rfl i2.out ?_)
      | (go_at_call 71; refine (hown.out _ _ _ _ hr2.out (by have := hl1.out; omega)).mono ?_; rintro e w3 ⟨rfl, hB3⟩; have hr3 := Lib.hid (hr2.out.below hB3); have hBt3 := Lib.hid (hBt2.out.trans (hB3.mono hBt2.out.size)); replace hB3 := 0)
      | (go_at_call 52; refine (Set_ok _ _ _ _ 2 sm 2 _ hr3.out (by have := hl1.out; omega) (fitsS hsb.out.1 hsb.out.2) (by have := hl1.out; omega)).mono ?_; rintro e w4 ⟨A4, c4, rfl, ho4, hB4⟩)
      | fail)
    go_ret2
    rw [hset.out] at ho4
    exact ⟨_, _, _, rfl, ho4.rb, hBt3.out.trans (hB4.mono hBt3.out.size)⟩
  · unfold built6?
    rw [if_neg hok]
    have hbq := show builtI? m n = [] by unfold builtI?; rw [if_neg hok]
    rw [hbq] at hck
    have hc := checkI_code m n
    generalize checkI m n = e0 at *
    go_enter Try.func43, Try.ntmps43
    rcases hc with rfl | rfl | rfl
    · exact absurd rfl hok
    all_goals
      clear hok
      go_wp2_with (go_at_call 14; refine (hck.out _ hb0.out).mono ?_; rintro e w1 ⟨A1, n1, c1, rfl, hR1, hB1⟩)
      go_ret2
      exact ⟨none, 0, 0, rfl, RB.nil _, hb0.out.trans (hB1.mono (by simp; omega))⟩
end Go.Proofs.Ytekngoallcogpaa
