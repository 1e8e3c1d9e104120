/- The law SumRight: its walk. -/
import Derived.Test.YtmoiodkehchjiaaLaw02
import Derived.Test.YtmoiodkehchjiaaPlain02
import Derived.Test.YtmoiodkehchjiaaAppend
set_option linter.unusedVariables false
namespace Go.Proofs.Ytmoiodkehchjiaa
open Go.RowKit

theorem small_one {bs : List Int} (h : Byts bs) (hl : bs.length ≤ 100000) : Small [bs] := ⟨by simp, fun b hb => by simp at hb; subst hb; exact ⟨hl, h⟩⟩
/-- A literal of one slice of bytes. -/
theorem rbb_one {w : World} {A : Option Addr} {n c : Nat} {bs : List Int} (h : RB w A n c bs) : RBB (w.alloc (.cells #[.slice A n c] 30)) (some ⟨w.heap.size, 0, none⟩) 1 1 [bs] :=
  RBB.lit w 30 [(A, n, c, bs)] (fun p hp => by simp at hp; subst hp; exact h) (by simp)
theorem RB.first_ {w : World} {A : Option Addr} {n c k : Nat} {bs : List Int} (h : RB w A n c bs) (hk : k ≤ n) : RB w A k c (bs.take k) :=
  ⟨by rw [List.length_take, h.len]; omega, by have := h.nc; omega, h.cm, h.byt.take k, h.niln, fun hk0 => by
    obtain ⟨b, off, e, hb, hc⟩ := h.mem (by omega)
    exact ⟨b, off, e, hb, fun j hj => by rw [hc j (by omega), List.getElem?_take, if_pos hj]⟩⟩

set_option maxHeartbeats 1000000 in
theorem SumRight_walk (A : Option Addr) (n c : Nat) (bs : List Int) (w : World) (h : RB w A n c bs) :
    Calls Try.prog 4 #[.slice A n c] w fun e w' => e = .returned (.bool true) ∧ Below w.heap.size w w' := by
  by_cases hn : 2000 < n
  · go_enter Try.func4, Try.ntmps4
    go_wp2_with (go_at_call 14; refine (awake02 _).mono ?_; rintro e w' ⟨rfl, hb1⟩)
    go_ret
    exact ⟨rfl, hb1⟩
  · have hkn : n / 2 * 2 ≤ n := by omega
    have hnc := h.nc
    have hcm := h.cm
    have hp := h.first_ hkn
    have hl : (bs.take (n / 2 * 2)).length = n / 2 * 2 := hp.len
    generalize bs.take (n / 2 * 2) = ds at *
    have hC := Lib.hid (BClone_any A (n / 2 * 2) c ds w hp (by omega))
    have hev : ds.length % 2 = 0 := by omega
    unfold maxLen at hcm
    replace hev := Lib.hid hev
    replace hl := Lib.hid hl
    clear h hp
    go_enter Try.func4, Try.ntmps4
    go_wp2_with fail
    refine hC.out.mono ?_
    rintro e w1 ⟨A2, c2, rfl, ho, hb⟩
    clear hC hnc hcm
    have hk2 : n / 2 * 2 ≤ 2000 := by omega
    generalize n / 2 * 2 = k at *
    have hsm := small_one ho.byt (by have := hl.out; omega)
    have ht : totalI [ds] = sumB ds := by rw [totalI_cons, totalI_nil, Int.add_zero]
    have hO := Of_any _ _ _ [ds] _ (rbb_one ho.rb) hsm
    rw [ht] at hO
    replace hO := Lib.hid hO
    have hlo := foldI_lo (sumB ds)
    have hhi := foldI_hi (sumB ds)
    have hs0 := sumB_lo ho.byt
    replace ht := Lib.hid ht
    go_wp2_with fail
    refine hO.out.mono ?_
    rintro e w2 ⟨rfl, hb2⟩
    have ho2 : OB w2 w.heap.size A2 k c2 ds := (ho.alloc _).below hb2
    have hBW : Below w.heap.size w w2 := (hb.alloc hb.size _).trans (hb2.mono (by simp; have := hb.size; omega))
    clear hO hb2 hb ho
    obtain ⟨m, hm⟩ : ∃ m, m = 65535 - foldI (sumB ds) := ⟨_, rfl⟩
    rw [← hm]
    have hm0 : 0 ≤ m := by omega
    have hm1 : m ≤ 65535 := by omega
    have hr := fold_right (sumB ds) hs0
    rw [← hm] at hr
    replace hr := Lib.hid hr
    clear hm hlo hhi hs0
    have hby : Byts [m / 256, m % 256] := fun x hx => by simp at hx; omega
    have hlit := RB.lit w2 5 [m / 256, m % 256] hby (by simp)
    go_wp2_with (at_builtin; refine wpList_append_bytes _ rfl (.tmp 18) (.tmp 25) rfl rfl rfl (ho2.alloc _) hlit (by simp; omega) (by have := hBW.size; simp; omega) ?_; intro A3 c3 w3 ho3 hg3 hr3)
    have hBW3 : Below w.heap.size w w3 := ((hBW.alloc hBW.size _).grown hg3 (by have := hBW.size; simp; omega) (fun j hj => (ho2.blk hj).1))
    have hsm3 := small_one ho3.byt (by rw [List.length_append, hl.out]; simp; omega)
    have ht3 : totalI [ds ++ [m / 256, m % 256]] = sumB ds + m := by
      rw [totalI_cons, totalI_nil, sumB_append _ _ hev.out, sumB_two]; omega
    have hR := Right_any _ _ _ _ _ (rbb_one ho3.rb) hsm3
    rw [ht3, hr.out] at hR
    replace hR := Lib.hid hR
    refine hR.out.mono ?_
    rintro e w4 ⟨rfl, hb4⟩
    go_wp2_with (go_at_call 14; refine (awake02 _).mono ?_; rintro e w' ⟨rfl, hb5⟩)
    go_ret
    have hBW4 : Below w.heap.size w w4 := (hBW3.alloc hBW3.size _).trans (hb4.mono (by have := hBW3.size; simp; omega))
    exact ⟨by simp, hBW4.trans (hb5.mono hBW4.size)⟩
end Go.Proofs.Ytmoiodkehchjiaa
