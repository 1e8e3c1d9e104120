/- Captures: the law's awake. -/
import Derived.Test.YtbbdkfadcafpfaaPcapF
import Derived.Test.YtbbdkfadcafpfaaPcapPl
set_option linter.unusedVariables false
namespace Go.Proofs.Ytbbdkfadcafpfaa
open Go Go.RowKit

def q45 : QP := ⟨1, 0, 2, [7]⟩
theorem litR (w : World) : LQ ((w.alloc (.cells #[.int .u8 7] 5)).alloc (.cells #[.int .i64 1, .int .i64 0, .int .i64 2, .slice (some ⟨w.heap.size, 0, none⟩) 1 1] 67)) (some ⟨w.heap.size + 1, 0, none⟩) 1 1 [q45] := by
  have h7 : RB (w.alloc (.cells #[.int .u8 7] 5)) (some ⟨w.heap.size, 0, none⟩) 1 1 [7] := by
    have := RB.lit w 5 [7] (fun z hz => by simp at hz; omega) (by decide)
    simpa [u8s] using this
  have hk := Blk.new (w.alloc (.cells #[.int .u8 7] 5)) #[.int .i64 1, .int .i64 0, .int .i64 2, .slice (some ⟨w.heap.size, 0, none⟩) 1 1] 67
  rw [World.size_alloc] at hk
  refine ⟨rfl, Nat.le_refl _, by unfold maxLen; omega, fun _ => ⟨w.heap.size + 1, 0, rfl, hk.lt, fun i q hq => ?_⟩⟩
  match i, hq with
  | 0, hq =>
    cases hq
    exact ⟨some ⟨w.heap.size, 0, none⟩, 1, 1, ⟨hk.cell 0 _ rfl, hk.cell 1 _ rfl, hk.cell 2 _ rfl, hk.cell 3 _ rfl⟩, h7.alloc _⟩
  | i + 1, hq => simp at hq
theorem all45 : allR [q45] = true := by decide +kernel
theorem len45 : (flatR [q45]).length = 41 := by decide +kernel
theorem few45 : fewR [q45] := ⟨by decide, fun q hq => by rw [List.mem_singleton] at hq; subst hq; decide⟩
theorem built45 : builtR [q45] = flatR [q45] := by unfold builtR; rw [all45]; rfl
theorem code45 : codeR [q45] = 0 := by unfold codeR; rw [all45]; rfl

theorem pequal_same (A A' : Option Addr) (n c n' c' : Nat) (bs : List Int) (w : World) (h : RB w A n c bs) (h' : RB w A' n' c' bs) :
    Calls Try.prog 16 #[.slice A n c, .slice A' n' c'] w fun e w' => e = .returned (.bool true) ∧ w = w' := by
  have := Equal_any A A' n c n' c' bs bs w h h'
  rw [show (bs == bs) = true by simp] at this
  exact this
set_option maxRecDepth 100000 in
set_option maxHeartbeats 400000 in
theorem awake45 (w : World) : Calls Try.prog 38 #[] w fun e w' => e = .returned (.bool true) ∧ Below w.heap.size w w' := by
  have hC := PBuild_any (some ⟨w.heap.size + 1, 0, none⟩) 1 1 [q45] _ (litR w) few45
  rw [built45, code45] at hC
  have hl41 := len45
  have hP := fun A n c W (hr : RB W A n c (flatR [q45])) => PParse_any A n c _ W hr (by have := hr.len; rw [hl41] at this; omega)
  unfold PParseOut at hP
  rw [(back_R [q45] all45).1, (back_R [q45] all45).2] at hP
  generalize flatR [q45] = b41 at *
  have hb0 := Lib.hid (((Below.refl _ w).alloc (Nat.le_refl _) (.cells #[.int .u8 7] 5)).alloc (by simp) (.cells #[.int .i64 1, .int .i64 0, .int .i64 2, .slice (some ⟨w.heap.size, 0, none⟩) 1 1] 67))
  replace hC := Lib.hid hC
  replace hP := Lib.hid hP
  replace hl41 := Lib.hid hl41
  go_enter Try.func38, Try.ntmps38
  go_wp2_with (first
    | (go_at_call 39; refine (hC.out).mono ?_; rintro e w1 ⟨A1, n1, c1, rfl, hr1, hB1⟩; have hn1 := hr1.len; rw [hl41.out] at hn1; subst hn1; have hb1 := Lib.hid (hb0.out.trans (hB1.mono hb0.out.size)); replace hr1 := Lib.hid hr1; replace hB1 := 0)
    | (go_at_call 42; refine (hP.out _ _ _ _ hr1.out).mono ?_; rintro e w2 ⟨A2, n2, c2, rfl, hl2, hB2⟩; have hb2 := Lib.hid (hb1.out.trans (hB2.mono hb1.out.size)); obtain rfl : n2 = 1 := hl2.len.symm; obtain ⟨b, off, q, A3, m3, c3, rfl, hbl, hq, ⟨_, _, hc2, _⟩, _⟩ := hl2.at_ (i := 0) (by omega); cases hq; have hc3 := show w2.cell? ⟨b, off + 2, none⟩ = some (.int .i64 2) from hc2; have hnc := hl2.nc; replace hl2 := 0; replace hB2 := 0; replace hc2 := 0)
    | fail)
  go_ret
  exact ⟨by first | rfl | simp, hb2.out⟩
end Go.Proofs.Ytbbdkfadcafpfaa
