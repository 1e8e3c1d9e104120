/- Events: the law's awake. -/
import Derived.Test.YtccdbelngjonaaaEventS
set_option linter.unusedVariables false
namespace Go.Proofs.Ytccdbelngjonaaa
open Go.RowKit

theorem lit8 (w : World) : RB (w.alloc (.cells #[.int .u8 8, .int .u8 0, .int .u8 0, .int .u8 0, .int .u8 0, .int .u8 3, .int .u8 0, .int .u8 0] 5)) (some ⟨w.heap.size, 0, none⟩) 8 8 [8, 0, 0, 0, 0, 3, 0, 0] := by
  have := RB.lit w 5 [8, 0, 0, 0, 0, 3, 0, 0] (fun z hz => by simp at hz; omega) (by decide)
  simpa [u8s] using this
theorem lit9 (w : World) : RB (w.alloc (.cells #[.int .u8 8, .int .u8 0, .int .u8 0, .int .u8 0, .int .u8 0, .int .u8 3, .int .u8 0, .int .u8 0, .int .u8 1] 5)) (some ⟨w.heap.size, 0, none⟩) 9 9 [8, 0, 0, 0, 0, 3, 0, 0, 1] := by
  have := RB.lit w 5 [8, 0, 0, 0, 0, 3, 0, 0, 1] (fun z hz => by simp at hz; omega) (by decide)
  simpa [u8s] using this
theorem lit9' (w : World) : RB ((w.alloc (.cells #[.int .u8 8, .int .u8 0, .int .u8 0, .int .u8 0, .int .u8 0, .int .u8 3, .int .u8 0, .int .u8 0] 5)).alloc (.cells #[.int .u8 8, .int .u8 0, .int .u8 0, .int .u8 0, .int .u8 0, .int .u8 3, .int .u8 0, .int .u8 0, .int .u8 1] 5)) (some ⟨w.heap.size + 1, 0, none⟩) 9 9 [8, 0, 0, 0, 0, 3, 0, 0, 1] := by
  have := lit9 (w.alloc (.cells #[.int .u8 8, .int .u8 0, .int .u8 0, .int .u8 0, .int .u8 0, .int .u8 3, .int .u8 0, .int .u8 0] 5))
  rwa [World.size_alloc] at this
theorem code8 : codeE ⟨8, 0, 3, []⟩ 0 = [8, 0, 0, 0, 0, 3, 0, 0] := by decide +kernel
theorem parse9 : (parseE [8, 0, 0, 0, 0, 3, 0, 0, 1]).length = 1 := by decide +kernel

theorem equal_same (A A' : Option Addr) (n c n' c' : Nat) (bs : List Int) (w : World) (h : RB w A n c bs) (h' : RB w A' n' c' bs) :
    Calls Try.prog 26 #[.slice A n c, .slice A' n' c'] w fun e w' => e = .returned (.bool true) ∧ w = w' := by
  have := Equal_any A A' n c n' c' bs bs w h h'
  rw [show (bs == bs) = true by simp] at this
  exact this
set_option maxRecDepth 100000 in
set_option maxHeartbeats 400000 in
theorem awake36 (w : World) : Calls Try.prog 15 #[] w fun e w' => e = .returned (.bool true) ∧ Below w.heap.size w w' := by
  have hC := EvCode_any ⟨8, 0, 3, []⟩ none 0 0 w (RB.nil w) (by omega)
  rw [code8] at hC
  have hL8 := fun W => lit8 W
  have hP := fun A W (hr : RB W A 9 9 [8, 0, 0, 0, 0, 3, 0, 0, 1]) => EvParse_any A 9 9 _ W hr (by omega)
  have hL9 := fun W => lit9' W
  obtain ⟨l, hl⟩ : ∃ l, parseE [8, 0, 0, 0, 0, 3, 0, 0, 1] = l := ⟨_, rfl⟩
  have hl1 : l.length = 1 := by rw [← hl]; exact parse9
  rw [hl] at hP
  clear hl
  generalize ([8, 0, 0, 0, 0, 3, 0, 0, 1] : List Int) = b9 at *
  generalize ([8, 0, 0, 0, 0, 3, 0, 0] : List Int) = b8 at *
  replace hC := Lib.hid hC
  replace hL8 := Lib.hid hL8
  replace hL9 := Lib.hid hL9
  replace hP := Lib.hid hP
  replace hl1 := Lib.hid hl1
  go_enter Try.func15, Try.ntmps15
  go_wp2_with (first
    | (go_at_call 27; refine (hC.out).mono ?_; rintro e w1 ⟨A1, n1, c1, rfl, hr1, hB1⟩; have hb1 := Lib.hid (hB1.alloc hB1.size (.cells #[.int .u8 8, .int .u8 0, .int .u8 0, .int .u8 0, .int .u8 0, .int .u8 3, .int .u8 0, .int .u8 0] 5)); have hr2 := Lib.hid (hr1.alloc (.cells #[.int .u8 8, .int .u8 0, .int .u8 0, .int .u8 0, .int .u8 0, .int .u8 3, .int .u8 0, .int .u8 0] 5)); replace hr1 := 0; replace hB1 := 0)
    | (go_at_call 26; refine (equal_same _ _ _ _ _ _ _ _ hr2.out (hL8.out w1)).mono ?_; rintro e w2 ⟨rfl, rfl⟩)
    | (go_at_call 21; refine (hP.out _ _ (hL9.out w1)).mono ?_; rintro e w3 ⟨A3, n3, c3, rfl, hl3, hB3⟩; have hn3 := hl3.len; rw [hl1.out] at hn3; subst hn3; have hb2 := hb1.out.alloc hb1.out.size (.cells #[.int .u8 8, .int .u8 0, .int .u8 0, .int .u8 0, .int .u8 0, .int .u8 3, .int .u8 0, .int .u8 0, .int .u8 1] 5); have hb3 := Lib.hid (hb2.trans (hB3.mono hb2.size)); replace hl3 := 0; replace hB3 := 0; replace hb2 := 0)
    | fail)
  go_ret
  exact ⟨by first | rfl | simp, hb3.out⟩

end Go.Proofs.Ytccdbelngjonaaa
