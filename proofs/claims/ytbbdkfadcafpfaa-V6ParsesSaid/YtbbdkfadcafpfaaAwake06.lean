/- law06's awake: walk. -/
import Derived.Test.YtbbdkfadcafpfaaParseFragR8
import Derived.Test.YtbbdkfadcafpfaaParseFrag8
import Derived.Test.YtbbdkfadcafpfaaEqual
set_option linter.unusedVariables false
namespace Go.Proofs.Ytbbdkfadcafpfaa
open Go.RowKit

def zero16 : List Int := [0, 0, 0, 0, 0, 0, 0, 0, 0, 0, 0, 0, 0, 0, 0, 0]
def wakeP : V6P := { t := 0, fl := 0, nx := 4, hp := 9, src := zero16, dst := zero16, data := [7] }
def wakeC (A : Option Addr) : Array Value := #[.int .i64 0, .int .i64 0, .int .i64 4, .int .i64 9,
  .int .u8 0, .int .u8 0, .int .u8 0, .int .u8 0, .int .u8 0, .int .u8 0, .int .u8 0, .int .u8 0, .int .u8 0, .int .u8 0, .int .u8 0, .int .u8 0, .int .u8 0, .int .u8 0, .int .u8 0, .int .u8 0,
  .int .u8 0, .int .u8 0, .int .u8 0, .int .u8 0, .int .u8 0, .int .u8 0, .int .u8 0, .int .u8 0, .int .u8 0, .int .u8 0, .int .u8 0, .int .u8 0, .int .u8 0, .int .u8 0, .int .u8 0, .int .u8 0, .slice A 1 1]
theorem lt16 {j : Nat} (h : j < 16) : j = 0 ∨ j = 1 ∨ j = 2 ∨ j = 3 ∨ j = 4 ∨ j = 5 ∨ j = 6 ∨ j = 7 ∨ j = 8 ∨ j = 9 ∨ j = 10 ∨ j = 11 ∨ j = 12 ∨ j = 13 ∨ j = 14 ∨ j = 15 := by omega
theorem byts_zero16 : Byts zero16 := by
  intro x hx
  simp [zero16] at hx
  subst hx
  constructor <;> omega
theorem wakeV (A : Option Addr) : V6V (wakeC A) wakeP A 1 1 where
  size := rfl
  h0 := rfl
  h1 := rfl
  h2 := rfl
  h3 := rfl
  hs := fun j hj => by rcases lt16 hj with rfl | rfl | rfl | rfl | rfl | rfl | rfl | rfl | rfl | rfl | rfl | rfl | rfl | rfl | rfl | rfl <;> rfl
  hd := fun j hj => by rcases lt16 hj with rfl | rfl | rfl | rfl | rfl | rfl | rfl | rfl | rfl | rfl | rfl | rfl | rfl | rfl | rfl | rfl <;> rfl
  h36 := rfl
  ls := rfl
  ld := rfl
  bs := byts_zero16
  bd := byts_zero16

theorem byts_wake : Byts [4, 0, 0, 9, 0, 0, 0, 1] := by
  intro x hx
  simp at hx
  rcases hx with rfl | rfl | rfl | rfl | rfl | rfl | rfl | rfl <;> constructor <;> omega
theorem wake_code : checkV wakeP 1 = 0 := by decide
theorem wake_bytes : bytesV wakeP = [96, 0, 0, 0, 0, 1, 4, 9] ++ zero16 ++ zero16 ++ [7] := by decide
theorem wake_ok : okF 4 8 1 := by decide
theorem wake_frag : bytesF? 4 8 1 true = [4, 0, 0, 9, 0, 0, 0, 1] := by
  unfold bytesF?
  rw [if_pos wake_ok]
  decide
theorem wake_fcode : codeF 4 8 1 = 0 := by unfold codeF; rw [if_pos wake_ok]

set_option maxRecDepth 100000 in
set_option maxHeartbeats 2000000 in
theorem awake06 (w : World) : Calls Try.prog 13 #[] w fun e w' => e = .returned (.bool true) ∧ Below w.heap.size w w' := by
  have hl := RB.lit w 5 [7] (Byts.one (by omega) (by omega)) (by simp)
  simp only [u8s, List.map_cons, List.map_nil, List.length_cons, List.length_nil, Nat.zero_add] at hl
  have hb0 := (Below.refl w.heap.size w).alloc (Nat.le_refl _) (.cells #[.int .u8 7] 5)
  have hs0 : w.heap.size ≤ (w.alloc (.cells #[.int .u8 7] 5)).heap.size := by simp
  replace hb0 := Lib.hid hb0
  replace hl := Lib.hid hl
  replace hs0 := Lib.hid hs0
  have hV := V6Build_any _ _ _ 1 1 (w.alloc (.cells #[.int .u8 7] 5)) (wakeV (some ⟨w.heap.size, 0, none⟩)) hl.out
  rw [wake_code, if_pos rfl, wake_bytes] at hV
  have hFr := fun w => BuildFrag_any 4 8 1 true w
  rw [wake_frag, wake_fcode] at hFr
  unfold wakeC at hV
  go_enter Try.func13, Try.ntmps13
  go_wp2_with (first
    | (go_at_call 14; refine hV.mono ?_; rintro e w1 ⟨A1, n1, c1, rfl, hr1, hB1⟩; have hn1 := hr1.len; obtain rfl : n1 = 41 := hn1.symm; obtain ⟨b1, o1, rfl, hb1, hc1⟩ := hr1.mem (by decide); have hz1 : w1.cell? ⟨b1, o1, none⟩ = some (.int .u8 96) := hc1 0 (by decide); clear hc1 hr1)
    | (go_at_call 23; refine (hFr _).mono ?_; rintro e w2 ⟨A2, n2, c2, rfl, hr2, hB2⟩; have hz2 := (hB2.cell (p := ⟨b1, o1, none⟩) hb1).trans hz1; have hl2 := RB.lit w2 5 [4, 0, 0, 9, 0, 0, 0, 1] byts_wake (by decide); have hr3 := hr2.alloc (.cells (u8s [4, 0, 0, 9, 0, 0, 0, 1]).toArray 5); have hbe := ((hb0.out.trans (hB1.mono hs0.out)).trans (hB2.mono (hb0.out.trans (hB1.mono hs0.out)).size)); have hbf := hbe.alloc hbe.size (.cells (u8s [4, 0, 0, 9, 0, 0, 0, 1]).toArray 5); simp only [u8s, List.map_cons, List.map_nil, List.length_cons, List.length_nil, Nat.zero_add, Nat.reduceAdd] at hl2 hr3 hbf; replace hl2 := Lib.hid hl2; replace hr3 := Lib.hid hr3; replace hbf := Lib.hid hbf; clear hbe hr2 hB2 hz1)
    | (go_at_call 16; refine (Equal_same _ _ _ _ _ _ _ _ hr3.out hl2.out).mono ?_; rintro e w3 ⟨rfl, rfl⟩))
  go_ret
  exact ⟨rfl, hbf.out⟩
end Go.Proofs.Ytbbdkfadcafpfaa
