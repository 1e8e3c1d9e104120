/- Whom a filter lets in: Allow of the program and of the reference: walks. -/
import Derived.Test.YtmoiodkehchjiaaFilter2
set_option linter.unusedVariables false
namespace Go.Proofs.Ytmoiodkehchjiaa
open Go.RowKit

def byAddr (x : Int) (p : Int × Int) : Bool := p.1 == x
def byBoth (x y : Int) (p : Int × Int) : Bool := x == p.1 && y == p.2
/-- Whether a binding lets in who comes from x, port y. -/
def allowB (mode x y : Int) (l : List (Int × Int)) : Bool := if mode = 0 then true else if mode = 1 then l.any (byAddr x) else if mode = 2 then l.any (byBoth x y) else false
def Says (b : Bool) (w : World) (e : Ending) (w' : World) : Prop := e = .returned (.bool b) ∧ Below w.heap.size w w'

set_option maxHeartbeats 400000 in
theorem ContainsFunc_any (A : Option Addr) (n c B : Nat) (l : List (Int × Int)) (x y : Int) (w : World) (h : RS w A n c l) (hn : n ≤ 300) (hB : B < w.heap.size) (hx : w.cell? ⟨B, 0, none⟩ = some (.int .i64 x)) (hy : w.cell? ⟨B, 1, none⟩ = some (.int .i64 y)) :
    Calls Try.prog 46 #[.slice A n c, .func (.func 47) #[] #[.pointer (some ⟨B, 0, none⟩)]] w (Says (l.any (byAddr x)) w) := by
  have hI := Lib.hid (IndexFunc_any A n c B l x y w h hn hB hx hy)
  clear h hx hy
  go_enter Try.func46, Try.ntmps46
  go_wp2_with fail
  refine hI.out.mono ?_
  rintro e w1 ⟨r, rfl, hr, hb⟩
  replace hr := Lib.hid hr
  go_wp2
  go_ret
  exact ⟨ret_bool hr.out, hb⟩

set_option maxHeartbeats 400000 in
theorem Contains_any (A : Option Addr) (n c : Nat) (l : List (Int × Int)) (x y : Int) (w : World) (h : RS w A n c l) (hn : n ≤ 300) :
    Calls Try.prog 29 #[.slice A n c, .agg #[.int .i64 x, .int .i64 y]] w (Says (l.any (byBoth x y)) w) := by
  have hb0 : Below w.heap.size w (w.alloc (.cells #[.int .i64 x, .int .i64 y] 34)) := (Below.refl _ w).alloc (Nat.le_refl _) _
  have hI := Lib.hid (Index_any A n c l x y _ (h.below hb0) hn)
  replace hb0 := Lib.hid hb0
  clear h
  go_enter Try.func29, Try.ntmps29
  go_wp2_with fail
  refine hI.out.mono ?_
  rintro e w1 ⟨r, rfl, hr, hb⟩
  replace hr := Lib.hid hr
  go_wp2
  go_ret
  exact ⟨ret_bool hr.out, hb0.out.trans (hb.mono (by simp))⟩

set_option maxHeartbeats 1000000 in
theorem Allow_any (mode x y : Int) (A : Option Addr) (n c : Nat) (l : List (Int × Int)) (w : World) (h : RS w A n c l) (hn : n ≤ 300) :
    Calls Try.prog 25 #[.int .i64 mode, .agg #[.int .i64 x, .int .i64 y], .slice A n c] w (Says (allowB mode x y l) w) := by
  have hb0 : Below w.heap.size w (w.alloc (.cells #[.int .i64 x, .int .i64 y] 34)) := (Below.refl _ w).alloc (Nat.le_refl _) _
  have hh := h.below hb0
  by_cases h0 : mode = 0
  · subst h0
    have hA : allowB 0 x y l = true := by simp [allowB]
    rw [hA]
    clear h hh
    go_enter Try.func25, Try.ntmps25
    go_wp2
    go_ret
    exact ⟨rfl, hb0⟩
  · by_cases h1 : mode = 1
    · subst h1
      have hA : allowB 1 x y l = l.any (byAddr x) := by simp [allowB]
      rw [hA]
      have hC := Lib.hid (ContainsFunc_any A n c w.heap.size l x y _ hh hn (by simp) (by simp) (by simp))
      clear h hh
      generalize l.any (byAddr x) = b at *
      go_enter Try.func25, Try.ntmps25
      go_wp2_with fail
      refine hC.out.mono ?_
      rintro e w1 ⟨rfl, hb⟩
      go_wp2
      go_ret
      exact ⟨rfl, hb0.trans (hb.mono (by simp))⟩
    · by_cases h2 : mode = 2
      · subst h2
        have hA : allowB 2 x y l = l.any (byBoth x y) := by simp [allowB]
        rw [hA]
        have hC := Lib.hid (Contains_any A n c l x y _ hh hn)
        clear h hh
        generalize l.any (byBoth x y) = b at *
        go_enter Try.func25, Try.ntmps25
        go_wp2_with fail
        refine hC.out.mono ?_
        rintro e w1 ⟨rfl, hb⟩
        go_wp2
        go_ret
        exact ⟨rfl, hb0.trans (hb.mono (by simp))⟩
      · have hA : allowB mode x y l = false := by simp [allowB, h0, h1, h2]
        rw [hA]
        have e0 : (mode == 0) = false := by simpa using h0
        have e1 : (mode == 1) = false := by simpa using h1
        have e2 : (mode == 2) = false := by simpa using h2
        clear h hh h0 h1 h2
        go_enter Try.func25, Try.ntmps25
        go_wp2
        go_ret
        exact ⟨rfl, hb0⟩
end Go.Proofs.Ytmoiodkehchjiaa
