/- Fragments of IPv4 (cut4): the kind of packets. -/
import Derived.Test.YtipigcpenmcaoaaV4
import Derived.Test.YtipigcpenmcaoaaStru
set_option linter.unusedVariables false
namespace Go.Proofs.Ytipigcpenmcaoaa
open Go Go.RowKit

/-- A packet of IPv4 in a list: what it is, and where its options and its data lie. -/
structure B4 where
  p : V4P
  ao : Option Addr
  no : Nat
  co : Nat
  a : Option Addr
  n : Nat
  c : Nat
def B4.cells (x : B4) : Array Value := cells4 x.p x.ao x.no x.co x.a x.n x.c
def kV4 : Kd where
  β := B4
  K := 11
  cells := B4.cells
  sl := fun x => [(x.ao, x.no, x.co, x.p.opts), (x.a, x.n, x.c, x.p.data)]
  ok := fun _ => True
  size := fun x _ => rfl
  one := fun x _ u hu => by
    simp [B4.cells, cells4] at hu
    rcases hu with rfl | rfl | rfl | rfl | rfl | rfl | rfl | rfl | rfl | rfl | rfl <;> rfl
  pos := by decide
/-- How many bytes of data go into a fragment. -/
def fit4 (head left : Nat) (mtu : Int) : Nat := if (head : Int) + left ≤ mtu then left else ((mtu - head) / 8 * 8).toNat
set_option maxHeartbeats 1000000 in
theorem Fit4_any (head left : Nat) (mtu : Int) (w : World) (h1 : head ≤ 60) (h2 : left ≤ 100000) (h3 : 68 ≤ mtu) (h4 : mtu ≤ 65535) :
    Calls Try.prog 102 #[.int .i64 head, .int .i64 left, .int .i64 mtu] w fun e w' => e = .returned (.int .i64 (fit4 head left mtu)) ∧ w = w' := by
  by_cases h : (head : Int) + left ≤ mtu
  · have he := Lib.hid (show (fit4 head left mtu : Int) = left by unfold fit4; rw [if_pos h])
    go_enter Try.func102, Try.ntmps102
    go_wp2
    go_ret
    exact ⟨by rw [he.out]; rfl, rfl⟩
  · have he := Lib.hid (show (fit4 head left mtu : Int) = (mtu - head) / 8 * 8 by unfold fit4; rw [if_neg h]; omega)
    have hq : (mtu - (head : Int)).tdiv 8 = (mtu - head) / 8 := Int.tdiv_eq_ediv_of_nonneg (by omega)
    go_enter Try.func102, Try.ntmps102
    go_wp2
    go_ret
    exact ⟨by rw [he.out]; rfl, rfl⟩
end Go.Proofs.Ytipigcpenmcaoaa
