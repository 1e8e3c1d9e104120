/- Arrays of bytes in a struct: loaded and compared; bytes.Equal of any bytes. -/
import Derived.Test.YtipigcpenmcaoaaEqual
import Derived.Stop.BytesEq
import Derived.Deep.MidRow
import Derived.BigFrame
set_option linter.unusedVariables false
namespace Go.Proofs.Ytipigcpenmcaoaa
open Go.RowKit

/-! ### Bytes as Lean's bytes -/
def u8of (x : Int) : UInt8 := UInt8.ofNat x.toNat
theorem u8of_inj {x y : Int} (hx : 0 ≤ x ∧ x ≤ 255) (hy : 0 ≤ y ∧ y ≤ 255) (h : u8of x = u8of y) : x = y := by
  have := congrArg UInt8.toNat h
  simp [u8of] at this
  omega
theorem map_u8of_inj : ∀ {a b : List Int}, Byts a → Byts b → a.map u8of = b.map u8of → a = b
  | [], [], _, _, _ => rfl
  | [], _ :: _, _, _, h => by simp at h
  | _ :: _, [], _, _, h => by simp at h
  | x :: a, y :: b, ha, hb, h => by
    simp only [List.map_cons, List.cons.injEq] at h
    rw [u8of_inj (ha x (by simp)) (hb y (by simp)) h.1, map_u8of_inj (fun z hz => ha z (by simp [hz])) (fun z hz => hb z (by simp [hz])) h.2]
theorem map_u8of_beq {a b : List Int} (ha : Byts a) (hb : Byts b) : (a.map u8of == b.map u8of) = (a == b) := by
  rw [Bool.eq_iff_iff]
  simp only [beq_iff_eq]
  exact ⟨map_u8of_inj ha hb, fun h => by rw [h]⟩
theorem cells_u8of {a : List Int} (ha : Byts a) : (a.map u8of).map Extern.Stop.cell = u8s a := by
  unfold u8s
  rw [List.map_map]
  refine List.map_congr_left fun x hx => ?_
  have := ha x hx
  simp [Extern.Stop.cell, u8of]
  omega
theorem str_beq {a b : List Int} (ha : Byts a) (hb : Byts b) : ((strOfNums a).toList == (strOfNums b).toList) = (a == b) := by
  rw [← map_u8of_beq ha hb, Bool.eq_iff_iff]
  simp only [beq_iff_eq]
  constructor
  · intro h
    have := h
    rw [ByteArray.toList_eq, ByteArray.toList_eq] at this
    exact this
  · intro h
    have : strOfNums a = strOfNums b := by unfold strOfNums; exact congrArg (fun l : List UInt8 => (⟨l.toArray⟩ : ByteArray)) h
    rw [this]

set_option maxHeartbeats 400000 in
theorem Equal_any (A A' : Option Addr) (n c n' c' : Nat) (bs bs' : List Int) (w : World) (h : RB w A n c bs) (h' : RB w A' n' c' bs') :
    Calls Try.prog 17 #[.slice A n c, .slice A' n' c'] w fun e w' => e = .returned (.bool (bs == bs')) ∧ w = w' := by
  have e1 := conv_bytes h
  have e2 := conv_bytes h'
  have e3 := str_beq h.byt h'.byt
  clear h h'
  go_enter Try.func17, Try.ntmps17
  go_wp2
  go_ret
  exact ⟨by first | rfl | (rw [e3]), rfl⟩
end Go.Proofs.Ytipigcpenmcaoaa
