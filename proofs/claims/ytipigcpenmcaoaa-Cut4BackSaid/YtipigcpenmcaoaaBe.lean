/- Walks of numbers as bytes (be), in the program and in the reference. -/
import Derived.Test.YtipigcpenmcaoaaBase
set_option linter.unusedVariables false
namespace Go.Proofs.Ytipigcpenmcaoaa
open Go.RowKit

/-- The number that bytes are, the highest first. -/
def beNum (bs : List Int) : Int := bs.foldl (fun n x => n * 256 + x) 0
theorem beNum_snoc (bs : List Int) (x : Int) : beNum (bs ++ [x]) = beNum bs * 256 + x := by simp [beNum]
theorem beNum_lo (bs : List Int) (h : Byts bs) : 0 ≤ beNum bs := by
  induction bs using snocInd with
  | nil => simp [beNum]
  | snoc l x ih =>
    rw [beNum_snoc]
    have h1 := ih (fun y hy => h y (by simp [hy]))
    have h2 := h x (by simp)
    omega
theorem beNum_hi (bs : List Int) (h : Byts bs) (k : Nat) (hk : bs.length ≤ k) : beNum bs < 256 ^ k := by
  induction bs using snocInd generalizing k with
  | nil => simp [beNum]; exact Int.pow_pos (by decide)
  | snoc l x ih =>
    rw [beNum_snoc]
    have h2 := h x (by simp)
    obtain ⟨j, rfl⟩ : ∃ j, k = j + 1 := ⟨k - 1, by simp at hk; omega⟩
    have h1 := ih (fun y hy => h y (by simp [hy])) j (by simp at hk; omega)
    rw [Int.pow_succ]; omega
/-- The bytes from a place on. -/
def cutI (bs : List Int) (at_ size : Nat) : List Int := (bs.drop at_).take size
theorem cutI_succ (bs : List Int) (a i : Nat) (h : a + i < bs.length) : cutI bs a (i + 1) = cutI bs a i ++ [bs[a + i]?.getD 0] := by
  unfold cutI
  rw [List.take_add_one]
  congr 1
  rw [List.getElem?_drop, List.getElem?_eq_getElem h]; rfl
theorem cutI_length (bs : List Int) (a i : Nat) (h : a + i ≤ bs.length) : (cutI bs a i).length = i := by
  unfold cutI; rw [List.length_take, List.length_drop]; omega
theorem cutI_byts {bs : List Int} (h : Byts bs) (a i : Nat) : Byts (cutI bs a i) := (h.drop a).take i
theorem cutI_get (bs : List Int) (a s i : Nat) (h : i < s) : (cutI bs a s)[i]? = bs[a + i]? := by
  unfold cutI; rw [List.getElem?_take, if_pos h, List.getElem?_drop]
/-- A window of bytes that lie. -/
theorem RB.cut {w : World} {b off n c a s c' : Nat} {bs : List Int} (h : RB w (some ⟨b, off, none⟩) n c bs) (hs : a + s ≤ n) (h1 : s ≤ c') (h2 : c' ≤ maxLen) : RB w (some ⟨b, off + a, none⟩) s c' (cutI bs a s) :=
  ⟨cutI_length _ _ _ (by rw [h.len]; exact hs), h1, h2, cutI_byts h.byt _ _, fun h => by (cases h), fun hn => by
    obtain ⟨b', off', e, hlt, hc⟩ := h.mem (by omega)
    cases e
    exact ⟨b, off + a, rfl, hlt, fun j hj => by rw [cutI_get _ _ _ _ hj, Nat.add_assoc]; exact hc _ (by omega)⟩⟩

set_option maxHeartbeats 400000 in
theorem window_arg (A : Option Addr) (n c : Nat) (a s : Int) (w : World) (h : ¬ (1 ≤ s ∧ s ≤ 4) ∨ a < 0) :
    Calls Try.prog 123 #[.slice A n c, .int .i64 a, .int .i64 s] w fun e w' => e = .returned (.tuple #[.slice none 0 0, .int .i64 1]) ∧ w = w' := by
  by_cases h1 : 1 ≤ s <;> by_cases h2 : s ≤ 4 <;> by_cases h3 : a < 0
  all_goals first | (exfalso; omega) | skip
  all_goals
    clear h
    go_enter Try.func123, Try.ntmps123
    go_wp2
    go_ret2
    exact ⟨rfl, rfl⟩

set_option maxHeartbeats 400000 in
theorem window_short (A : Option Addr) (n c : Nat) (a s : Int) (w : World) (h1 : 1 ≤ s) (h2 : s ≤ 4) (h3 : 0 ≤ a) (hn : n ≤ 100000) (h : (n : Int) < a + s) :
    Calls Try.prog 123 #[.slice A n c, .int .i64 a, .int .i64 s] w fun e w' => e = .returned (.tuple #[.slice none 0 0, .int .i64 3]) ∧ w = w' := by
  by_cases h4 : (n : Int) < s
  all_goals
    have h5 : (n : Int) - s < a := by omega
    clear h
    go_enter Try.func123, Try.ntmps123
    go_wp2
    go_ret2
    exact ⟨rfl, rfl⟩

set_option maxHeartbeats 400000 in
theorem window_ok (b off n c a s : Nat) (w : World) (h1 : 1 ≤ s) (h2 : s ≤ 4) (hn : n ≤ 100000) (hc : n ≤ c) (hcm : c ≤ 9223372036854775807) (h : a + s ≤ n) :
    Calls Try.prog 123 #[.slice (some ⟨b, off, none⟩) n c, .int .i64 a, .int .i64 s] w fun e w' => e = .returned (.tuple #[.slice (some ⟨b, off + a, none⟩) s s, .int .i64 0]) ∧ w = w' := by
  have h4 : ¬ (n : Int) < s := by omega
  have h5 : ¬ (n : Int) - s < a := by omega
  have h6 : ¬ (a : Int) < 0 := by omega
  go_enter Try.func123, Try.ntmps123
  go_wp2
  go_ret2
  exact ⟨rfl, rfl⟩
end Go.Proofs.Ytipigcpenmcaoaa
