/- Packets of IPv4: v4.Check. -/
import Derived.Test.YtmbmmpbfmakfbaaV4
import Derived.Deep.Cut
import Derived.Test.YtmbmmpbfmakfbaaBase
import Derived.Test.YtmbmmpbfmakfbaaSeq
set_option linter.unusedVariables false
namespace Go.Proofs.Ytmbmmpbfmakfbaa
open Go Go.RowKit

def fitsA (p : V4P) : Bool := fitsB p.tos 1 && (fitsB p.ttl 1 && (fitsB p.pr 1 && fitsB p.id 2))
def endsA (p : V4P) : Bool := rightB p.src && rightB p.dst
def placeA (p : V4P) (n : Nat) : Bool := decide (0 ≤ p.off) && (decide (p.off ≤ 65528) && ((p.off.tmod 8 == 0) && (!p.mf || ((n : Int) % 8 == 0))))
def optsA (no : Nat) : Bool := decide ((no : Int) ≤ 40) && ((no : Int) % 4 == 0)
def okV4 (p : V4P) (no n : Nat) : Bool := fitsA p && (endsA p && (placeA p n && optsA no))
def checkV4 (p : V4P) (no n : Nat) : Int := if okV4 p no n = true then (if (65535 : Int) < 20 + no + n ∨ (65535 : Int) - n < p.off then 6 else 0) else 1
theorem en_V4Fits (args : Array Value) (w : World) : (callFunc 45 args).run Try.prog w = .ok (.enter 45 args) w := enters Try.func45 (by kernel_rfl) (by kernel_rfl) args w
theorem en_V4Right (args : Array Value) (w : World) : (callFunc 44 args).run Try.prog w = .ok (.enter 44 args) w := enters Try.func44 (by kernel_rfl) (by kernel_rfl) args w
section
variable (p : V4P) (Ao : Option Addr) (no co : Nat) (A : Option Addr) (n c : Nat) (w : World)
end
end Go.Proofs.Ytmbmmpbfmakfbaa
/- What bytes are as a packet of IPv4. No program in sight. -/
set_option linter.unusedVariables false
namespace Go.Proofs.Ytmbmmpbfmakfbaa
open Go Go.RowKit

def chk4 (p : V4P) : Int := checkV4 p p.opts.length p.data.length
theorem checkV4_ok4 {p : V4P} {no n : Nat} (h : checkV4 p no n = 0) : no ≤ 40 ∧ 20 + no + n ≤ 65535 ∧ 0 ≤ p.off ∧ p.off ≤ 65528 := by
  unfold checkV4 at h
  split at h
  · rename_i hk
    split at h
    · omega
    · unfold okV4 placeA optsA at hk
      simp only [Bool.and_eq_true, decide_eq_true_eq] at hk
      omega
  · omega
theorem checkV4_in (p : V4P) (no n : Nat) : checkV4 p no n = 0 ∨ checkV4 p no n = 1 ∨ checkV4 p no n = 6 := by
  unfold checkV4
  split
  · split <;> simp
  · simp
/-! ### Bits -/
theorem i64_bit (k : Nat) (hk : k ≤ 15) (x : Int) (h0 : 0 ≤ x) (h1 : x < 65536) : bits .and .i64 x ((2 ^ k : Nat) : Int) = if x / ((2 ^ k : Nat) : Int) % 2 = 1 then ((2 ^ k : Nat) : Int) else 0 := by
  obtain ⟨n, rfl⟩ := Int.eq_ofNat_of_zero_le h0
  have hn : n < 2 ^ 16 := by omega
  have hp : 2 ^ k < 2 ^ 16 := Nat.pow_lt_pow_right (by decide) (by omega)
  rw [(bits_nat .i64 16 (by decide) (fun m h0 h1 => wraps63 m h0 (by omega)) n (2 ^ k) hn hp).1]
  have ht : n.testBit k = decide (n / 2 ^ k % 2 = 1) := Nat.testBit_eq_decide_div_mod_eq
  have hc : ((n : Int) / ((2 ^ k : Nat) : Int) % 2 = 1) ↔ n / 2 ^ k % 2 = 1 := by
    rw [← Int.natCast_ediv]; omega
  have hv : n &&& 2 ^ k = if n / 2 ^ k % 2 = 1 then 2 ^ k else 0 := by
    apply Nat.eq_of_testBit_eq
    intro i
    rw [Nat.testBit_and, Nat.testBit_two_pow]
    by_cases hi : k = i
    · subst hi
      rw [ht]
      by_cases h : n / 2 ^ k % 2 = 1
      · rw [if_pos h]; simp [h]
      · rw [if_neg h]; simp [h]
    · split <;> simp [hi]
  rw [hv]
  by_cases h : n / 2 ^ k % 2 = 1
  · rw [if_pos (hc.2 h), if_pos h]
  · rw [if_neg (fun h' => h (hc.1 h')), if_neg h]; rfl
theorem bit13 (x : Int) (h0 : 0 ≤ x) (h1 : x < 65536) : bits .and .i64 x 8192 = if x / 8192 % 2 = 1 then 8192 else 0 := i64_bit 13 (by decide) x h0 h1
theorem bit14 (x : Int) (h0 : 0 ≤ x) (h1 : x < 65536) : bits .and .i64 x 16384 = if x / 16384 % 2 = 1 then 16384 else 0 := i64_bit 14 (by decide) x h0 h1
theorem bit15 (x : Int) (h0 : 0 ≤ x) (h1 : x < 65536) : bits .and .i64 x 32768 = if x / 32768 % 2 = 1 then 32768 else 0 := i64_bit 15 (by decide) x h0 h1
theorem low13 (x : Int) (h0 : 0 ≤ x) (h1 : x < 65536) : bits .and .i64 x 8191 = x % 8192 := i64_mask 13 (by decide) x h0 (by omega)
theorem u8_low15 (x : Int) (h0 : 0 ≤ x) (h1 : x < 256) : bits .and .u8 x 15 = x % 16 := by
  have hc : ∀ n : Fin 256, bits .and .u8 (n.val : Int) 15 = (n.val : Int) % 16 := by decide +kernel
  have := hc ⟨x.toNat, by omega⟩
  rwa [show ((⟨x.toNat, by omega⟩ : Fin 256).val : Int) = x from Int.toNat_of_nonneg h0] at this
theorem getV2_in {bs : List Int} (h : Byts bs) (a : Int) : 0 ≤ (getV bs a 2).1 ∧ (getV bs a 2).1 < 65536 := by
  unfold getV
  split
  · simp
  · split
    · simp
    · have hb : Byts (cutI bs a.toNat (2 : Int).toNat) := fun x hx => h x (by unfold cutI at hx; exact List.mem_of_mem_drop (List.mem_of_mem_take hx))
      have hl : (cutI bs a.toNat (2 : Int).toNat).length ≤ 2 := by unfold cutI; rw [List.length_take]; simp; omega
      have h1 := beNum_hi _ hb 2 hl
      exact ⟨beNum_lo _ hb, by simpa using h1⟩
theorem getV4_in {bs : List Int} (h : Byts bs) (a : Int) : 0 ≤ (getV bs a 4).1 ∧ (getV bs a 4).1 < 4294967296 := by
  unfold getV
  split
  · simp
  · split
    · simp
    · have hb : Byts (cutI bs a.toNat (4 : Int).toNat) := fun x hx => h x (by unfold cutI at hx; exact List.mem_of_mem_drop (List.mem_of_mem_take hx))
      have hl : (cutI bs a.toNat (4 : Int).toNat).length ≤ 4 := by unfold cutI; rw [List.length_take]; simp; omega
      have h1 := beNum_hi _ hb 4 hl
      exact ⟨beNum_lo _ hb, by simpa using h1⟩
theorem getV1_one {bs : List Int} {k : Nat} (h : k < bs.length) : (getV bs (k : Int) 1).1 = bs[k]?.getD 0 := by
  unfold getV
  rw [if_neg (by omega), if_neg (by omega)]
  show beNum (cutI bs (k : Int).toNat 1) = _
  unfold cutI
  rw [Int.toNat_natCast, List.drop_eq_getElem_cons h, List.getElem?_eq_getElem h, List.take_succ_cons, List.take_zero]
  simp only [beNum, List.foldl_cons, List.foldl_nil, Option.getD_some]
  omega

/-! ### What bytes are -/
def hd4 (bs : List Int) : Nat := (bs[0]?.getD 0 % 16 * 4).toNat
def sz4 (bs : List Int) : Int := (getV bs 2 2).1
def fl4 (bs : List Int) : Int := (getV bs 6 2).1
/-- What is wrong with a head. -/
def codeO (q : Bool) (bs : List Int) : Int :=
  if bs.length < 20 then 3 else if bs[0]?.getD 0 / 16 ≠ 4 ∨ hd4 bs < 20 then 4 else if bs.length < hd4 bs ∨ ((bs.length : Int) < sz4 bs ∧ q = false) then 3 else if sz4 bs < hd4 bs ∨ 32768 ≤ fl4 bs then 4 else 0
/-- Where the data end. -/
def end4 (bs : List Int) : Nat := min (sz4 bs).toNat bs.length
def pack4 (bs : List Int) : V4P :=
  ⟨bs[1]?.getD 0, (getV bs 4 2).1, fl4 bs % 8192 * 8, bs[8]?.getD 0, bs[9]?.getD 0, (getV bs 12 4).1, (getV bs 16 4).1, decide (fl4 bs / 16384 % 2 = 1), decide (fl4 bs / 8192 % 2 = 1), (bs.take (hd4 bs)).drop 20, (bs.take (end4 bs)).drop (hd4 bs)⟩
/-- What is wrong with bytes, whole (q = false) or quoted. -/
def codeV4 (q : Bool) (bs : List Int) : Int :=
  if codeO q bs ≠ 0 then codeO q bs else if q = true then 0 else if (foldI (totalI [bs.take (hd4 bs)]) == 65535) = false then 5 else if chk4 (pack4 bs) ≠ 0 then 4 else 0
def readV4 (q : Bool) (bs : List Int) : V4P := if codeV4 q bs = 0 then pack4 bs else zero4
theorem codeO_ok {q : Bool} {bs : List Int} (h : codeO q bs = 0) : 20 ≤ bs.length ∧ bs[0]?.getD 0 / 16 = 4 ∧ 20 ≤ hd4 bs ∧ hd4 bs ≤ 60 ∧ hd4 bs ≤ bs.length ∧ (hd4 bs : Int) ≤ sz4 bs ∧ fl4 bs < 32768 ∧ (q = false → sz4 bs ≤ bs.length) := by
  unfold codeO at h
  split at h
  · omega
  split at h
  · omega
  split at h
  · omega
  split at h
  · omega
  rename_i h1 h2 h3 h4
  have h6 : hd4 bs ≤ 60 := by unfold hd4; omega
  refine ⟨by omega, ?_, by omega, h6, by omega, by omega, by omega, fun hq => ?_⟩
  · exact Decidable.byContradiction fun h => h2 (.inl h)
  · exact Decidable.byContradiction fun h => h3 (.inr ⟨by omega, hq⟩)
theorem hd4_nat {bs : List Int} (h : Byts bs) : (hd4 bs : Int) = bs[0]?.getD 0 % 16 * 4 := by
  have := h.get 0
  unfold hd4; omega
/-- A packet and a code are answered. -/
def V4Out (w : World) (p : V4P) (k : Int) (e : Ending) (w' : World) : Prop :=
  ∃ Ao no co A n c, e = .returned (.tuple #[.agg (cells4 p Ao no co A n c), .int .i64 k]) ∧ OB w' w.heap.size Ao no co p.opts ∧ OB w' w.heap.size A n c p.data ∧ Below w.heap.size w w'
theorem V4Out.bad {w w' : World} {k : Int} (hb : Below w.heap.size w w') : V4Out w zero4 k (.returned (.tuple #[.agg zero4c, .int .i64 k])) w' :=
  ⟨none, 0, 0, none, 0, 0, rfl, OB.nil _ _, OB.nil _ _, hb⟩
end Go.Proofs.Ytmbmmpbfmakfbaa
