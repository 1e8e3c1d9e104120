/- Addresses of IPv6: sixteen bytes; results that lie in a variable; bytes as the source of a copy. -/
import Derived.Test.YtldjecilmcnpiaaMem
import Derived.Laws.CopyOwn
set_option linter.unusedVariables false
namespace Go.Proofs.Ytldjecilmcnpiaa
open Go Go.RowKit

/-- Results of which the first lies in a variable. -/
theorem results_ct {P : Program} {fn : Func} {a b : Tmp} {t : TypeId} {T : Array Value} {w : World} {g : Addr} {v : Value} (h : fn.results = #[.cell a t, .tmp b]) (ha : T.getD a undef = .pointer (some g)) (hl : (loadVar t g).run P w = .ok v w) :
    (results fn T).run P w = .ok (.tuple #[v, T.getD b undef]) w := by
  simp only [Array.getD_eq_getD_getElem?] at ha
  simp [results, h, ha, asAddr, hl]
theorem results_c {P : Program} {fn : Func} {a : Tmp} {t : TypeId} {T : Array Value} {w : World} {g : Addr} {v : Value} (h : fn.results = #[.cell a t]) (ha : T.getD a undef = .pointer (some g)) (hl : (loadVar t g).run P w = .ok v w) :
    (results fn T).run P w = .ok v w := by
  simp only [Array.getD_eq_getD_getElem?] at ha
  simp [results, h, ha, asAddr, hl]
theorem results_ctt {P : Program} {fn : Func} {a b c : Tmp} {t : TypeId} {T : Array Value} {w : World} {g : Addr} {v : Value} (h : fn.results = #[.cell a t, .tmp b, .tmp c]) (ha : T.getD a undef = .pointer (some g)) (hl : (loadVar t g).run P w = .ok v w) :
    (results fn T).run P w = .ok (.tuple #[v, T.getD b undef, T.getD c undef]) w := by
  simp only [Array.getD_eq_getD_getElem?] at ha
  simp [results, h, ha, asAddr, hl]

abbrev cells6 (s : List Int) : Array Value := (u8s s).toArray
/-- An address. -/
structure Six (s : List Int) : Prop where
  len : s.length = 16
  byt : Byts s
theorem rb_box {W : World} {B : Nat} {s : List Int} {T : TypeId} (h : Blk W B (cells6 s) T) (hs : Six s) : RB W (some ⟨B, 0, none⟩) 16 16 s :=
  rb_cells (off := 0) h.lt hs.len (by decide) hs.byt (fun j hj => by
    have := h.cell j (.int .u8 (s[j]?.getD 0)) (by rw [List.getElem?_toArray]; exact u8s_get s j (by rw [hs.len]; exact hj))
    rwa [Nat.zero_add])
theorem info_six6 {s : List Int} (hs : Six s) : (Try.prog.info? 44).map (·.size) = some (cells6 s).size := by
  have : (Try.prog.info? 44).map (·.size) = some 16 := by kernel_rfl
  rw [this]; simp [u8s_length, hs.len]

/-- Bytes, as the source of a copy. -/
theorem RB.src {w W : World} {a : Addr} {n c : Nat} {bs : List Int} (h : RB w (some a) n c bs) (hb : Below w.heap.size w W) (j : Nat) (v : Value) (hv : (u8s bs)[j]? = some v) : W.cell? (a.add j) = some v := by
  have hj : j < bs.length := by have := (List.getElem?_eq_some_iff.1 hv).1; rwa [u8s_length] at this
  have hl := h.len
  obtain ⟨b, off, e, hlt, hc⟩ := h.mem (by omega)
  cases e
  rw [u8s_get bs j hj] at hv
  rw [Go.WideShapes.add_plain, ← hv]
  exact (hb.cell (p := ⟨b, off + j, none⟩) hlt).trans (hc j (by omega))
theorem bits_mask_any (k : Nat) (hk : k ≤ 62) (x : Int) : bits .and .i64 x (2 ^ k - 1 : Int) = x % 2 ^ k := by
  have h1 : bits .and .i64 x (2 ^ k - 1 : Int) = IntKind.i64.wrap ((BitVec.ofInt 64 x &&& BitVec.ofInt 64 (2 ^ k - 1 : Int)).toNat : Int) := rfl
  have hp : (2 : Nat) ^ k ≤ 2 ^ 62 := Nat.pow_le_pow_right (by decide) hk
  have hp1 : 1 ≤ (2 : Nat) ^ k := Nat.one_le_two_pow
  have hc : ((2 : Int) ^ k) = ((2 ^ k : Nat) : Int) := by simp
  have h2 : (BitVec.ofInt 64 (2 ^ k - 1 : Int)).toNat = 2 ^ k - 1 := by
    rw [BitVec.toNat_ofInt, hc]
    have : ((2 ^ k : Nat) : Int) - 1 = ((2 ^ k - 1 : Nat) : Int) := by omega
    rw [this]
    omega
  rw [h1, BitVec.toNat_and, BitVec.toNat_ofInt, h2, Nat.and_two_pow_sub_one_eq_mod, IntKind.wrap_i64]
  have hd : (2 : Nat) ^ k ∣ 2 ^ 64 := Nat.pow_dvd_pow 2 (by omega)
  have e : ((x % ((2 ^ 64 : Nat) : Int)).toNat % 2 ^ k : Nat) = (x % 2 ^ k : Int) := by
    rw [hc, Int.natCast_emod, Int.toNat_of_nonneg (Int.emod_nonneg _ (by decide)), Int.emod_emod_of_dvd _ (Int.natCast_dvd_natCast.2 hd)]
  have hlt : (x % ((2 ^ 64 : Nat) : Int)).toNat % 2 ^ k < 2 ^ 62 := Nat.lt_of_lt_of_le (Nat.mod_lt _ hp1) hp
  rw [← e]
  generalize (x % ((2 ^ 64 : Nat) : Int)).toNat % 2 ^ k = y at *
  omega
def z16 : List Int := List.replicate 16 0
theorem z16_len : z16.length = 16 := rfl
theorem z16_byts : Byts z16 := fun x hx => by
  have := List.eq_of_mem_replicate hx
  subst this
  constructor <;> omega
end Go.Proofs.Ytldjecilmcnpiaa
