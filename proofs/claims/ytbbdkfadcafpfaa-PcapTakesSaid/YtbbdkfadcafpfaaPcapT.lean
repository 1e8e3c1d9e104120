/- Captures: walks of Took, and of the reference's. -/
import Derived.Test.YtbbdkfadcafpfaaPcapF
import Derived.Test.YtbbdkfadcafpfaaOuts
import Derived.Test.YtbbdkfadcafpfaaAppend
set_option linter.unusedVariables false
namespace Go.Proofs.Ytbbdkfadcafpfaa
open Go Go.RowKit

theorem pbits_mask (k : Nat) (hk : k ≤ 62) (x : Int) : bits .and .i64 x (2 ^ k - 1 : Int) = x % 2 ^ k := by
  have h1 : bits .and .i64 x (2 ^ k - 1 : Int) = IntKind.i64.wrap ((BitVec.ofInt 64 x &&& BitVec.ofInt 64 (2 ^ k - 1 : Int)).toNat : Int) := rfl
  have hp : (2 : Nat) ^ k ≤ 2 ^ 62 := Nat.pow_le_pow_right (by decide) hk
  have hp1 : 1 ≤ (2 : Nat) ^ k := Nat.one_le_two_pow
  have hc : ((2 : Int) ^ k) = ((2 ^ k : Nat) : Int) := by simp
  have h2 : (BitVec.ofInt 64 (2 ^ k - 1 : Int)).toNat = 2 ^ k - 1 := by
    rw [BitVec.toNat_ofInt, hc]
    have : ((2 ^ k : Nat) : Int) - 1 = ((2 ^ k - 1 : Nat) : Int) := by omega
    rw [this]
    omega
  rw [h1, BitVec.toNat_and, BitVec.toNat_ofInt, h2, Nat.and_two_pow_sub_one_eq_mod, IntKind.wrap_i64]
  have hd : (2 : Nat) ^ k ∣ 2 ^ 64 := Nat.pow_dvd_pow 2 (by omega)
  have e : ((x % ((2 ^ 64 : Nat) : Int)).toNat % 2 ^ k : Nat) = (x % 2 ^ k : Int) := by
    rw [hc, Int.natCast_emod, Int.toNat_of_nonneg (Int.emod_nonneg _ (by decide)), Int.emod_emod_of_dvd _ (Int.natCast_dvd_natCast.2 hd)]
  have hlt : (x % ((2 ^ 64 : Nat) : Int)).toNat % 2 ^ k < 2 ^ 62 := Nat.lt_of_lt_of_le (Nat.mod_lt _ hp1) hp
  rw [← e]
  generalize (x % ((2 ^ 64 : Nat) : Int)).toNat % 2 ^ k = y at *
  omega
theorem pmod_any (x b : Int) (hb : 0 < b) : -b < x.tmod b ∧ x.tmod b < b ∧ (x.tmod b + b).tmod b = x % b := by
  rcases Int.le_total 0 x with h | h
  · have h0 := Int.emod_nonneg x (show b ≠ 0 by omega)
    have h1 := Int.emod_lt_of_pos x hb
    rw [Int.tmod_eq_emod_of_nonneg h]
    refine ⟨by omega, h1, ?_⟩
    rw [Int.tmod_eq_emod_of_nonneg (by omega), Int.add_emod_right, Int.emod_emod_of_dvd _ (Int.dvd_refl b)]
  · have h1 : x.tmod b = -((-x) % b) := by
      rw [← Int.tmod_eq_emod_of_nonneg (by omega : 0 ≤ -x), Int.neg_tmod, Int.neg_neg]
    have h0 := Int.emod_nonneg (-x) (show b ≠ 0 by omega)
    have h2 := Int.emod_lt_of_pos (-x) hb
    rw [h1]
    refine ⟨by omega, by omega, ?_⟩
    rw [Int.tmod_eq_emod_of_nonneg (by omega)]
    have h3 : (-x) % b = -x - b * ((-x) / b) := Int.emod_def _ _
    rw [h3]
    have : -(-x - b * ((-x) / b)) + b = x + b * ((-x) / b + 1) := by rw [Int.mul_add]; omega
    rw [this, Int.add_mul_emod_self_left]

/-- What is taken of what goes out. -/
def outQ (now : Int) (i : Nat) (o : Int × List Int) : QP := ⟨now % 4294967296, i, o.2.length, o.2⟩
def tookF (now : Int) : Nat → List (Int × List Int) → List QP
  | _, [] => []
  | i, o :: r => (if o.1 < -1 then [] else [outQ now i o]) ++ tookF now (i + 1) r
theorem tookF_append (now : Int) : ∀ (a b : List (Int × List Int)) (i : Nat), tookF now i (a ++ b) = tookF now i a ++ tookF now (i + a.length) b
  | [], b, i => rfl
  | o :: a, b, i => by
    rw [List.cons_append, tookF, tookF, tookF_append now a b (i + 1), List.append_assoc, List.length_cons, Nat.add_assoc, Nat.add_comm 1]
theorem tookF_succ {now : Int} {l : List (Int × List Int)} {k : Nat} {o : Int × List Int} (h : l[k]? = some o) : tookF now 0 (l.take (k + 1)) = tookF now 0 (l.take k) ++ (if o.1 < -1 then [] else [outQ now k o]) := by
  have hlt := (List.getElem?_eq_some_iff.1 h).1
  rw [List.take_add_one, h, Option.toList_some, tookF_append, List.length_take, Nat.min_eq_left (by omega), Nat.zero_add]
  show _ ++ ((if o.1 < -1 then [] else [outQ now k o]) ++ []) = _
  rw [List.append_nil]
theorem tookF_len (now : Int) : ∀ (l : List (Int × List Int)) (i : Nat), (tookF now i l).length ≤ l.length
  | [], _ => Nat.le_refl _
  | o :: l, i => by
    have := tookF_len now l (i + 1)
    rw [tookF, List.length_append, List.length_cons]
    split
    · simp; omega
    · simp; omega
theorem tookF_mem (now : Int) : ∀ (l : List (Int × List Int)) (i : Nat) (q : QP), q ∈ tookF now i l → ∃ j o, o ∈ l ∧ j < i + l.length ∧ q = outQ now j o
  | [], _, _, h => by cases h
  | o :: l, i, q, h => by
    rw [tookF, List.mem_append] at h
    rcases h with h | h
    · split at h
      · cases h
      · rw [List.mem_singleton] at h
        exact ⟨i, o, List.mem_cons_self .., by simp, h⟩
    · obtain ⟨j, o', h1, h2, h3⟩ := tookF_mem now l (i + 1) q h
      exact ⟨j, o', List.mem_cons_of_mem _ h1, by rw [List.length_cons]; omega, h3⟩
theorem tookF_good {now : Int} {l : List (Int × List Int)} (h1 : l.length ≤ 40) (h2 : ∀ o ∈ l, o.2.length ≤ 2000) : allR (tookF now 0 l) = true ∧ fewR (tookF now 0 l) := by
  have hm : ∀ q ∈ tookF now 0 l, goodR q = true ∧ q.data.length ≤ 2000 := fun q hq => by
    obtain ⟨j, o, h3, h4, rfl⟩ := tookF_mem now l 0 q hq
    have h5 := h2 o h3
    have a1 := Int.emod_nonneg now (show (4294967296 : Int) ≠ 0 by decide)
    have a2 := Int.emod_lt_of_pos now (show (0 : Int) < 4294967296 by decide)
    refine ⟨decide_eq_true ⟨⟨a1, a2⟩, ⟨?_, ?_⟩, ⟨?_, ?_⟩, ?_, ?_⟩, h5⟩ <;> simp only [outQ] <;> omega
  exact ⟨List.all_eq_true.2 fun q hq => (hm q hq).1, by have := tookF_len now l 0; omega, fun q hq => (hm q hq).2⟩

def TookOut (w : World) (T : TypeId) (r : List QP) (e : Ending) (w' : World) : Prop := ∃ A2 n2 c2, e = .returned (.slice A2 n2 c2) ∧ LO w' w.heap.size T A2 n2 c2 r ∧ Below w.heap.size w w'

set_option maxRecDepth 100000 in
set_option maxHeartbeats 2000000 in
theorem PTook_any (A : Option Addr) (n c : Nat) (l : List (Int × List Int)) (now : Int) (w : World) (h : LP w A n c l) (hn : n ≤ 40) (hd : ∀ o ∈ l, o.2.length ≤ 2000) :
    Calls Try.prog 47 #[.slice A n c, .int .i64 now] w (TookOut w 67 (tookF now 0 l)) := by
  have hbt := Lib.hid (Below.refl w.heap.size w)
  have hM := Lib.hid (fun i (hi : i < n) => h.mid hi)
  have hl := Lib.hid h.len
  have hnc := h.nc
  have hdat := Lib.hid hd
  have hmask : bits .and .i64 now 4294967295 = now % 4294967296 := by have := pbits_mask 32 (by decide) now; simpa using this
  unfold TookOut
  clear h hd
  go_enter Try.func47, Try.ntmps47
  go_wp2
  go_loopw [5, 6, 7, 8, 11] (fun vo _ _ _ i wr => ∃ (k : Nat) (A2 : Option Addr) (n2 c2 : Nat), k ≤ n ∧ i = .int .i64 k ∧ vo = .slice A2 n2 c2 ∧ LO wr w.heap.size 67 A2 n2 c2 (tookF now 0 (l.take k)) ∧ n2 ≤ k ∧ Below w.heap.size w wr) (fun _ _ _ _ i _ => n - (intOf i).toNat)
  case atStart => exact ⟨0, none, 0, 0, by omega, rfl, rfl, LO.nil _ _ _, by omega, hbt.out⟩
  case round =>
    obtain ⟨k, A2, n2, c2, hk, rfl, rfl, ho, hn2, hB⟩ := hrel
    by_cases hlt : k < n
    · obtain ⟨b, off, o, A1, m, c1, rfl, hbl, hq, hr, hdd⟩ := hM.out k hlt
      have hrr := Lib.hid (rangeAt_below hr hB hbl)
      have hdl := hdd.len
      have hm : m ≤ 2000 := by have := hdat.out o (List.mem_of_getElem? hq); omega
      have hmc := hdd.nc
      have htk := tookF_succ (now := now) hq
      have hdW := Lib.hid (fun W (hW : Below w.heap.size w W) => hdd.below hW)
      replace hr := 0
      replace hdd := 0
      by_cases h4 : o.1 < -1
      · rw [if_pos h4, List.append_nil] at htk
        rw [← htk] at ho
        have hd4 : decide (o.1 < (-1 : Int)) = true := decide_eq_true h4
        replace ho := Lib.hid ho
        replace htk := 0
        clear hdl hq
        go_wp2_with (first
          | (refine wpList_load_mid rfl 71 (.tmp 14) rfl b (off + k * 2) rfl [.int .i64 o.1, .slice A1 m c1] _ hrr.out Try.underlying71 rfl info_out ?_)
          | (refine wpList_store_O rfl (.tmp 7) (.tmp 15) rfl wr.heap.size (cellsO o A1 m c1) rfl rfl _ (Blk.new wr zeroOc 71) rfl rfl (one_O _ _ _ _) ?_; have hbe : Below wr.heap.size wr ((wr.alloc (.cells zeroOc 71)).setRow wr.heap.size (cellsO o A1 m c1)) := below_row ((Below.refl _ wr).alloc (Nat.le_refl _) _) (Nat.le_refl _) _; have k1 : Blk ((wr.alloc (.cells zeroOc 71)).setRow wr.heap.size (cellsO o A1 m c1)) wr.heap.size (cellsO o A1 m c1) 71 := ⟨setRow_heap _ _ _ _ _ _ (Blk.new wr zeroOc 71).at_⟩; generalize (wr.alloc (.cells zeroOc 71)).setRow wr.heap.size (cellsO o A1 m c1) = ws at *; (have hbs := Lib.hid (hB.trans (hbe.mono hB.size)); have hos := Lib.hid (ho.out.below hbe); obtain ⟨r0, r1⟩ := ocells k1); replace hbe := 0; replace k1 := Lib.hid k1)
          | fail)
        go_roundw
        case rel => exact ⟨k + 1, A2, n2, c2, by omega, by go_num, rfl, hos.out, by omega, hbs.out⟩
        case measure => simp [intOf]; omega
      · rw [if_neg h4] at htk
        have hqq : outQ now k o = ⟨now % 4294967296, k, m, o.2⟩ := by unfold outQ; rw [hdl]
        rw [hqq] at htk
        have hd4 : decide (o.1 < (-1 : Int)) = false := decide_eq_false h4
        have hmod : Int.tmod (k : Int) 1000000 = k := Int.tmod_eq_of_lt (by omega) (by omega)
        have hmin : min (m : Int) 65535 = m := by omega
        have hmcI : (m : Int) ≤ c1 := by omega
        have hob := Lib.hid (fun (k' : Nat) (hk' : ownBlk A2 = some k') => (ho.blk hk').2)
        have hob1 := Lib.hid (fun (k' : Nat) (hk' : ownBlk A2 = some k') => (ho.blk hk').1)
        have hsz0 := Lib.hid hB.size
        replace ho := Lib.hid ho
        replace htk := Lib.hid htk
        clear hdl hq hqq
        go_wp2_with (first
          | (refine wpList_load_mid rfl 71 (.tmp 14) rfl b (off + k * 2) rfl [.int .i64 o.1, .slice A1 m c1] _ hrr.out Try.underlying71 rfl info_out ?_)
          | (refine wpList_store_O rfl (.tmp 7) (.tmp 15) rfl wr.heap.size (cellsO o A1 m c1) rfl rfl _ (Blk.new wr zeroOc 71) rfl rfl (one_O _ _ _ _) ?_; have hbe : Below wr.heap.size wr ((wr.alloc (.cells zeroOc 71)).setRow wr.heap.size (cellsO o A1 m c1)) := below_row ((Below.refl _ wr).alloc (Nat.le_refl _) _) (Nat.le_refl _) _; have k1 : Blk ((wr.alloc (.cells zeroOc 71)).setRow wr.heap.size (cellsO o A1 m c1)) wr.heap.size (cellsO o A1 m c1) 71 := ⟨setRow_heap _ _ _ _ _ _ (Blk.new wr zeroOc 71).at_⟩; generalize (wr.alloc (.cells zeroOc 71)).setRow wr.heap.size (cellsO o A1 m c1) = ws at *; (have hbs := Lib.hid (hB.trans (hbe.mono hB.size)); have hos := Lib.hid (ho.out.below hbe); have hss := Lib.hid hbe.size; obtain ⟨r0, r1⟩ := ocells k1); replace hbe := 0; replace k1 := Lib.hid k1)
          | (go_at_call 55; refine (Clone_any A1 m c1 o.2 _ (hdW.out _ hbs.out) (by omega)).mono ?_; rintro e w2 ⟨A3, c3, rfl, ho3, hB2⟩; have hb2 := hbs.out.trans (hB2.mono hbs.out.size); have k2 := k1.out.to hB2; clear r0 r1; obtain ⟨r0, r1⟩ := ocells k2; have hos2 := Lib.hid ((hos.out.below hB2).alloc (.cells (cellsQ ⟨now % 4294967296, k, m, o.2⟩ A3 m c3) 67)); have ho4 := Lib.hid (ho3.alloc (.cells (cellsQ ⟨now % 4294967296, k, m, o.2⟩ A3 m c3) 67)); have hb3 := Lib.hid (hb2.alloc hb2.size (.cells (cellsQ ⟨now % 4294967296, k, m, o.2⟩ A3 m c3) 67)); replace ho3 := Lib.hid ho3; replace hB2 := 0; replace hb2 := 0; clear k2)
          | (at_builtin; refine wpList_append_lo _ rfl 52 67 (.tmp 27) (.tmp 37) rfl (.agg zeroQc) Try.underlying52 info_recz rfl rfl (g := w2.heap.size) rfl hos2.out (q := ⟨now % 4294967296, k, m, o.2⟩) (Blk.new w2 (cellsQ ⟨now % 4294967296, k, m, o.2⟩ A3 m c3) 67) ho4.out.rb (fun _ k1 hk1 e => ?_) (by omega) hb3.out.size ?_; (have h1 := (ho3.out.blk hk1).1; have h2 := hob.out k1 e; have h3 := hss.out; omega); intro A6 c6 w6 hlo6 hg6 hr6)
          | fail)
        go_roundw
        case rel => exact ⟨k + 1, A6, n2 + 1, c6, by omega, by go_num, rfl, by rw [htk.out]; exact hlo6, by omega, hb3.out.grown hg6 hb3.out.size (fun k1 hk1 => hob1.out k1 hk1)⟩
        case measure => simp [intOf]; omega
    · obtain rfl : k = n := by omega
      have hfin : l.take k = l := List.take_of_length_le (by rw [hl.out]; exact Nat.le_refl _)
      rw [hfin] at ho
      clear hfin
      replace ho := Lib.hid ho
      go_wp2
      go_ret
      exact ⟨A2, n2, c2, rfl, ho.out, hB⟩
end Go.Proofs.Ytbbdkfadcafpfaa
