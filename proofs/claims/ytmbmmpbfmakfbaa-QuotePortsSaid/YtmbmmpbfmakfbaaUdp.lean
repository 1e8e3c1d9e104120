/- Datagrams (udp, and the reference): words; walks of low, mod, Pseudo, Check, Same. -/
import Derived.Test.YtmbmmpbfmakfbaaAppend
import Derived.Test.YtmbmmpbfmakfbaaTame
import Derived.Test.YtmbmmpbfmakfbaaSeq
set_option linter.unusedVariables false
namespace Go.Proofs.Ytmbmmpbfmakfbaa
open Go.RowKit

/-! ### Numbers -/
theorem mod_any (x b : Int) (hb : 0 < b) : -b < x.tmod b ∧ x.tmod b < b ∧ (x.tmod b + b).tmod b = x % b := by
  rcases Int.le_total 0 x with h | h
  · have h0 := Int.emod_nonneg x (show b ≠ 0 by omega)
    have h1 := Int.emod_lt_of_pos x hb
    rw [Int.tmod_eq_emod_of_nonneg h]
    refine ⟨by omega, h1, ?_⟩
    rw [Int.tmod_eq_emod_of_nonneg (by omega), Int.add_emod_right, Int.emod_emod_of_dvd _ (Int.dvd_refl b)]
  · have h1 : x.tmod b = -((-x) % b) := by
      rw [← Int.tmod_eq_emod_of_nonneg (by omega : 0 ≤ -x), Int.neg_tmod, Int.neg_neg]
    have h0 := Int.emod_nonneg (-x) (show b ≠ 0 by omega)
    have h2 := Int.emod_lt_of_pos (-x) hb
    rw [h1]
    refine ⟨by omega, by omega, ?_⟩
    rw [Int.tmod_eq_emod_of_nonneg (by omega), Int.add_emod_right]
    have h3 := Int.emod_add_mul_ediv (-x) b
    have : -(-x % b) = x + b * ((-x) / b) := by omega
    rw [this, Int.add_mul_emod_self_left]

theorem mod_w (x b : Int) (hb : 0 < b) (hb1 : b ≤ 4294967296) (w : World) : Calls Try.prog 55 #[.int .i64 x, .int .i64 b] w fun e w' => e = .returned (.int .i64 (x % b)) ∧ w = w' := by
  obtain ⟨h1, h2, h3⟩ := mod_any x b hb
  have hb2 : 1 ≤ b := by omega
  have hb3 : ¬ b = 0 := by omega
  have hb4 : (b == 0) = false := by simpa using hb3
  generalize x % b = y at *
  go_enter Try.func55, Try.ntmps55
  go_wp2
  go_ret
  exact ⟨by first | rfl | (rw [h3]), rfl⟩

/-- What a sum is of, too. -/
def pseudoB (src dst pr size : Int) : List Int := digL (src % 4294967296) 4 ++ digL (dst % 4294967296) 4 ++ digL (pr % 256) 2 ++ digL (size % 65536) 2
theorem pseudoB_length (a b c d : Int) : (pseudoB a b c d).length = 12 := by simp [pseudoB, digL_length]
theorem pseudoB_byts (a b c d : Int) : Byts (pseudoB a b c d) := (((digL_byts _ _).append (digL_byts _ _)).append (digL_byts _ _)).append (digL_byts _ _)
theorem fit2 {s : Int} (h0 : 0 ≤ s) (h1 : s < 65536) : fitsP s ((2 : Nat) : Int) := ⟨by omega, h0, by show _ < (256 : Int) ^ 2; omega⟩
theorem fp4 (x : Int) : fitsP (x % 4294967296) ((4 : Nat) : Int) := ⟨by omega, by omega, by show _ < (256 : Int) ^ 4; omega⟩
theorem fp2 (x : Int) : fitsP (x % 65536) ((2 : Nat) : Int) := ⟨by omega, by omega, by show _ < (256 : Int) ^ 2; omega⟩
theorem fp1 (x : Int) : fitsP (x % 256) ((1 : Nat) : Int) := ⟨by omega, by omega, by show _ < (256 : Int) ^ 1; omega⟩
theorem fp12 (x : Int) : fitsP (x % 256) ((2 : Nat) : Int) := ⟨by omega, by omega, by show _ < (256 : Int) ^ 2; omega⟩

theorem digL_two (x : Int) (h0 : 0 ≤ x) (h1 : x < 256) : digL x 2 = [0] ++ digL x 1 := by
  simp [digL, List.range_succ]; omega

set_option maxRecDepth 100000 in
set_option maxHeartbeats 1000000 in
theorem RefPseudo_any (src dst pr size : Int) (w : World) :
    Calls Try.prog 30 #[.int .i64 src, .int .i64 dst, .int .i64 pr, .int .i64 size] w (Fresh w 12 (pseudoB src dst pr size)) := by
  have h1 := Lib.hid (fp4 src)
  have h2 := Lib.hid (fp4 dst)
  have h3 := Lib.hid (fp1 pr)
  have h4 := Lib.hid (fp2 size)
  have l1 := Lib.hid (fun w => mod_w src 4294967296 (by omega) (by omega) w)
  have l2 := Lib.hid (fun w => mod_w dst 4294967296 (by omega) (by omega) w)
  have l3 := Lib.hid (fun w => mod_w pr 256 (by omega) (by omega) w)
  have l4 := Lib.hid (fun w => mod_w size 65536 (by omega) (by omega) w)
  have hp := show pseudoB src dst pr size = digL (src % 4294967296) 4 ++ digL (dst % 4294967296) 4 ++ digL (pr % 256) 2 ++ digL (size % 65536) 2 from rfl
  rw [digL_two (pr % 256) (by omega) (by omega)] at hp
  replace hp := Lib.hid hp
  generalize src % 4294967296 = a at *
  generalize dst % 4294967296 = b at *
  generalize pr % 256 = c at *
  generalize size % 65536 = d at *
  go_enter Try.func30, Try.ntmps30
  go_wp2_with fail
  refine (l1.out _).mono ?_
  rintro e w' ⟨rfl, rfl⟩
  go_wp2_with fail
  refine (RefPut_yes none 0 0 [] a 4 _ (RB.nil _) (by omega) h1.out).mono ?_
  rintro e w1 ⟨A1, c1, rfl, ho1, hB1⟩
  go_wp2_with fail
  refine (l2.out _).mono ?_
  rintro e w' ⟨rfl, rfl⟩
  go_wp2_with fail
  refine (RefPut_yes A1 _ c1 _ b 4 _ ho1.rb (by omega) h2.out).mono ?_
  rintro e w2 ⟨A2, c2, rfl, ho2, hB2⟩
  have hBt2 := hB1.trans (hB2.mono hB1.size)
  have hs2 := hBt2.size
  have hl := RB.lit w2 5 [0] (Byts.one (by omega) (by omega)) (by simp)
  simp only [u8s, List.map_cons, List.map_nil, List.length_cons, List.length_nil, Nat.zero_add] at hl
  replace ho2 := (ho2.mono hB1.size).alloc (.cells #[.int .u8 0] 5)
  have hBt2' := hBt2.alloc hBt2.size (.cells #[.int .u8 0] 5)
  replace hl := Lib.hid hl
  replace hBt2' := Lib.hid hBt2'
  replace ho1 := 0
  clear hB1 hB2 hBt2
  go_wp2_with (at_builtin; refine wpList_append_bytes _ rfl (.tmp 16) (.tmp 17) rfl rfl rfl ho2 hl.out (by omega) hBt2'.out.size ?_; intro A5 c5 w5 ho5 hg5 _; have hBt5 := hBt2'.out.grown hg5 hBt2'.out.size (fun k hk => (ho2.blk hk).1); clear hg5)
  refine (l3.out _).mono ?_
  rintro e w' ⟨rfl, rfl⟩
  go_wp2_with fail
  refine (RefPut_yes A5 _ c5 _ c 1 _ ho5.rb (by omega) h3.out).mono ?_
  rintro e w3 ⟨A3, c3, rfl, ho3, hB3⟩
  have hBt3 := hBt5.trans (hB3.mono hBt5.size)
  replace ho2 := 0
  replace ho5 := 0
  clear hBt5 hB3
  go_wp2_with fail
  refine (l4.out _).mono ?_
  rintro e w' ⟨rfl, rfl⟩
  go_wp2_with fail
  refine (RefPut_yes A3 _ c3 _ d 2 _ ho3.rb (by omega) h4.out).mono ?_
  rintro e w4 ⟨A4, c4, rfl, ho4, hB4⟩
  have hBt4 := hBt3.trans (hB4.mono hBt3.size)
  replace ho4 := ho4.mono hBt3.size
  replace ho3 := 0
  clear hBt3 hB4
  go_wp2
  go_ret
  exact ⟨A4, c4, rfl, by rw [hp.out]; simpa using ho4, hBt4⟩
end Go.Proofs.Ytmbmmpbfmakfbaa
