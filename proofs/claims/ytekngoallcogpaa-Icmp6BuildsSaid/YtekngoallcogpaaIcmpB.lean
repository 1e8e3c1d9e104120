/- Messages of ICMP (icmp, and the reference): walks of Build. -/
import Derived.Test.YtekngoallcogpaaIcmp
import Derived.Test.YtekngoallcogpaaSet
import Derived.Test.YtekngoallcogpaaAdd
import Derived.Test.YtekngoallcogpaaMem
set_option linter.unusedVariables false
namespace Go.Proofs.Ytekngoallcogpaa
open Go.RowKit

/-- A message's bytes, with a sum. -/
def bytesI (m : IcmpP) (s : Int) : List Int := [m.t, m.cd] ++ digL s 2 ++ digL m.r 4 ++ m.data
def sumI (m : IcmpP) : Int := 65535 - foldI (totalI [bytesI m 0])
def builtI (m : IcmpP) : List Int := bytesI m (sumI m)
def builtI? (m : IcmpP) (n : Nat) : List Int := if checkI m n = 0 then builtI m else []

theorem setN_two (xs ys : List Int) (p q : Int) (zs : List Int) (a : Nat) (ha : xs.length = a) (hz : zs.length = 2) : setN (xs ++ [p, q] ++ ys) a zs 2 = xs ++ zs ++ ys := by
  match zs, hz with
  | [z0, z1], _ =>
    subst ha
    simp [setN]
theorem digL_zero2 : digL 0 2 = [0, 0] := by decide
theorem bytesI_zero (m : IcmpP) : bytesI m 0 = [m.t, m.cd, 0, 0] ++ digL m.r 4 ++ m.data := by simp [bytesI, digL_zero2]
theorem bytesI_set (m : IcmpP) (s : Int) : setN (bytesI m 0) 2 (digL s 2) 2 = bytesI m s := by
  have := setN_two [m.t, m.cd] (digL m.r 4 ++ m.data) 0 0 (digL s 2) 2 rfl (digL_length _ _)
  rw [bytesI_zero]
  simpa [bytesI] using this
theorem bytesI_length (m : IcmpP) (s : Int) : (bytesI m s).length = 8 + m.data.length := by simp [bytesI, digL_length]; omega
theorem fitsS {s : Int} (h0 : 0 ≤ s) (h1 : s ≤ 65535) : fitsP s ((2 : Nat) : Int) := ⟨by omega, h0, by show _ < (256 : Int) ^ 2; omega⟩
theorem fits4n {x : Int} (h0 : 0 ≤ x) (h1 : x < 4294967296) : fitsP x ((4 : Nat) : Int) := ⟨by omega, h0, by show _ < (256 : Int) ^ 4; omega⟩
theorem sumI_bd (m : IcmpP) : 0 ≤ sumI m ∧ sumI m ≤ 65535 := by
  have h1 := foldI_lo (totalI [bytesI m 0])
  have h2 := foldI_hi (totalI [bytesI m 0])
  unfold sumI; omega
theorem bytesI_byts {m : IcmpP} {s : Int} (h0 : 0 ≤ m.t ∧ m.t < 256) (h1 : 0 ≤ m.cd ∧ m.cd < 256) (hd : Byts m.data) : Byts (bytesI m s) :=
  (((Byts.two h0.1 h0.2 h1.1 h1.2).append (digL_byts _ _)).append (digL_byts _ _)).append hd
theorem byts4 {a b c d : Int} (h0 : 0 ≤ a ∧ a < 256) (h1 : 0 ≤ b ∧ b < 256) (h2 : 0 ≤ c ∧ c < 256) (h3 : 0 ≤ d ∧ d < 256) : Byts [a, b, c, d] := by
  intro z hz
  simp at hz
  rcases hz with rfl | rfl | rfl | rfl <;> constructor <;> omega
theorem lit4 (W : World) (a b c d : Int) (h : Byts [a, b, c, d]) : RB (W.alloc (.cells #[.int .u8 a, .int .u8 b, .int .u8 c, .int .u8 d] 5)) (some ⟨W.heap.size, 0, none⟩) 4 4 [a, b, c, d] := by
  have := RB.lit W 5 [a, b, c, d] h (by simp)
  simpa [u8s] using this
theorem lit2 (W : World) (a b : Int) (h : Byts [a, b]) : RB (W.alloc (.cells #[.int .u8 a, .int .u8 b] 5)) (some ⟨W.heap.size, 0, none⟩) 2 2 [a, b] := by
  have := RB.lit W 5 [a, b] h (by simp)
  simpa [u8s] using this


set_option maxHeartbeats 2000000 in
theorem IcmpBuild_any (m : IcmpP) (A : Option Addr) (n c : Nat) (w : World) (hd : RB w A n c m.data) :
    Calls Try.prog 14 #[.agg (cellsI m A n c)] w (TwoOut w (builtI? m n) (checkI m n)) := by
  have hck := IcmpCheck_any m A n c
  have hvb := Lib.hid (VBox.new w (cellsI m A n c) 24)
  have hb0 := Lib.hid ((Below.refl _ w).alloc (Nat.le_refl _) (.cells (cellsI m A n c) 24))
  by_cases hok : checkI m n = 0
  · unfold builtI?
    rw [if_pos hok]
    obtain ⟨ht, hcd, hr, hn⟩ := checkI_ok hok
    rw [hok]
    rw [hok] at hck
    have hby := byts4 ht hcd (c := 0) (d := 0) (by omega) (by omega)
    have hlit := Lib.hid (fun W => lit4 W m.t m.cd 0 0 hby)
    have hwt : IntKind.u8.wrap m.t = m.t := by rw [IntKind.wrap_u8]; omega
    have hwc : IntKind.u8.wrap m.cd = m.cd := by rw [IntKind.wrap_u8]; omega
    have hr4 := Lib.hid (fits4n hr.1 hr.2)
    have hlen := Lib.hid hd.len
    have hD := Lib.hid (fun W (hW : Below w.heap.size w W) => hd.below hW)
    have hbz := Lib.hid (bytesI_byts (s := 0) ht hcd hd.byt)
    have hlz := Lib.hid (bytesI_length m 0)
    have hez := Lib.hid (bytesI_zero m)
    have hsb := Lib.hid (sumI_bd m)
    have hset := Lib.hid (bytesI_set m (sumI m))
    clear hd hok
    go_enter Try.func14, Try.ntmps14
    go_wp2_with (first
      | (go_at_call 17; refine (hck _).mono ?_; rintro e w1 ⟨rfl, hB1⟩; have hv1 := hvb.out.below hB1 (by simp); have z0 := hv1.at_ 0 _ rfl; have z1 := hv1.at_ 1 _ rfl; have z2 := hv1.at_ 2 _ rfl; have hlt1 := hv1.lt; have hBt1 := hb0.out.trans (hB1.mono (by simp)); replace hv1 := Lib.hid hv1; replace hB1 := 0)
      | (go_at_call 51; refine (Put_yes _ 4 4 [m.t, m.cd, 0, 0] m.r 4 _ (hlit.out w1) (by omega) hr4.out).mono ?_; rintro e w2 ⟨A2, c2, rfl, ho2, hB2⟩; have hBt2 := (hBt1.alloc hBt1.size (.cells #[.int .u8 m.t, .int .u8 m.cd, .int .u8 0, .int .u8 0] 5)).trans (hB2.mono (by have := hBt1.size; simp; omega)); have hv2 := (hv1.out.alloc _).below hB2 (by have := hv1.out.lt; simp; omega); have y3 := hv2.at_ 3 _ rfl; have hrd := Lib.hid (hD.out _ hBt2); have hs2 := hBt2.size; replace hv2 := 0; replace hB2 := 0)
      | (at_builtin; have ho2' := ho2.mono (base' := w.heap.size) (Nat.le_trans hBt1.size (by simp)); refine wpList_append_bytes _ rfl (.tmp 21) (.tmp 23) rfl rfl rfl ho2' hrd.out (by omega) hs2 ?_; intro A3 c3 w3 ho3 hg3 _; have hBt3 := hBt2.grown hg3 hs2 (fun k hk => (ho2'.blk hk).1); have hrz := ho3.rb; rw [← hez.out] at hrz; have hs3 := hBt3.size; replace hrz := Lib.hid hrz; replace ho3 := 0; replace ho2' := 0; replace hg3 := 0)
      | (go_at_call 53; refine (Of_any _ 1 1 [bytesI m 0] _ (rbb_one hrz.out) (small_one hbz.out (by have := hlz.out; have := hlen.out; omega))).mono ?_; rintro e w4 ⟨rfl, hB4⟩; have hBt4 := (hBt3.alloc hs3 _).trans (hB4.mono (by simp; omega)); have hrz4 := Lib.hid ((hrz.out.alloc _).below hB4))
      | (go_at_call 52; refine (Set_ok _ _ _ (bytesI m 0) 2 (sumI m) 2 _ hrz4.out (by omega) (fitsS hsb.out.1 hsb.out.2) (by omega)).mono ?_; rintro e w5 ⟨A5, c5, rfl, ho5, hB5⟩)
      | fail)
    go_ret2
    rw [hset.out] at ho5
    exact ⟨_, _, _, rfl, ho5.rb, hBt4.trans (hB5.mono hBt4.size)⟩
  · unfold builtI?
    rw [if_neg hok]
    have hc := checkI_code m n
    generalize checkI m n = e0 at *
    go_enter Try.func14, Try.ntmps14
    rcases hc with rfl | rfl | rfl
    · exact absurd rfl hok
    all_goals
      clear hok
      go_wp2_with (go_at_call 17; refine (hck _).mono ?_; rintro e w1 ⟨rfl, hB1⟩)
      go_ret2
      exact ⟨none, 0, 0, rfl, RB.nil _, hb0.out.trans (hB1.mono (by simp))⟩
end Go.Proofs.Ytekngoallcogpaa
