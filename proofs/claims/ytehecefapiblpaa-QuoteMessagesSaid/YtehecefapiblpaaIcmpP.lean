/- Messages of ICMP (icmp, and the reference): walks of Check, Same, Fault, Query, ID. -/
import Derived.Test.YtehecefapiblpaaAppend
import Derived.Test.YtehecefapiblpaaTame
import Derived.Test.YtehecefapiblpaaSeq
import Derived.Test.YtehecefapiblpaaBase
set_option linter.unusedVariables false
namespace Go.Proofs.Ytehecefapiblpaa
open Go.RowKit

/-- A message of ICMP. -/
structure IcmpP where
  t : Int
  cd : Int
  r : Int
  data : List Int
/-- Its cells; the data lie in a slice. -/
abbrev cellsI (m : IcmpP) (A : Option Addr) (n c : Nat) : Array Value := #[.int .i64 m.t, .int .i64 m.cd, .int .i64 m.r, .slice A n c]
/-- Whether a message may be. -/
def checkI (m : IcmpP) (n : Nat) : Int := if fitsB m.t 1 = false then 1 else if fitsB m.cd 1 = false then 1 else if fitsB m.r 4 = false then 1 else if 65527 < n then 6 else 0

set_option maxHeartbeats 1000000 in
theorem IcmpCheck_any (m : IcmpP) (A : Option Addr) (n c : Nat) (w : World) :
    Calls Try.prog 156 #[.agg (cellsI m A n c)] w fun e w' => e = .returned (.int .i64 (checkI m n)) ∧ Below w.heap.size w w' := by
  have hb0 : Below w.heap.size w (w.alloc (.cells (cellsI m A n c) 49)) := (Below.refl _ w).alloc (Nat.le_refl _) _
  unfold checkI
  cases f0 : fitsB m.t 1
  · skip
    go_enter Try.func156, Try.ntmps156
    go_wp2_with (go_at_call 66; refine (Fits_any _ _ _).mono ?_; rintro e w' ⟨rfl, rfl⟩)
    go_ret
    exact ⟨by simp, hb0⟩
  · cases f1 : fitsB m.cd 1
    · skip
      go_enter Try.func156, Try.ntmps156
      go_wp2_with (go_at_call 66; refine (Fits_any _ _ _).mono ?_; rintro e w' ⟨rfl, rfl⟩)
      go_ret
      exact ⟨by simp, hb0⟩
    · cases f2 : fitsB m.r 4
      · skip
        go_enter Try.func156, Try.ntmps156
        go_wp2_with (go_at_call 66; refine (Fits_any _ _ _).mono ?_; rintro e w' ⟨rfl, rfl⟩)
        go_ret
        exact ⟨by simp, hb0⟩
      · by_cases h6 : 65527 < n
        · skip
          go_enter Try.func156, Try.ntmps156
          go_wp2_with (go_at_call 66; refine (Fits_any _ _ _).mono ?_; rintro e w' ⟨rfl, rfl⟩)
          go_ret
          exact ⟨by simp, hb0⟩
        · skip
          go_enter Try.func156, Try.ntmps156
          go_wp2_with (go_at_call 66; refine (Fits_any _ _ _).mono ?_; rintro e w' ⟨rfl, rfl⟩)
          go_ret
          exact ⟨by simp, hb0⟩
theorem checkI_ok {m : IcmpP} {n : Nat} (h : checkI m n = 0) : (0 ≤ m.t ∧ m.t < 256) ∧ (0 ≤ m.cd ∧ m.cd < 256) ∧ (0 ≤ m.r ∧ m.r < 4294967296) ∧ n ≤ 65527 := by
  unfold checkI at h
  by_cases h1 : fitsB m.t 1 = false
  · simp [h1] at h
  · by_cases h2 : fitsB m.cd 1 = false
    · simp [h2] at h
    · by_cases h3 : fitsB m.r 4 = false
      · simp [h3] at h
      · rw [if_neg h1, if_neg h2, if_neg h3] at h
        have k1 := of_decide_eq_true (show fitsB m.t 1 = true by simpa using h1)
        have k2 := of_decide_eq_true (show fitsB m.cd 1 = true by simpa using h2)
        have k3 := of_decide_eq_true (show fitsB m.r 4 = true by simpa using h3)
        obtain ⟨_, a1, b1⟩ := k1
        obtain ⟨_, a2, b2⟩ := k2
        obtain ⟨_, a3, b3⟩ := k3
        rw [pow1] at b1 b2
        rw [pow4] at b3
        by_cases h5 : 65527 < n
        · simp [h5] at h
        · exact ⟨⟨a1, b1⟩, ⟨a2, b2⟩, ⟨a3, b3⟩, by omega⟩
theorem checkI_code (m : IcmpP) (n : Nat) : checkI m n = 0 ∨ checkI m n = 1 ∨ checkI m n = 6 := by
  unfold checkI
  repeat' split
  all_goals simp

/-- Whether two messages are the same. -/
def sameI (p q : IcmpP) : Bool := p.t == q.t && p.cd == q.cd && p.r == q.r && p.data == q.data

set_option maxHeartbeats 2000000 in
theorem RefIcmpSame_any (p q : IcmpP) (A A' : Option Addr) (n c n' c' : Nat) (w : World) (hr : RB w A n c p.data) (hr' : RB w A' n' c' q.data) :
    Calls Try.prog 24 #[.agg (cellsI p A n c), .agg (cellsI q A' n' c')] w fun e w' => e = .returned (.bool (sameI p q)) ∧ Below w.heap.size w w' := by
  have hb := Lib.hid (((Below.refl _ w).alloc (Nat.le_refl _) (.cells (cellsI p A n c) 49)).alloc (by simp) (.cells (cellsI q A' n' c') 49))
  replace hr := Lib.hid ((hr.alloc (.cells (cellsI p A n c) 49)).alloc (.cells (cellsI q A' n' c') 49))
  replace hr' := Lib.hid ((hr'.alloc (.cells (cellsI p A n c) 49)).alloc (.cells (cellsI q A' n' c') 49))
  have e1 := conv_bytes hr.out
  have e2 := conv_bytes hr'.out
  have hq := str_beq hr.out.byt hr'.out.byt
  cases n0 : (p.t == q.t)
  · go_enter Try.func24, Try.ntmps24
    go_wp2
    go_ret
    exact ⟨ret_bool (by unfold sameI; rw [n0]; rfl), hb.out⟩
  · cases n1 : (p.cd == q.cd)
    · go_enter Try.func24, Try.ntmps24
      go_wp2
      go_ret
      exact ⟨ret_bool (by unfold sameI; rw [n0, n1]; rfl), hb.out⟩
    · cases n2 : (p.r == q.r)
      · go_enter Try.func24, Try.ntmps24
        go_wp2
        go_ret
        exact ⟨ret_bool (by unfold sameI; rw [n0, n1, n2]; rfl), hb.out⟩
      · go_enter Try.func24, Try.ntmps24
        go_wp2_with (go_at_call 16; refine (Equal_any _ _ _ _ _ _ _ _ _ hr.out hr'.out).mono ?_; rintro e w' ⟨rfl, rfl⟩)
        go_ret
        exact ⟨ret_bool (by unfold sameI; rw [n0, n1, n2]; simp), hb.out⟩
end Go.Proofs.Ytehecefapiblpaa
/- Messages of ICMP (icmp, and the reference): walks of Build. -/
set_option linter.unusedVariables false
namespace Go.Proofs.Ytehecefapiblpaa
open Go.RowKit

/-- A message's bytes, with a sum. -/
def bytesI (m : IcmpP) (s : Int) : List Int := [m.t, m.cd] ++ digL s 2 ++ digL m.r 4 ++ m.data
def sumI (m : IcmpP) : Int := 65535 - foldI (totalI [bytesI m 0])
def builtI (m : IcmpP) : List Int := bytesI m (sumI m)
def builtI? (m : IcmpP) (n : Nat) : List Int := if checkI m n = 0 then builtI m else []

theorem setN_two (xs ys : List Int) (p q : Int) (zs : List Int) (a : Nat) (ha : xs.length = a) (hz : zs.length = 2) : setN (xs ++ [p, q] ++ ys) a zs 2 = xs ++ zs ++ ys := by
  match zs, hz with
  | [z0, z1], _ =>
    subst ha
    simp [setN]
theorem digL_zero2 : digL 0 2 = [0, 0] := by decide
theorem bytesI_zero (m : IcmpP) : bytesI m 0 = [m.t, m.cd, 0, 0] ++ digL m.r 4 ++ m.data := by simp [bytesI, digL_zero2]
theorem bytesI_set (m : IcmpP) (s : Int) : setN (bytesI m 0) 2 (digL s 2) 2 = bytesI m s := by
  have := setN_two [m.t, m.cd] (digL m.r 4 ++ m.data) 0 0 (digL s 2) 2 rfl (digL_length _ _)
  rw [bytesI_zero]
  simpa [bytesI] using this
theorem bytesI_length (m : IcmpP) (s : Int) : (bytesI m s).length = 8 + m.data.length := by simp [bytesI, digL_length]; omega
theorem fitsS {s : Int} (h0 : 0 ≤ s) (h1 : s ≤ 65535) : fitsP s ((2 : Nat) : Int) := ⟨by omega, h0, by show _ < (256 : Int) ^ 2; omega⟩
theorem fits4n {x : Int} (h0 : 0 ≤ x) (h1 : x < 4294967296) : fitsP x ((4 : Nat) : Int) := ⟨by omega, h0, by show _ < (256 : Int) ^ 4; omega⟩
theorem sumI_bd (m : IcmpP) : 0 ≤ sumI m ∧ sumI m ≤ 65535 := by
  have h1 := foldI_lo (totalI [bytesI m 0])
  have h2 := foldI_hi (totalI [bytesI m 0])
  unfold sumI; omega
theorem bytesI_byts {m : IcmpP} {s : Int} (h0 : 0 ≤ m.t ∧ m.t < 256) (h1 : 0 ≤ m.cd ∧ m.cd < 256) (hd : Byts m.data) : Byts (bytesI m s) :=
  (((Byts.two h0.1 h0.2 h1.1 h1.2).append (digL_byts _ _)).append (digL_byts _ _)).append hd
theorem byts4 {a b c d : Int} (h0 : 0 ≤ a ∧ a < 256) (h1 : 0 ≤ b ∧ b < 256) (h2 : 0 ≤ c ∧ c < 256) (h3 : 0 ≤ d ∧ d < 256) : Byts [a, b, c, d] := by
  intro z hz
  simp at hz
  rcases hz with rfl | rfl | rfl | rfl <;> constructor <;> omega
theorem lit4 (W : World) (a b c d : Int) (h : Byts [a, b, c, d]) : RB (W.alloc (.cells #[.int .u8 a, .int .u8 b, .int .u8 c, .int .u8 d] 5)) (some ⟨W.heap.size, 0, none⟩) 4 4 [a, b, c, d] := by
  have := RB.lit W 5 [a, b, c, d] h (by simp)
  simpa [u8s] using this
theorem lit2 (W : World) (a b : Int) (h : Byts [a, b]) : RB (W.alloc (.cells #[.int .u8 a, .int .u8 b] 5)) (some ⟨W.heap.size, 0, none⟩) 2 2 [a, b] := by
  have := RB.lit W 5 [a, b] h (by simp)
  simpa [u8s] using this


set_option maxHeartbeats 2000000 in
theorem IcmpBuild_any (m : IcmpP) (A : Option Addr) (n c : Nat) (w : World) (hd : RB w A n c m.data) :
    Calls Try.prog 153 #[.agg (cellsI m A n c)] w (TwoOut w (builtI? m n) (checkI m n)) := by
  have hck := IcmpCheck_any m A n c
  have hvb := Lib.hid (VBox.new w (cellsI m A n c) 49)
  have hb0 := Lib.hid ((Below.refl _ w).alloc (Nat.le_refl _) (.cells (cellsI m A n c) 49))
  by_cases hok : checkI m n = 0
  · unfold builtI?
    rw [if_pos hok]
    obtain ⟨ht, hcd, hr, hn⟩ := checkI_ok hok
    rw [hok]
    rw [hok] at hck
    have hby := byts4 ht hcd (c := 0) (d := 0) (by omega) (by omega)
    have hlit := Lib.hid (fun W => lit4 W m.t m.cd 0 0 hby)
    have hwt : IntKind.u8.wrap m.t = m.t := by rw [IntKind.wrap_u8]; omega
    have hwc : IntKind.u8.wrap m.cd = m.cd := by rw [IntKind.wrap_u8]; omega
    have hr4 := Lib.hid (fits4n hr.1 hr.2)
    have hlen := Lib.hid hd.len
    have hD := Lib.hid (fun W (hW : Below w.heap.size w W) => hd.below hW)
    have hbz := Lib.hid (bytesI_byts (s := 0) ht hcd hd.byt)
    have hlz := Lib.hid (bytesI_length m 0)
    have hez := Lib.hid (bytesI_zero m)
    have hsb := Lib.hid (sumI_bd m)
    have hset := Lib.hid (bytesI_set m (sumI m))
    clear hd hok
    go_enter Try.func153, Try.ntmps153
    go_wp2_with (first
      | (go_at_call 156; refine (hck _).mono ?_; rintro e w1 ⟨rfl, hB1⟩; have hv1 := hvb.out.below hB1 (by simp); have z0 := hv1.at_ 0 _ rfl; have z1 := hv1.at_ 1 _ rfl; have z2 := hv1.at_ 2 _ rfl; have hlt1 := hv1.lt; have hBt1 := hb0.out.trans (hB1.mono (by simp)); replace hv1 := Lib.hid hv1; replace hB1 := 0)
      | (go_at_call 95; refine (Put_yes _ 4 4 [m.t, m.cd, 0, 0] m.r 4 _ (hlit.out w1) (by omega) hr4.out).mono ?_; rintro e w2 ⟨A2, c2, rfl, ho2, hB2⟩; have hBt2 := (hBt1.alloc hBt1.size (.cells #[.int .u8 m.t, .int .u8 m.cd, .int .u8 0, .int .u8 0] 5)).trans (hB2.mono (by have := hBt1.size; simp; omega)); have hv2 := (hv1.out.alloc _).below hB2 (by have := hv1.out.lt; simp; omega); have y3 := hv2.at_ 3 _ rfl; have hrd := Lib.hid (hD.out _ hBt2); have hs2 := hBt2.size; replace hv2 := 0; replace hB2 := 0)
      | (at_builtin; have ho2' := ho2.mono (base' := w.heap.size) (Nat.le_trans hBt1.size (by simp)); refine wpList_append_bytes _ rfl (.tmp 21) (.tmp 23) rfl rfl rfl ho2' hrd.out (by omega) hs2 ?_; intro A3 c3 w3 ho3 hg3 _; have hBt3 := hBt2.grown hg3 hs2 (fun k hk => (ho2'.blk hk).1); have hrz := ho3.rb; rw [← hez.out] at hrz; have hs3 := hBt3.size; replace hrz := Lib.hid hrz; replace ho3 := 0; replace ho2' := 0; replace hg3 := 0)
      | (go_at_call 97; refine (Of_any _ 1 1 [bytesI m 0] _ (rbb_one hrz.out) (small_one hbz.out (by have := hlz.out; have := hlen.out; omega))).mono ?_; rintro e w4 ⟨rfl, hB4⟩; have hBt4 := (hBt3.alloc hs3 _).trans (hB4.mono (by simp; omega)); have hrz4 := Lib.hid ((hrz.out.alloc _).below hB4))
      | (go_at_call 71; refine (Set_ok _ _ _ (bytesI m 0) 2 (sumI m) 2 _ hrz4.out (by omega) (fitsS hsb.out.1 hsb.out.2) (by omega)).mono ?_; rintro e w5 ⟨A5, c5, rfl, ho5, hB5⟩)
      | fail)
    go_ret2
    rw [hset.out] at ho5
    exact ⟨_, _, _, rfl, ho5.rb, hBt4.trans (hB5.mono hBt4.size)⟩
  · unfold builtI?
    rw [if_neg hok]
    have hc := checkI_code m n
    generalize checkI m n = e0 at *
    go_enter Try.func153, Try.ntmps153
    rcases hc with rfl | rfl | rfl
    · exact absurd rfl hok
    all_goals
      clear hok
      go_wp2_with (go_at_call 156; refine (hck _).mono ?_; rintro e w1 ⟨rfl, hB1⟩)
      go_ret2
      exact ⟨none, 0, 0, rfl, RB.nil _, hb0.out.trans (hB1.mono (by simp))⟩
end Go.Proofs.Ytehecefapiblpaa
/- Messages of ICMP (the reference): walks of Bytes, Build. -/
set_option linter.unusedVariables false
namespace Go.Proofs.Ytehecefapiblpaa
open Go.RowKit

end Go.Proofs.Ytehecefapiblpaa
/- Messages of ICMP (icmp, and the reference): walks of Parse. -/
set_option linter.unusedVariables false
namespace Go.Proofs.Ytehecefapiblpaa
open Go.RowKit

def parsedI (bs : List Int) : IcmpP := ⟨bs[0]?.getD 0, bs[1]?.getD 0, (getV bs 4 4).1, bs.drop 8⟩
def codeI (bs : List Int) : Int := if bs.length < 8 then 3 else if 65535 < bs.length then 6 else if foldI (totalI [bs]) == 65535 then 0 else 5
def readI (bs : List Int) : IcmpP := if codeI bs = 0 then parsedI bs else ⟨0, 0, 0, []⟩
/-- A message and a code are answered. -/
def IcmpOut (w : World) (m : IcmpP) (e0 : Int) (e : Ending) (w' : World) : Prop := ∃ A2 n2 c2, e = .returned (.tuple #[.agg (cellsI m A2 n2 c2), .int .i64 e0]) ∧ OB w' w.heap.size A2 n2 c2 m.data ∧ Below w.heap.size w w'

theorem IcmpOut.bad {w w' : World} {bs : List Int} {k : Int} (hk : codeI bs = k) (h0 : k ≠ 0) (hb : Below w.heap.size w w') : IcmpOut w (readI bs) (codeI bs) (.returned (.tuple #[.agg #[.int .i64 0, .int .i64 0, .int .i64 0, .slice none 0 0], .int .i64 k])) w' := by
  unfold readI
  rw [hk, if_neg h0]
  exact ⟨none, 0, 0, rfl, OB.nil _ _, hb⟩

set_option maxRecDepth 100000 in
set_option maxHeartbeats 2000000 in
theorem IcmpParse_any (A : Option Addr) (n c : Nat) (bs : List Int) (w : World) (h : RB w A n c bs) :
    Calls Try.prog 100 #[.slice A n c] w (IcmpOut w (readI bs) (codeI bs)) := by
  have hlen := h.len
  have hnc := h.nc
  have hcm : c ≤ 9223372036854775807 := by have := h.cm; unfold maxLen at this; omega
  have hb0 := Lib.hid ((Below.refl _ w).alloc (Nat.le_refl _) (.cells #[.int .i64 0, .int .i64 0, .int .i64 0, .slice none 0 0] 49))
  by_cases h8 : n < 8
  · have hk := Lib.hid (show codeI bs = 3 by unfold codeI; rw [hlen, if_pos h8])
    clear h hlen
    go_enter Try.func100, Try.ntmps100
    go_wp2
    exact bodyPost_ret (v := .tuple #[.agg #[.int .i64 0, .int .i64 0, .int .i64 0, .slice none 0 0], .int .i64 3]) (by simp [results, Try.results100, go_sem]) rfl (IcmpOut.bad hk.out (by decide) (by first | exact hb0.out | skip))
  · by_cases h9 : 65535 < n
    · have hk := Lib.hid (show codeI bs = 6 by unfold codeI; rw [hlen, if_neg h8, if_pos h9])
      clear h hlen
      go_enter Try.func100, Try.ntmps100
      go_wp2
      exact bodyPost_ret (v := .tuple #[.agg #[.int .i64 0, .int .i64 0, .int .i64 0, .slice none 0 0], .int .i64 6]) (by simp [results, Try.results100, go_sem]) rfl (IcmpOut.bad hk.out (by decide) hb0.out)
    · have hrr := rbb_one (h.alloc (.cells #[.int .i64 0, .int .i64 0, .int .i64 0, .slice none 0 0] 49))
      rw [World.size_alloc] at hrr
      have hR := Lib.hid (Right_any _ 1 1 [bs] _ hrr (small_one h.byt (by omega)))
      have hb1 := Lib.hid (hb0.out.alloc hb0.out.size (.cells #[.slice A n c] 24))
      have hk1 := Lib.hid ((Blk.new w #[.int .i64 0, .int .i64 0, .int .i64 0, .slice none 0 0] 49).alloc (.cells #[.slice A n c] 24))
      cases hq : (foldI (totalI [bs]) == 65535)
      · have hk := Lib.hid (show codeI bs = 5 by unfold codeI; rw [hlen, if_neg h8, if_neg h9, hq]; rfl)
        replace hq := Lib.hid hq
        clear h hlen hrr
        go_enter Try.func100, Try.ntmps100
        go_wp2_with (first
          | (go_at_call 56; refine hR.out.mono ?_; rintro e w1 ⟨rfl, hB1⟩; rw [hq.out]; have hv1 := hk1.out.to hB1; have hlt1 := hv1.lt; obtain ⟨⟨z0, z1, z2, z3⟩, f0, f1, f2, f3⟩ := hv1.z4; have hBt := hb1.out.trans (hB1.mono hb1.out.size); replace hB1 := 0; replace hv1 := 0)
          | fail)
        have hfold : ((((w1.setCell ⟨w.heap.size, 0, none⟩ (.int .i64 0)).setCell ⟨w.heap.size, 1, none⟩ (.int .i64 0)).setCell ⟨w.heap.size, 2, none⟩ (.int .i64 0)).setCell ⟨w.heap.size, 3, none⟩ (.slice none 0 0)) = set4 w1 w.heap.size (.int .i64 0) (.int .i64 0) (.int .i64 0) (.slice none 0 0) := rfl
        rw [hfold]
        obtain ⟨r0, r1, r2, r3⟩ := set4_at w1 w.heap.size (.int .i64 0) (.int .i64 0) (.int .i64 0) (.slice none 0 0) z0 z1 z2 z3
        have hbf := below_set4 (B := w.heap.size) hBt (by omega) (.int .i64 0) (.int .i64 0) (.int .i64 0) (.slice none 0 0)
        clear hfold z0 z1 z2 z3 f0 f1 f2 f3 hBt
        generalize set4 w1 w.heap.size (.int .i64 0) (.int .i64 0) (.int .i64 0) (.slice none 0 0) = Wf at *
        exact bodyPost_ret (v := .tuple #[.agg #[(.int .i64 0), (.int .i64 0), (.int .i64 0), (.slice none 0 0)], .int .i64 5]) (by simp [results, Try.results100, go_sem, r0, r1, r2, r3]) rfl (IcmpOut.bad hk.out (by decide) hbf)
      · have hk := Lib.hid (show codeI bs = 0 by unfold codeI; rw [hlen, if_neg h8, if_neg h9, hq]; rfl)
        replace hq := Lib.hid hq
        obtain ⟨b, off, rfl, hbl, hc⟩ := h.mem (by omega)
        have hc0 := Lib.hid (hc 0 (by omega))
        have hc1 := Lib.hid (hc 1 (by omega))
        have y0 := h.byt.get 0
        have y1 := h.byt.get 1
        have hG := Lib.hid (fun W (hW : Below w.heap.size w W) => Get_any _ n c bs 4 4 W (h.below hW) (by omega))
        have hda := h.drop_any 8 (by omega)
        obtain ⟨A8, hif⟩ : ∃ A8, (if c = 8 then some (⟨b, off, none⟩ : Addr) else some ⟨b, off + 8, none⟩) = A8 := ⟨_, rfl⟩
        rw [hif] at hda
        have hCl0 := Lib.hid (fun W (hW : Below w.heap.size w W) => Clone_any _ (n - 8) (c - 8) (bs.drop 8) W (hda.below hW) (by omega))
        replace hda := 0
        have hpar := Lib.hid (show parsedI bs = ⟨bs[0]?.getD 0, bs[1]?.getD 0, (getV bs 4 4).1, bs.drop 8⟩ from rfl)
        clear h hlen hrr hc
        generalize bs[0]?.getD 0 = x0 at *
        generalize bs[1]?.getD 0 = x1 at *
        generalize (getV bs 4 4).1 = x2 at *
        generalize (getV bs 4 4).2 = x3 at *
        have hi4 : ¬ n = 0 := by omega
        have hw0 : IntKind.i64.wrap x0 = x0 := by rw [IntKind.wrap_i64]; omega
        have hw1 : IntKind.i64.wrap x1 = x1 := by rw [IntKind.wrap_i64]; omega
        have hi0 : 0 < n := by omega
        have hi1 : 1 < n := by omega
        have hi8 : 8 ≤ n := by omega
        have hi8' : (8 : Int) ≤ n := by omega
        have hi1' : (1 : Int) < n := by omega
        go_enter Try.func100, Try.ntmps100
        go_wp2_with (first
          | (go_at_call 56; refine hR.out.mono ?_; rintro e w1 ⟨rfl, hB1⟩; rw [hq.out]; have hv1 := Lib.hid (hk1.out.to hB1); have hlt1 := hv1.out.lt; have hBt := Lib.hid (hb1.out.trans (hB1.mono hb1.out.size)); replace hB1 := 0)
          | (go_at_call 70; refine (hG.out _ hBt.out).mono ?_; rintro e w' ⟨rfl, rfl⟩)
          | fail)
        have hF : ∀ W, Below w.heap.size w W → (W.cell? ⟨b, off, none⟩ = some (.int .u8 x0) ∧ W.cell? ⟨b, off + 1, none⟩ = some (.int .u8 x1)) := fun W hWt =>
          ⟨by have := (hWt.cell (p := ⟨b, off + 0, none⟩) hbl).trans hc0.out; simpa using this, (hWt.cell (p := ⟨b, off + 1, none⟩) hbl).trans hc1.out⟩
        replace hF := Lib.hid hF
        go_region_held3 (fun W => (W.cell? ⟨b, off, none⟩ = some (.int .u8 x0) ∧ W.cell? ⟨b, off + 1, none⟩ = some (.int .u8 x1)) ∧ Below w.heap.size w W)
          (first | assumption | exact heldIf hF.out hBt.out.drew | exact heldIf hF.out (below_set4 hB3.out (Nat.le_refl _) _ _ _ _))
          (first
          | (go_at_call 50; refine (hCl0.out _ hBt.out.drew).mono ?_; rintro e w3 ⟨A3, c3, rfl, ho3, hb3⟩; obtain ⟨⟨z0, z1, z2, z3⟩, f0, f1, f2, f3⟩ := (hv1.out.drew.to hb3).z4; have hB3 := Lib.hid (hBt.out.drew.trans (hb3.mono hBt.out.drew.size)); have hS3 := heldIf hF.out hB3.out; have hlt3 := (hv1.out.drew.to hb3).lt; replace hb3 := 0)
          | fail)
        go_wp2
        have hBt3 := hB3.out
        replace hBt := 0
        have hob := Lib.hid ((ho3.mono (base' := w1.heap.size) (by simp)).set4 (B := w.heap.size) (by omega) (.int .i64 x0) (.int .i64 x1) (.int .i64 x2) (.slice A3 (n - 8) c3))
        replace hBt := hBt3
        have hfold : ((((w3.setCell ⟨w.heap.size, 0, none⟩ (.int .i64 x0)).setCell ⟨w.heap.size, 1, none⟩ (.int .i64 x1)).setCell ⟨w.heap.size, 2, none⟩ (.int .i64 x2)).setCell ⟨w.heap.size, 3, none⟩ (.slice A3 (n - 8) c3)) = set4 w3 w.heap.size (.int .i64 x0) (.int .i64 x1) (.int .i64 x2) (.slice A3 (n - 8) c3) := rfl
        rw [hfold]
        obtain ⟨r0, r1, r2, r3⟩ := set4_at w3 w.heap.size (.int .i64 x0) (.int .i64 x1) (.int .i64 x2) (.slice A3 (n - 8) c3) z0 z1 z2 z3
        have hbf := below_set4 (B := w.heap.size) hBt (by omega) (.int .i64 x0) (.int .i64 x1) (.int .i64 x2) (.slice A3 (n - 8) c3)
        clear hfold z0 z1 z2 z3 f0 f1 f2 f3 hBt
        generalize set4 w3 w.heap.size (.int .i64 x0) (.int .i64 x1) (.int .i64 x2) (.slice A3 (n - 8) c3) = Wf at *
        exact bodyPost_ret (v := .tuple #[.agg #[(.int .i64 x0), (.int .i64 x1), (.int .i64 x2), (.slice A3 (n - 8) c3)], .int .i64 0]) (by simp [results, Try.results100, go_sem, r0, r1, r2, r3]) rfl ((by unfold readI; rw [hk.out, if_pos rfl, hpar.out]; exact ⟨A3, n - 8, c3, rfl, hob.out.mono (Nat.le_of_lt hlt1), hbf⟩))
end Go.Proofs.Ytehecefapiblpaa
