/- A packet's bytes, and that it is parsed from them. No program in sight. -/
import Derived.Test.YtmbmmpbfmakfbaaV4C
import Derived.Test.YtmbmmpbfmakfbaaUdpPlain
set_option linter.unusedVariables false
namespace Go.Proofs.Ytmbmmpbfmakfbaa
open Go Go.RowKit

/-- Flags and offset. -/
def flg4 (p : V4P) : Int := p.off / 8 + (if p.df = true then 16384 else 0) + (if p.mf = true then 8192 else 0)
/-- The bytes of a head of so many bytes in all, with a sum. -/
def head4 (p : V4P) (size s : Int) : List Int :=
  [64 + (20 + (p.opts.length : Int)) / 4, p.tos] ++ digL size 2 ++ digL p.id 2 ++ digL (flg4 p) 2 ++ [p.ttl, p.pr] ++ digL s 2 ++ digL p.src 4 ++ digL p.dst 4 ++ p.opts
def size4 (p : V4P) : Int := 20 + (p.opts.length : Int) + (p.data.length : Int)
def sum4 (p : V4P) : Int := 65535 - foldI (totalI [head4 p (size4 p) 0])
/-- A packet's bytes. -/
def bytes4 (p : V4P) : List Int := head4 p (size4 p) (sum4 p) ++ p.data
theorem chk4_all {p : V4P} {no n : Nat} (h : checkV4 p no n = 0) : (0 ≤ p.tos ∧ p.tos < 256) ∧ (0 ≤ p.ttl ∧ p.ttl < 256) ∧ (0 ≤ p.pr ∧ p.pr < 256) ∧ (0 ≤ p.id ∧ p.id < 65536) ∧ (0 ≤ p.src ∧ p.src < 4294967296) ∧ (0 ≤ p.dst ∧ p.dst < 4294967296) ∧
    (0 ≤ p.off ∧ p.off ≤ 65528 ∧ p.off % 8 = 0) ∧ no ≤ 40 ∧ no % 4 = 0 ∧ 20 + no + n ≤ 65535 ∧ p.off ≤ 65535 - n := by
  unfold checkV4 at h
  by_cases hk : okV4 p no n = true
  · rw [if_pos hk] at h
    by_cases h6 : (65535 : Int) < 20 + no + n ∨ (65535 : Int) - n < p.off
    · rw [if_pos h6] at h; cases h
    unfold okV4 fitsA endsA placeA optsA at hk
    simp only [Bool.and_eq_true, decide_eq_true_eq, beq_iff_eq] at hk
    obtain ⟨⟨f1, f2, f3, f4⟩, ⟨r1, r2⟩, ⟨o1, o2, o3, _⟩, q1, q2⟩ := hk
    have g1 := of_decide_eq_true f1
    have g2 := of_decide_eq_true f2
    have g3 := of_decide_eq_true f3
    have g4 := of_decide_eq_true f4
    have s1 := of_decide_eq_true r1
    have s2 := of_decide_eq_true r2
    have e : p.off.tmod 8 = p.off % 8 := Int.tmod_eq_emod_of_nonneg o1
    refine ⟨⟨g1.2.1, g1.2.2⟩, ⟨g2.2.1, g2.2.2⟩, ⟨g3.2.1, g3.2.2⟩, ⟨g4.2.1, g4.2.2⟩, s1, s2, ⟨o1, o2, by omega⟩, by omega, by omega, by omega, by omega⟩
  · rw [if_neg hk] at h; cases h
theorem flg4_in {p : V4P} (h0 : 0 ≤ p.off) (h1 : p.off ≤ 65528) : 0 ≤ flg4 p ∧ flg4 p < 32768 := by
  unfold flg4; split <;> split <;> omega
theorem head4_length (p : V4P) (size s : Int) : (head4 p size s).length = 20 + p.opts.length := by simp [head4, digL_length]; omega
theorem head4_byts {p : V4P} {size s : Int} (ho : Byts p.opts) (h1 : 0 ≤ p.tos ∧ p.tos < 256) (h2 : 0 ≤ p.ttl ∧ p.ttl < 256) (h3 : 0 ≤ p.pr ∧ p.pr < 256) (h4 : p.opts.length ≤ 40) : Byts (head4 p size s) := by
  unfold head4
  have b1 : Byts [64 + (20 + (p.opts.length : Int)) / 4, p.tos] := Byts.two (by omega) (by omega) h1.1 (by omega)
  have b2 : Byts [p.ttl, p.pr] := Byts.two h2.1 (by omega) h3.1 (by omega)
  exact ((((((((b1.append (digL_byts _ _)).append (digL_byts _ _)).append (digL_byts _ _)).append b2).append (digL_byts _ _)).append (digL_byts _ _)).append (digL_byts _ _)).append ho)
theorem bytes4_length (p : V4P) : (bytes4 p).length = 20 + p.opts.length + p.data.length := by unfold bytes4; rw [List.length_append, head4_length]
theorem sum4_bd (p : V4P) : 0 ≤ sum4 p ∧ sum4 p ≤ 65535 := by
  have h1 := foldI_lo (totalI [head4 p (size4 p) 0])
  have h2 := foldI_hi (totalI [head4 p (size4 p) 0])
  unfold sum4; omega
theorem totalI_one4 (x : List Int) : totalI [x] = sumB x := by rw [totalI_cons, totalI_nil]; omega
theorem head4_sum (p : V4P) (size s : Int) (h0 : 0 ≤ s) (h1 : s ≤ 65535) : totalI [head4 p size s] = totalI [head4 p size 0] + s := by
  rw [totalI_one4, totalI_one4]
  have := usumB_mid ([64 + (20 + (p.opts.length : Int)) / 4, p.tos] ++ digL size 2 ++ digL p.id 2 ++ digL (flg4 p) 2 ++ [p.ttl, p.pr]) (digL p.src 4 ++ digL p.dst 4 ++ p.opts) s h0 h1 (by simp [digL_length])
  simpa [head4] using this
theorem head4_right {p : V4P} (hb : Byts (head4 p (size4 p) 0)) : foldI (totalI [head4 p (size4 p) (sum4 p)]) = 65535 := by
  obtain ⟨s0, s1⟩ := sum4_bd p
  rw [head4_sum _ _ _ s0 s1]
  have h0 : 0 ≤ totalI [head4 p (size4 p) 0] := by rw [totalI_one4]; exact sumB_lo hb
  exact fold_right _ h0
theorem digL2 (s : Int) : digL s 2 = [s / 256 % 256, s % 256] := by simp [digL, List.range_succ]
/-- What stands in a packet's bytes. -/
theorem bytes4_at {p : V4P} {size s : Int} {ds : List Int} (hsz : 0 ≤ size ∧ size < 65536) (hs : 0 ≤ s ∧ s < 65536) (hid : 0 ≤ p.id ∧ p.id < 65536) (hf : 0 ≤ flg4 p ∧ flg4 p < 32768) (hsr : 0 ≤ p.src ∧ p.src < 4294967296) (hds : 0 ≤ p.dst ∧ p.dst < 4294967296) :
    (head4 p size s ++ ds)[0]?.getD 0 = 64 + (20 + (p.opts.length : Int)) / 4 ∧ (head4 p size s ++ ds)[1]?.getD 0 = p.tos ∧ (head4 p size s ++ ds)[8]?.getD 0 = p.ttl ∧ (head4 p size s ++ ds)[9]?.getD 0 = p.pr ∧
    (getV (head4 p size s ++ ds) 2 2).1 = size ∧ (getV (head4 p size s ++ ds) 4 2).1 = p.id ∧ (getV (head4 p size s ++ ds) 6 2).1 = flg4 p ∧ (getV (head4 p size s ++ ds) 10 2).1 = s ∧ (getV (head4 p size s ++ ds) 12 4).1 = p.src ∧ (getV (head4 p size s ++ ds) 16 4).1 = p.dst := by
  have f4 : ∀ x : Int, 0 ≤ x → x < 4294967296 → fitsP x ((4 : Nat) : Int) := fun x h0 h1 => ⟨by omega, h0, by show _ < (256 : Int) ^ 4; omega⟩
  refine ⟨rfl, rfl, ?_, ?_, ?_, ?_, ?_, ?_, ?_, ?_⟩
  · simp [head4, digL2]
  · simp [head4, digL2]
  · have := ugetV_mid [64 + (20 + (p.opts.length : Int)) / 4, p.tos] (digL p.id 2 ++ digL (flg4 p) 2 ++ [p.ttl, p.pr] ++ digL s 2 ++ digL p.src 4 ++ digL p.dst 4 ++ p.opts ++ ds) size 2 (fit2 hsz.1 hsz.2) 2 rfl
    simpa [head4] using this
  · have := ugetV_mid ([64 + (20 + (p.opts.length : Int)) / 4, p.tos] ++ digL size 2) (digL (flg4 p) 2 ++ [p.ttl, p.pr] ++ digL s 2 ++ digL p.src 4 ++ digL p.dst 4 ++ p.opts ++ ds) p.id 2 (fit2 hid.1 hid.2) 4 (by simp [digL_length])
    simpa [head4] using this
  · have := ugetV_mid ([64 + (20 + (p.opts.length : Int)) / 4, p.tos] ++ digL size 2 ++ digL p.id 2) ([p.ttl, p.pr] ++ digL s 2 ++ digL p.src 4 ++ digL p.dst 4 ++ p.opts ++ ds) (flg4 p) 2 (fit2 hf.1 (by omega)) 6 (by simp [digL_length])
    simpa [head4] using this
  · have := ugetV_mid ([64 + (20 + (p.opts.length : Int)) / 4, p.tos] ++ digL size 2 ++ digL p.id 2 ++ digL (flg4 p) 2 ++ [p.ttl, p.pr]) (digL p.src 4 ++ digL p.dst 4 ++ p.opts ++ ds) s 2 (fit2 hs.1 hs.2) 10 (by simp [digL_length])
    simpa [head4] using this
  · have := ugetV_mid ([64 + (20 + (p.opts.length : Int)) / 4, p.tos] ++ digL size 2 ++ digL p.id 2 ++ digL (flg4 p) 2 ++ [p.ttl, p.pr] ++ digL s 2) (digL p.dst 4 ++ p.opts ++ ds) p.src 4 (f4 _ hsr.1 hsr.2) 12 (by simp [digL_length])
    simpa [head4] using this
  · have := ugetV_mid ([64 + (20 + (p.opts.length : Int)) / 4, p.tos] ++ digL size 2 ++ digL p.id 2 ++ digL (flg4 p) 2 ++ [p.ttl, p.pr] ++ digL s 2 ++ digL p.src 4) (p.opts ++ ds) p.dst 4 (f4 _ hds.1 hds.2) 16 (by simp [digL_length])
    simpa [head4] using this
theorem head4_opts (p : V4P) (size s : Int) : (head4 p size s).drop 20 = p.opts := by
  unfold head4
  rw [List.drop_append_of_le_length (by simp [digL_length]), List.drop_of_length_le (by simp [digL_length]), List.nil_append]
/-- A packet that may be is parsed from its bytes. -/
theorem back4 {p : V4P} (hc : chk4 p = 0) (ho : Byts p.opts) (hd : Byts p.data) : codeV4 false (bytes4 p) = 0 ∧ readV4 false (bytes4 p) = p ∧ codeV4 true (bytes4 p) = 0 ∧ readV4 true (bytes4 p) = p := by
  obtain ⟨ht, htl, hpr, hid, hsr, hds, ⟨o1, o2, o3⟩, q1, q2, q3, q4⟩ := chk4_all hc
  obtain ⟨s0, s1⟩ := sum4_bd p
  have hf := flg4_in o1 o2
  have hsz : 0 ≤ size4 p ∧ size4 p < 65536 := by unfold size4; omega
  obtain ⟨e0, e1, e8, e9, g2, g4, g6, g10, g12, g16⟩ := bytes4_at (p := p) (size := size4 p) (s := sum4 p) (ds := p.data) hsz ⟨s0, by omega⟩ hid hf hsr hds
  have hlen := bytes4_length p
  have hB : bytes4 p = head4 p (size4 p) (sum4 p) ++ p.data := rfl
  rw [← hB] at e0 e1 e8 e9 g2 g4 g6 g10 g12 g16
  have hhd : hd4 (bytes4 p) = 20 + p.opts.length := by unfold hd4; rw [e0]; omega
  have hszv : sz4 (bytes4 p) = 20 + (p.opts.length : Int) + (p.data.length : Int) := g2
  have hO : ∀ q, codeO q (bytes4 p) = 0 := fun q => by
    unfold codeO
    rw [hhd, hszv, e0, hlen, if_neg (by omega), if_neg (by omega), if_neg (by omega), if_neg (by have : fl4 (bytes4 p) = flg4 p := g6; rw [this]; omega)]
  have hend : end4 (bytes4 p) = (bytes4 p).length := by unfold end4; rw [hszv, hlen]; omega
  have htk : (bytes4 p).take (hd4 (bytes4 p)) = head4 p (size4 p) (sum4 p) := by
    rw [hhd, hB, List.take_append_of_le_length (by rw [head4_length]; exact Nat.le_refl _), List.take_of_length_le (by rw [head4_length]; exact Nat.le_refl _)]
  have hdr : ((bytes4 p).take (end4 (bytes4 p))).drop (hd4 (bytes4 p)) = p.data := by
    rw [hend, List.take_length, hhd, hB]
    have : 20 + p.opts.length = (head4 p (size4 p) (sum4 p)).length := (head4_length _ _ _).symm
    rw [this, List.drop_left]
  have hpk : pack4 (bytes4 p) = p := by
    have hfl : fl4 (bytes4 p) = flg4 p := g6
    unfold pack4
    rw [e1, g4, hfl, e8, e9, g12, g16, htk, head4_opts, hdr]
    obtain ⟨tos, id, off, ttl, pr, src, dst, df, mf, opts, data⟩ := p
    simp only [V4P.mk.injEq, true_and, and_true]
    unfold flg4
    simp only at o1 o2 o3
    cases df <;> cases mf <;> simp <;> omega
  have hsum : foldI (totalI [(bytes4 p).take (hd4 (bytes4 p))]) = 65535 := by
    rw [htk]
    exact head4_right (head4_byts ho ht htl hpr q1)
  have hk : codeV4 false (bytes4 p) = 0 := by
    unfold codeV4
    rw [hO, if_neg (by decide), if_neg (by decide), if_neg (by rw [hsum]; decide), hpk, hc, if_neg (by decide)]
  have hk2 : codeV4 true (bytes4 p) = 0 := by
    unfold codeV4
    rw [hO, if_neg (by decide), if_pos rfl]
  exact ⟨hk, by unfold readV4; rw [if_pos hk, hpk], hk2, by unfold readV4; rw [if_pos hk2, hpk]⟩
theorem readV4_chk {bs : List Int} (h : codeV4 false bs = 0) : chk4 (readV4 false bs) = 0 := by
  have e : readV4 false bs = pack4 bs := by unfold readV4; rw [if_pos h]
  rw [e]
  unfold codeV4 at h
  by_cases h1 : codeO false bs ≠ 0
  · rw [if_pos h1] at h; exact absurd h h1
  rw [if_neg h1, if_neg (by decide)] at h
  by_cases h2 : (foldI (totalI [bs.take (hd4 bs)]) == 65535) = false
  · rw [if_pos h2] at h; cases h
  rw [if_neg h2] at h
  by_cases h3 : chk4 (pack4 bs) ≠ 0
  · rw [if_pos h3] at h; cases h
  · exact Classical.not_not.1 h3
end Go.Proofs.Ytmbmmpbfmakfbaa
