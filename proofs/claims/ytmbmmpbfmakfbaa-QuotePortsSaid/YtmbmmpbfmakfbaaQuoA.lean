/- What is quoted: what Ports, From, To answer. No program in sight. -/
import Derived.Test.YtmbmmpbfmakfbaaPortsM
import Derived.Test.YtmbmmpbfmakfbaaV4J
import Derived.Test.YtmbmmpbfmakfbaaBePutsW
import Derived.Test.YtmbmmpbfmakfbaaRefChange
import Derived.Test.YtmbmmpbfmakfbaaPortsF
import Derived.Test.YtmbmmpbfmakfbaaV4I
set_option linter.unusedVariables false
namespace Go.Proofs.Ytmbmmpbfmakfbaa
open Go Go.RowKit

def qryX (p : V4P) : Bool := (p.pr == 1) && queryI (p.data[0]?.getD 0)
/-- Which is wrong with the ports of a packet that is quoted. -/
def codeX (p : V4P) : Int := if p.pr = 6 ∨ p.pr = 17 then 0 else if qryX p = true then 0 else 8
def portsX (p : V4P) : Int × Int × Int :=
  if p.pr = 6 ∨ p.pr = 17 then (p.pr, (getV p.data 0 2).1, (getV p.data 2 2).1) else if qryX p = true then (1, (getV p.data 4 2).1, (getV p.data 4 2).1) else (0, 0, 0)
def codeQo (bs : List Int) : Int := if codeV4 true bs ≠ 0 then codeV4 true bs else if 0 < (readV4 true bs).off then 4 else if (readV4 true bs).data.length < 8 then 3 else 0
def codeQ (bs : List Int) : Int := if codeQo bs ≠ 0 then codeQo bs else codeX (readV4 true bs)
def packQ (bs : List Int) : V4P := if codeQ bs = 0 then readV4 true bs else zero4
def portQ (bs : List Int) : Int × Int × Int := if codeQ bs = 0 then portsX (readV4 true bs) else (0, 0, 0)
/-- Where the sum of what is within stands. -/
def atQ (p : V4P) : Nat := if p.pr = 6 then 16 else if p.pr = 1 then 2 else 6
def noSum (p : V4P) : Bool := decide (p.data.length < atQ p + 2) || ((p.pr == 17) && ((getV p.data 6 2).1 == 0))
def ptQ (p : V4P) (pt : Nat) : Nat := if p.pr = 1 then 4 else pt
def hdQ (bs : List Int) : Nat := 20 + (readV4 true bs).opts.length
def oldQ (bs : List Int) (wh pt : Nat) : List Int := if (readV4 true bs).pr = 1 then cutI bs (hdQ bs + pt) 2 else cutI bs wh 4 ++ cutI bs (hdQ bs + pt) 2
def nowQ (bs : List Int) (a x : Int) : List Int := if (readV4 true bs).pr = 1 then digL x 2 else digL a 4 ++ digL x 2
def sm1Q (bs : List Int) (wh : Nat) (a : Int) : Int := changeI (getV bs 10 2).1 (cutI bs wh 4) (digL a 4)
def sm2Q (bs : List Int) (wh pt : Nat) (a x : Int) : Int := changeI (getV (readV4 true bs).data (atQ (readV4 true bs)) 2).1 (oldQ bs wh pt) (nowQ bs a x)
def sm3Q (bs : List Int) (wh pt : Nat) (a x : Int) : Int := if sm2Q bs wh pt a x = 0 ∧ (readV4 true bs).pr = 17 then 65535 else sm2Q bs wh pt a x
/-- Bytes with another address and another port, and with their sums. -/
def out1Q (bs : List Int) (wh : Nat) (a : Int) : List Int := setN (setN bs wh (digL a 4) 4) 10 (digL (sm1Q bs wh a) 2) 2
def out2Q (bs : List Int) (wh pt : Nat) (a x : Int) : List Int := setN (out1Q bs wh a) (hdQ bs + pt) (digL x 2) 2
def chgQ (bs : List Int) (wh pt : Nat) (a x : Int) : List Int :=
  if noSum (readV4 true bs) = true then out2Q bs wh pt a x else setN (out2Q bs wh pt a x) (hdQ bs + atQ (readV4 true bs)) (digL (sm3Q bs wh pt a x) 2) 2
def mayQ (bs : List Int) (a x : Int) : Int := if codeQ bs ≠ 0 then codeQ bs else if rightB a = true ∧ fitsB x 2 = true then 0 else 1
def fromQ (bs : List Int) (a x : Int) : List Int := if mayQ bs a x = 0 then chgQ bs 12 (ptQ (readV4 true bs) 0) a x else []
def toQ (bs : List Int) (a x : Int) : List Int := if mayQ bs a x = 0 then chgQ bs 16 (ptQ (readV4 true bs) 2) a x else []
theorem change_in (s : Int) (old now : List Int) : 0 ≤ changeI s old now ∧ changeI s old now < 65536 := by
  unfold changeI
  split
  · omega
  · have h1 := foldI_lo (chgT s old now)
    have h2 := foldI_hi (chgT s old now)
    omega
theorem sm3_in (bs : List Int) (wh pt : Nat) (a x : Int) : 0 ≤ sm3Q bs wh pt a x ∧ sm3Q bs wh pt a x < 65536 := by
  unfold sm3Q
  split
  · omega
  · exact change_in _ _ _
/-- What may be known of bytes that quote. -/
theorem quo_ok {bs : List Int} (hb : Byts bs) (hk : codeQ bs = 0) :
    codeV4 true bs = 0 ∧ readV4 true bs = pack4 bs ∧ (readV4 true bs).off ≤ 0 ∧ 8 ≤ (readV4 true bs).data.length ∧ hdQ bs + (readV4 true bs).data.length ≤ bs.length ∧ hdQ bs = hd4 bs ∧ hdQ bs ≤ 60 ∧ bs[9]?.getD 0 = (readV4 true bs).pr ∧
    Byts (readV4 true bs).data ∧ (∀ j, j < (readV4 true bs).data.length → (readV4 true bs).data[j]?.getD 0 = bs[hdQ bs + j]?.getD 0) ∧ ((readV4 true bs).pr = 6 ∨ (readV4 true bs).pr = 17 ∨ ((readV4 true bs).pr = 1 ∧ qryX (readV4 true bs) = true)) := by
  have ho : codeQo bs = 0 := by
    unfold codeQ at hk
    by_cases h : codeQo bs = 0
    · exact h
    · rw [if_pos h] at hk; exact absurd hk h
  have hv : codeV4 true bs = 0 := by
    unfold codeQo at ho
    by_cases h : codeV4 true bs = 0
    · exact h
    · rw [if_pos h] at ho; exact absurd ho h
  have e : readV4 true bs = pack4 bs := by unfold readV4; rw [if_pos hv]
  have hO : codeO true bs = 0 := by
    unfold codeV4 at hv
    by_cases h : codeO true bs = 0
    · exact h
    · rw [if_pos h] at hv; exact absurd hv h
  obtain ⟨q1, q2, q3, q4, q5, q6, q7, _⟩ := codeO_ok hO
  have hop : (pack4 bs).opts.length = hd4 bs - 20 := by
    show ((bs.take (hd4 bs)).drop 20).length = _
    rw [List.length_drop, List.length_take]; omega
  have hend : end4 bs ≤ bs.length := by unfold end4; omega
  have hend2 : hd4 bs ≤ end4 bs := by unfold end4; omega
  have hdl : (pack4 bs).data.length = end4 bs - hd4 bs := by
    show ((bs.take (end4 bs)).drop (hd4 bs)).length = _
    rw [List.length_drop, List.length_take]; omega
  have hh : hdQ bs = hd4 bs := by unfold hdQ; rw [e, hop]; omega
  have h0 : ¬ 0 < (readV4 true bs).off ∧ ¬ (readV4 true bs).data.length < 8 := by
    unfold codeQo at ho
    rw [if_neg (fun g => g hv)] at ho
    by_cases h1 : 0 < (readV4 true bs).off
    · rw [if_pos h1] at ho; cases ho
    · rw [if_neg h1] at ho
      by_cases h2 : (readV4 true bs).data.length < 8
      · rw [if_pos h2] at ho; cases ho
      · exact ⟨h1, h2⟩
  have hx : codeX (readV4 true bs) = 0 := by
    unfold codeQ at hk
    rw [if_neg (fun g => g ho)] at hk
    exact hk
  refine ⟨hv, e, by omega, by omega, by rw [hh, e, hdl]; omega, hh, by rw [hh]; exact q4, by rw [e]; rfl, by rw [e]; exact (hb.take _).drop _, ?_, ?_⟩
  · intro j hj
    rw [e, hdl] at hj
    rw [e, hh]
    show ((bs.take (end4 bs)).drop (hd4 bs))[j]?.getD 0 = _
    rw [List.getElem?_drop, List.getElem?_take, if_pos (by omega)]
  · unfold codeX at hx
    by_cases h1 : (readV4 true bs).pr = 6 ∨ (readV4 true bs).pr = 17
    · rcases h1 with h1 | h1
      · exact .inl h1
      · exact .inr (.inl h1)
    · rw [if_neg h1] at hx
      by_cases h2 : qryX (readV4 true bs) = true
      · have h3 := h2
        unfold qryX at h3
        rw [Bool.and_eq_true] at h3
        exact .inr (.inr ⟨by simpa using h3.1, h2⟩)
      · rw [if_neg h2] at hx; cases hx
theorem atQ_in (p : V4P) : atQ p ≤ 16 := by unfold atQ; split <;> (try split) <;> omega
theorem noSum_no {p : V4P} (h : noSum p = false) : atQ p + 2 ≤ p.data.length := by
  unfold noSum at h
  rw [Bool.or_eq_false_iff] at h
  have := of_decide_eq_false h.1
  omega
theorem getV2_mid {bs : List Int} {a : Nat} (h : a + 2 ≤ bs.length) : (getV bs (a : Int) 2).1 = bs[a]?.getD 0 * 256 + bs[a + 1]?.getD 0 := by
  unfold getV
  rw [if_neg (by omega), if_neg (by omega)]
  show beNum (cutI bs (a : Int).toNat 2) = _
  rw [Int.toNat_natCast, cutI_succ _ _ _ (by omega), cutI_succ _ _ _ (by omega)]
  show beNum (([] ++ [bs[a + 0]?.getD 0]) ++ [bs[a + 1]?.getD 0]) = _
  simp [beNum]
theorem getV_data {bs : List Int} (hb : Byts bs) (hk : codeQ bs = 0) {a : Nat} (ha : a + 2 ≤ (readV4 true bs).data.length) : (getV (readV4 true bs).data (a : Int) 2).1 = (getV bs ((hdQ bs + a : Nat) : Int) 2).1 := by
  obtain ⟨h1, h2, h3, h4, h5, h6, h7, h8, h9, h10, h11⟩ := quo_ok hb hk
  rw [getV2_mid ha, getV2_mid (by omega), h10 _ (by omega), h10 _ (by omega), Nat.add_assoc]
theorem setRes_ok {bs : List Int} {a x : Int} {k s : Nat} (hk : a = k) (hf : fitsP x (s : Int)) (hl : k + s ≤ bs.length) : setRes bs a x s = (setN bs k (digL x s) s, 0) := by
  subst hk
  unfold setRes
  rw [if_neg (by rintro (h | h); exact h hf; omega), if_neg (by omega)]
  simp
theorem out1_length (bs : List Int) (wh : Nat) (a : Int) : (out1Q bs wh a).length = bs.length := by unfold out1Q; rw [setN_length, setN_length]
theorem out2_length (bs : List Int) (wh pt : Nat) (a x : Int) : (out2Q bs wh pt a x).length = bs.length := by unfold out2Q; rw [setN_length, out1_length]
theorem chgQ_length (bs : List Int) (wh pt : Nat) (a x : Int) : (chgQ bs wh pt a x).length = bs.length := by unfold chgQ; split; exact out2_length _ _ _ _ _; rw [setN_length, out2_length]
end Go.Proofs.Ytmbmmpbfmakfbaa
/- What is quoted (the reference): walks of num, Ports, sumAt. -/
set_option linter.unusedVariables false
namespace Go.Proofs.Ytmbmmpbfmakfbaa
open Go Go.RowKit
attribute [local go_sem] Oper.semAt_some

theorem Blk.farRow {W : World} {B g : Nat} {C : Array Value} {T : TypeId} (h : Blk W B C T) (hne : B ≠ g) (cs : Array Value) : Blk (W.setRow g cs) B C T := ⟨(setRow_far W g cs B hne).trans h.at_⟩
theorem rangeAt_blkQ {W : World} {g : Nat} {C : Array Value} {T : TypeId} (h : Blk W g C T) : W.rangeAt g 0 C.toList := fun j v hj => by rw [Nat.zero_add]; exact h.cell j v (by rw [← Array.getElem?_toList]; exact hj)
/-- A packet, ports, and a code are answered. -/
def QpOut (w : World) (q : V4P) (x : Int × Int × Int) (k : Int) (e : Ending) (w' : World) : Prop :=
  ∃ Ao no co A n c, e = .returned (.tuple #[.agg (cells4 q Ao no co A n c), .agg (cellsPo x), .int .i64 k]) ∧ RB w' Ao no co q.opts ∧ RB w' A n c q.data ∧ Below w.heap.size w w'
theorem QpOut.no {w w' : World} {bs : List Int} {k : Int} (hk : codeQ bs = k) (h0 : k ≠ 0) (hb : Below w.heap.size w w') : QpOut w (packQ bs) (portQ bs) (codeQ bs) (.returned (.tuple #[.agg zero4c, .agg (cellsPo (0, 0, 0)), .int .i64 k])) w' := by
  unfold packQ portQ
  rw [hk, if_neg h0, if_neg h0]
  exact ⟨none, 0, 0, none, 0, 0, rfl, RB.nil _, RB.nil _, hb⟩
theorem QpOut.yes {w w' : World} {bs : List Int} {P : V4P} {x : Int × Int × Int} {Ao : Option Addr} {no co : Nat} {A : Option Addr} {n c : Nat} {B : Nat} (hk : codeQ bs = 0) (hp : readV4 true bs = P) (hx : portsX P = x) (k1 : Blk w' B (cells4 zero4 none 0 0 none 0 0) 32) (k2 : Blk w' (B + 1) (cellsPo (0, 0, 0)) 41)
    (ho : RB w' Ao no co P.opts) (hd : RB w' A n c P.data) (hb : Below w.heap.size w w') (hB : w.heap.size ≤ B) :
    QpOut w (packQ bs) (portQ bs) (codeQ bs) (.returned (.tuple #[.agg (cells4 P Ao no co A n c), .agg (cellsPo x), .int .i64 0])) ((w'.setRow B (cells4 P Ao no co A n c)).setRow (B + 1) (cellsPo x)) := by
  unfold packQ portQ
  rw [hk, if_pos rfl, if_pos rfl, hp, hx]
  have k3 := k2.farRow (show B + 1 ≠ B by omega) (cells4 P Ao no co A n c)
  have nb : ∀ j y, (w'.setRow B (cells4 P Ao no co A n c)).cell? ⟨B + 1, j, none⟩ ≠ some (.int .u8 y) := k3.nobytes (fun u hu y => by simp at hu; rcases hu with rfl | rfl | rfl <;> simp)
  exact ⟨Ao, no, co, A, n, c, rfl, (ho.farRow (nbc4 k1) _).farRow nb _, (hd.farRow (nbc4 k1) _).farRow nb _, below_row (below_row hb hB _) (by omega) _⟩
set_option maxHeartbeats 1000000 in
theorem RefNum26_any (A : Option Addr) (n c : Nat) (bs : List Int) (a s : Int) (W : World) (h : RB W A n c bs) (hn : n ≤ 100000) :
    Calls Try.prog 34 #[.slice A n c, .int .i64 a, .int .i64 s] W fun e w' => e = .returned (.int .i64 (getV bs a s).1) ∧ W = w' := by
  have hG := Lib.hid (RefGet_any A n c bs a s W h hn)
  clear h
  go_enter Try.func34, Try.ntmps34
  go_wp2_with (go_at_call 28; refine (hG.out).mono ?_; rintro e w' ⟨rfl, rfl⟩)
  go_ret
  exact ⟨rfl, rfl⟩
set_option maxRecDepth 100000 in
set_option maxHeartbeats 4000000 in
theorem RefQPorts_bad (A : Option Addr) (n c : Nat) (bs : List Int) (w : World) (h : RB w A n c bs) (hn : n ≤ 100000) (hk : codeQo bs ≠ 0) :
    Calls Try.prog 16 #[.slice A n c] w (QpOut w (packQ bs) (portQ bs) (codeQ bs)) := by
  obtain ⟨w0, hw0⟩ : ∃ w0, (w.alloc (.cells zero4c 32)).alloc (.cells (cellsPo (0, 0, 0)) 41) = w0 := ⟨_, rfl⟩
  have hb := Lib.hid (show Below w.heap.size w w0 by rw [← hw0]; exact ((Below.refl _ w).alloc (Nat.le_refl _) _).alloc (by simp) _)
  have kZ := Lib.hid (show Blk w0 w.heap.size zero4c 32 by rw [← hw0]; exact (blk_at rfl).alloc _)
  have kX := Lib.hid (show Blk w0 (w.heap.size + 1) (cellsPo (0, 0, 0)) 41 by rw [← hw0]; exact blk_at (by simp))
  have hP := fun W (hW : Below w.heap.size w W) => RefQuoted4_any A n c bs W (h.below hW) hn
  unfold V4Out at hP
  replace hw0 := Lib.hid hw0
  clear h
  have hQ : codeQ bs = codeQo bs := by unfold codeQ; rw [if_pos hk]
  by_cases hv : codeV4 true bs = 0
  rotate_left
  · have hQ2 := Lib.hid (hQ.trans (show codeQo bs = codeV4 true bs by unfold codeQo; rw [if_pos hv]))
    have hvn : (codeV4 true bs != 0) = true := by simpa using hv
    have hv' := Lib.hid hv
    generalize codeV4 true bs = kk at *
    generalize readV4 true bs = p at *
    replace hP := Lib.hid hP
    clear hQ hk hv
    go_enter Try.func16, Try.ntmps16
    go_upto_region 1 with fail
    rw [hw0.out]
    go_wp2_with (first
      | (go_at_call 33; refine (hP.out _ hb.out).mono ?_; rintro e w1 ⟨Ao, no, co, A1, n1, c1, rfl, ho1, hd1, hB1⟩; have hy := hB1.alloc hB1.size (.cells (cells4 p Ao no co A1 n1 c1) 32); have hb1 := Lib.hid (hb.out.trans (hy.mono hb.out.size)); have kZ1 := Lib.hid (kZ.out.to hy); have kX1 := Lib.hid (kX.out.to hy); have kP1 := Blk.new w1 (cells4 p Ao no co A1 n1 c1) 32; have p2 := kP1.cell 2 (.int .i64 p.off) rfl; have p4 := kP1.cell 4 (.int .i64 p.pr) rfl; have p10 := kP1.cell 10 (.slice A1 n1 c1) rfl; have ro1 := Lib.hid (ho1.rb.alloc (.cells (cells4 p Ao no co A1 n1 c1) 32)); have rd1 := Lib.hid (hd1.rb.alloc (.cells (cells4 p Ao no co A1 n1 c1) 32)); have hs1 := Lib.hid hB1.size; replace kP1 := Lib.hid kP1; replace hB1 := 0; clear ho1 hd1 hy)
      | (refine wpList_store_4 rfl (.tmp 5) (.tmp 10) rfl w1.heap.size (cells4 p Ao no co A1 n1 c1) rfl rfl _ (Blk.new _ zero4c 32) rfl rfl (one4 _ _ _ _ _ _ _) ?_; rw [World.setRow_alloc_new])
      | (refine wpList_store_4 rfl (.tmp 2) (.tmp 15) rfl w.heap.size zero4c rfl rfl _ kZ1.out rfl rfl (one4 zero4 none 0 0 none 0 0) ?_; rw [setRow_self _ _ _ _ _ kZ1.out.at_])
      | (refine wpList_store_PO rfl (.tmp 3) (.tmp 16) rfl (w.heap.size + 1) (cellsPo (0, 0, 0)) rfl rfl _ kX1.out rfl rfl (one_po _) ?_; rw [setRow_self _ _ _ _ _ kX1.out.at_])
      | fail)
    refine bodyPost_ret (results_cct Try.results16 rfl rfl (run_load_4 kZ1.out rfl) (run_load_PO kX1.out rfl)) rfl ?_
    exact QpOut.no hQ2.out hv'.out hb1.out
  have hvn : (codeV4 true bs != 0) = false := by simpa using hv
  by_cases h1 : 0 < (readV4 true bs).off
  · have hQ2 := Lib.hid (hQ.trans (show codeQo bs = 4 by unfold codeQo; rw [if_neg (fun g => g hv), if_pos h1]))
    rw [hv] at hP
    generalize readV4 true bs = p at *
    replace hP := Lib.hid hP
    clear hQ hk hv hvn
    go_enter Try.func16, Try.ntmps16
    go_upto_region 1 with fail
    rw [hw0.out]
    go_wp2_with (first
      | (go_at_call 33; refine (hP.out _ hb.out).mono ?_; rintro e w1 ⟨Ao, no, co, A1, n1, c1, rfl, ho1, hd1, hB1⟩; have hy := hB1.alloc hB1.size (.cells (cells4 p Ao no co A1 n1 c1) 32); have hb1 := Lib.hid (hb.out.trans (hy.mono hb.out.size)); have kZ1 := Lib.hid (kZ.out.to hy); have kX1 := Lib.hid (kX.out.to hy); have kP1 := Blk.new w1 (cells4 p Ao no co A1 n1 c1) 32; have p2 := kP1.cell 2 (.int .i64 p.off) rfl; have p4 := kP1.cell 4 (.int .i64 p.pr) rfl; have p10 := kP1.cell 10 (.slice A1 n1 c1) rfl; have ro1 := Lib.hid (ho1.rb.alloc (.cells (cells4 p Ao no co A1 n1 c1) 32)); have rd1 := Lib.hid (hd1.rb.alloc (.cells (cells4 p Ao no co A1 n1 c1) 32)); have hs1 := Lib.hid hB1.size; replace kP1 := Lib.hid kP1; replace hB1 := 0; clear ho1 hd1 hy)
      | (refine wpList_store_4 rfl (.tmp 5) (.tmp 10) rfl w1.heap.size (cells4 p Ao no co A1 n1 c1) rfl rfl _ (Blk.new _ zero4c 32) rfl rfl (one4 _ _ _ _ _ _ _) ?_; rw [World.setRow_alloc_new])
      | (refine wpList_store_4 rfl (.tmp 2) (.tmp 22) rfl w.heap.size zero4c rfl rfl _ kZ1.out rfl rfl (one4 zero4 none 0 0 none 0 0) ?_; rw [setRow_self _ _ _ _ _ kZ1.out.at_])
      | (refine wpList_store_PO rfl (.tmp 3) (.tmp 23) rfl (w.heap.size + 1) (cellsPo (0, 0, 0)) rfl rfl _ kX1.out rfl rfl (one_po _) ?_; rw [setRow_self _ _ _ _ _ kX1.out.at_])
      | fail)
    refine bodyPost_ret (results_cct Try.results16 rfl rfl (run_load_4 kZ1.out rfl) (run_load_PO kX1.out rfl)) rfl ?_
    exact QpOut.no hQ2.out (by decide) hb1.out
  have h2 : (readV4 true bs).data.length < 8 := by
    unfold codeQo at hk
    rw [if_neg (fun g => g hv), if_neg h1] at hk
    by_cases h2 : (readV4 true bs).data.length < 8
    · exact h2
    · rw [if_neg h2] at hk; exact absurd rfl hk
  have hQ2 := Lib.hid (hQ.trans (show codeQo bs = 3 by unfold codeQo; rw [if_neg (fun g => g hv), if_neg h1, if_pos h2]))
  rw [hv] at hP
  generalize readV4 true bs = p at *
  replace hP := Lib.hid hP
  clear hQ hk hv hvn
  go_enter Try.func16, Try.ntmps16
  go_upto_region 1 with fail
  rw [hw0.out]
  go_upto_region 6 with (first
    | (go_at_call 33; refine (hP.out _ hb.out).mono ?_; rintro e w1 ⟨Ao, no, co, A1, n1, c1, rfl, ho1, hd1, hB1⟩; have hy := hB1.alloc hB1.size (.cells (cells4 p Ao no co A1 n1 c1) 32); have hb1 := Lib.hid (hb.out.trans (hy.mono hb.out.size)); have kZ1 := Lib.hid (kZ.out.to hy); have kX1 := Lib.hid (kX.out.to hy); have kP1 := Blk.new w1 (cells4 p Ao no co A1 n1 c1) 32; have p2 := kP1.cell 2 (.int .i64 p.off) rfl; have p4 := kP1.cell 4 (.int .i64 p.pr) rfl; have p10 := kP1.cell 10 (.slice A1 n1 c1) rfl; have ro1 := Lib.hid (ho1.rb.alloc (.cells (cells4 p Ao no co A1 n1 c1) 32)); have rd1 := Lib.hid (hd1.rb.alloc (.cells (cells4 p Ao no co A1 n1 c1) 32)); have hs1 := Lib.hid hB1.size; replace kP1 := Lib.hid kP1; replace hB1 := 0; clear ho1 hd1 hy)
    | (refine wpList_store_4 rfl (.tmp 5) (.tmp 10) rfl w1.heap.size (cells4 p Ao no co A1 n1 c1) rfl rfl _ (Blk.new _ zero4c 32) rfl rfl (one4 _ _ _ _ _ _ _) ?_; rw [World.setRow_alloc_new])
    | fail)
  have hn1 := rd1.out.len
  have h8 : (n1 : Int) < 8 := by omega
  clear hn1
  go_wp2_with (first
    | (refine wpList_store_4 rfl (.tmp 2) (.tmp 29) rfl w.heap.size zero4c rfl rfl _ kZ1.out rfl rfl (one4 zero4 none 0 0 none 0 0) ?_; rw [setRow_self _ _ _ _ _ kZ1.out.at_])
    | (refine wpList_store_PO rfl (.tmp 3) (.tmp 30) rfl (w.heap.size + 1) (cellsPo (0, 0, 0)) rfl rfl _ kX1.out rfl rfl (one_po _) ?_; rw [setRow_self _ _ _ _ _ kX1.out.at_])
    | fail)
  refine bodyPost_ret (results_cct Try.results16 rfl rfl (run_load_4 kZ1.out rfl) (run_load_PO kX1.out rfl)) rfl ?_
  exact QpOut.no hQ2.out (by decide) hb1.out
set_option maxRecDepth 100000 in
set_option maxHeartbeats 4000000 in
theorem RefQPorts_good (A : Option Addr) (n c : Nat) (bs : List Int) (w : World) (h : RB w A n c bs) (hn : n ≤ 3000) (hk : codeQo bs = 0) :
    Calls Try.prog 16 #[.slice A n c] w (QpOut w (packQ bs) (portQ bs) (codeQ bs)) := by
  have hn0 := hn
  replace hn : n ≤ 100000 := by omega
  have hlen := h.len
  have hby := h.byt
  obtain ⟨w0, hw0⟩ : ∃ w0, (w.alloc (.cells zero4c 32)).alloc (.cells (cellsPo (0, 0, 0)) 41) = w0 := ⟨_, rfl⟩
  have hb := Lib.hid (show Below w.heap.size w w0 by rw [← hw0]; exact ((Below.refl _ w).alloc (Nat.le_refl _) _).alloc (by simp) _)
  have kZ := Lib.hid (show Blk w0 w.heap.size zero4c 32 by rw [← hw0]; exact (blk_at rfl).alloc _)
  have kX := Lib.hid (show Blk w0 (w.heap.size + 1) (cellsPo (0, 0, 0)) 41 by rw [← hw0]; exact blk_at (by simp))
  have hP := fun W (hW : Below w.heap.size w W) => RefQuoted4_any A n c bs W (h.below hW) hn
  unfold V4Out at hP
  replace hw0 := Lib.hid hw0
  clear h
  have hQ : codeQ bs = codeX (readV4 true bs) := by unfold codeQ; rw [if_neg (fun g => g hk)]
  have hv : codeV4 true bs = 0 := by
    unfold codeQo at hk
    by_cases h : codeV4 true bs = 0
    · exact h
    · rw [if_pos h] at hk; exact absurd hk h
  obtain ⟨h1, h2⟩ : ¬ 0 < (readV4 true bs).off ∧ ¬ (readV4 true bs).data.length < 8 := by
    unfold codeQo at hk
    rw [if_neg (fun g => g hv)] at hk
    by_cases h1 : 0 < (readV4 true bs).off
    · rw [if_pos h1] at hk; cases hk
    · rw [if_neg h1] at hk
      by_cases h2 : (readV4 true bs).data.length < 8
      · rw [if_pos h2] at hk; cases hk
      · exact ⟨h1, h2⟩
  have hdl : (readV4 true bs).data.length ≤ 100000 := by
    have e : readV4 true bs = pack4 bs := by unfold readV4; rw [if_pos hv]
    rw [e]
    show ((bs.take (end4 bs)).drop (hd4 bs)).length ≤ _
    rw [List.length_drop, List.length_take]; omega
  rw [hv] at hP
  obtain ⟨p, hp⟩ : ∃ p, readV4 true bs = p := ⟨_, rfl⟩
  rw [hp] at hP hQ h1 h2 hdl
  replace hP := Lib.hid hP
  replace hp := Lib.hid hp
  clear hk hv hlen hby hn hn0
  by_cases h6 : p.pr = 6 ∨ p.pr = 17
  · have hQ0 : codeQ bs = 0 := by rw [hQ]; unfold codeX; rw [if_pos h6]
    have hX := Lib.hid (show portsX p = (p.pr, (getV p.data 0 2).1, (getV p.data 2 2).1) by unfold portsX; rw [if_pos h6])
    have hQ2 := Lib.hid hQ0
    clear hQ hQ0
    go_enter Try.func16, Try.ntmps16
    go_upto_region 1 with fail
    rw [hw0.out]
    go_upto_region 6 with (first
      | (go_at_call 33; refine (hP.out _ hb.out).mono ?_; rintro e w1 ⟨Ao, no, co, A1, n1, c1, rfl, ho1, hd1, hB1⟩; have hy := hB1.alloc hB1.size (.cells (cells4 p Ao no co A1 n1 c1) 32); have hb1 := Lib.hid (hb.out.trans (hy.mono hb.out.size)); have kZ1 := Lib.hid (kZ.out.to hy); have kX1 := Lib.hid (kX.out.to hy); have kP1 := Blk.new w1 (cells4 p Ao no co A1 n1 c1) 32; have p2 := kP1.cell 2 (.int .i64 p.off) rfl; have p4 := kP1.cell 4 (.int .i64 p.pr) rfl; have p10 := kP1.cell 10 (.slice A1 n1 c1) rfl; have ro1 := Lib.hid (ho1.rb.alloc (.cells (cells4 p Ao no co A1 n1 c1) 32)); have rd1 := Lib.hid (hd1.rb.alloc (.cells (cells4 p Ao no co A1 n1 c1) 32)); have hs1 := Lib.hid hB1.size; replace kP1 := Lib.hid kP1; replace hB1 := 0; clear ho1 hd1 hy)
      | (refine wpList_store_4 rfl (.tmp 5) (.tmp 10) rfl w1.heap.size (cells4 p Ao no co A1 n1 c1) rfl rfl _ (Blk.new _ zero4c 32) rfl rfl (one4 _ _ _ _ _ _ _) ?_; rw [World.setRow_alloc_new])
      | fail)
    have hn1 := rd1.out.len
    have h8 : ¬ (n1 : Int) < 8 := by omega
    clear hn1
    obtain ⟨b6, b17, q6, q17, hbb⟩ : ∃ b6 b17 : Bool, (p.pr == 6) = b6 ∧ (p.pr == 17) = b17 ∧ (b6 = true ∨ (b6 = false ∧ b17 = true)) := by
      rcases h6 with h6 | h6
      · exact ⟨true, false, by simp [h6], by simp [h6], .inl rfl⟩
      · exact ⟨false, true, by simp [h6], by simp [h6], .inr ⟨rfl, rfl⟩⟩
    clear h6
    rcases hbb with rfl | ⟨rfl, rfl⟩
    all_goals
      go_upto_region 9 with fail
      have hz1 := Lib.hid hb1.out.drew
      have hltz := kZ.out.lt
      have hltx := kX.out.lt
      have hs1' := hs1.out
      have hSf := Lib.hid (fun W (k : Blk W w1.heap.size (cells4 p Ao no co A1 n1 c1) 32) => show W.cell? ⟨w1.heap.size, 4, none⟩ = some (.int .i64 p.pr) ∧ W.cell? ⟨w1.heap.size, 10, none⟩ = some (.slice A1 n1 c1) ∧ W.rangeAt w1.heap.size 0 (cells4 p Ao no co A1 n1 c1).toList from ⟨k.cell 4 _ rfl, k.cell 10 _ rfl, rangeAt_blkQ k⟩)
      obtain ⟨w2, hw2⟩ : ∃ w2, (w1.alloc (.cells (cells4 p Ao no co A1 n1 c1) 32)).drew = w2 := ⟨_, rfl⟩
      have kP2 := Lib.hid (show Blk w2 w1.heap.size (cells4 p Ao no co A1 n1 c1) 32 by rw [← hw2]; exact kP1.out.drew)
      have kZ2 := Lib.hid (show Blk w2 w.heap.size zero4c 32 by rw [← hw2]; exact kZ1.out.drew)
      have kX2 := Lib.hid (show Blk w2 (w.heap.size + 1) (cellsPo (0, 0, 0)) 41 by rw [← hw2]; exact kX1.out.drew)
      have ro2 := Lib.hid (show RB w2 Ao no co p.opts by rw [← hw2]; exact ro1.out.drew)
      have rd2 := Lib.hid (show RB w2 A1 n1 c1 p.data by rw [← hw2]; exact rd1.out.drew)
      have hb2 := Lib.hid (show Below w.heap.size w w2 by rw [← hw2]; exact hz1.out)
      have hnum := Lib.hid (fun a s => RefNum26_any A1 n1 c1 p.data a s w2 rd2.out (by have := rd2.out.len; omega))
      have hS1 := hSf.out _ kP2.out
      have kP3 := Lib.hid (kP2.out.farRow (show w1.heap.size ≠ w.heap.size by omega) (cells4 p Ao no co A1 n1 c1))
      have kX3 := Lib.hid (kX2.out.farRow (show w.heap.size + 1 ≠ w.heap.size by omega) (cells4 p Ao no co A1 n1 c1))
      have hS2 := hSf.out _ kP3.out
      have hS3 := fun cs => hSf.out _ (kP3.out.farRow (show w1.heap.size ≠ w.heap.size + 1 by omega) cs)
      have hi := Lib.hid (show (Try.prog.info? 32).map (·.size) = some (cells4 p Ao no co A1 n1 c1).toList.length from info_v4)
      try simp only [Act.put]
      refine wp_region_held_drew (S := fun W => W.cell? ⟨w1.heap.size, 4, none⟩ = some (.int .i64 p.pr) ∧ W.cell? ⟨w1.heap.size, 10, none⟩ = some (.slice A1 n1 c1) ∧ W.rangeAt w1.heap.size 0 (cells4 p Ao no co A1 n1 c1).toList) (by kernel_rfl) (by rw [hw2]; exact hS1) (fun hHeld => ?_)
      rw [hw2] at hHeld ⊢
      replace hw2 := Lib.hid hw2
      clear hltz hltx hs1' p2 p4 p10
      refine take_h (i := 0) rfl rfl (by kernel_rfl) (by kernel_rfl) (by kernel_rfl) (fun _ _ _ h => h) (yieldsIf_load_mid (by rfl) 32 (.tmp 5) rfl _ _ rfl (cells4 p Ao no co A1 n1 c1).toList _ (fun W hW => hW.2.2) Try.underlying32 rfl hi.out) (by assumption) ?_
      simp only [Act.put, List.setIfInBounds_toArray, List.set_cons_zero, List.set_cons_succ]
      refine take_h (i := 1) (v := ?_) rfl rfl (by kernel_rfl) (by kernel_rfl) (by kernel_rfl) (fun _ _ _ h => h) (Or.inl ⟨by rfl, fun W hSw => ?_⟩) (by assumption) ?_
      rotate_left
      · (clear hSw; go_simp; try with_reducible rfl)
      simp only [Act.put, List.setIfInBounds_toArray, List.set_cons_zero, List.set_cons_succ]
      refine take_h (i := 2) (v := ?_) rfl rfl (by kernel_rfl) (by kernel_rfl) (by kernel_rfl) (fun _ _ _ h => h) (Or.inl ⟨by rfl, fun W hSw => ?_⟩) (by assumption) ?_
      rotate_left
      · (obtain ⟨hs0, hs1, hs2⟩ := hSw; clear hs2; go_simp; try with_reducible rfl)
      simp only [Act.put, List.setIfInBounds_toArray, List.set_cons_zero, List.set_cons_succ]
      refine take_h (i := 3) (v := ?_) rfl rfl (by kernel_rfl) (by kernel_rfl) (by kernel_rfl) (fun _ _ _ h => h) (Or.inl ⟨by rfl, fun W hSw => ?_⟩) (by assumption) ?_
      rotate_left
      · (clear hSw; go_simp; try with_reducible rfl)
      simp only [Act.put, List.setIfInBounds_toArray, List.set_cons_zero, List.set_cons_succ]
      refine take_h (i := 4) (v := ?_) rfl rfl (by kernel_rfl) (by kernel_rfl) (by kernel_rfl) (fun _ _ _ h => h) (Or.inl ⟨by rfl, fun W hSw => ?_⟩) (by assumption) ?_
      rotate_left
      · (obtain ⟨hs0, hs1, hs2⟩ := hSw; clear hs2; go_simp; try with_reducible rfl)
      simp only [Act.put, List.setIfInBounds_toArray, List.set_cons_zero, List.set_cons_succ]
      refine take_h (i := 6) (v := ?_) rfl rfl (by kernel_rfl) (by kernel_rfl) (by kernel_rfl) (fun _ _ _ h => h) (Or.inl ⟨by rfl, fun W hSw => ?_⟩) (by assumption) ?_
      rotate_left
      · (clear hSw; go_simp; try with_reducible rfl)
      simp only [Act.put, List.setIfInBounds_toArray, List.set_cons_zero, List.set_cons_succ]
      refine take_h (i := 7) (v := ?_) rfl rfl (by kernel_rfl) (by kernel_rfl) (by kernel_rfl) (fun _ _ _ h => h) (Or.inl ⟨by rfl, fun W hSw => ?_⟩) (by assumption) ?_
      rotate_left
      · (obtain ⟨hs0, hs1, hs2⟩ := hSw; clear hs2; go_simp; try with_reducible rfl)
      simp only [Act.put, List.setIfInBounds_toArray, List.set_cons_zero, List.set_cons_succ]
      refine step_h (i := 5) rfl rfl (by kernel_rfl) (fun K hK => ?_)
      go_simp
      refine Calls.mono (hnum.out 0 2) ?_
      rintro e w' ⟨rfl, rfl⟩
      go_wp2_with fail
      refine hK.out _ _ hS1 (fun hHeld => ?_)
      clear hK K
      try simp only [Act.put, List.setIfInBounds_toArray, List.set_cons_zero, List.set_cons_succ]
      refine step_h (i := 8) rfl rfl (by kernel_rfl) (fun K hK => ?_)
      go_simp
      refine Calls.mono (hnum.out 2 2) ?_
      rintro e w' ⟨rfl, rfl⟩
      go_wp2_with fail
      refine hK.out _ _ hS1 (fun hHeld => ?_)
      clear hK K
      try simp only [Act.put, List.setIfInBounds_toArray, List.set_cons_zero, List.set_cons_succ]
      refine take_h (i := 9) (v := ?_) rfl rfl (by kernel_rfl) (by kernel_rfl) (by kernel_rfl) (fun _ _ _ h => h) (Or.inl ⟨by rfl, fun W hSw => ?_⟩) (by assumption) ?_
      rotate_left
      · (clear hSw; go_simp; try with_reducible rfl)
      simp only [Act.put, List.setIfInBounds_toArray, List.set_cons_zero, List.set_cons_succ]
      refine step_h (i := 10) rfl rfl (by kernel_rfl) (fun K hK => ?_)
      rw [if_pos (by rfl)]
      refine wp_store_row 32 (.tmp 2) (.tmp 40) rfl _ (cells4 p Ao no co A1 n1 c1) rfl rfl 32 zero4c kZ2.out.at_ info_v4 rfl (one4 _ _ _ _ _ _ _) ?_
      refine hK.out _ _ hS2 (fun hHeld => ?_)
      clear hK K
      refine step_h (i := 11) rfl rfl (by kernel_rfl) (fun K hK => ?_)
      rw [if_pos (by rfl)]
      refine wp_store_row 41 (.tmp 3) (.tmp 49) rfl _ (cellsPo (p.pr, (getV p.data 0 2).1, (getV p.data 2 2).1)) rfl rfl 41 (cellsPo (0, 0, 0)) kX3.out.at_ info_po rfl (one_po _) ?_
      refine hK.out _ _ (hS3 _) (fun hHeld => ?_)
      clear hK K
      refine take_h (i := 12) (v := ?_) rfl rfl (by kernel_rfl) (by kernel_rfl) (by kernel_rfl) (fun _ _ _ h => h) (Or.inl ⟨by rfl, fun W hSw => ?_⟩) (by assumption) ?_
      rotate_left
      · (clear hSw; go_simp; try with_reducible rfl)
      simp only [Act.put, List.setIfInBounds_toArray, List.set_cons_zero, List.set_cons_succ]
      refine wpAnyH_done (by kernel_rfl) ?_ _
      clear hHeld hS1 hS2 hS3
      try simp only [Act.put]
      go_wp2_with fail
      have kL1 : Blk (w2.setRow w.heap.size (cells4 p Ao no co A1 n1 c1)) w.heap.size (cells4 p Ao no co A1 n1 c1) 32 := Blk.mk (setRow_heap _ _ _ _ _ _ kZ2.out.at_)
      refine bodyPost_ret (results_cct Try.results16 rfl rfl (run_load_4 (kL1.farRow (show w.heap.size ≠ w.heap.size + 1 by omega) _) rfl) (run_load_PO (Blk.mk (setRow_heap _ _ _ _ _ _ kX3.out.at_)) rfl)) rfl ?_
      exact QpOut.yes hQ2.out hp.out hX.out kZ2.out kX2.out ro2.out rd2.out hb2.out (Nat.le_refl _)
  · have h6a : ¬ p.pr = 6 := fun g => h6 (.inl g)
    have h6b : ¬ p.pr = 17 := fun g => h6 (.inr g)
    have q6 : (p.pr == 6) = false := by simpa using h6a
    have q17 : (p.pr == 17) = false := by simpa using h6b
    have hXn : codeX p = if qryX p = true then 0 else 8 := by unfold codeX; rw [if_neg h6]
    have hXp : portsX p = if qryX p = true then (1, (getV p.data 4 2).1, (getV p.data 4 2).1) else (0, 0, 0) := by unfold portsX; rw [if_neg h6]
    clear h6 h6a h6b
    by_cases h1p : p.pr = 1
    rotate_left
    · have q1 : (p.pr == 1) = false := by simpa using h1p
      have hq : qryX p = false := by unfold qryX; rw [q1]; rfl
      rw [hq] at hXn
      have hQ2 := Lib.hid (hQ.trans hXn)
      clear hQ hXn hXp hq h1p
      go_enter Try.func16, Try.ntmps16
      go_upto_region 1 with fail
      rw [hw0.out]
      go_upto_region 6 with (first
        | (go_at_call 33; refine (hP.out _ hb.out).mono ?_; rintro e w1 ⟨Ao, no, co, A1, n1, c1, rfl, ho1, hd1, hB1⟩; have hy := hB1.alloc hB1.size (.cells (cells4 p Ao no co A1 n1 c1) 32); have hb1 := Lib.hid (hb.out.trans (hy.mono hb.out.size)); have kZ1 := Lib.hid (kZ.out.to hy); have kX1 := Lib.hid (kX.out.to hy); have kP1 := Blk.new w1 (cells4 p Ao no co A1 n1 c1) 32; have p2 := kP1.cell 2 (.int .i64 p.off) rfl; have p4 := kP1.cell 4 (.int .i64 p.pr) rfl; have p10 := kP1.cell 10 (.slice A1 n1 c1) rfl; have ro1 := Lib.hid (ho1.rb.alloc (.cells (cells4 p Ao no co A1 n1 c1) 32)); have rd1 := Lib.hid (hd1.rb.alloc (.cells (cells4 p Ao no co A1 n1 c1) 32)); have hs1 := Lib.hid hB1.size; replace kP1 := Lib.hid kP1; replace hB1 := 0; clear ho1 hd1 hy)
        | (refine wpList_store_4 rfl (.tmp 5) (.tmp 10) rfl w1.heap.size (cells4 p Ao no co A1 n1 c1) rfl rfl _ (Blk.new _ zero4c 32) rfl rfl (one4 _ _ _ _ _ _ _) ?_; rw [World.setRow_alloc_new])
        | fail)
      have hn1 := rd1.out.len
      have h8 : ¬ (n1 : Int) < 8 := by omega
      clear hn1
      go_wp2_with (first
        | (refine wpList_store_4 rfl (.tmp 2) (.tmp 70) rfl w.heap.size zero4c rfl rfl _ kZ1.out rfl rfl (one4 zero4 none 0 0 none 0 0) ?_; rw [setRow_self _ _ _ _ _ kZ1.out.at_])
        | (refine wpList_store_PO rfl (.tmp 3) (.tmp 71) rfl (w.heap.size + 1) (cellsPo (0, 0, 0)) rfl rfl _ kX1.out rfl rfl (one_po _) ?_; rw [setRow_self _ _ _ _ _ kX1.out.at_])
        | fail)
      refine bodyPost_ret (results_cct Try.results16 rfl rfl (run_load_4 kZ1.out rfl) (run_load_PO kX1.out rfl)) rfl ?_
      exact QpOut.no hQ2.out (by decide) hb1.out
    have q1 : (p.pr == 1) = true := by simpa using h1p
    have hqx : qryX p = queryI (p.data[0]?.getD 0) := by unfold qryX; rw [q1]; rfl
    obtain ⟨x0, hx0⟩ : ∃ x0, p.data[0]?.getD 0 = x0 := ⟨_, rfl⟩
    rw [hx0] at hqx
    replace hx0 := Lib.hid hx0
    have hQy := fun W => RefQuery_any x0 W
    cases hqq : queryI x0
    · rw [hqq] at hqx hQy
      rw [hqx] at hXn
      have hQ2 := Lib.hid (hQ.trans hXn)
      replace hQy := Lib.hid hQy
      clear hQ hXn hXp hqq hqx h1p
      go_enter Try.func16, Try.ntmps16
      go_upto_region 1 with fail
      rw [hw0.out]
      go_upto_region 6 with (first
        | (go_at_call 33; refine (hP.out _ hb.out).mono ?_; rintro e w1 ⟨Ao, no, co, A1, n1, c1, rfl, ho1, hd1, hB1⟩; have hy := hB1.alloc hB1.size (.cells (cells4 p Ao no co A1 n1 c1) 32); have hb1 := Lib.hid (hb.out.trans (hy.mono hb.out.size)); have kZ1 := Lib.hid (kZ.out.to hy); have kX1 := Lib.hid (kX.out.to hy); have kP1 := Blk.new w1 (cells4 p Ao no co A1 n1 c1) 32; have p2 := kP1.cell 2 (.int .i64 p.off) rfl; have p4 := kP1.cell 4 (.int .i64 p.pr) rfl; have p10 := kP1.cell 10 (.slice A1 n1 c1) rfl; have ro1 := Lib.hid (ho1.rb.alloc (.cells (cells4 p Ao no co A1 n1 c1) 32)); have rd1 := Lib.hid (hd1.rb.alloc (.cells (cells4 p Ao no co A1 n1 c1) 32)); have hs1 := Lib.hid hB1.size; replace kP1 := Lib.hid kP1; replace hB1 := 0; clear ho1 hd1 hy)
        | (refine wpList_store_4 rfl (.tmp 5) (.tmp 10) rfl w1.heap.size (cells4 p Ao no co A1 n1 c1) rfl rfl _ (Blk.new _ zero4c 32) rfl rfl (one4 _ _ _ _ _ _ _) ?_; rw [World.setRow_alloc_new])
        | fail)
      have hn1 := rd1.out.len
      have h8 : ¬ (n1 : Int) < 8 := by omega
      clear hn1
      obtain ⟨b, off, rfl, hbl, hcc⟩ := rd1.out.mem (by omega)
      have c0 := hcc 0 (by omega)
      rw [Nat.add_zero, hx0.out] at c0
      have wx0 : IntKind.i64.wrap x0 = x0 := by
        have y0 := rd1.out.byt.get 0
        rw [hx0.out] at y0
        rw [IntKind.wrap_i64]; omega
      have i0 : (0 : Int) < n1 := by omega
      have j0 : 0 < n1 := by omega
      clear hcc hbl
      go_wp2_with (first
        | (go_at_call 35; refine (hQy.out _).mono ?_; rintro e w3 ⟨rfl, rfl⟩)
        | (refine wpList_store_4 rfl (.tmp 2) (.tmp 70) rfl w.heap.size zero4c rfl rfl _ kZ1.out rfl rfl (one4 zero4 none 0 0 none 0 0) ?_; rw [setRow_self _ _ _ _ _ kZ1.out.at_])
        | (refine wpList_store_PO rfl (.tmp 3) (.tmp 71) rfl (w.heap.size + 1) (cellsPo (0, 0, 0)) rfl rfl _ kX1.out rfl rfl (one_po _) ?_; rw [setRow_self _ _ _ _ _ kX1.out.at_])
        | fail)
      refine bodyPost_ret (results_cct Try.results16 rfl rfl (run_load_4 kZ1.out rfl) (run_load_PO kX1.out rfl)) rfl ?_
      exact QpOut.no hQ2.out (by decide) hb1.out
    · rw [hqq] at hqx hQy
      rw [hqx] at hXn hXp
      have hQ2 := Lib.hid (hQ.trans hXn)
      have hX := Lib.hid (hXp.trans (if_pos rfl))
      replace hQy := Lib.hid hQy
      clear hQ hXn hXp hqq hqx h1p
      go_enter Try.func16, Try.ntmps16
      go_upto_region 1 with fail
      rw [hw0.out]
      go_upto_region 6 with (first
        | (go_at_call 33; refine (hP.out _ hb.out).mono ?_; rintro e w1 ⟨Ao, no, co, A1, n1, c1, rfl, ho1, hd1, hB1⟩; have hy := hB1.alloc hB1.size (.cells (cells4 p Ao no co A1 n1 c1) 32); have hb1 := Lib.hid (hb.out.trans (hy.mono hb.out.size)); have kZ1 := Lib.hid (kZ.out.to hy); have kX1 := Lib.hid (kX.out.to hy); have kP1 := Blk.new w1 (cells4 p Ao no co A1 n1 c1) 32; have p2 := kP1.cell 2 (.int .i64 p.off) rfl; have p4 := kP1.cell 4 (.int .i64 p.pr) rfl; have p10 := kP1.cell 10 (.slice A1 n1 c1) rfl; have ro1 := Lib.hid (ho1.rb.alloc (.cells (cells4 p Ao no co A1 n1 c1) 32)); have rd1 := Lib.hid (hd1.rb.alloc (.cells (cells4 p Ao no co A1 n1 c1) 32)); have hs1 := Lib.hid hB1.size; replace kP1 := Lib.hid kP1; replace hB1 := 0; clear ho1 hd1 hy)
        | (refine wpList_store_4 rfl (.tmp 5) (.tmp 10) rfl w1.heap.size (cells4 p Ao no co A1 n1 c1) rfl rfl _ (Blk.new _ zero4c 32) rfl rfl (one4 _ _ _ _ _ _ _) ?_; rw [World.setRow_alloc_new])
        | fail)
      have hn1 := rd1.out.len
      have h8 : ¬ (n1 : Int) < 8 := by omega
      clear hn1
      obtain ⟨b, off, rfl, hbl, hcc⟩ := rd1.out.mem (by omega)
      have c0 := hcc 0 (by omega)
      rw [Nat.add_zero, hx0.out] at c0
      have wx0 : IntKind.i64.wrap x0 = x0 := by
        have y0 := rd1.out.byt.get 0
        rw [hx0.out] at y0
        rw [IntKind.wrap_i64]; omega
      have i0 : (0 : Int) < n1 := by omega
      have j0 : 0 < n1 := by omega
      clear hcc hbl
      go_upto_region 11 with (first
        | (go_at_call 35; refine (hQy.out _).mono ?_; rintro e w3 ⟨rfl, rfl⟩)
        | fail)
      have hz1 := Lib.hid hb1.out.drew
      have hltz := kZ.out.lt
      have hltx := kX.out.lt
      have hs1' := hs1.out
      have hSf := Lib.hid (fun W (k : Blk W w1.heap.size (cells4 p Ao no co (some ⟨b, off, none⟩) n1 c1) 32) => show W.cell? ⟨w1.heap.size, 4, none⟩ = some (.int .i64 p.pr) ∧ W.cell? ⟨w1.heap.size, 10, none⟩ = some (.slice (some ⟨b, off, none⟩) n1 c1) ∧ W.rangeAt w1.heap.size 0 (cells4 p Ao no co (some ⟨b, off, none⟩) n1 c1).toList from ⟨k.cell 4 _ rfl, k.cell 10 _ rfl, rangeAt_blkQ k⟩)
      obtain ⟨w2, hw2⟩ : ∃ w2, (w1.alloc (.cells (cells4 p Ao no co (some ⟨b, off, none⟩) n1 c1) 32)).drew = w2 := ⟨_, rfl⟩
      have kP2 := Lib.hid (show Blk w2 w1.heap.size (cells4 p Ao no co (some ⟨b, off, none⟩) n1 c1) 32 by rw [← hw2]; exact kP1.out.drew)
      have kZ2 := Lib.hid (show Blk w2 w.heap.size zero4c 32 by rw [← hw2]; exact kZ1.out.drew)
      have kX2 := Lib.hid (show Blk w2 (w.heap.size + 1) (cellsPo (0, 0, 0)) 41 by rw [← hw2]; exact kX1.out.drew)
      have ro2 := Lib.hid (show RB w2 Ao no co p.opts by rw [← hw2]; exact ro1.out.drew)
      have rd2 := Lib.hid (show RB w2 (some ⟨b, off, none⟩) n1 c1 p.data by rw [← hw2]; exact rd1.out.drew)
      have hb2 := Lib.hid (show Below w.heap.size w w2 by rw [← hw2]; exact hz1.out)
      have hnum := Lib.hid (fun a s => RefNum26_any (some ⟨b, off, none⟩) n1 c1 p.data a s w2 rd2.out (by have := rd2.out.len; omega))
      have hS1 := hSf.out _ kP2.out
      have kP3 := Lib.hid (kP2.out.farRow (show w1.heap.size ≠ w.heap.size by omega) (cells4 p Ao no co (some ⟨b, off, none⟩) n1 c1))
      have kX3 := Lib.hid (kX2.out.farRow (show w.heap.size + 1 ≠ w.heap.size by omega) (cells4 p Ao no co (some ⟨b, off, none⟩) n1 c1))
      have hS2 := hSf.out _ kP3.out
      have hS3 := fun cs => hSf.out _ (kP3.out.farRow (show w1.heap.size ≠ w.heap.size + 1 by omega) cs)
      have hi := Lib.hid (show (Try.prog.info? 32).map (·.size) = some (cells4 p Ao no co (some ⟨b, off, none⟩) n1 c1).toList.length from info_v4)
      try simp only [Act.put]
      refine wp_region_held_drew (S := fun W => W.cell? ⟨w1.heap.size, 4, none⟩ = some (.int .i64 p.pr) ∧ W.cell? ⟨w1.heap.size, 10, none⟩ = some (.slice (some ⟨b, off, none⟩) n1 c1) ∧ W.rangeAt w1.heap.size 0 (cells4 p Ao no co (some ⟨b, off, none⟩) n1 c1).toList) (by kernel_rfl) (by rw [hw2]; exact hS1) (fun hHeld => ?_)
      rw [hw2] at hHeld ⊢
      replace hw2 := Lib.hid hw2
      clear hltz hltx hs1' p2 p4 p10
      refine take_h (i := 0) rfl rfl (by kernel_rfl) (by kernel_rfl) (by kernel_rfl) (fun _ _ _ h => h) (yieldsIf_load_mid (by rfl) 32 (.tmp 5) rfl _ _ rfl (cells4 p Ao no co (some ⟨b, off, none⟩) n1 c1).toList _ (fun W hW => hW.2.2) Try.underlying32 rfl hi.out) (by assumption) ?_
      simp only [Act.put, List.setIfInBounds_toArray, List.set_cons_zero, List.set_cons_succ]
      refine take_h (i := 1) (v := ?_) rfl rfl (by kernel_rfl) (by kernel_rfl) (by kernel_rfl) (fun _ _ _ h => h) (Or.inl ⟨by rfl, fun W hSw => ?_⟩) (by assumption) ?_
      rotate_left
      · (clear hSw; go_simp; try with_reducible rfl)
      simp only [Act.put, List.setIfInBounds_toArray, List.set_cons_zero, List.set_cons_succ]
      refine take_h (i := 2) (v := ?_) rfl rfl (by kernel_rfl) (by kernel_rfl) (by kernel_rfl) (fun _ _ _ h => h) (Or.inl ⟨by rfl, fun W hSw => ?_⟩) (by assumption) ?_
      rotate_left
      · (obtain ⟨hs0, hs1, hs2⟩ := hSw; clear hs2; go_simp; try with_reducible rfl)
      simp only [Act.put, List.setIfInBounds_toArray, List.set_cons_zero, List.set_cons_succ]
      refine take_h (i := 4) (v := ?_) rfl rfl (by kernel_rfl) (by kernel_rfl) (by kernel_rfl) (fun _ _ _ h => h) (Or.inl ⟨by rfl, fun W hSw => ?_⟩) (by assumption) ?_
      rotate_left
      · (clear hSw; go_simp; try with_reducible rfl)
      simp only [Act.put, List.setIfInBounds_toArray, List.set_cons_zero, List.set_cons_succ]
      refine take_h (i := 5) (v := ?_) rfl rfl (by kernel_rfl) (by kernel_rfl) (by kernel_rfl) (fun _ _ _ h => h) (Or.inl ⟨by rfl, fun W hSw => ?_⟩) (by assumption) ?_
      rotate_left
      · (obtain ⟨hs0, hs1, hs2⟩ := hSw; clear hs2; go_simp; try with_reducible rfl)
      simp only [Act.put, List.setIfInBounds_toArray, List.set_cons_zero, List.set_cons_succ]
      refine step_h (i := 3) rfl rfl (by kernel_rfl) (fun K hK => ?_)
      go_simp
      refine Calls.mono (hnum.out 4 2) ?_
      rintro e w' ⟨rfl, rfl⟩
      go_wp2_with fail
      refine hK.out _ _ hS1 (fun hHeld => ?_)
      clear hK K
      try simp only [Act.put, List.setIfInBounds_toArray, List.set_cons_zero, List.set_cons_succ]
      refine step_h (i := 6) rfl rfl (by kernel_rfl) (fun K hK => ?_)
      go_simp
      refine Calls.mono (hnum.out 4 2) ?_
      rintro e w' ⟨rfl, rfl⟩
      go_wp2_with fail
      refine hK.out _ _ hS1 (fun hHeld => ?_)
      clear hK K
      try simp only [Act.put, List.setIfInBounds_toArray, List.set_cons_zero, List.set_cons_succ]
      refine take_h (i := 7) (v := ?_) rfl rfl (by kernel_rfl) (by kernel_rfl) (by kernel_rfl) (fun _ _ _ h => h) (Or.inl ⟨by rfl, fun W hSw => ?_⟩) (by assumption) ?_
      rotate_left
      · (clear hSw; go_simp; try with_reducible rfl)
      simp only [Act.put, List.setIfInBounds_toArray, List.set_cons_zero, List.set_cons_succ]
      refine step_h (i := 8) rfl rfl (by kernel_rfl) (fun K hK => ?_)
      rw [if_pos (by rfl)]
      refine wp_store_row 32 (.tmp 2) (.tmp 62) rfl _ (cells4 p Ao no co (some ⟨b, off, none⟩) n1 c1) rfl rfl 32 zero4c kZ2.out.at_ info_v4 rfl (one4 _ _ _ _ _ _ _) ?_
      refine hK.out _ _ hS2 (fun hHeld => ?_)
      clear hK K
      refine step_h (i := 9) rfl rfl (by kernel_rfl) (fun K hK => ?_)
      rw [if_pos (by rfl)]
      refine wp_store_row 41 (.tmp 3) (.tmp 69) rfl _ (cellsPo (1, (getV p.data 4 2).1, (getV p.data 4 2).1)) rfl rfl 41 (cellsPo (0, 0, 0)) kX3.out.at_ info_po rfl (one_po _) ?_
      refine hK.out _ _ (hS3 _) (fun hHeld => ?_)
      clear hK K
      refine take_h (i := 10) (v := ?_) rfl rfl (by kernel_rfl) (by kernel_rfl) (by kernel_rfl) (fun _ _ _ h => h) (Or.inl ⟨by rfl, fun W hSw => ?_⟩) (by assumption) ?_
      rotate_left
      · (clear hSw; go_simp; try with_reducible rfl)
      simp only [Act.put, List.setIfInBounds_toArray, List.set_cons_zero, List.set_cons_succ]
      refine wpAnyH_done (by kernel_rfl) ?_ _
      clear hHeld hS1 hS2 hS3
      try simp only [Act.put]
      go_wp2_with fail
      have kL1 : Blk (w2.setRow w.heap.size (cells4 p Ao no co (some ⟨b, off, none⟩) n1 c1)) w.heap.size (cells4 p Ao no co (some ⟨b, off, none⟩) n1 c1) 32 := Blk.mk (setRow_heap _ _ _ _ _ _ kZ2.out.at_)
      refine bodyPost_ret (results_cct Try.results16 rfl rfl (run_load_4 (kL1.farRow (show w.heap.size ≠ w.heap.size + 1 by omega) _) rfl) (run_load_PO (Blk.mk (setRow_heap _ _ _ _ _ _ kX3.out.at_)) rfl)) rfl ?_
      exact QpOut.yes hQ2.out hp.out hX.out kZ2.out kX2.out ro2.out rd2.out hb2.out (Nat.le_refl _)
theorem RefQPorts_any (A : Option Addr) (n c : Nat) (bs : List Int) (w : World) (h : RB w A n c bs) (hn : n ≤ 3000) :
    Calls Try.prog 16 #[.slice A n c] w (QpOut w (packQ bs) (portQ bs) (codeQ bs)) := by
  by_cases hk : codeQo bs = 0
  · exact RefQPorts_good A n c bs w h hn hk
  · exact RefQPorts_bad A n c bs w h (by omega) hk
end Go.Proofs.Ytmbmmpbfmakfbaa
/- What is quoted (the reference): walks of sumAt, changed. -/
set_option linter.unusedVariables false
namespace Go.Proofs.Ytmbmmpbfmakfbaa
open Go Go.RowKit
attribute [local go_sem] Oper.semAt_some

theorem OB.past {w w' : World} {base : Nat} {A A3 : Option Addr} {n c : Nat} {bs : List Int} (h : OB w base A n c bs) (h3 : ∀ k, ownBlk A3 = some k → k < base) (hg : w.grownBy w' (ownBlk A3)) : RB w' A n c bs :=
  h.rb.grown (fun _ k hk e => by have h1 := (h.blk hk).1; have h2 := h3 k e; omega) hg
def sumAtI (p : V4P) : Int := if noSum p = true then -1 else (atQ p : Int)
theorem noSum_6 {p : V4P} (h : p.pr = 6) : noSum p = decide (p.data.length < 18) := by
  unfold noSum atQ; rw [if_pos h, show (p.pr == 17) = false from by simp [h]]; simp
theorem noSum_1 {p : V4P} (h : p.pr = 1) (h8 : 8 ≤ p.data.length) : noSum p = false := by
  unfold noSum atQ; rw [if_neg (by omega), if_pos h, show (p.pr == 17) = false from by simp [h]]; simp; omega
theorem noSum_17 {p : V4P} (h : p.pr = 17) (h8 : 8 ≤ p.data.length) : noSum p = ((getV p.data 6 2).1 == 0) := by
  unfold noSum atQ; rw [if_neg (by omega), if_neg (by omega), show (p.pr == 17) = true from by simp [h], show decide (p.data.length < 6 + 2) = false from by simp; omega]; simp
set_option maxRecDepth 100000 in
set_option maxHeartbeats 2000000 in
theorem RefSumAt26_any (p : V4P) (Ao : Option Addr) (no co : Nat) (A : Option Addr) (n c : Nat) (w : World) (hr : RB w A n c p.data) (hn : n ≤ 100000) (h8 : 8 ≤ n) (hp : p.pr = 6 ∨ p.pr = 17 ∨ p.pr = 1) :
    Calls Try.prog 65 #[.agg (cells4 p Ao no co A n c)] w fun e w' => e = .returned (.int .i64 (sumAtI p)) ∧ Below w.heap.size w w' := by
  have k := Blk.new w (cells4 p Ao no co A n c) 32
  have e4 := k.cell 4 (.int .i64 p.pr) rfl
  have e10 := k.cell 10 (.slice A n c) rfl
  have hb := Lib.hid ((Below.refl _ w).alloc (Nat.le_refl _) (.cells (cells4 p Ao no co A n c) 32))
  have hN := Lib.hid (RefNum26_any A n c p.data 6 2 (w.alloc (.cells (cells4 p Ao no co A n c) 32)) (hr.alloc _) hn)
  have hlen := hr.len
  clear k hr
  rcases hp with hp | hp | hp
  · have hs := noSum_6 hp
    have q6 : (p.pr == 6) = true := by simpa using hp
    have q17 : (p.pr == 17) = false := by simp [hp]
    have ha : atQ p = 16 := by unfold atQ; rw [if_pos hp]
    by_cases h : p.data.length < 18
    · have hz := Lib.hid (show sumAtI p = -1 by unfold sumAtI; rw [hs, if_pos (by simpa using h)])
      have hi : (n : Int) < 18 := by omega
      clear hs ha h hp h8 hlen
      go_enter Try.func65, Try.ntmps65
      go_wp2_with (first
        | (go_at_call 34; refine (hN.out).mono ?_; rintro e w' ⟨rfl, rfl⟩)
        | fail)
      go_ret
      exact ⟨by rw [hz.out]; rfl, hb.out⟩
    · have hz := Lib.hid (show sumAtI p = 16 by unfold sumAtI; rw [hs, if_neg (by simpa using h), ha]; rfl)
      have hi : ¬ (n : Int) < 18 := by omega
      clear hs ha h hp h8 hlen
      go_enter Try.func65, Try.ntmps65
      go_wp2_with (first
        | (go_at_call 34; refine (hN.out).mono ?_; rintro e w' ⟨rfl, rfl⟩)
        | fail)
      go_ret
      exact ⟨by rw [hz.out]; rfl, hb.out⟩
  · have hs := noSum_17 hp (by omega)
    have q6 : (p.pr == 6) = false := by simp [hp]
    have q1 : (p.pr == 1) = false := by simp [hp]
    have q17 : (p.pr == 17) = true := by simp [hp]
    have ha : atQ p = 6 := by unfold atQ; rw [if_neg (by omega), if_neg (by omega)]
    have hi : ¬ (n : Int) < 8 := by omega
    cases hz0 : ((getV p.data 6 2).1 == 0)
    · have hz := Lib.hid (show sumAtI p = 6 by unfold sumAtI; rw [hs, hz0, ha]; rfl)
      clear hs ha hp h8 hlen
      go_enter Try.func65, Try.ntmps65
      go_wp2_with (first
        | (go_at_call 34; refine (hN.out).mono ?_; rintro e w' ⟨rfl, rfl⟩)
        | fail)
      go_ret
      exact ⟨by rw [hz.out]; rfl, hb.out⟩
    · have hz := Lib.hid (show sumAtI p = -1 by unfold sumAtI; rw [hs, hz0]; rfl)
      clear hs ha hp h8 hlen
      go_enter Try.func65, Try.ntmps65
      go_wp2_with (first
        | (go_at_call 34; refine (hN.out).mono ?_; rintro e w' ⟨rfl, rfl⟩)
        | fail)
      go_ret
      exact ⟨by rw [hz.out]; rfl, hb.out⟩
  · have hs := noSum_1 hp (by omega)
    have q6 : (p.pr == 6) = false := by simp [hp]
    have q1 : (p.pr == 1) = true := by simp [hp]
    have q17 : (p.pr == 17) = false := by simp [hp]
    have ha : atQ p = 2 := by unfold atQ; rw [if_neg (by omega), if_pos hp]
    have hi : ¬ (n : Int) < 4 := by omega
    have hz := Lib.hid (show sumAtI p = 2 by unfold sumAtI; rw [hs, ha]; rfl)
    clear hs ha hp h8 hlen
    go_enter Try.func65, Try.ntmps65
    go_wp2_with (first
      | (go_at_call 34; refine (hN.out).mono ?_; rintro e w' ⟨rfl, rfl⟩)
      | fail)
    go_ret
    exact ⟨by rw [hz.out]; rfl, hb.out⟩

set_option maxRecDepth 100000 in
set_option maxHeartbeats 4000000 in
theorem RefChanged26_12 (A : Option Addr) (n c : Nat) (bs : List Int) (pt : Nat) (a x : Int) (w : World) (h : RB w A n c bs) (hn : n ≤ 3000) (hk : codeQ bs = 0) (hpt : pt ≤ 4) (ha : 0 ≤ a ∧ a < 4294967296) (hx : 0 ≤ x ∧ x < 65536) :
    Calls Try.prog 37 #[.slice A n c, .int .i64 12, .int .i64 pt, .int .i64 a, .int .i64 x] w (PutOut w (chgQ bs 12 pt a x)) := by
  have hlen := h.len
  have hby := h.byt
  obtain ⟨hv, hpk, hoff, h8, hhd, hhe, hh60, h9, hbd, hdat, hpr⟩ := quo_ok hby hk
  have hP := Lib.hid (RefQuoted4_any A n c bs w h (by omega))
  have hgd := fun i : Nat => fun hi => getV_data hby hk (a := i) hi
  have hdl8 := h8
  obtain ⟨b, off, rfl, hbl, _⟩ := h.mem (by omega)
  have hcap := h.nc
  have hcm := h.cm
  have hh20 : 20 ≤ hdQ bs := by unfold hdQ; omega
  have hc1 := h.cut (a := 12) (s := 4) (c' := c - 12) (by omega) (by omega) (by omega)
  obtain ⟨kk, hkk⟩ : ∃ kk, hdQ bs + pt = kk := ⟨_, rfl⟩
  have hc2 := h.cut (a := kk) (s := 2) (c' := c - kk) (by omega) (by omega) (by omega)
  have hm1 := change_in (getV bs 10 2).1 (cutI bs 12 4) (digL a 4)
  have hm3 := sm3_in bs 12 pt a x
  obtain ⟨ka, hka⟩ : ∃ ka, hdQ bs + atQ (readV4 true bs) = ka := ⟨_, rfl⟩
  have hs4 := fun (hN : noSum (readV4 true bs) = false) => show ka + 2 ≤ n by have := noSum_no hN; omega
  have hd1 : sm1Q bs 12 a = changeI (getV bs 10 2).1 (cutI bs 12 4) (digL a 4) := rfl
  have hd2 : sm2Q bs 12 pt a x = changeI (getV (readV4 true bs).data (atQ (readV4 true bs)) 2).1 (oldQ bs 12 pt) (nowQ bs a x) := rfl
  have hd3 : sm3Q bs 12 pt a x = if sm2Q bs 12 pt a x = 0 ∧ (readV4 true bs).pr = 17 then 65535 else sm2Q bs 12 pt a x := rfl
  have hd4 : chgQ bs 12 pt a x = if noSum (readV4 true bs) = true then out2Q bs 12 pt a x else setN (out2Q bs 12 pt a x) ka (digL (sm3Q bs 12 pt a x) 2) 2 := by rw [← hka]; rfl
  have hd5 : out2Q bs 12 pt a x = setN (out1Q bs 12 a) kk (digL x 2) 2 := by rw [← hkk]; rfl
  have hd6 : out1Q bs 12 a = setN (setN bs 12 (digL a 4) 4) 10 (digL (sm1Q bs 12 a) 2) 2 := rfl
  have hd7 : oldQ bs 12 pt = if (readV4 true bs).pr = 1 then cutI bs kk 2 else cutI bs 12 4 ++ cutI bs kk 2 := by rw [← hkk]; rfl
  have hd8 : nowQ bs a x = if (readV4 true bs).pr = 1 then digL x 2 else digL a 4 ++ digL x 2 := rfl
  rw [← hd1] at hm1
  have hhq : hdQ bs = 20 + (readV4 true bs).opts.length := rfl
  have hot : (atQ (readV4 true bs)) ≤ 16 := atQ_in _
  unfold V4Out at hP
  rw [hv] at hP
  obtain ⟨p, hp⟩ : ∃ p, readV4 true bs = p := ⟨_, rfl⟩
  rw [hp] at hP h8 hhd hhq hot hka hdl8 hs4 hd2 hd3 hd4 hd7 hd8 hbd hpr
  obtain ⟨hh, hhh⟩ : ∃ hh, hdQ bs = hh := ⟨_, rfl⟩
  rw [hhh] at hhd hhq hkk hka hh60 hh20
  have hR := Lib.hid (fun W (hW : Below w.heap.size w W) => h.below hW)
  have hc1' := Lib.hid (fun W (hW : Below w.heap.size w W) => hc1.below hW)
  have hc2' := Lib.hid (fun W (hW : Below w.heap.size w W) => hc2.below hW)
  have hPa := Lib.hid (fun W => RefPut_yes none 0 0 [] a 4 W (RB.nil W) (by omega) (fits4n ha.1 ha.2))
  have hPx := Lib.hid (fun W => RefPut_yes none 0 0 [] x 2 W (RB.nil W) (by omega) (fit2 hx.1 hx.2))
  have hS1 := fun W (hW : Below w.heap.size w W) => show Calls Try.prog 63 #[.slice (some ⟨b, off, none⟩) n c, .int .i64 12, .int .i64 a, .int .i64 4] W fun e w' => ∃ A2 c2, e = .returned (.tuple #[.slice A2 n c2, .int .i64 0]) ∧ OB w' W.heap.size A2 n c2 (setN bs 12 (digL a 4) 4) ∧ Below W.heap.size W w' from RefSet_ok (some ⟨b, off, none⟩) n c bs 12 a 4 W (hR.out W hW) (by omega) (fits4n ha.1 ha.2) (by omega)
  have hS2 := fun A2 c2 W (hr : RB W A2 n c2 (setN bs 12 (digL a 4) 4)) => show Calls Try.prog 63 #[.slice A2 n c2, .int .i64 10, .int .i64 (sm1Q bs 12 a), .int .i64 2] W fun e w' => ∃ A3 c3, e = .returned (.tuple #[.slice A3 n c3, .int .i64 0]) ∧ OB w' W.heap.size A3 n c3 (out1Q bs 12 a) ∧ Below W.heap.size W w' from RefSet_ok A2 n c2 _ 10 (sm1Q bs 12 a) 2 W hr (by omega) (fit2 hm1.1 hm1.2) (by omega)
  have hS3 := fun A2 c2 W (hr : RB W A2 n c2 (out1Q bs 12 a)) => show Calls Try.prog 63 #[.slice A2 n c2, .int .i64 (kk : Int), .int .i64 x, .int .i64 2] W fun e w' => ∃ A3 c3, e = .returned (.tuple #[.slice A3 n c3, .int .i64 0]) ∧ OB w' W.heap.size A3 n c3 (out2Q bs 12 pt a x) ∧ Below W.heap.size W w' from by
    have := RefSet_ok A2 n c2 _ kk x 2 W hr (by omega) (fit2 hx.1 hx.2) (by omega)
    rw [← hd5] at this
    exact this
  have hS4 := fun (hl : ka + 2 ≤ n) A2 c2 W (hr : RB W A2 n c2 (out2Q bs 12 pt a x)) => show Calls Try.prog 63 #[.slice A2 n c2, .int .i64 (ka : Int), .int .i64 (sm3Q bs 12 pt a x), .int .i64 2] W fun e w' => ∃ A3 c3, e = .returned (.tuple #[.slice A3 n c3, .int .i64 0]) ∧ OB w' W.heap.size A3 n c3 (setN (out2Q bs 12 pt a x) ka (digL (sm3Q bs 12 pt a x) 2) 2) ∧ Below W.heap.size W w' from RefSet_ok A2 n c2 _ ka (sm3Q bs 12 pt a x) 2 W hr (by omega) (fit2 hm3.1 hm3.2) hl
  have hC1 := Lib.hid (fun W A2 n2 c2 (hn2 : n2 ≤ 100000) (hW : Below w.heap.size w W) (hr : RB W A2 n2 c2 (digL a 4)) => RefChange_any (some ⟨b, off + 12, none⟩) A2 4 (c - 12) n2 c2 (cutI bs 12 4) (digL a 4) (getV bs 10 2).1 W (hc1'.out W hW) hr (by omega) hn2)
  rw [← hd1] at hC1
  unfold Answers at hC1
  have hG1 := Lib.hid (fun W (hW : Below w.heap.size w W) => RefNum26_any (some ⟨b, off, none⟩) n c bs 10 2 W (hR.out W hW) (by omega))
  have wk : IntKind.i64.wrap ((hh : Int) + (pt : Int)) = (kk : Int) := by rw [IntKind.wrap_i64]; omega
  obtain ⟨k2, hk2⟩ : ∃ k2, kk + 2 = k2 := ⟨_, rfl⟩
  have wk2 : IntKind.i64.wrap ((kk : Int) + 2) = (k2 : Int) := by rw [IntKind.wrap_i64]; omega
  have hkaw : IntKind.i64.wrap ((hh : Int) + (atQ p : Int)) = (ka : Int) := by rw [IntKind.wrap_i64]; omega
  have s2 : k2 - kk = 2 := by omega
  have l1 : kk ≤ k2 := by omega
  have l1i : (kk : Int) ≤ (k2 : Int) := by omega
  have l2 : k2 ≤ c := by omega
  have l2i : (k2 : Int) ≤ (c : Int) := by omega
  have l3 : (16 : Int) ≤ (c : Int) := by omega
  have l4 : 16 ≤ c := by omega
  have l5 : (20 : Int) ≤ (c : Int) := by omega
  have l6 : 20 ≤ c := by omega
  have w16 : IntKind.i64.wrap 16 = 16 := by rw [IntKind.wrap_i64]; omega
  have w20 : IntKind.i64.wrap 20 = 20 := by rw [IntKind.wrap_i64]; omega
  have n12 : ¬ c = 12 := by omega
  have n16 : ¬ c = 16 := by omega
  have nkk : ¬ c = kk := by omega
  have mk2 : max (k2 : Int) 0 = (k2 : Int) := by omega
  have hHd := Lib.hid (fun Ao no co A n c W (h1 : RB W Ao no co p.opts) => show Calls Try.prog 62 #[.agg (cells4 p Ao no co A n c)] W fun e w' => e = .returned (.int .i64 (hh : Int)) ∧ Below W.heap.size W w' from by
    have hl := h1.len
    have := RefHead4_any p Ao no co A n c W (by omega)
    rw [show (20 + (no : Int)) = (hh : Int) by omega] at this
    exact this)
  have hSa := fun Ao no co A m c W (h1 : RB W A m c p.data) => RefSumAt26_any p Ao no co A m c W h1 (by have := h1.len; omega) (by have := h1.len; omega) (by rcases hpr with h | h | h; exact .inl h; exact .inr (.inl h); exact .inr (.inr h.1))
  have hb := Lib.hid (Below.refl w.heap.size w)
  have hcut1 := Lib.hid (show 0 + 4 ≤ 140737488355328 by omega)
  have hcut2 := Lib.hid (show 4 + 2 ≤ 140737488355328 by omega)
  have hdn := Lib.hid (show p.data.length ≤ 3000 by omega)
  replace hS1 := Lib.hid hS1
  replace hS2 := Lib.hid hS2
  replace hS3 := Lib.hid hS3
  replace hd1 := Lib.hid hd1
  replace hd4 := Lib.hid hd4
  replace hd2 := Lib.hid hd2
  replace hd3 := Lib.hid hd3
  replace hd7 := Lib.hid hd7
  replace hd8 := Lib.hid hd8
  replace hs4 := Lib.hid hs4
  replace hS4 := Lib.hid hS4
  replace hpr := Lib.hid hpr
  clear hm1 hm3 hd5 hd6 hc1 hc2 hcap hcm hlen hby hv hpk hoff h8 hhd hhe hh60 h9 hbd hdat hdl8 hbl hh20 hhq hot ha hx hk hpt hn h hgd hp hhh hkk hk2 hka
  generalize setN bs 12 (digL a 4) 4 = bs1 at *
  generalize out1Q bs 12 a = bs2 at *
  generalize out2Q bs 12 pt a x = bs3 at *
  generalize sm1Q bs 12 a = sm1 at *
  generalize sm2Q bs 12 pt a x = sm2 at *
  generalize sm3Q bs 12 pt a x = sm3 at *
  go_enter Try.func37, Try.ntmps37
  go_upto_region 3 with (first
    | (go_at_call 33; refine hP.out.mono ?_; rintro e w1 ⟨Ao, no, co, A1, n1, c1, rfl, ho1, hd1', hB1⟩; have hy := hB1.alloc hB1.size (.cells (cells4 p Ao no co A1 n1 c1) 32); have hb1 := Lib.hid (hb.out.trans (hy.mono hb.out.size)); have kP1 := Lib.hid (Blk.new w1 (cells4 p Ao no co A1 n1 c1) 32); have ro1 := Lib.hid (ho1.rb.alloc (.cells (cells4 p Ao no co A1 n1 c1) 32)); have rd1 := Lib.hid (hd1'.rb.alloc (.cells (cells4 p Ao no co A1 n1 c1) 32)); replace hB1 := 0; clear ho1 hd1' hy)
    | (refine wpList_store_4 rfl (.tmp 11) (.tmp 27) rfl w1.heap.size (cells4 p Ao no co A1 n1 c1) rfl rfl _ (Blk.new _ zero4c 32) rfl rfl (one4 _ _ _ _ _ _ _) ?_; rw [World.setRow_alloc_new])
    | (refine wpList_load_4 rfl (.tmp 11) rfl w1.heap.size rfl _ kP1.out rfl ?_)
    | (go_at_call 62; refine (hHd.out _ _ _ _ _ _ _ ro1.out).mono ?_; rintro e w2 ⟨rfl, hB2⟩; have hb2 := Lib.hid (hb1.out.trans (hB2.mono hb1.out.size)); have kP2 := Lib.hid (kP1.out.to hB2); have rd2 := Lib.hid (rd1.out.below hB2); replace hB2 := 0)
    | fail)
  have hz2 := Lib.hid (Below.refl w2.heap.size w2).drew
  try simp only [Act.put]
  refine wp_region_held_drew (S := fun _ => True) (by kernel_rfl) trivial (fun hHeld => ?_)
  refine take_h (i := 0) (v := ?_) rfl rfl (by kernel_rfl) (by kernel_rfl) (by kernel_rfl) (fun _ _ _ h => h) (Or.inl ⟨by rfl, fun W hSw => ?_⟩) (by assumption) ?_
  rotate_left
  · (clear hSw; go_simp; try with_reducible rfl)
  simp only [Act.put, List.setIfInBounds_toArray, List.set_cons_zero, List.set_cons_succ]
  refine take_h (i := 1) (v := ?_) rfl rfl (by kernel_rfl) (by kernel_rfl) (by kernel_rfl) (fun _ _ _ h => h) (Or.inl ⟨by rfl, fun W hSw => ?_⟩) (by assumption) ?_
  rotate_left
  · (clear hSw; go_simp; try with_reducible rfl)
  simp only [Act.put, List.setIfInBounds_toArray, List.set_cons_zero, List.set_cons_succ]
  refine take_h (i := 2) (v := ?_) rfl rfl (by kernel_rfl) (by kernel_rfl) (by kernel_rfl) (fun _ _ _ h => h) (Or.inl ⟨by rfl, fun W hSw => ?_⟩) (by assumption) ?_
  rotate_left
  · (clear hSw; go_simp; try with_reducible rfl)
  simp only [Act.put, List.setIfInBounds_toArray, List.set_cons_zero, List.set_cons_succ]
  refine take_h (i := 3) (v := ?_) rfl rfl (by kernel_rfl) (by kernel_rfl) (by kernel_rfl) (fun _ _ _ h => h) (Or.inl ⟨by rfl, fun W hSw => ?_⟩) (by assumption) ?_
  rotate_left
  · (clear hSw; go_simp; try with_reducible rfl)
  simp only [Act.put, List.setIfInBounds_toArray, List.set_cons_zero, List.set_cons_succ]
  refine take_h (i := 4) (v := ?_) rfl rfl (by kernel_rfl) (by kernel_rfl) (by kernel_rfl) (fun _ _ _ h => h) (Or.inl ⟨by rfl, fun W hSw => ?_⟩) (by assumption) ?_
  rotate_left
  · (clear hSw; go_simp; try with_reducible rfl)
  simp only [Act.put, List.setIfInBounds_toArray, List.set_cons_zero, List.set_cons_succ]
  refine take_h (i := 5) (v := ?_) rfl rfl (by kernel_rfl) (by kernel_rfl) (by kernel_rfl) (fun _ _ _ h => h) (Or.inl ⟨by rfl, fun W hSw => ?_⟩) (by assumption) ?_
  rotate_left
  · (clear hSw; go_simp; try with_reducible rfl)
  simp only [Act.put, List.setIfInBounds_toArray, List.set_cons_zero, List.set_cons_succ]
  refine step_h (i := 6) rfl rfl (by kernel_rfl) (fun K hK => ?_)
  go_simp
  refine Calls.mono (hPa.out _) ?_
  rintro e w3 ⟨A3, c3, rfl, ho3, hB3⟩
  have hz3 := Lib.hid (hz2.out.trans (hB3.mono hz2.out.size))
  have ho3' := Lib.hid (ho3.mono hz2.out.size)
  have hk3 := Lib.hid (fun k (hk : ownBlk A3 = some k) => (ho3.blk hk).2)
  clear hHeld hB3 ho3
  go_wp2_with fail
  refine hK.out _ _ trivial (fun hHeld => ?_)
  clear hK K
  try simp only [Act.put, List.setIfInBounds_toArray, List.set_cons_zero, List.set_cons_succ]
  refine take_h (i := 7) (v := ?_) rfl rfl (by kernel_rfl) (by kernel_rfl) (by kernel_rfl) (fun _ _ _ h => h) (Or.inl ⟨by rfl, fun W hSw => ?_⟩) (by assumption) ?_
  rotate_left
  · (clear hSw; go_simp; try with_reducible rfl)
  simp only [Act.put, List.setIfInBounds_toArray, List.set_cons_zero, List.set_cons_succ]
  refine take_h (i := 8) (v := ?_) rfl rfl (by kernel_rfl) (by kernel_rfl) (by kernel_rfl) (fun _ _ _ h => h) (Or.inl ⟨by rfl, fun W hSw => ?_⟩) (by assumption) ?_
  rotate_left
  · (clear hSw; go_simp; try with_reducible rfl)
  simp only [Act.put, List.setIfInBounds_toArray, List.set_cons_zero, List.set_cons_succ]
  refine wpAnyH_done (by kernel_rfl) ?_ _
  clear hHeld
  have hz3d := Lib.hid hz3.out.drew
  try simp only [Act.put]
  go_upto_region 4 with fail
  try simp only [Act.put]
  refine wp_region_held_drew (S := fun _ => True) (by kernel_rfl) trivial (fun hHeld => ?_)
  refine take_h (i := 0) (v := ?_) rfl rfl (by kernel_rfl) (by kernel_rfl) (by kernel_rfl) (fun _ _ _ h => h) (Or.inl ⟨by rfl, fun W hSw => ?_⟩) (by assumption) ?_
  rotate_left
  · (clear hSw; go_simp; try with_reducible rfl)
  simp only [Act.put, List.setIfInBounds_toArray, List.set_cons_zero, List.set_cons_succ]
  refine take_h (i := 1) (v := ?_) rfl rfl (by kernel_rfl) (by kernel_rfl) (by kernel_rfl) (fun _ _ _ h => h) (Or.inl ⟨by rfl, fun W hSw => ?_⟩) (by assumption) ?_
  rotate_left
  · (clear hSw; go_simp; try with_reducible rfl)
  simp only [Act.put, List.setIfInBounds_toArray, List.set_cons_zero, List.set_cons_succ]
  refine take_h (i := 2) (v := ?_) rfl rfl (by kernel_rfl) (by kernel_rfl) (by kernel_rfl) (fun _ _ _ h => h) (Or.inl ⟨by rfl, fun W hSw => ?_⟩) (by assumption) ?_
  rotate_left
  · (clear hSw; go_simp; try with_reducible rfl)
  simp only [Act.put, List.setIfInBounds_toArray, List.set_cons_zero, List.set_cons_succ]
  refine take_h (i := 3) (v := ?_) rfl rfl (by kernel_rfl) (by kernel_rfl) (by kernel_rfl) (fun _ _ _ h => h) (Or.inl ⟨by rfl, fun W hSw => ?_⟩) (by assumption) ?_
  rotate_left
  · (clear hSw; go_simp; try with_reducible rfl)
  simp only [Act.put, List.setIfInBounds_toArray, List.set_cons_zero, List.set_cons_succ]
  refine take_h (i := 4) (v := ?_) rfl rfl (by kernel_rfl) (by kernel_rfl) (by kernel_rfl) (fun _ _ _ h => h) (Or.inl ⟨by rfl, fun W hSw => ?_⟩) (by assumption) ?_
  rotate_left
  · (clear hSw; go_simp; try with_reducible rfl)
  simp only [Act.put, List.setIfInBounds_toArray, List.set_cons_zero, List.set_cons_succ]
  refine take_h (i := 5) (v := ?_) rfl rfl (by kernel_rfl) (by kernel_rfl) (by kernel_rfl) (fun _ _ _ h => h) (Or.inl ⟨by rfl, fun W hSw => ?_⟩) (by assumption) ?_
  rotate_left
  · (clear hSw; go_simp; try with_reducible rfl)
  simp only [Act.put, List.setIfInBounds_toArray, List.set_cons_zero, List.set_cons_succ]
  refine take_h (i := 6) (v := ?_) rfl rfl (by kernel_rfl) (by kernel_rfl) (by kernel_rfl) (fun _ _ _ h => h) (Or.inl ⟨by rfl, fun W hSw => ?_⟩) (by assumption) ?_
  rotate_left
  · (clear hSw; go_simp; try with_reducible rfl)
  simp only [Act.put, List.setIfInBounds_toArray, List.set_cons_zero, List.set_cons_succ]
  refine take_h (i := 7) (v := ?_) rfl rfl (by kernel_rfl) (by kernel_rfl) (by kernel_rfl) (fun _ _ _ h => h) (Or.inl ⟨by rfl, fun W hSw => ?_⟩) (by assumption) ?_
  rotate_left
  · (clear hSw; go_simp; try with_reducible rfl)
  simp only [Act.put, List.setIfInBounds_toArray, List.set_cons_zero, List.set_cons_succ]
  refine take_h (i := 8) (v := ?_) rfl rfl (by kernel_rfl) (by kernel_rfl) (by kernel_rfl) (fun _ _ _ h => h) (Or.inl ⟨by rfl, fun W hSw => ?_⟩) (by assumption) ?_
  rotate_left
  · (clear hSw; go_simp; try with_reducible rfl)
  simp only [Act.put, List.setIfInBounds_toArray, List.set_cons_zero, List.set_cons_succ]
  refine take_h (i := 9) (v := ?_) rfl rfl (by kernel_rfl) (by kernel_rfl) (by kernel_rfl) (fun _ _ _ h => h) (Or.inl ⟨by rfl, fun W hSw => ?_⟩) (by assumption) ?_
  rotate_left
  · (clear hSw; go_simp; try with_reducible rfl)
  simp only [Act.put, List.setIfInBounds_toArray, List.set_cons_zero, List.set_cons_succ]
  refine step_h (i := 10) rfl rfl (by kernel_rfl) (fun K hK => ?_)
  go_simp
  refine Calls.mono (hPx.out _) ?_
  rintro e w4 ⟨A4, c4, rfl, ho4, hB4⟩
  have hz4 := Lib.hid (hz3d.out.trans (hB4.mono hz3d.out.size))
  have ho4' := Lib.hid (show OB w4 w3.heap.size A4 (0 + 2) c4 ([] ++ digL x 2) from ho4)
  have hB4' := Lib.hid ((Below.refl w3.heap.size w3).drew.trans (hB4.mono (Below.refl w3.heap.size w3).drew.size))
  clear hHeld hB4 ho4
  go_wp2_with fail
  refine hK.out _ _ trivial (fun hHeld => ?_)
  clear hK K
  try simp only [Act.put, List.setIfInBounds_toArray, List.set_cons_zero, List.set_cons_succ]
  refine take_h (i := 11) (v := ?_) rfl rfl (by kernel_rfl) (by kernel_rfl) (by kernel_rfl) (fun _ _ _ h => h) (Or.inl ⟨by rfl, fun W hSw => ?_⟩) (by assumption) ?_
  rotate_left
  · (clear hSw; go_simp; try with_reducible rfl)
  simp only [Act.put, List.setIfInBounds_toArray, List.set_cons_zero, List.set_cons_succ]
  refine take_h (i := 12) (v := ?_) rfl rfl (by kernel_rfl) (by kernel_rfl) (by kernel_rfl) (fun _ _ _ h => h) (Or.inl ⟨by rfl, fun W hSw => ?_⟩) (by assumption) ?_
  rotate_left
  · (clear hSw; go_simp; try with_reducible rfl)
  simp only [Act.put, List.setIfInBounds_toArray, List.set_cons_zero, List.set_cons_succ]
  refine wpAnyH_done (by kernel_rfl) ?_ _
  clear hHeld
  have ob3 := Lib.hid (ho3'.out.below hB4'.out)
  have hb4 := Lib.hid (hb2.out.trans (hz4.out.mono hb2.out.size))
  have kP4 := Lib.hid (kP2.out.to hz4.out)
  have rd4 := Lib.hid (rd2.out.below hz4.out)
  have or3 := Lib.hid (show RB w4 A3 4 c3 (digL a 4) by have := ob3.out.rb; rwa [List.nil_append, Nat.zero_add] at this)
  have or4 := Lib.hid (show OB w4 w3.heap.size A4 2 c4 (digL x 2) by have := ho4'.out; rwa [List.nil_append, Nat.zero_add] at this)
  have ob4 := Lib.hid (show OB w4 w2.heap.size A3 4 c3 (digL a 4) by have := ob3.out; rwa [List.nil_append, Nat.zero_add] at this)
  have hsz24 := Lib.hid hz4.out.size
  have hsz34 := Lib.hid (show w3.heap.size ≤ w4.heap.size from hB4'.out.size)
  clear ho4' ob3 ho3' hz2 hz3 hz3d
  try simp only [Act.put]
  go_upto_region 8 with (first
    | (go_at_call_of 63 (Value.int IntKind.i64 a); refine (hS1.out _ hb4.out).mono ?_; rintro e w5 ⟨A5, c5, rfl, ho5, hB5⟩; have hb5 := Lib.hid (hb4.out.trans (hB5.mono hb4.out.size)); have hy5 := Lib.hid hB5; have or5 := Lib.hid (or3.out.below hB5); have hr5 := Lib.hid ho5.rb; replace hB5 := 0; clear ho5)
    | (go_at_call 34; refine (hG1.out _ hb5.out).mono ?_; rintro e w' ⟨rfl, rfl⟩)
    | (go_at_call 64; refine (hC1.out _ A3 4 c3 (by decide) hb5.out or5.out).mono ?_; rintro e w6 ⟨rfl, hB6⟩; have hb6 := Lib.hid (hb5.out.trans (hB6.mono hb5.out.size)); have hy6 := Lib.hid (hy5.out.trans (hB6.mono hy5.out.size)); have hr6 := Lib.hid (hr5.out.below hB6); replace hB6 := 0)
    | (go_at_call_of 63 (Value.int IntKind.i64 sm1); refine (hS2.out _ _ _ hr6.out).mono ?_; rintro e w7 ⟨A7, c7, rfl, ho7, hB7⟩; have hb7 := Lib.hid (hb6.out.trans (hB7.mono hb6.out.size)); have hy7 := Lib.hid (hy6.out.trans (hB7.mono hy6.out.size)); have hr7 := Lib.hid ho7.rb; replace hB7 := 0; clear ho7)
    | (go_at_call_of 63 (Value.int IntKind.i64 x); refine (hS3.out _ _ _ hr7.out).mono ?_; rintro e w8 ⟨A8, c8, rfl, ho8, hB8⟩; have hb8 := Lib.hid (hb7.out.trans (hB8.mono hb7.out.size)); have hy8 := Lib.hid (hy7.out.trans (hB8.mono hy7.out.size)); have hr8 := Lib.hid (ho8.mono (show w3.heap.size ≤ w7.heap.size from Nat.le_trans hsz34.out hy7.out.size)); replace hB8 := 0; clear ho8)
    | fail)
  have hSa' := hSa Ao no co A1 n1 c1 w8 (rd4.out.below hy8.out)
  have kP8 := Lib.hid (kP4.out.to hy8.out)
  have rd8 := Lib.hid (rd4.out.below hy8.out)
  have ob8 := Lib.hid (ob4.out.below hy8.out)
  have hz8 := Lib.hid (hz4.out.trans (hy8.out.mono hz4.out.size))
  have ox8 := Lib.hid (or4.out.below hy8.out)
  have hc1_8 := Lib.hid (hc1'.out _ hb8.out)
  have hc2_8 := Lib.hid (hc2'.out _ hb8.out)
  clear hSa
  cases hns : noSum p
  rotate_left
  · have hz := show sumAtI p = -1 by unfold sumAtI; rw [hns]; rfl
    rw [hz] at hSa'
    replace hSa' := Lib.hid hSa'
    have hfin := Lib.hid (show chgQ bs 12 pt a x = bs3 by rw [hd4.out, hns]; rfl)
    clear hz hns
    try simp only [Act.put]
    go_wp2_with (first
      | (refine wpList_load_4 rfl (.tmp 11) rfl w1.heap.size rfl _ kP8.out rfl ?_)
      | (go_at_call 65; refine hSa'.out.mono ?_; rintro e w9 ⟨rfl, hB9⟩; have hb9 := Lib.hid (hb8.out.trans (hB9.mono hb8.out.size)); have hr9 := Lib.hid (hr8.out.below hB9); replace hB9 := 0)
      | fail)
    go_ret
    exact ⟨A8, n, c8, rfl, by rw [hfin.out]; exact hr9.out.rb, hb9.out⟩
  have hz := show sumAtI p = (atQ p : Int) by unfold sumAtI; rw [hns]; rfl
  rw [hz] at hSa'
  have hfin := Lib.hid (show chgQ bs 12 pt a x = setN bs3 ka (digL sm3 2) 2 by rw [hd4.out, hns]; rfl)
  have hs4' := hs4.out hns
  have hS4' := fun A2 c2 W (hr : RB W A2 n c2 bs3) => hS4.out hs4' A2 c2 W hr
  have wka : IntKind.i64.wrap ((hh : Int) + (atQ p : Int)) = (ka : Int) := hkaw
  have hat0 : ¬ (atQ p : Int) < 0 := by omega
  have hNm := Lib.hid (fun W (h : RB W A1 n1 c1 p.data) => RefNum26_any A1 n1 c1 p.data (atQ p : Int) 2 W h (by have := h.len; have := hdn.out; omega))
  replace hSa' := Lib.hid hSa'
  replace hS4' := Lib.hid hS4'
  have hC2 := fun A2 n2 c2 A6 n6 c6 W (h2 : RB W A2 n2 c2 (oldQ bs 12 pt)) (h6 : RB W A6 n6 c6 (nowQ bs a x)) (g2 : n2 ≤ 100000) (g6 : n6 ≤ 100000) => RefChange_any A2 A6 n2 c2 n6 c6 (oldQ bs 12 pt) (nowQ bs a x) (getV p.data (atQ p) 2).1 W h2 h6 g2 g6
  rw [← hd2.out] at hC2
  unfold Answers at hC2
  have hc7 := hd7.out
  have hc8 := hd8.out
  have hc3 := hd3.out
  clear hs4' hz hns
  generalize oldQ bs 12 pt = old at *
  generalize nowQ bs a x = now at *
  generalize atQ p = at0 at *
  by_cases h1 : p.pr = 1
  · have q1 : (p.pr == 1) = true := by simpa using h1
    have q17 : (p.pr == 17) = false := by simp [h1]
    rw [if_pos h1] at hc7 hc8
    rw [if_neg (by omega)] at hc3
    subst hc7
    subst hc8
    obtain rfl := hc3.symm
    replace hC2 := Lib.hid hC2
    clear h1
    try simp only [Act.put]
    go_upto_region 15 with (first
      | (refine wpList_load_4 rfl (.tmp 11) rfl w1.heap.size rfl _ kP8.out rfl ?_)
      | (go_at_call 65; refine hSa'.out.mono ?_; rintro e w9 ⟨rfl, hB9⟩; have hb9 := Lib.hid (hb8.out.trans (hB9.mono hb8.out.size)); have hr9 := Lib.hid (hr8.out.below hB9); have ob9 := Lib.hid (ob8.out.below hB9); have ox9 := Lib.hid (ox8.out.below hB9); have hc1_9 := Lib.hid (hc1_8.out.below hB9); have hc2_9 := Lib.hid (hc2_8.out.below hB9); have hz9 := Lib.hid (hz8.out.trans (hB9.mono hz8.out.size)); have hs39 := Lib.hid (show w3.heap.size ≤ w9.heap.size from Nat.le_trans hsz34.out (Nat.le_trans hy8.out.size hB9.size)); replace hB9 := 0)
      | (at_builtin; refine wpList_append_bytes _ rfl (.const (.slice none 0 0)) (.tmp 80) rfl rfl rfl (OB.nil _ w9.heap.size) hc1_9.out hcut1.out (Nat.le_refl _) ?_; intro A10 c10 w10 ho10 hg10 hq10; have hB10 := (Below.refl _ w9).grown hg10 (Nat.le_refl _) (fun k hk => by cases hk); have hc2_10 := Lib.hid (hc2_9.out.below hB10); have ho10' := Lib.hid ho10; have hx10 := Lib.hid hB10; clear hg10 hq10 ho10; replace hB10 := 0)
      | (at_builtin; refine wpList_append_bytes _ rfl (.tmp 81) (.tmp 82) rfl rfl rfl ho10'.out hc2_10.out hcut2.out hx10.out.size ?_; intro A11 c11 w11 ho11 hg11 hq11; have hB11 := hx10.out.grown hg11 hx10.out.size (fun k hk => (ho10'.out.blk hk).1); have hr11 := Lib.hid (hr9.out.below hB11); have ob11 := Lib.hid (ob9.out.below hB11); have ox11 := Lib.hid (ox9.out.below hB11); have hc2_11 := Lib.hid (hc2_9.out.below hB11); have hz11 := Lib.hid (hz9.out.trans (hB11.mono hz9.out.size)); have hb11 := Lib.hid (hb9.out.trans (hB11.mono hb9.out.size)); have oo11 := Lib.hid ho11; clear hg11 hq11 ho11; replace hB11 := 0)
      | (at_builtin; refine wpList_append_bytes _ rfl (.tmp 84) (.tmp 85) rfl rfl rfl ob11.out ox11.out.rb hcut2.out hz11.out.size ?_; intro A12 c12 w12 ho12 hg12 hq12; have hz12 := Lib.hid (hz11.out.grown hg12 hz11.out.size (fun k hk => (ob11.out.blk hk).1)); have hb12 := Lib.hid (hb2.out.trans (hz12.out.mono hb2.out.size)); have hr12 := Lib.hid (hr11.out.past hk3.out hg12); have ox12 := Lib.hid (ox11.out.past hk3.out hg12); have oo12 := Lib.hid (oo11.out.past (fun k hk => Nat.lt_of_lt_of_le (hk3.out k hk) hs39.out) hg12); have on12 := Lib.hid ho12.rb; have hc2_12 := Lib.hid (hc2'.out _ hb12.out); have kP12 := Lib.hid (kP2.out.to hz12.out); have rd12 := Lib.hid (rd2.out.below hz12.out); have p4 := kP12.out.cell 4 (.int .i64 p.pr) rfl; have p10 := kP12.out.cell 10 (.slice A1 n1 c1) rfl; clear hg12 hq12 ho12)
      | (go_at_call 34; refine (hNm.out _ rd12.out).mono ?_; rintro e w' ⟨rfl, rfl⟩)
      | (go_at_call 64; refine (hC2.out _ 2 _ _ 2 _ _ (hc2_12.out) (ox12.out) (by decide) (by decide)).mono ?_; rintro e w14 ⟨rfl, hB14⟩; have hb14 := Lib.hid (hb12.out.trans (hB14.mono hb12.out.size)); have hr14 := Lib.hid (hr12.out.below hB14); have kP14 := Lib.hid (kP12.out.to hB14); clear p4 p10; replace hB14 := 0)
      | fail)
    have p4 := kP14.out.cell 4 (.int .i64 p.pr) rfl
    try simp only [Act.put]
    cases hz0 : (sm2 == 0)
    all_goals
      go_wp2_with (first
        | (go_at_call 63; refine (hS4'.out _ _ _ hr14.out).mono ?_; rintro e w15 ⟨A15, c15, rfl, ho15, hB15⟩; have hb15 := Lib.hid (hb14.out.trans (hB15.mono hb14.out.size)); have hr15 := Lib.hid ho15.rb; replace hB15 := 0; clear ho15)
        | fail)
      go_ret
      exact ⟨A15, n, c15, rfl, by rw [hfin.out]; exact hr15.out, hb15.out⟩
  · have q1 : (p.pr == 1) = false := by simpa using h1
    rw [if_neg h1] at hc7 hc8
    subst hc7
    subst hc8
    replace hC2 := Lib.hid hC2
    clear h1
    try simp only [Act.put]
    go_upto_region 15 with (first
      | (refine wpList_load_4 rfl (.tmp 11) rfl w1.heap.size rfl _ kP8.out rfl ?_)
      | (go_at_call 65; refine hSa'.out.mono ?_; rintro e w9 ⟨rfl, hB9⟩; have hb9 := Lib.hid (hb8.out.trans (hB9.mono hb8.out.size)); have hr9 := Lib.hid (hr8.out.below hB9); have ob9 := Lib.hid (ob8.out.below hB9); have ox9 := Lib.hid (ox8.out.below hB9); have hc1_9 := Lib.hid (hc1_8.out.below hB9); have hc2_9 := Lib.hid (hc2_8.out.below hB9); have hz9 := Lib.hid (hz8.out.trans (hB9.mono hz8.out.size)); have hs39 := Lib.hid (show w3.heap.size ≤ w9.heap.size from Nat.le_trans hsz34.out (Nat.le_trans hy8.out.size hB9.size)); replace hB9 := 0)
      | (at_builtin; refine wpList_append_bytes _ rfl (.const (.slice none 0 0)) (.tmp 80) rfl rfl rfl (OB.nil _ w9.heap.size) hc1_9.out hcut1.out (Nat.le_refl _) ?_; intro A10 c10 w10 ho10 hg10 hq10; have hB10 := (Below.refl _ w9).grown hg10 (Nat.le_refl _) (fun k hk => by cases hk); have hc2_10 := Lib.hid (hc2_9.out.below hB10); have ho10' := Lib.hid ho10; have hx10 := Lib.hid hB10; clear hg10 hq10 ho10; replace hB10 := 0)
      | (at_builtin; refine wpList_append_bytes _ rfl (.tmp 81) (.tmp 82) rfl rfl rfl ho10'.out hc2_10.out hcut2.out hx10.out.size ?_; intro A11 c11 w11 ho11 hg11 hq11; have hB11 := hx10.out.grown hg11 hx10.out.size (fun k hk => (ho10'.out.blk hk).1); have hr11 := Lib.hid (hr9.out.below hB11); have ob11 := Lib.hid (ob9.out.below hB11); have ox11 := Lib.hid (ox9.out.below hB11); have hc2_11 := Lib.hid (hc2_9.out.below hB11); have hz11 := Lib.hid (hz9.out.trans (hB11.mono hz9.out.size)); have hb11 := Lib.hid (hb9.out.trans (hB11.mono hb9.out.size)); have oo11 := Lib.hid ho11; clear hg11 hq11 ho11; replace hB11 := 0)
      | (at_builtin; refine wpList_append_bytes _ rfl (.tmp 84) (.tmp 85) rfl rfl rfl ob11.out ox11.out.rb hcut2.out hz11.out.size ?_; intro A12 c12 w12 ho12 hg12 hq12; have hz12 := Lib.hid (hz11.out.grown hg12 hz11.out.size (fun k hk => (ob11.out.blk hk).1)); have hb12 := Lib.hid (hb2.out.trans (hz12.out.mono hb2.out.size)); have hr12 := Lib.hid (hr11.out.past hk3.out hg12); have ox12 := Lib.hid (ox11.out.past hk3.out hg12); have oo12 := Lib.hid (oo11.out.past (fun k hk => Nat.lt_of_lt_of_le (hk3.out k hk) hs39.out) hg12); have on12 := Lib.hid ho12.rb; have hc2_12 := Lib.hid (hc2'.out _ hb12.out); have kP12 := Lib.hid (kP2.out.to hz12.out); have rd12 := Lib.hid (rd2.out.below hz12.out); have p4 := kP12.out.cell 4 (.int .i64 p.pr) rfl; have p10 := kP12.out.cell 10 (.slice A1 n1 c1) rfl; clear hg12 hq12 ho12)
      | (go_at_call 34; refine (hNm.out _ rd12.out).mono ?_; rintro e w' ⟨rfl, rfl⟩)
      | (go_at_call 64; refine (hC2.out _ 6 _ _ 6 _ _ (oo12.out) (on12.out) (by decide) (by decide)).mono ?_; rintro e w14 ⟨rfl, hB14⟩; have hb14 := Lib.hid (hb12.out.trans (hB14.mono hb12.out.size)); have hr14 := Lib.hid (hr12.out.below hB14); have kP14 := Lib.hid (kP12.out.to hB14); clear p4 p10; replace hB14 := 0)
      | fail)
    have p4 := kP14.out.cell 4 (.int .i64 p.pr) rfl
    try simp only [Act.put]
    cases hz0 : (sm2 == 0)
    · have hz1 : ¬ sm2 = 0 := by simpa using hz0
      rw [if_neg (fun g => hz1 g.1)] at hc3
      obtain rfl := hc3.symm
      clear hz1
      go_wp2_with (first
        | (go_at_call 63; refine (hS4'.out _ _ _ hr14.out).mono ?_; rintro e w15 ⟨A15, c15, rfl, ho15, hB15⟩; have hb15 := Lib.hid (hb14.out.trans (hB15.mono hb14.out.size)); have hr15 := Lib.hid ho15.rb; replace hB15 := 0; clear ho15)
        | fail)
      go_ret
      exact ⟨A15, n, c15, rfl, by rw [hfin.out]; exact hr15.out, hb15.out⟩
    · have hz1 : sm2 = 0 := by simpa using hz0
      by_cases h17 : p.pr = 17
      · have q17 : (p.pr == 17) = true := by simpa using h17
        rw [if_pos ⟨hz1, h17⟩] at hc3
        subst hc3
        clear hz1 h17
        go_wp2_with (first
          | (go_at_call 63; refine (hS4'.out _ _ _ hr14.out).mono ?_; rintro e w15 ⟨A15, c15, rfl, ho15, hB15⟩; have hb15 := Lib.hid (hb14.out.trans (hB15.mono hb14.out.size)); have hr15 := Lib.hid ho15.rb; replace hB15 := 0; clear ho15)
          | fail)
        go_ret
        exact ⟨A15, n, c15, rfl, by rw [hfin.out]; exact hr15.out, hb15.out⟩
      · have q17 : (p.pr == 17) = false := by simpa using h17
        rw [if_neg (fun g => h17 g.2)] at hc3
        obtain rfl := hc3.symm
        clear hz1 h17
        go_wp2_with (first
          | (go_at_call 63; refine (hS4'.out _ _ _ hr14.out).mono ?_; rintro e w15 ⟨A15, c15, rfl, ho15, hB15⟩; have hb15 := Lib.hid (hb14.out.trans (hB15.mono hb14.out.size)); have hr15 := Lib.hid ho15.rb; replace hB15 := 0; clear ho15)
          | fail)
        go_ret
        exact ⟨A15, n, c15, rfl, by rw [hfin.out]; exact hr15.out, hb15.out⟩
set_option maxRecDepth 100000 in
set_option maxHeartbeats 4000000 in
theorem RefChanged26_16 (A : Option Addr) (n c : Nat) (bs : List Int) (pt : Nat) (a x : Int) (w : World) (h : RB w A n c bs) (hn : n ≤ 3000) (hk : codeQ bs = 0) (hpt : pt ≤ 4) (ha : 0 ≤ a ∧ a < 4294967296) (hx : 0 ≤ x ∧ x < 65536) :
    Calls Try.prog 37 #[.slice A n c, .int .i64 16, .int .i64 pt, .int .i64 a, .int .i64 x] w (PutOut w (chgQ bs 16 pt a x)) := by
  have hlen := h.len
  have hby := h.byt
  obtain ⟨hv, hpk, hoff, h8, hhd, hhe, hh60, h9, hbd, hdat, hpr⟩ := quo_ok hby hk
  have hP := Lib.hid (RefQuoted4_any A n c bs w h (by omega))
  have hgd := fun i : Nat => fun hi => getV_data hby hk (a := i) hi
  have hdl8 := h8
  obtain ⟨b, off, rfl, hbl, _⟩ := h.mem (by omega)
  have hcap := h.nc
  have hcm := h.cm
  have hh20 : 20 ≤ hdQ bs := by unfold hdQ; omega
  have hc1 := h.cut (a := 16) (s := 4) (c' := c - 16) (by omega) (by omega) (by omega)
  obtain ⟨kk, hkk⟩ : ∃ kk, hdQ bs + pt = kk := ⟨_, rfl⟩
  have hc2 := h.cut (a := kk) (s := 2) (c' := c - kk) (by omega) (by omega) (by omega)
  have hm1 := change_in (getV bs 10 2).1 (cutI bs 16 4) (digL a 4)
  have hm3 := sm3_in bs 16 pt a x
  obtain ⟨ka, hka⟩ : ∃ ka, hdQ bs + atQ (readV4 true bs) = ka := ⟨_, rfl⟩
  have hs4 := fun (hN : noSum (readV4 true bs) = false) => show ka + 2 ≤ n by have := noSum_no hN; omega
  have hd1 : sm1Q bs 16 a = changeI (getV bs 10 2).1 (cutI bs 16 4) (digL a 4) := rfl
  have hd2 : sm2Q bs 16 pt a x = changeI (getV (readV4 true bs).data (atQ (readV4 true bs)) 2).1 (oldQ bs 16 pt) (nowQ bs a x) := rfl
  have hd3 : sm3Q bs 16 pt a x = if sm2Q bs 16 pt a x = 0 ∧ (readV4 true bs).pr = 17 then 65535 else sm2Q bs 16 pt a x := rfl
  have hd4 : chgQ bs 16 pt a x = if noSum (readV4 true bs) = true then out2Q bs 16 pt a x else setN (out2Q bs 16 pt a x) ka (digL (sm3Q bs 16 pt a x) 2) 2 := by rw [← hka]; rfl
  have hd5 : out2Q bs 16 pt a x = setN (out1Q bs 16 a) kk (digL x 2) 2 := by rw [← hkk]; rfl
  have hd6 : out1Q bs 16 a = setN (setN bs 16 (digL a 4) 4) 10 (digL (sm1Q bs 16 a) 2) 2 := rfl
  have hd7 : oldQ bs 16 pt = if (readV4 true bs).pr = 1 then cutI bs kk 2 else cutI bs 16 4 ++ cutI bs kk 2 := by rw [← hkk]; rfl
  have hd8 : nowQ bs a x = if (readV4 true bs).pr = 1 then digL x 2 else digL a 4 ++ digL x 2 := rfl
  rw [← hd1] at hm1
  have hhq : hdQ bs = 20 + (readV4 true bs).opts.length := rfl
  have hot : (atQ (readV4 true bs)) ≤ 16 := atQ_in _
  unfold V4Out at hP
  rw [hv] at hP
  obtain ⟨p, hp⟩ : ∃ p, readV4 true bs = p := ⟨_, rfl⟩
  rw [hp] at hP h8 hhd hhq hot hka hdl8 hs4 hd2 hd3 hd4 hd7 hd8 hbd hpr
  obtain ⟨hh, hhh⟩ : ∃ hh, hdQ bs = hh := ⟨_, rfl⟩
  rw [hhh] at hhd hhq hkk hka hh60 hh20
  have hR := Lib.hid (fun W (hW : Below w.heap.size w W) => h.below hW)
  have hc1' := Lib.hid (fun W (hW : Below w.heap.size w W) => hc1.below hW)
  have hc2' := Lib.hid (fun W (hW : Below w.heap.size w W) => hc2.below hW)
  have hPa := Lib.hid (fun W => RefPut_yes none 0 0 [] a 4 W (RB.nil W) (by omega) (fits4n ha.1 ha.2))
  have hPx := Lib.hid (fun W => RefPut_yes none 0 0 [] x 2 W (RB.nil W) (by omega) (fit2 hx.1 hx.2))
  have hS1 := fun W (hW : Below w.heap.size w W) => show Calls Try.prog 63 #[.slice (some ⟨b, off, none⟩) n c, .int .i64 16, .int .i64 a, .int .i64 4] W fun e w' => ∃ A2 c2, e = .returned (.tuple #[.slice A2 n c2, .int .i64 0]) ∧ OB w' W.heap.size A2 n c2 (setN bs 16 (digL a 4) 4) ∧ Below W.heap.size W w' from RefSet_ok (some ⟨b, off, none⟩) n c bs 16 a 4 W (hR.out W hW) (by omega) (fits4n ha.1 ha.2) (by omega)
  have hS2 := fun A2 c2 W (hr : RB W A2 n c2 (setN bs 16 (digL a 4) 4)) => show Calls Try.prog 63 #[.slice A2 n c2, .int .i64 10, .int .i64 (sm1Q bs 16 a), .int .i64 2] W fun e w' => ∃ A3 c3, e = .returned (.tuple #[.slice A3 n c3, .int .i64 0]) ∧ OB w' W.heap.size A3 n c3 (out1Q bs 16 a) ∧ Below W.heap.size W w' from RefSet_ok A2 n c2 _ 10 (sm1Q bs 16 a) 2 W hr (by omega) (fit2 hm1.1 hm1.2) (by omega)
  have hS3 := fun A2 c2 W (hr : RB W A2 n c2 (out1Q bs 16 a)) => show Calls Try.prog 63 #[.slice A2 n c2, .int .i64 (kk : Int), .int .i64 x, .int .i64 2] W fun e w' => ∃ A3 c3, e = .returned (.tuple #[.slice A3 n c3, .int .i64 0]) ∧ OB w' W.heap.size A3 n c3 (out2Q bs 16 pt a x) ∧ Below W.heap.size W w' from by
    have := RefSet_ok A2 n c2 _ kk x 2 W hr (by omega) (fit2 hx.1 hx.2) (by omega)
    rw [← hd5] at this
    exact this
  have hS4 := fun (hl : ka + 2 ≤ n) A2 c2 W (hr : RB W A2 n c2 (out2Q bs 16 pt a x)) => show Calls Try.prog 63 #[.slice A2 n c2, .int .i64 (ka : Int), .int .i64 (sm3Q bs 16 pt a x), .int .i64 2] W fun e w' => ∃ A3 c3, e = .returned (.tuple #[.slice A3 n c3, .int .i64 0]) ∧ OB w' W.heap.size A3 n c3 (setN (out2Q bs 16 pt a x) ka (digL (sm3Q bs 16 pt a x) 2) 2) ∧ Below W.heap.size W w' from RefSet_ok A2 n c2 _ ka (sm3Q bs 16 pt a x) 2 W hr (by omega) (fit2 hm3.1 hm3.2) hl
  have hC1 := Lib.hid (fun W A2 n2 c2 (hn2 : n2 ≤ 100000) (hW : Below w.heap.size w W) (hr : RB W A2 n2 c2 (digL a 4)) => RefChange_any (some ⟨b, off + 16, none⟩) A2 4 (c - 16) n2 c2 (cutI bs 16 4) (digL a 4) (getV bs 10 2).1 W (hc1'.out W hW) hr (by omega) hn2)
  rw [← hd1] at hC1
  unfold Answers at hC1
  have hG1 := Lib.hid (fun W (hW : Below w.heap.size w W) => RefNum26_any (some ⟨b, off, none⟩) n c bs 10 2 W (hR.out W hW) (by omega))
  have wk : IntKind.i64.wrap ((hh : Int) + (pt : Int)) = (kk : Int) := by rw [IntKind.wrap_i64]; omega
  obtain ⟨k2, hk2⟩ : ∃ k2, kk + 2 = k2 := ⟨_, rfl⟩
  have wk2 : IntKind.i64.wrap ((kk : Int) + 2) = (k2 : Int) := by rw [IntKind.wrap_i64]; omega
  have hkaw : IntKind.i64.wrap ((hh : Int) + (atQ p : Int)) = (ka : Int) := by rw [IntKind.wrap_i64]; omega
  have s2 : k2 - kk = 2 := by omega
  have l1 : kk ≤ k2 := by omega
  have l1i : (kk : Int) ≤ (k2 : Int) := by omega
  have l2 : k2 ≤ c := by omega
  have l2i : (k2 : Int) ≤ (c : Int) := by omega
  have l3 : (16 : Int) ≤ (c : Int) := by omega
  have l4 : 16 ≤ c := by omega
  have l5 : (20 : Int) ≤ (c : Int) := by omega
  have l6 : 20 ≤ c := by omega
  have w16 : IntKind.i64.wrap 16 = 16 := by rw [IntKind.wrap_i64]; omega
  have w20 : IntKind.i64.wrap 20 = 20 := by rw [IntKind.wrap_i64]; omega
  have n12 : ¬ c = 12 := by omega
  have n16 : ¬ c = 16 := by omega
  have nkk : ¬ c = kk := by omega
  have mk2 : max (k2 : Int) 0 = (k2 : Int) := by omega
  have hHd := Lib.hid (fun Ao no co A n c W (h1 : RB W Ao no co p.opts) => show Calls Try.prog 62 #[.agg (cells4 p Ao no co A n c)] W fun e w' => e = .returned (.int .i64 (hh : Int)) ∧ Below W.heap.size W w' from by
    have hl := h1.len
    have := RefHead4_any p Ao no co A n c W (by omega)
    rw [show (20 + (no : Int)) = (hh : Int) by omega] at this
    exact this)
  have hSa := fun Ao no co A m c W (h1 : RB W A m c p.data) => RefSumAt26_any p Ao no co A m c W h1 (by have := h1.len; omega) (by have := h1.len; omega) (by rcases hpr with h | h | h; exact .inl h; exact .inr (.inl h); exact .inr (.inr h.1))
  have hb := Lib.hid (Below.refl w.heap.size w)
  have hcut1 := Lib.hid (show 0 + 4 ≤ 140737488355328 by omega)
  have hcut2 := Lib.hid (show 4 + 2 ≤ 140737488355328 by omega)
  have hdn := Lib.hid (show p.data.length ≤ 3000 by omega)
  replace hS1 := Lib.hid hS1
  replace hS2 := Lib.hid hS2
  replace hS3 := Lib.hid hS3
  replace hd1 := Lib.hid hd1
  replace hd4 := Lib.hid hd4
  replace hd2 := Lib.hid hd2
  replace hd3 := Lib.hid hd3
  replace hd7 := Lib.hid hd7
  replace hd8 := Lib.hid hd8
  replace hs4 := Lib.hid hs4
  replace hS4 := Lib.hid hS4
  replace hpr := Lib.hid hpr
  clear hm1 hm3 hd5 hd6 hc1 hc2 hcap hcm hlen hby hv hpk hoff h8 hhd hhe hh60 h9 hbd hdat hdl8 hbl hh20 hhq hot ha hx hk hpt hn h hgd hp hhh hkk hk2 hka
  generalize setN bs 16 (digL a 4) 4 = bs1 at *
  generalize out1Q bs 16 a = bs2 at *
  generalize out2Q bs 16 pt a x = bs3 at *
  generalize sm1Q bs 16 a = sm1 at *
  generalize sm2Q bs 16 pt a x = sm2 at *
  generalize sm3Q bs 16 pt a x = sm3 at *
  go_enter Try.func37, Try.ntmps37
  go_upto_region 3 with (first
    | (go_at_call 33; refine hP.out.mono ?_; rintro e w1 ⟨Ao, no, co, A1, n1, c1, rfl, ho1, hd1', hB1⟩; have hy := hB1.alloc hB1.size (.cells (cells4 p Ao no co A1 n1 c1) 32); have hb1 := Lib.hid (hb.out.trans (hy.mono hb.out.size)); have kP1 := Lib.hid (Blk.new w1 (cells4 p Ao no co A1 n1 c1) 32); have ro1 := Lib.hid (ho1.rb.alloc (.cells (cells4 p Ao no co A1 n1 c1) 32)); have rd1 := Lib.hid (hd1'.rb.alloc (.cells (cells4 p Ao no co A1 n1 c1) 32)); replace hB1 := 0; clear ho1 hd1' hy)
    | (refine wpList_store_4 rfl (.tmp 11) (.tmp 27) rfl w1.heap.size (cells4 p Ao no co A1 n1 c1) rfl rfl _ (Blk.new _ zero4c 32) rfl rfl (one4 _ _ _ _ _ _ _) ?_; rw [World.setRow_alloc_new])
    | (refine wpList_load_4 rfl (.tmp 11) rfl w1.heap.size rfl _ kP1.out rfl ?_)
    | (go_at_call 62; refine (hHd.out _ _ _ _ _ _ _ ro1.out).mono ?_; rintro e w2 ⟨rfl, hB2⟩; have hb2 := Lib.hid (hb1.out.trans (hB2.mono hb1.out.size)); have kP2 := Lib.hid (kP1.out.to hB2); have rd2 := Lib.hid (rd1.out.below hB2); replace hB2 := 0)
    | fail)
  have hz2 := Lib.hid (Below.refl w2.heap.size w2).drew
  try simp only [Act.put]
  refine wp_region_held_drew (S := fun _ => True) (by kernel_rfl) trivial (fun hHeld => ?_)
  refine take_h (i := 0) (v := ?_) rfl rfl (by kernel_rfl) (by kernel_rfl) (by kernel_rfl) (fun _ _ _ h => h) (Or.inl ⟨by rfl, fun W hSw => ?_⟩) (by assumption) ?_
  rotate_left
  · (clear hSw; go_simp; try with_reducible rfl)
  simp only [Act.put, List.setIfInBounds_toArray, List.set_cons_zero, List.set_cons_succ]
  refine take_h (i := 1) (v := ?_) rfl rfl (by kernel_rfl) (by kernel_rfl) (by kernel_rfl) (fun _ _ _ h => h) (Or.inl ⟨by rfl, fun W hSw => ?_⟩) (by assumption) ?_
  rotate_left
  · (clear hSw; go_simp; try with_reducible rfl)
  simp only [Act.put, List.setIfInBounds_toArray, List.set_cons_zero, List.set_cons_succ]
  refine take_h (i := 2) (v := ?_) rfl rfl (by kernel_rfl) (by kernel_rfl) (by kernel_rfl) (fun _ _ _ h => h) (Or.inl ⟨by rfl, fun W hSw => ?_⟩) (by assumption) ?_
  rotate_left
  · (clear hSw; go_simp; try with_reducible rfl)
  simp only [Act.put, List.setIfInBounds_toArray, List.set_cons_zero, List.set_cons_succ]
  refine take_h (i := 3) (v := ?_) rfl rfl (by kernel_rfl) (by kernel_rfl) (by kernel_rfl) (fun _ _ _ h => h) (Or.inl ⟨by rfl, fun W hSw => ?_⟩) (by assumption) ?_
  rotate_left
  · (clear hSw; go_simp; try with_reducible rfl)
  simp only [Act.put, List.setIfInBounds_toArray, List.set_cons_zero, List.set_cons_succ]
  refine take_h (i := 4) (v := ?_) rfl rfl (by kernel_rfl) (by kernel_rfl) (by kernel_rfl) (fun _ _ _ h => h) (Or.inl ⟨by rfl, fun W hSw => ?_⟩) (by assumption) ?_
  rotate_left
  · (clear hSw; go_simp; try with_reducible rfl)
  simp only [Act.put, List.setIfInBounds_toArray, List.set_cons_zero, List.set_cons_succ]
  refine take_h (i := 5) (v := ?_) rfl rfl (by kernel_rfl) (by kernel_rfl) (by kernel_rfl) (fun _ _ _ h => h) (Or.inl ⟨by rfl, fun W hSw => ?_⟩) (by assumption) ?_
  rotate_left
  · (clear hSw; go_simp; try with_reducible rfl)
  simp only [Act.put, List.setIfInBounds_toArray, List.set_cons_zero, List.set_cons_succ]
  refine step_h (i := 6) rfl rfl (by kernel_rfl) (fun K hK => ?_)
  go_simp
  refine Calls.mono (hPa.out _) ?_
  rintro e w3 ⟨A3, c3, rfl, ho3, hB3⟩
  have hz3 := Lib.hid (hz2.out.trans (hB3.mono hz2.out.size))
  have ho3' := Lib.hid (ho3.mono hz2.out.size)
  have hk3 := Lib.hid (fun k (hk : ownBlk A3 = some k) => (ho3.blk hk).2)
  clear hHeld hB3 ho3
  go_wp2_with fail
  refine hK.out _ _ trivial (fun hHeld => ?_)
  clear hK K
  try simp only [Act.put, List.setIfInBounds_toArray, List.set_cons_zero, List.set_cons_succ]
  refine take_h (i := 7) (v := ?_) rfl rfl (by kernel_rfl) (by kernel_rfl) (by kernel_rfl) (fun _ _ _ h => h) (Or.inl ⟨by rfl, fun W hSw => ?_⟩) (by assumption) ?_
  rotate_left
  · (clear hSw; go_simp; try with_reducible rfl)
  simp only [Act.put, List.setIfInBounds_toArray, List.set_cons_zero, List.set_cons_succ]
  refine take_h (i := 8) (v := ?_) rfl rfl (by kernel_rfl) (by kernel_rfl) (by kernel_rfl) (fun _ _ _ h => h) (Or.inl ⟨by rfl, fun W hSw => ?_⟩) (by assumption) ?_
  rotate_left
  · (clear hSw; go_simp; try with_reducible rfl)
  simp only [Act.put, List.setIfInBounds_toArray, List.set_cons_zero, List.set_cons_succ]
  refine wpAnyH_done (by kernel_rfl) ?_ _
  clear hHeld
  have hz3d := Lib.hid hz3.out.drew
  try simp only [Act.put]
  go_upto_region 4 with fail
  try simp only [Act.put]
  refine wp_region_held_drew (S := fun _ => True) (by kernel_rfl) trivial (fun hHeld => ?_)
  refine take_h (i := 0) (v := ?_) rfl rfl (by kernel_rfl) (by kernel_rfl) (by kernel_rfl) (fun _ _ _ h => h) (Or.inl ⟨by rfl, fun W hSw => ?_⟩) (by assumption) ?_
  rotate_left
  · (clear hSw; go_simp; try with_reducible rfl)
  simp only [Act.put, List.setIfInBounds_toArray, List.set_cons_zero, List.set_cons_succ]
  refine take_h (i := 1) (v := ?_) rfl rfl (by kernel_rfl) (by kernel_rfl) (by kernel_rfl) (fun _ _ _ h => h) (Or.inl ⟨by rfl, fun W hSw => ?_⟩) (by assumption) ?_
  rotate_left
  · (clear hSw; go_simp; try with_reducible rfl)
  simp only [Act.put, List.setIfInBounds_toArray, List.set_cons_zero, List.set_cons_succ]
  refine take_h (i := 2) (v := ?_) rfl rfl (by kernel_rfl) (by kernel_rfl) (by kernel_rfl) (fun _ _ _ h => h) (Or.inl ⟨by rfl, fun W hSw => ?_⟩) (by assumption) ?_
  rotate_left
  · (clear hSw; go_simp; try with_reducible rfl)
  simp only [Act.put, List.setIfInBounds_toArray, List.set_cons_zero, List.set_cons_succ]
  refine take_h (i := 3) (v := ?_) rfl rfl (by kernel_rfl) (by kernel_rfl) (by kernel_rfl) (fun _ _ _ h => h) (Or.inl ⟨by rfl, fun W hSw => ?_⟩) (by assumption) ?_
  rotate_left
  · (clear hSw; go_simp; try with_reducible rfl)
  simp only [Act.put, List.setIfInBounds_toArray, List.set_cons_zero, List.set_cons_succ]
  refine take_h (i := 4) (v := ?_) rfl rfl (by kernel_rfl) (by kernel_rfl) (by kernel_rfl) (fun _ _ _ h => h) (Or.inl ⟨by rfl, fun W hSw => ?_⟩) (by assumption) ?_
  rotate_left
  · (clear hSw; go_simp; try with_reducible rfl)
  simp only [Act.put, List.setIfInBounds_toArray, List.set_cons_zero, List.set_cons_succ]
  refine take_h (i := 5) (v := ?_) rfl rfl (by kernel_rfl) (by kernel_rfl) (by kernel_rfl) (fun _ _ _ h => h) (Or.inl ⟨by rfl, fun W hSw => ?_⟩) (by assumption) ?_
  rotate_left
  · (clear hSw; go_simp; try with_reducible rfl)
  simp only [Act.put, List.setIfInBounds_toArray, List.set_cons_zero, List.set_cons_succ]
  refine take_h (i := 6) (v := ?_) rfl rfl (by kernel_rfl) (by kernel_rfl) (by kernel_rfl) (fun _ _ _ h => h) (Or.inl ⟨by rfl, fun W hSw => ?_⟩) (by assumption) ?_
  rotate_left
  · (clear hSw; go_simp; try with_reducible rfl)
  simp only [Act.put, List.setIfInBounds_toArray, List.set_cons_zero, List.set_cons_succ]
  refine take_h (i := 7) (v := ?_) rfl rfl (by kernel_rfl) (by kernel_rfl) (by kernel_rfl) (fun _ _ _ h => h) (Or.inl ⟨by rfl, fun W hSw => ?_⟩) (by assumption) ?_
  rotate_left
  · (clear hSw; go_simp; try with_reducible rfl)
  simp only [Act.put, List.setIfInBounds_toArray, List.set_cons_zero, List.set_cons_succ]
  refine take_h (i := 8) (v := ?_) rfl rfl (by kernel_rfl) (by kernel_rfl) (by kernel_rfl) (fun _ _ _ h => h) (Or.inl ⟨by rfl, fun W hSw => ?_⟩) (by assumption) ?_
  rotate_left
  · (clear hSw; go_simp; try with_reducible rfl)
  simp only [Act.put, List.setIfInBounds_toArray, List.set_cons_zero, List.set_cons_succ]
  refine take_h (i := 9) (v := ?_) rfl rfl (by kernel_rfl) (by kernel_rfl) (by kernel_rfl) (fun _ _ _ h => h) (Or.inl ⟨by rfl, fun W hSw => ?_⟩) (by assumption) ?_
  rotate_left
  · (clear hSw; go_simp; try with_reducible rfl)
  simp only [Act.put, List.setIfInBounds_toArray, List.set_cons_zero, List.set_cons_succ]
  refine step_h (i := 10) rfl rfl (by kernel_rfl) (fun K hK => ?_)
  go_simp
  refine Calls.mono (hPx.out _) ?_
  rintro e w4 ⟨A4, c4, rfl, ho4, hB4⟩
  have hz4 := Lib.hid (hz3d.out.trans (hB4.mono hz3d.out.size))
  have ho4' := Lib.hid (show OB w4 w3.heap.size A4 (0 + 2) c4 ([] ++ digL x 2) from ho4)
  have hB4' := Lib.hid ((Below.refl w3.heap.size w3).drew.trans (hB4.mono (Below.refl w3.heap.size w3).drew.size))
  clear hHeld hB4 ho4
  go_wp2_with fail
  refine hK.out _ _ trivial (fun hHeld => ?_)
  clear hK K
  try simp only [Act.put, List.setIfInBounds_toArray, List.set_cons_zero, List.set_cons_succ]
  refine take_h (i := 11) (v := ?_) rfl rfl (by kernel_rfl) (by kernel_rfl) (by kernel_rfl) (fun _ _ _ h => h) (Or.inl ⟨by rfl, fun W hSw => ?_⟩) (by assumption) ?_
  rotate_left
  · (clear hSw; go_simp; try with_reducible rfl)
  simp only [Act.put, List.setIfInBounds_toArray, List.set_cons_zero, List.set_cons_succ]
  refine take_h (i := 12) (v := ?_) rfl rfl (by kernel_rfl) (by kernel_rfl) (by kernel_rfl) (fun _ _ _ h => h) (Or.inl ⟨by rfl, fun W hSw => ?_⟩) (by assumption) ?_
  rotate_left
  · (clear hSw; go_simp; try with_reducible rfl)
  simp only [Act.put, List.setIfInBounds_toArray, List.set_cons_zero, List.set_cons_succ]
  refine wpAnyH_done (by kernel_rfl) ?_ _
  clear hHeld
  have ob3 := Lib.hid (ho3'.out.below hB4'.out)
  have hb4 := Lib.hid (hb2.out.trans (hz4.out.mono hb2.out.size))
  have kP4 := Lib.hid (kP2.out.to hz4.out)
  have rd4 := Lib.hid (rd2.out.below hz4.out)
  have or3 := Lib.hid (show RB w4 A3 4 c3 (digL a 4) by have := ob3.out.rb; rwa [List.nil_append, Nat.zero_add] at this)
  have or4 := Lib.hid (show OB w4 w3.heap.size A4 2 c4 (digL x 2) by have := ho4'.out; rwa [List.nil_append, Nat.zero_add] at this)
  have ob4 := Lib.hid (show OB w4 w2.heap.size A3 4 c3 (digL a 4) by have := ob3.out; rwa [List.nil_append, Nat.zero_add] at this)
  have hsz24 := Lib.hid hz4.out.size
  have hsz34 := Lib.hid (show w3.heap.size ≤ w4.heap.size from hB4'.out.size)
  clear ho4' ob3 ho3' hz2 hz3 hz3d
  try simp only [Act.put]
  go_upto_region 8 with (first
    | (go_at_call_of 63 (Value.int IntKind.i64 a); refine (hS1.out _ hb4.out).mono ?_; rintro e w5 ⟨A5, c5, rfl, ho5, hB5⟩; have hb5 := Lib.hid (hb4.out.trans (hB5.mono hb4.out.size)); have hy5 := Lib.hid hB5; have or5 := Lib.hid (or3.out.below hB5); have hr5 := Lib.hid ho5.rb; replace hB5 := 0; clear ho5)
    | (go_at_call 34; refine (hG1.out _ hb5.out).mono ?_; rintro e w' ⟨rfl, rfl⟩)
    | (go_at_call 64; refine (hC1.out _ A3 4 c3 (by decide) hb5.out or5.out).mono ?_; rintro e w6 ⟨rfl, hB6⟩; have hb6 := Lib.hid (hb5.out.trans (hB6.mono hb5.out.size)); have hy6 := Lib.hid (hy5.out.trans (hB6.mono hy5.out.size)); have hr6 := Lib.hid (hr5.out.below hB6); replace hB6 := 0)
    | (go_at_call_of 63 (Value.int IntKind.i64 sm1); refine (hS2.out _ _ _ hr6.out).mono ?_; rintro e w7 ⟨A7, c7, rfl, ho7, hB7⟩; have hb7 := Lib.hid (hb6.out.trans (hB7.mono hb6.out.size)); have hy7 := Lib.hid (hy6.out.trans (hB7.mono hy6.out.size)); have hr7 := Lib.hid ho7.rb; replace hB7 := 0; clear ho7)
    | (go_at_call_of 63 (Value.int IntKind.i64 x); refine (hS3.out _ _ _ hr7.out).mono ?_; rintro e w8 ⟨A8, c8, rfl, ho8, hB8⟩; have hb8 := Lib.hid (hb7.out.trans (hB8.mono hb7.out.size)); have hy8 := Lib.hid (hy7.out.trans (hB8.mono hy7.out.size)); have hr8 := Lib.hid (ho8.mono (show w3.heap.size ≤ w7.heap.size from Nat.le_trans hsz34.out hy7.out.size)); replace hB8 := 0; clear ho8)
    | fail)
  have hSa' := hSa Ao no co A1 n1 c1 w8 (rd4.out.below hy8.out)
  have kP8 := Lib.hid (kP4.out.to hy8.out)
  have rd8 := Lib.hid (rd4.out.below hy8.out)
  have ob8 := Lib.hid (ob4.out.below hy8.out)
  have hz8 := Lib.hid (hz4.out.trans (hy8.out.mono hz4.out.size))
  have ox8 := Lib.hid (or4.out.below hy8.out)
  have hc1_8 := Lib.hid (hc1'.out _ hb8.out)
  have hc2_8 := Lib.hid (hc2'.out _ hb8.out)
  clear hSa
  cases hns : noSum p
  rotate_left
  · have hz := show sumAtI p = -1 by unfold sumAtI; rw [hns]; rfl
    rw [hz] at hSa'
    replace hSa' := Lib.hid hSa'
    have hfin := Lib.hid (show chgQ bs 16 pt a x = bs3 by rw [hd4.out, hns]; rfl)
    clear hz hns
    try simp only [Act.put]
    go_wp2_with (first
      | (refine wpList_load_4 rfl (.tmp 11) rfl w1.heap.size rfl _ kP8.out rfl ?_)
      | (go_at_call 65; refine hSa'.out.mono ?_; rintro e w9 ⟨rfl, hB9⟩; have hb9 := Lib.hid (hb8.out.trans (hB9.mono hb8.out.size)); have hr9 := Lib.hid (hr8.out.below hB9); replace hB9 := 0)
      | fail)
    go_ret
    exact ⟨A8, n, c8, rfl, by rw [hfin.out]; exact hr9.out.rb, hb9.out⟩
  have hz := show sumAtI p = (atQ p : Int) by unfold sumAtI; rw [hns]; rfl
  rw [hz] at hSa'
  have hfin := Lib.hid (show chgQ bs 16 pt a x = setN bs3 ka (digL sm3 2) 2 by rw [hd4.out, hns]; rfl)
  have hs4' := hs4.out hns
  have hS4' := fun A2 c2 W (hr : RB W A2 n c2 bs3) => hS4.out hs4' A2 c2 W hr
  have wka : IntKind.i64.wrap ((hh : Int) + (atQ p : Int)) = (ka : Int) := hkaw
  have hat0 : ¬ (atQ p : Int) < 0 := by omega
  have hNm := Lib.hid (fun W (h : RB W A1 n1 c1 p.data) => RefNum26_any A1 n1 c1 p.data (atQ p : Int) 2 W h (by have := h.len; have := hdn.out; omega))
  replace hSa' := Lib.hid hSa'
  replace hS4' := Lib.hid hS4'
  have hC2 := fun A2 n2 c2 A6 n6 c6 W (h2 : RB W A2 n2 c2 (oldQ bs 16 pt)) (h6 : RB W A6 n6 c6 (nowQ bs a x)) (g2 : n2 ≤ 100000) (g6 : n6 ≤ 100000) => RefChange_any A2 A6 n2 c2 n6 c6 (oldQ bs 16 pt) (nowQ bs a x) (getV p.data (atQ p) 2).1 W h2 h6 g2 g6
  rw [← hd2.out] at hC2
  unfold Answers at hC2
  have hc7 := hd7.out
  have hc8 := hd8.out
  have hc3 := hd3.out
  clear hs4' hz hns
  generalize oldQ bs 16 pt = old at *
  generalize nowQ bs a x = now at *
  generalize atQ p = at0 at *
  by_cases h1 : p.pr = 1
  · have q1 : (p.pr == 1) = true := by simpa using h1
    have q17 : (p.pr == 17) = false := by simp [h1]
    rw [if_pos h1] at hc7 hc8
    rw [if_neg (by omega)] at hc3
    subst hc7
    subst hc8
    obtain rfl := hc3.symm
    replace hC2 := Lib.hid hC2
    clear h1
    try simp only [Act.put]
    go_upto_region 15 with (first
      | (refine wpList_load_4 rfl (.tmp 11) rfl w1.heap.size rfl _ kP8.out rfl ?_)
      | (go_at_call 65; refine hSa'.out.mono ?_; rintro e w9 ⟨rfl, hB9⟩; have hb9 := Lib.hid (hb8.out.trans (hB9.mono hb8.out.size)); have hr9 := Lib.hid (hr8.out.below hB9); have ob9 := Lib.hid (ob8.out.below hB9); have ox9 := Lib.hid (ox8.out.below hB9); have hc1_9 := Lib.hid (hc1_8.out.below hB9); have hc2_9 := Lib.hid (hc2_8.out.below hB9); have hz9 := Lib.hid (hz8.out.trans (hB9.mono hz8.out.size)); have hs39 := Lib.hid (show w3.heap.size ≤ w9.heap.size from Nat.le_trans hsz34.out (Nat.le_trans hy8.out.size hB9.size)); replace hB9 := 0)
      | (at_builtin; refine wpList_append_bytes _ rfl (.const (.slice none 0 0)) (.tmp 80) rfl rfl rfl (OB.nil _ w9.heap.size) hc1_9.out hcut1.out (Nat.le_refl _) ?_; intro A10 c10 w10 ho10 hg10 hq10; have hB10 := (Below.refl _ w9).grown hg10 (Nat.le_refl _) (fun k hk => by cases hk); have hc2_10 := Lib.hid (hc2_9.out.below hB10); have ho10' := Lib.hid ho10; have hx10 := Lib.hid hB10; clear hg10 hq10 ho10; replace hB10 := 0)
      | (at_builtin; refine wpList_append_bytes _ rfl (.tmp 81) (.tmp 82) rfl rfl rfl ho10'.out hc2_10.out hcut2.out hx10.out.size ?_; intro A11 c11 w11 ho11 hg11 hq11; have hB11 := hx10.out.grown hg11 hx10.out.size (fun k hk => (ho10'.out.blk hk).1); have hr11 := Lib.hid (hr9.out.below hB11); have ob11 := Lib.hid (ob9.out.below hB11); have ox11 := Lib.hid (ox9.out.below hB11); have hc2_11 := Lib.hid (hc2_9.out.below hB11); have hz11 := Lib.hid (hz9.out.trans (hB11.mono hz9.out.size)); have hb11 := Lib.hid (hb9.out.trans (hB11.mono hb9.out.size)); have oo11 := Lib.hid ho11; clear hg11 hq11 ho11; replace hB11 := 0)
      | (at_builtin; refine wpList_append_bytes _ rfl (.tmp 84) (.tmp 85) rfl rfl rfl ob11.out ox11.out.rb hcut2.out hz11.out.size ?_; intro A12 c12 w12 ho12 hg12 hq12; have hz12 := Lib.hid (hz11.out.grown hg12 hz11.out.size (fun k hk => (ob11.out.blk hk).1)); have hb12 := Lib.hid (hb2.out.trans (hz12.out.mono hb2.out.size)); have hr12 := Lib.hid (hr11.out.past hk3.out hg12); have ox12 := Lib.hid (ox11.out.past hk3.out hg12); have oo12 := Lib.hid (oo11.out.past (fun k hk => Nat.lt_of_lt_of_le (hk3.out k hk) hs39.out) hg12); have on12 := Lib.hid ho12.rb; have hc2_12 := Lib.hid (hc2'.out _ hb12.out); have kP12 := Lib.hid (kP2.out.to hz12.out); have rd12 := Lib.hid (rd2.out.below hz12.out); have p4 := kP12.out.cell 4 (.int .i64 p.pr) rfl; have p10 := kP12.out.cell 10 (.slice A1 n1 c1) rfl; clear hg12 hq12 ho12)
      | (go_at_call 34; refine (hNm.out _ rd12.out).mono ?_; rintro e w' ⟨rfl, rfl⟩)
      | (go_at_call 64; refine (hC2.out _ 2 _ _ 2 _ _ (hc2_12.out) (ox12.out) (by decide) (by decide)).mono ?_; rintro e w14 ⟨rfl, hB14⟩; have hb14 := Lib.hid (hb12.out.trans (hB14.mono hb12.out.size)); have hr14 := Lib.hid (hr12.out.below hB14); have kP14 := Lib.hid (kP12.out.to hB14); clear p4 p10; replace hB14 := 0)
      | fail)
    have p4 := kP14.out.cell 4 (.int .i64 p.pr) rfl
    try simp only [Act.put]
    cases hz0 : (sm2 == 0)
    all_goals
      go_wp2_with (first
        | (go_at_call 63; refine (hS4'.out _ _ _ hr14.out).mono ?_; rintro e w15 ⟨A15, c15, rfl, ho15, hB15⟩; have hb15 := Lib.hid (hb14.out.trans (hB15.mono hb14.out.size)); have hr15 := Lib.hid ho15.rb; replace hB15 := 0; clear ho15)
        | fail)
      go_ret
      exact ⟨A15, n, c15, rfl, by rw [hfin.out]; exact hr15.out, hb15.out⟩
  · have q1 : (p.pr == 1) = false := by simpa using h1
    rw [if_neg h1] at hc7 hc8
    subst hc7
    subst hc8
    replace hC2 := Lib.hid hC2
    clear h1
    try simp only [Act.put]
    go_upto_region 15 with (first
      | (refine wpList_load_4 rfl (.tmp 11) rfl w1.heap.size rfl _ kP8.out rfl ?_)
      | (go_at_call 65; refine hSa'.out.mono ?_; rintro e w9 ⟨rfl, hB9⟩; have hb9 := Lib.hid (hb8.out.trans (hB9.mono hb8.out.size)); have hr9 := Lib.hid (hr8.out.below hB9); have ob9 := Lib.hid (ob8.out.below hB9); have ox9 := Lib.hid (ox8.out.below hB9); have hc1_9 := Lib.hid (hc1_8.out.below hB9); have hc2_9 := Lib.hid (hc2_8.out.below hB9); have hz9 := Lib.hid (hz8.out.trans (hB9.mono hz8.out.size)); have hs39 := Lib.hid (show w3.heap.size ≤ w9.heap.size from Nat.le_trans hsz34.out (Nat.le_trans hy8.out.size hB9.size)); replace hB9 := 0)
      | (at_builtin; refine wpList_append_bytes _ rfl (.const (.slice none 0 0)) (.tmp 80) rfl rfl rfl (OB.nil _ w9.heap.size) hc1_9.out hcut1.out (Nat.le_refl _) ?_; intro A10 c10 w10 ho10 hg10 hq10; have hB10 := (Below.refl _ w9).grown hg10 (Nat.le_refl _) (fun k hk => by cases hk); have hc2_10 := Lib.hid (hc2_9.out.below hB10); have ho10' := Lib.hid ho10; have hx10 := Lib.hid hB10; clear hg10 hq10 ho10; replace hB10 := 0)
      | (at_builtin; refine wpList_append_bytes _ rfl (.tmp 81) (.tmp 82) rfl rfl rfl ho10'.out hc2_10.out hcut2.out hx10.out.size ?_; intro A11 c11 w11 ho11 hg11 hq11; have hB11 := hx10.out.grown hg11 hx10.out.size (fun k hk => (ho10'.out.blk hk).1); have hr11 := Lib.hid (hr9.out.below hB11); have ob11 := Lib.hid (ob9.out.below hB11); have ox11 := Lib.hid (ox9.out.below hB11); have hc2_11 := Lib.hid (hc2_9.out.below hB11); have hz11 := Lib.hid (hz9.out.trans (hB11.mono hz9.out.size)); have hb11 := Lib.hid (hb9.out.trans (hB11.mono hb9.out.size)); have oo11 := Lib.hid ho11; clear hg11 hq11 ho11; replace hB11 := 0)
      | (at_builtin; refine wpList_append_bytes _ rfl (.tmp 84) (.tmp 85) rfl rfl rfl ob11.out ox11.out.rb hcut2.out hz11.out.size ?_; intro A12 c12 w12 ho12 hg12 hq12; have hz12 := Lib.hid (hz11.out.grown hg12 hz11.out.size (fun k hk => (ob11.out.blk hk).1)); have hb12 := Lib.hid (hb2.out.trans (hz12.out.mono hb2.out.size)); have hr12 := Lib.hid (hr11.out.past hk3.out hg12); have ox12 := Lib.hid (ox11.out.past hk3.out hg12); have oo12 := Lib.hid (oo11.out.past (fun k hk => Nat.lt_of_lt_of_le (hk3.out k hk) hs39.out) hg12); have on12 := Lib.hid ho12.rb; have hc2_12 := Lib.hid (hc2'.out _ hb12.out); have kP12 := Lib.hid (kP2.out.to hz12.out); have rd12 := Lib.hid (rd2.out.below hz12.out); have p4 := kP12.out.cell 4 (.int .i64 p.pr) rfl; have p10 := kP12.out.cell 10 (.slice A1 n1 c1) rfl; clear hg12 hq12 ho12)
      | (go_at_call 34; refine (hNm.out _ rd12.out).mono ?_; rintro e w' ⟨rfl, rfl⟩)
      | (go_at_call 64; refine (hC2.out _ 6 _ _ 6 _ _ (oo12.out) (on12.out) (by decide) (by decide)).mono ?_; rintro e w14 ⟨rfl, hB14⟩; have hb14 := Lib.hid (hb12.out.trans (hB14.mono hb12.out.size)); have hr14 := Lib.hid (hr12.out.below hB14); have kP14 := Lib.hid (kP12.out.to hB14); clear p4 p10; replace hB14 := 0)
      | fail)
    have p4 := kP14.out.cell 4 (.int .i64 p.pr) rfl
    try simp only [Act.put]
    cases hz0 : (sm2 == 0)
    · have hz1 : ¬ sm2 = 0 := by simpa using hz0
      rw [if_neg (fun g => hz1 g.1)] at hc3
      obtain rfl := hc3.symm
      clear hz1
      go_wp2_with (first
        | (go_at_call 63; refine (hS4'.out _ _ _ hr14.out).mono ?_; rintro e w15 ⟨A15, c15, rfl, ho15, hB15⟩; have hb15 := Lib.hid (hb14.out.trans (hB15.mono hb14.out.size)); have hr15 := Lib.hid ho15.rb; replace hB15 := 0; clear ho15)
        | fail)
      go_ret
      exact ⟨A15, n, c15, rfl, by rw [hfin.out]; exact hr15.out, hb15.out⟩
    · have hz1 : sm2 = 0 := by simpa using hz0
      by_cases h17 : p.pr = 17
      · have q17 : (p.pr == 17) = true := by simpa using h17
        rw [if_pos ⟨hz1, h17⟩] at hc3
        subst hc3
        clear hz1 h17
        go_wp2_with (first
          | (go_at_call 63; refine (hS4'.out _ _ _ hr14.out).mono ?_; rintro e w15 ⟨A15, c15, rfl, ho15, hB15⟩; have hb15 := Lib.hid (hb14.out.trans (hB15.mono hb14.out.size)); have hr15 := Lib.hid ho15.rb; replace hB15 := 0; clear ho15)
          | fail)
        go_ret
        exact ⟨A15, n, c15, rfl, by rw [hfin.out]; exact hr15.out, hb15.out⟩
      · have q17 : (p.pr == 17) = false := by simpa using h17
        rw [if_neg (fun g => h17 g.2)] at hc3
        obtain rfl := hc3.symm
        clear hz1 h17
        go_wp2_with (first
          | (go_at_call 63; refine (hS4'.out _ _ _ hr14.out).mono ?_; rintro e w15 ⟨A15, c15, rfl, ho15, hB15⟩; have hb15 := Lib.hid (hb14.out.trans (hB15.mono hb14.out.size)); have hr15 := Lib.hid ho15.rb; replace hB15 := 0; clear ho15)
          | fail)
        go_ret
        exact ⟨A15, n, c15, rfl, by rw [hfin.out]; exact hr15.out, hb15.out⟩
end Go.Proofs.Ytmbmmpbfmakfbaa
/- What is quoted (the reference): walks of may, From, To, Message. -/
set_option linter.unusedVariables false
namespace Go.Proofs.Ytmbmmpbfmakfbaa
open Go Go.RowKit
attribute [local go_sem] Oper.semAt_some

set_option maxRecDepth 100000 in
set_option maxHeartbeats 2000000 in
theorem RefMay26_any (a x : Int) (A : Option Addr) (n c : Nat) (bs : List Int) (w : World) (h : RB w A n c bs) (hn : n ≤ 3000) :
    Calls Try.prog 36 #[.slice A n c, .int .i64 a, .int .i64 x] w fun e w' => e = .returned (.int .i64 (mayQ bs a x)) ∧ Below w.heap.size w w' := by
  have hO := RefQPorts_any A n c bs w h hn
  unfold QpOut at hO
  obtain ⟨k, hk⟩ : ∃ k, codeQ bs = k := ⟨_, rfl⟩
  have hM : mayQ bs a x = if k ≠ 0 then k else if rightB a = true ∧ fitsB x 2 = true then 0 else 1 := by unfold mayQ; rw [hk]
  rw [hk] at hO
  generalize packQ bs = p at *
  generalize portQ bs = xx at *
  have hb := Lib.hid (Below.refl w.heap.size w)
  replace hO := Lib.hid hO
  clear hk h
  by_cases h0 : k = 0
  · subst h0
    rw [if_neg (by decide)] at hM
    have hR := Lib.hid (fun W => RefRight4_any W a)
    have hF := Lib.hid (fun W => RefFits_any x 2 W)
    cases ha : rightB a
    all_goals
      cases hf : fitsB x 2
      all_goals
        rw [ha, hf] at hM
        simp only [Bool.false_eq_true, false_and, and_false, and_self, if_true, if_false] at hM
        have hR' := hR.out
        have hF' := hF.out
        rw [ha] at hR'
        rw [hf] at hF'
        replace hR' := Lib.hid hR'
        replace hF' := Lib.hid hF'
        replace hM := Lib.hid hM
        clear ha hf
        go_enter Try.func36, Try.ntmps36
        go_wp2_with (first
          | (go_at_call 16; refine hO.out.mono ?_; rintro e w1 ⟨Ao, no, co, A1, n1, c1, rfl, ho1, hd1, hB1⟩; have hz := (hB1.alloc hB1.size (.cells zero4c 32)).alloc (hB1.alloc hB1.size (.cells zero4c 32)).size (.cells (cellsPo (0, 0, 0)) 41); have kz := Lib.hid ((Blk.new w1 zero4c 32).alloc (.cells (cellsPo (0, 0, 0)) 41)); have kx := Lib.hid ((blk_at (show (w1.alloc (.cells zero4c 32)).heap.size = w1.heap.size + 1 by simp) : Blk _ _ (cellsPo (0, 0, 0)) 41).farRow (show w1.heap.size + 1 ≠ w1.heap.size by omega) (cells4 p Ao no co A1 n1 c1)); have hb2 := Lib.hid (below_row (below_row hz hB1.size (cells4 p Ao no co A1 n1 c1)) (Nat.le_succ_of_le hB1.size) (cellsPo xx)); replace hB1 := 0; clear ho1 hd1 hz)
          | (refine wpList_store_4 rfl (.tmp 7) (.tmp 13) rfl w1.heap.size (cells4 p Ao no co A1 n1 c1) rfl rfl _ kz.out rfl rfl (one4 _ _ _ _ _ _ _) ?_)
          | (refine wpList_store_PO rfl (.tmp 8) (.tmp 14) rfl (w1.heap.size + 1) (cellsPo xx) rfl rfl _ kx.out rfl rfl (one_po _) ?_)
          | (go_at_call 60; refine (hR'.out _).mono ?_; rintro e w' ⟨rfl, rfl⟩)
          | (go_at_call 61; refine (hF'.out _).mono ?_; rintro e w' ⟨rfl, rfl⟩)
          | fail)
        go_ret
        exact ⟨by rw [hM.out]; rfl, hb2.out⟩
  · rw [if_pos h0] at hM
    have hkn : (k != 0) = true := by simpa using h0
    replace hM := Lib.hid hM
    clear h0
    go_enter Try.func36, Try.ntmps36
    go_wp2_with (first
      | (go_at_call 16; refine hO.out.mono ?_; rintro e w1 ⟨Ao, no, co, A1, n1, c1, rfl, ho1, hd1, hB1⟩; have hz := (hB1.alloc hB1.size (.cells zero4c 32)).alloc (hB1.alloc hB1.size (.cells zero4c 32)).size (.cells (cellsPo (0, 0, 0)) 41); have kz := Lib.hid ((Blk.new w1 zero4c 32).alloc (.cells (cellsPo (0, 0, 0)) 41)); have kx := Lib.hid ((blk_at (show (w1.alloc (.cells zero4c 32)).heap.size = w1.heap.size + 1 by simp) : Blk _ _ (cellsPo (0, 0, 0)) 41).farRow (show w1.heap.size + 1 ≠ w1.heap.size by omega) (cells4 p Ao no co A1 n1 c1)); have hb2 := Lib.hid (below_row (below_row hz hB1.size (cells4 p Ao no co A1 n1 c1)) (Nat.le_succ_of_le hB1.size) (cellsPo xx)); replace hB1 := 0; clear ho1 hd1 hz)
      | (refine wpList_store_4 rfl (.tmp 7) (.tmp 13) rfl w1.heap.size (cells4 p Ao no co A1 n1 c1) rfl rfl _ kz.out rfl rfl (one4 _ _ _ _ _ _ _) ?_)
      | (refine wpList_store_PO rfl (.tmp 8) (.tmp 14) rfl (w1.heap.size + 1) (cellsPo xx) rfl rfl _ kx.out rfl rfl (one_po _) ?_)
      | fail)
    go_ret
    exact ⟨by rw [hM.out]; rfl, hb2.out⟩
set_option maxRecDepth 100000 in
set_option maxHeartbeats 2000000 in
theorem RefQFrom_any (a x : Int) (A : Option Addr) (n c : Nat) (bs : List Int) (w : World) (h : RB w A n c bs) (hn : n ≤ 3000) :
    Calls Try.prog 17 #[.slice A n c, .int .i64 a, .int .i64 x] w (TwoOut w (fromQ bs a x) (mayQ bs a x)) := by
  have hM := fun W (hW : Below w.heap.size w W) => RefMay26_any a x A n c bs W (h.below hW) hn
  have hb := Lib.hid (Below.refl w.heap.size w)
  by_cases hk : mayQ bs a x = 0
  rotate_left
  · have hq : fromQ bs a x = [] := by unfold fromQ; rw [if_neg hk]
    rw [hq]
    have hkn : (mayQ bs a x != 0) = true := by simpa using hk
    generalize mayQ bs a x = k at *
    replace hM := Lib.hid hM
    clear h hk hq
    go_enter Try.func17, Try.ntmps17
    go_wp2_with (first
      | (go_at_call 36; refine (hM.out _ hb.out).mono ?_; rintro e w1 ⟨rfl, hB1⟩; have hb1 := Lib.hid hB1; replace hB1 := 0)
      | fail)
    go_ret2
    exact ⟨none, 0, 0, rfl, RB.nil _, hb1.out⟩
  have hq : fromQ bs a x = chgQ bs 12 (ptQ (readV4 true bs) 0) a x := by unfold fromQ; rw [if_pos hk]
  have hcq : codeQ bs = 0 := by
    unfold mayQ at hk
    by_cases h : codeQ bs = 0
    · exact h
    · rw [if_pos h] at hk; exact absurd hk h
  obtain ⟨ha, hf⟩ : rightB a = true ∧ fitsB x 2 = true := by
    unfold mayQ at hk
    rw [if_neg (fun g => g hcq)] at hk
    by_cases h : rightB a = true ∧ fitsB x 2 = true
    · exact h
    · rw [if_neg h] at hk; cases hk
  have ha' : 0 ≤ a ∧ a < 4294967296 := of_decide_eq_true ha
  have hf' := of_decide_eq_true hf
  have hx' : 0 ≤ x ∧ x < 65536 := ⟨hf'.2.1, hf'.2.2⟩
  obtain ⟨hv, hpk, hoff, h8, hhd, hhe, hh60, h9, hbd, hdat, hpr⟩ := quo_ok h.byt hcq
  have hlen := h.len
  have hh20 : 20 ≤ hdQ bs := by unfold hdQ; omega
  rw [hq, hk]
  rw [hk] at hM
  obtain ⟨b, off, rfl, hbl, hc⟩ := h.mem (by omega)
  have c9 := hc 9 (by omega)
  rw [h9] at c9
  have hC := fun pt (hpt : pt ≤ 4) W (hW : Below w.heap.size w W) => RefChanged26_12 (some ⟨b, off, none⟩) n c bs pt a x W (h.below hW) hn hcq hpt ha' hx'
  have i9 : (9 : Int) < n := by omega
  have j9 : 9 < n := by omega
  have c9' := Lib.hid (fun W (hW : Below w.heap.size w W) => (hW.cell (p := ⟨b, off + 9, none⟩) hbl).trans c9)
  unfold PutOut at hC
  by_cases h1 : (readV4 true bs).pr = 1
  · have e : ptQ (readV4 true bs) 0 = 4 := by unfold ptQ; rw [if_pos h1]
    rw [e]
    have hC' := Lib.hid (fun W (hW : Below w.heap.size w W) => show Calls Try.prog 37 #[.slice (some ⟨b, off, none⟩) n c, .int .i64 12, .int .i64 4, .int .i64 a, .int .i64 x] W _ from hC 4 (by omega) W hW)
    have q1 : ((readV4 true bs).pr == 1) = true := by simpa using h1
    replace hM := Lib.hid hM
    clear c9 hc hC hv hpk hoff h8 hhd hhe hh60 h9 hbd hdat hpr hlen hh20 hq hk hcq ha hf ha' hf' hx' h1 e hbl h
    generalize (readV4 true bs).pr = pr at *
    generalize chgQ bs 12 4 a x = out at *
    go_enter Try.func17, Try.ntmps17
    go_wp2_with (first
      | (go_at_call 36; refine (hM.out _ hb.out).mono ?_; rintro e w1 ⟨rfl, hB1⟩; have hb1 := Lib.hid hB1; have d9 := c9'.out _ hB1; replace hB1 := 0)
      | (go_at_call 37; refine (hC'.out _ hb1.out).mono ?_; rintro e w2 ⟨A2, n2, c2, rfl, ho2, hB2⟩; have hb2 := Lib.hid (hb1.out.trans (hB2.mono hb1.out.size)); have hr2 := Lib.hid ho2; replace hB2 := 0; clear ho2)
      | fail)
    go_ret2
    exact ⟨A2, n2, c2, rfl, hr2.out, hb2.out⟩
  · have e : ptQ (readV4 true bs) 0 = 0 := by unfold ptQ; rw [if_neg h1]
    rw [e]
    have hC' := Lib.hid (fun W (hW : Below w.heap.size w W) => show Calls Try.prog 37 #[.slice (some ⟨b, off, none⟩) n c, .int .i64 12, .int .i64 0, .int .i64 a, .int .i64 x] W _ from hC 0 (by omega) W hW)
    have q1 : ((readV4 true bs).pr == 1) = false := by simpa using h1
    replace hM := Lib.hid hM
    clear c9 hc hC hv hpk hoff h8 hhd hhe hh60 h9 hbd hdat hpr hlen hh20 hq hk hcq ha hf ha' hf' hx' h1 e hbl h
    generalize (readV4 true bs).pr = pr at *
    generalize chgQ bs 12 0 a x = out at *
    go_enter Try.func17, Try.ntmps17
    go_wp2_with (first
      | (go_at_call 36; refine (hM.out _ hb.out).mono ?_; rintro e w1 ⟨rfl, hB1⟩; have hb1 := Lib.hid hB1; have d9 := c9'.out _ hB1; replace hB1 := 0)
      | (go_at_call 37; refine (hC'.out _ hb1.out).mono ?_; rintro e w2 ⟨A2, n2, c2, rfl, ho2, hB2⟩; have hb2 := Lib.hid (hb1.out.trans (hB2.mono hb1.out.size)); have hr2 := Lib.hid ho2; replace hB2 := 0; clear ho2)
      | fail)
    go_ret2
    exact ⟨A2, n2, c2, rfl, hr2.out, hb2.out⟩
set_option maxRecDepth 100000 in
set_option maxHeartbeats 2000000 in
theorem RefQTo_any (a x : Int) (A : Option Addr) (n c : Nat) (bs : List Int) (w : World) (h : RB w A n c bs) (hn : n ≤ 3000) :
    Calls Try.prog 18 #[.slice A n c, .int .i64 a, .int .i64 x] w (TwoOut w (toQ bs a x) (mayQ bs a x)) := by
  have hM := fun W (hW : Below w.heap.size w W) => RefMay26_any a x A n c bs W (h.below hW) hn
  have hb := Lib.hid (Below.refl w.heap.size w)
  by_cases hk : mayQ bs a x = 0
  rotate_left
  · have hq : toQ bs a x = [] := by unfold toQ; rw [if_neg hk]
    rw [hq]
    have hkn : (mayQ bs a x != 0) = true := by simpa using hk
    generalize mayQ bs a x = k at *
    replace hM := Lib.hid hM
    clear h hk hq
    go_enter Try.func18, Try.ntmps18
    go_wp2_with (first
      | (go_at_call 36; refine (hM.out _ hb.out).mono ?_; rintro e w1 ⟨rfl, hB1⟩; have hb1 := Lib.hid hB1; replace hB1 := 0)
      | fail)
    go_ret2
    exact ⟨none, 0, 0, rfl, RB.nil _, hb1.out⟩
  have hq : toQ bs a x = chgQ bs 16 (ptQ (readV4 true bs) 2) a x := by unfold toQ; rw [if_pos hk]
  have hcq : codeQ bs = 0 := by
    unfold mayQ at hk
    by_cases h : codeQ bs = 0
    · exact h
    · rw [if_pos h] at hk; exact absurd hk h
  obtain ⟨ha, hf⟩ : rightB a = true ∧ fitsB x 2 = true := by
    unfold mayQ at hk
    rw [if_neg (fun g => g hcq)] at hk
    by_cases h : rightB a = true ∧ fitsB x 2 = true
    · exact h
    · rw [if_neg h] at hk; cases hk
  have ha' : 0 ≤ a ∧ a < 4294967296 := of_decide_eq_true ha
  have hf' := of_decide_eq_true hf
  have hx' : 0 ≤ x ∧ x < 65536 := ⟨hf'.2.1, hf'.2.2⟩
  obtain ⟨hv, hpk, hoff, h8, hhd, hhe, hh60, h9, hbd, hdat, hpr⟩ := quo_ok h.byt hcq
  have hlen := h.len
  have hh20 : 20 ≤ hdQ bs := by unfold hdQ; omega
  rw [hq, hk]
  rw [hk] at hM
  obtain ⟨b, off, rfl, hbl, hc⟩ := h.mem (by omega)
  have c9 := hc 9 (by omega)
  rw [h9] at c9
  have hC := fun pt (hpt : pt ≤ 4) W (hW : Below w.heap.size w W) => RefChanged26_16 (some ⟨b, off, none⟩) n c bs pt a x W (h.below hW) hn hcq hpt ha' hx'
  have i9 : (9 : Int) < n := by omega
  have j9 : 9 < n := by omega
  have c9' := Lib.hid (fun W (hW : Below w.heap.size w W) => (hW.cell (p := ⟨b, off + 9, none⟩) hbl).trans c9)
  unfold PutOut at hC
  by_cases h1 : (readV4 true bs).pr = 1
  · have e : ptQ (readV4 true bs) 2 = 4 := by unfold ptQ; rw [if_pos h1]
    rw [e]
    have hC' := Lib.hid (fun W (hW : Below w.heap.size w W) => show Calls Try.prog 37 #[.slice (some ⟨b, off, none⟩) n c, .int .i64 16, .int .i64 4, .int .i64 a, .int .i64 x] W _ from hC 4 (by omega) W hW)
    have q1 : ((readV4 true bs).pr == 1) = true := by simpa using h1
    replace hM := Lib.hid hM
    clear c9 hc hC hv hpk hoff h8 hhd hhe hh60 h9 hbd hdat hpr hlen hh20 hq hk hcq ha hf ha' hf' hx' h1 e hbl h
    generalize (readV4 true bs).pr = pr at *
    generalize chgQ bs 16 4 a x = out at *
    go_enter Try.func18, Try.ntmps18
    go_wp2_with (first
      | (go_at_call 36; refine (hM.out _ hb.out).mono ?_; rintro e w1 ⟨rfl, hB1⟩; have hb1 := Lib.hid hB1; have d9 := c9'.out _ hB1; replace hB1 := 0)
      | (go_at_call 37; refine (hC'.out _ hb1.out).mono ?_; rintro e w2 ⟨A2, n2, c2, rfl, ho2, hB2⟩; have hb2 := Lib.hid (hb1.out.trans (hB2.mono hb1.out.size)); have hr2 := Lib.hid ho2; replace hB2 := 0; clear ho2)
      | fail)
    go_ret2
    exact ⟨A2, n2, c2, rfl, hr2.out, hb2.out⟩
  · have e : ptQ (readV4 true bs) 2 = 2 := by unfold ptQ; rw [if_neg h1]
    rw [e]
    have hC' := Lib.hid (fun W (hW : Below w.heap.size w W) => show Calls Try.prog 37 #[.slice (some ⟨b, off, none⟩) n c, .int .i64 16, .int .i64 2, .int .i64 a, .int .i64 x] W _ from hC 2 (by omega) W hW)
    have q1 : ((readV4 true bs).pr == 1) = false := by simpa using h1
    replace hM := Lib.hid hM
    clear c9 hc hC hv hpk hoff h8 hhd hhe hh60 h9 hbd hdat hpr hlen hh20 hq hk hcq ha hf ha' hf' hx' h1 e hbl h
    generalize (readV4 true bs).pr = pr at *
    generalize chgQ bs 16 2 a x = out at *
    go_enter Try.func18, Try.ntmps18
    go_wp2_with (first
      | (go_at_call 36; refine (hM.out _ hb.out).mono ?_; rintro e w1 ⟨rfl, hB1⟩; have hb1 := Lib.hid hB1; have d9 := c9'.out _ hB1; replace hB1 := 0)
      | (go_at_call 37; refine (hC'.out _ hb1.out).mono ?_; rintro e w2 ⟨A2, n2, c2, rfl, ho2, hB2⟩; have hb2 := Lib.hid (hb1.out.trans (hB2.mono hb1.out.size)); have hr2 := Lib.hid ho2; replace hB2 := 0; clear ho2)
      | fail)
    go_ret2
    exact ⟨A2, n2, c2, rfl, hr2.out, hb2.out⟩
/-- A message with what is quoted between other endpoints. -/
def msgQ (m : IcmpP) (fr : Bool) (a x : Int) : IcmpP := if mayQ m.data a x = 0 then { m with data := if fr = true then fromQ m.data a x else toQ m.data a x } else ⟨0, 0, 0, []⟩
def IcmpTwo (w : World) (m : IcmpP) (k : Int) (e : Ending) (w' : World) : Prop := ∃ A2 n2 c2, e = .returned (.tuple #[.agg (cellsI m A2 n2 c2), .int .i64 k]) ∧ RB w' A2 n2 c2 m.data ∧ Below w.heap.size w w'
theorem run_load_IC {W : World} {B : Nat} {cs : Array Value} (h : Blk W B cs 49) (hs : cs.size = 4) : (loadVar 49 ⟨B, 0, none⟩).run Try.prog W = .ok (.agg cs) W :=
  run_loadVar_row W B 49 49 cs _ _ h.at_ Try.underlying49 rfl (by rw [info_icmpW, hs])
theorem wpList_load_IC {ops : Array Oper} {rest : List Oper} {op : Oper} {a : Act} {W : World} {Q : Exit → Act → World → Prop} (hgd : Region.wanted op (yielded ops a.tmps) = true) (x : Operand) (ho : op.op = .load 49 x)
    (g : Nat) (hx : a.eval x = .pointer (some ⟨g, 0, none⟩)) (cs : Array Value) (hk : Blk W g cs 49) (hs : cs.size = 4)
    (h : wpList Try.prog ops Q rest (a.put op.dst (.agg cs)) W) : wpList Try.prog ops Q (op :: rest) a W :=
  BigFrame.wpList_want hgd fun _ hK => by
    unfold Oper.wp execOp
    simp only [ho, hx, Instr.loadAt, Instr.sureAddr, Sem.run_bind, Sem.run_pure, Result.andThen_ok, run_load_IC hk hs]
    exact hK _ _ h
theorem wpList_store_IC {ops : Array Oper} {rest : List Oper} {op : Oper} {a : Act} {W : World} {Q : Exit → Act → World → Prop} (hgd : op.guard = none) (x y : Operand) (ho : op.op = .store 49 x y)
    (g : Nat) (cells : Array Value) (hx : a.eval x = .pointer (some ⟨g, 0, none⟩)) (hy : a.eval y = .agg cells) (old : Array Value) (hk : Blk W g old 49) (ho' : old.size = 4) (hs : cells.size = 4) (h1 : cells.all (·.oneCell') = true)
    (h : wpList Try.prog ops Q rest (a.put op.dst undef) (W.setRow g cells)) : wpList Try.prog ops Q (op :: rest) a W :=
  wpList_store_row hgd 49 x y ho g cells hx hy 49 old hk.at_ (by rw [info_icmpW, hs]) (by rw [ho', hs]) h1 h
theorem one_I (m : IcmpP) (A : Option Addr) (n c : Nat) : (cellsI m A n c).all (·.oneCell') = true := by simp [cellsI, Value.oneCell']
theorem nbcI {X : World} {g : Nat} {m : IcmpP} {A : Option Addr} {n c : Nat} (h : Blk X g (cellsI m A n c) 49) : ∀ j x, X.cell? ⟨g, j, none⟩ ≠ some (.int .u8 x) := h.nobytes (fun u hu x => by simp at hu; rcases hu with rfl | rfl | rfl | rfl <;> simp)
abbrev zeroIc : Array Value := #[.int .i64 0, .int .i64 0, .int .i64 0, .slice none 0 0]
def zeroI : IcmpP := ⟨0, 0, 0, []⟩
theorem msgQ_no {m : IcmpP} {fr : Bool} {a x : Int} (h : mayQ m.data a x ≠ 0) : msgQ m fr a x = zeroI := by unfold msgQ; rw [if_neg h]; rfl
set_option maxRecDepth 100000 in
set_option maxHeartbeats 4000000 in
theorem RefMessage_any (m : IcmpP) (fr : Bool) (a x : Int) (A : Option Addr) (n c : Nat) (w : World) (h : RB w A n c m.data) (hn : n ≤ 3000) :
    Calls Try.prog 21 #[.agg (cellsI m A n c), .bool fr, .int .i64 a, .int .i64 x] w (IcmpTwo w (msgQ m fr a x) (mayQ m.data a x)) := by
  obtain ⟨w0, hw0⟩ : ∃ w0, (w.alloc (.cells (cellsI m A n c) 49)).alloc (.cells zeroIc 49) = w0 := ⟨_, rfl⟩
  have hb := Lib.hid (show Below w.heap.size w w0 by rw [← hw0]; exact ((Below.refl _ w).alloc (Nat.le_refl _) _).alloc (by simp) _)
  have kB := Lib.hid (show Blk w0 w.heap.size (cellsI m A n c) 49 by rw [← hw0]; exact (blk_at rfl).alloc _)
  have kZ := Lib.hid (show Blk w0 (w.heap.size + 1) zeroIc 49 by rw [← hw0]; exact blk_at (by simp))
  have e3 := kB.out.cell 3 (.slice A n c) rfl
  replace hw0 := Lib.hid hw0
  have hT := fun W (hW : Below w.heap.size w W) => RefQTo_any a x A n c m.data W (h.below hW) hn
  have hF := fun W (hW : Below w.heap.size w W) => RefQFrom_any a x A n c m.data W (h.below hW) hn
  unfold TwoOut at hT hF
  clear h
  by_cases hk : mayQ m.data a x = 0
  rotate_left
  · have hq := Lib.hid (msgQ_no (fr := fr) hk)
    have hkn : (mayQ m.data a x != 0) = true := by simpa using hk
    generalize mayQ m.data a x = k at *
    generalize toQ m.data a x = tq at *
    generalize fromQ m.data a x = fq at *
    replace hT := Lib.hid hT
    replace hF := Lib.hid hF
    clear hk
    rw [hq.out]
    cases fr
    all_goals
      go_enter Try.func21, Try.ntmps21
      go_upto_region 1 with fail
      rw [hw0.out]
      go_wp2_with (first
        | (go_at_call 18; refine (hT.out _ hb.out).mono ?_; rintro e w1 ⟨A1, n1, c1, rfl, ho1, hB1⟩; have hb1 := Lib.hid (hb.out.trans (hB1.mono hb.out.size)); have kZ1 := Lib.hid (kZ.out.to hB1); have kB1 := Lib.hid (kB.out.to hB1); clear e3; have e3 := kB1.out.cell 3 (.slice A n c) rfl; have kZ2 := Lib.hid kZ1.out; have hb2 := Lib.hid hb1.out; clear ho1; replace hB1 := 0)
        | (go_at_call 17; refine (hF.out _ hb1.out).mono ?_; rintro e w2 ⟨A2, n2, c2, rfl, ho2, hB2⟩; clear kZ2 hb2; have hb2 := Lib.hid (hb1.out.trans (hB2.mono hb1.out.size)); have kZ2 := Lib.hid (kZ1.out.to hB2); clear ho2; replace hB2 := 0)
        | (refine wpList_store_IC rfl (.tmp 8) (.tmp 31) rfl (w.heap.size + 1) zeroIc rfl rfl _ kZ2.out rfl rfl (one_I zeroI none 0 0) ?_; rw [setRow_self _ _ _ _ _ kZ2.out.at_])
        | fail)
      refine bodyPost_ret (results_ct Try.results21 rfl (run_load_IC kZ2.out rfl)) rfl ?_
      exact ⟨none, 0, 0, rfl, RB.nil _, hb2.out⟩
  have hq := Lib.hid (show msgQ m fr a x = { m with data := if fr = true then fromQ m.data a x else toQ m.data a x } by unfold msgQ; rw [if_pos hk])
  rw [hq.out]
  rw [hk] at hT hF ⊢
  generalize toQ m.data a x = tq at *
  generalize fromQ m.data a x = fq at *
  replace hT := Lib.hid hT
  replace hF := Lib.hid hF
  clear hk hq
  cases fr
  · obtain ⟨q, hq⟩ : ∃ q : IcmpP, ({ m with data := if false = true then fq else tq } : IcmpP) = q := ⟨_, rfl⟩
    rw [hq]
    have hqd := Lib.hid (show q.data = tq by rw [← hq]; rfl)
    have hqc := Lib.hid (show ∀ A n c, cellsI q A n c = cellsI m A n c by rw [← hq]; intros; rfl)
    clear hq
    go_enter Try.func21, Try.ntmps21
    go_upto_region 1 with fail
    rw [hw0.out]
    go_upto_region 6 with (first
      | (go_at_call 18; refine (hT.out _ hb.out).mono ?_; rintro e w2 ⟨A2, n2, c2, rfl, ho2, hB2⟩; have hb2 := Lib.hid (hb.out.trans (hB2.mono hb.out.size)); have kZ2 := Lib.hid (kZ.out.to hB2); have kB2 := Lib.hid (kB.out.to hB2); clear e3; have ro2 := Lib.hid ho2; clear ho2; replace hB2 := 0)
      | fail)
    have x3 := kB2.out.cell 3 (.slice A n c) rfl
    have v3 := kB2.out.frz 3
    have kB3 := Lib.hid (show Blk (w2.setCell ⟨w.heap.size, 3, none⟩ (.slice A2 n2 c2)) w.heap.size (cellsI m A2 n2 c2) 49 by simpa using kB2.out.set 3 (.slice A2 n2 c2))
    have kZ3 := Lib.hid (kZ2.out.far (B' := w.heap.size) (by omega) 3 (.slice A2 n2 c2))
    have ro3 := Lib.hid (ro2.out.farN (nbcI kB2.out) 3 (.slice A2 n2 c2))
    have hb3 := Lib.hid (hb2.out.setCell (p := ⟨w.heap.size, 3, none⟩) (Nat.le_refl _) (.slice A2 n2 c2))
    try simp only [Act.put]
    go_upto_region 7 with fail
    obtain ⟨w3, hw3⟩ : ∃ w3, w2.setCell ⟨w.heap.size, 3, none⟩ (.slice A2 n2 c2) = w3 := ⟨_, rfl⟩
    rw [hw3] at kB3 kZ3 ro3 hb3 ⊢
    replace hw3 := Lib.hid hw3
    clear x3 v3
    try simp only [Act.put]
    go_wp2_with (first
      | (refine wpList_load_IC rfl (.tmp 4) rfl w.heap.size rfl _ kB3.out rfl ?_)
      | (refine wpList_store_IC rfl (.tmp 8) (.tmp 35) rfl (w.heap.size + 1) (cellsI m A2 n2 c2) rfl rfl _ kZ3.out rfl rfl (one_I _ _ _ _) ?_)
      | fail)
    refine bodyPost_ret (results_ct Try.results21 rfl (run_load_IC (Blk.mk (setRow_heap _ _ _ _ _ _ kZ3.out.at_)) rfl)) rfl ?_
    exact ⟨A2, n2, c2, by rw [hqc.out]; rfl, by rw [hqd.out]; exact ro3.out.farRow (nbcI (m := zeroI) kZ3.out) _, below_row hb3.out (Nat.le_succ _) _⟩
  · obtain ⟨q, hq⟩ : ∃ q : IcmpP, ({ m with data := if true = true then fq else tq } : IcmpP) = q := ⟨_, rfl⟩
    rw [hq]
    have hqd := Lib.hid (show q.data = fq by rw [← hq]; rfl)
    have hqc := Lib.hid (show ∀ A n c, cellsI q A n c = cellsI m A n c by rw [← hq]; intros; rfl)
    clear hq
    go_enter Try.func21, Try.ntmps21
    go_upto_region 1 with fail
    rw [hw0.out]
    go_upto_region 6 with (first
      | (go_at_call 18; refine (hT.out _ hb.out).mono ?_; rintro e w1 ⟨A1, n1, c1, rfl, ho1, hB1⟩; have hb1 := Lib.hid (hb.out.trans (hB1.mono hb.out.size)); have kZ1 := Lib.hid (kZ.out.to hB1); have kB1 := Lib.hid (kB.out.to hB1); clear e3; have e3 := kB1.out.cell 3 (.slice A n c) rfl; clear ho1; replace hB1 := 0)
      | (go_at_call 17; refine (hF.out _ hb1.out).mono ?_; rintro e w2 ⟨A2, n2, c2, rfl, ho2, hB2⟩; have hb2 := Lib.hid (hb1.out.trans (hB2.mono hb1.out.size)); have kZ2 := Lib.hid (kZ1.out.to hB2); have kB2 := Lib.hid (kB1.out.to hB2); clear e3; have ro2 := Lib.hid ho2; clear ho2; replace hB2 := 0)
      | fail)
    have x3 := kB2.out.cell 3 (.slice A n c) rfl
    have v3 := kB2.out.frz 3
    have kB3 := Lib.hid (show Blk (w2.setCell ⟨w.heap.size, 3, none⟩ (.slice A2 n2 c2)) w.heap.size (cellsI m A2 n2 c2) 49 by simpa using kB2.out.set 3 (.slice A2 n2 c2))
    have kZ3 := Lib.hid (kZ2.out.far (B' := w.heap.size) (by omega) 3 (.slice A2 n2 c2))
    have ro3 := Lib.hid (ro2.out.farN (nbcI kB2.out) 3 (.slice A2 n2 c2))
    have hb3 := Lib.hid (hb2.out.setCell (p := ⟨w.heap.size, 3, none⟩) (Nat.le_refl _) (.slice A2 n2 c2))
    try simp only [Act.put]
    go_upto_region 7 with fail
    obtain ⟨w3, hw3⟩ : ∃ w3, w2.setCell ⟨w.heap.size, 3, none⟩ (.slice A2 n2 c2) = w3 := ⟨_, rfl⟩
    rw [hw3] at kB3 kZ3 ro3 hb3 ⊢
    replace hw3 := Lib.hid hw3
    clear x3 v3
    try simp only [Act.put]
    go_wp2_with (first
      | (refine wpList_load_IC rfl (.tmp 4) rfl w.heap.size rfl _ kB3.out rfl ?_)
      | (refine wpList_store_IC rfl (.tmp 8) (.tmp 35) rfl (w.heap.size + 1) (cellsI m A2 n2 c2) rfl rfl _ kZ3.out rfl rfl (one_I _ _ _ _) ?_)
      | fail)
    refine bodyPost_ret (results_ct Try.results21 rfl (run_load_IC (Blk.mk (setRow_heap _ _ _ _ _ _ kZ3.out.at_)) rfl)) rfl ?_
    exact ⟨A2, n2, c2, by rw [hqc.out]; rfl, by rw [hqd.out]; exact ro3.out.farRow (nbcI (m := zeroI) kZ3.out) _, below_row hb3.out (Nat.le_succ _) _⟩
end Go.Proofs.Ytmbmmpbfmakfbaa
