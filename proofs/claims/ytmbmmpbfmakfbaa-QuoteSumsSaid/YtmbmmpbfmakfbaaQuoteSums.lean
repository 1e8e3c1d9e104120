/- The statement QuoteSumsSaid: for every input the law QuoteSums returns true, and each argument reads behind the call as it read before. No condition. -/
import Derived.Test.YtmbmmpbfmakfbaaQuoP
import Derived.Test.YtmbmmpbfmakfbaaV4B
import Derived.Test.YtmbmmpbfmakfbaaQuoE
import Derived.Test.YtmbmmpbfmakfbaaUdpPR
import Derived.Test.YtmbmmpbfmakfbaaReadV4
set_option linter.unusedVariables false
namespace Go.Proofs.Ytmbmmpbfmakfbaa
open Go Go.RowKit

theorem setN_app (xs ms ys zs : List Int) (a s : Nat) (ha : xs.length = a) (hm : ms.length = s) (hz : zs.length = s) : setN (xs ++ (ms ++ ys)) a zs s = xs ++ (zs ++ ys) := by
  apply List.ext_getElem?
  intro j
  rw [setN_get]
  by_cases h : a ≤ j ∧ j < a + s ∧ j < (xs ++ (ms ++ ys)).length
  · have g1 := h.1; have g2 := h.2.1
    rw [if_pos h, List.getElem?_append_right (by omega), ha, List.getElem?_append_left (show j - a < zs.length by omega), List.getElem?_eq_getElem (show j - a < zs.length by omega)]
    rfl
  · rw [if_neg h]
    by_cases h1 : j < a
    · rw [List.getElem?_append_left (by omega), List.getElem?_append_left (by omega)]
    · rw [List.getElem?_append_right (l₁ := xs) (show xs.length ≤ j by omega), List.getElem?_append_right (l₁ := xs) (show xs.length ≤ j by omega)]
      by_cases h2 : j < a + s
      · exfalso
        apply h
        refine ⟨by omega, h2, ?_⟩
        simp only [List.length_append]; omega
      · rw [List.getElem?_append_right (l₁ := ms) (show ms.length ≤ j - xs.length by omega), List.getElem?_append_right (l₁ := zs) (show zs.length ≤ j - xs.length by omega), hm, hz]
theorem cutI_app (xs ms ys : List Int) (a s : Nat) (ha : xs.length = a) (hm : ms.length = s) : cutI (xs ++ (ms ++ ys)) a s = ms := by
  subst ha; subst hm
  unfold cutI
  rw [List.drop_left, List.take_left]
/-- The sum of a head, changed. -/
theorem chg_head {T T' so sn : Int} {old now : List Int} (hl : old.length = 4) (ho : sumB old = so) (hn : sumB now = sn) (h1 : 0 < T) (h2 : 0 < T') (h3 : T' = T - so + sn) (h4 : 0 ≤ so ∧ so ≤ 131070) (h5 : 0 ≤ sn) :
    changeI (65535 - foldI T) old now = 65535 - foldI T' := by
  have f1 := foldI_lo T
  have f2 := foldI_hi T
  unfold changeI
  rw [if_neg (by omega)]
  unfold chgT
  rw [ho, hn, hl]
  unfold foldI
  rw [if_neg (by omega), if_neg (by omega), if_neg (by omega)]
  omega
/-- The sum of a datagram, changed. -/
theorem chg_udp {T T' so sn : Int} {old now : List Int} (hl : old.length = 6) (ho : sumB old = so) (hn : sumB now = sn) (h1 : 0 < T) (h2 : 0 < T') (h3 : T' = T - so + sn) (h4 : 0 ≤ so ∧ so ≤ 196605) (h5 : 0 ≤ sn) {u u' r r' v : Int}
    (hr : r = 65535 - foldI T) (hr' : r' = 65535 - foldI T') (hu : u = if r = 0 then 65535 else r) (hu' : u' = if r' = 0 then 65535 else r') (hv : v = changeI u old now) :
    (if v = 0 ∧ (17 : Int) = 17 then 65535 else v) = u' := by
  have f1 := foldI_lo T
  have f2 := foldI_hi T
  have hu0 : 0 ≤ u ∧ u ≤ 65535 := by rw [hu]; split <;> omega
  unfold changeI at hv
  rw [if_neg (by omega)] at hv
  unfold chgT at hv
  rw [ho, hn, hl] at hv
  unfold foldI at hv hr hr'
  rw [if_neg (by omega)] at hr hr'
  subst hr hr' hu'
  by_cases g : 65535 - ((T - 1) % 65535 + 1) = 0
  · rw [if_pos g] at hu
    subst hu
    split at hv <;> split <;> split <;> omega
  · rw [if_neg g] at hu
    subst hu
    split at hv <;> split <;> split <;> omega
/-- The bytes of a datagram, in a row. -/
def dgL (pre : List Int) (sm src dst f t ln su : Int) (data : List Int) : List Int :=
  pre ++ (digL sm 2 ++ (digL src 4 ++ (digL dst 4 ++ (digL f 2 ++ (digL t 2 ++ (digL ln 2 ++ (digL su 2 ++ data)))))))
def dgPre (ttl : Int) (n : Nat) : List Int := [69, 0] ++ digL (28 + (n : Int)) 2 ++ digL 0 2 ++ digL 0 2 ++ [ttl, 17]
theorem dgPre_len (ttl : Int) (n : Nat) : (dgPre ttl n).length = 10 := by simp [dgPre, digL_length]
theorem dg_row (src dst f t ttl : Int) (data : List Int) : bytes4 (dgP src dst f t ttl data) = dgL (dgPre ttl data.length) (sum4 (dgP src dst f t ttl data)) src dst f t (8 + (data.length : Nat)) (sumU src dst (dgU f t data)) data := by
  have hl : (builtU src dst (dgU f t data)).length = 8 + data.length := by unfold builtU; rw [if_neg (by simp [dgU])]; exact bytesU_length _ _
  have hsz : size4 (dgP src dst f t ttl data) = 28 + (data.length : Int) := by
    unfold size4
    show 20 + ((0 : Nat) : Int) + ((builtU src dst (dgU f t data)).length : Int) = _
    rw [hl]; omega
  have hb : builtU src dst (dgU f t data) = bytesU (dgU f t data) (sumU src dst (dgU f t data)) := by unfold builtU; rw [if_neg (by simp [dgU])]
  unfold bytes4 head4
  rw [hsz]
  show _ ++ builtU src dst (dgU f t data) = _
  rw [hb]
  unfold bytesU dgL dgPre
  simp [dgP, dgU, flg4, List.append_assoc]
theorem dg_head (src dst f t ttl sm : Int) (data : List Int) : sumB (head4 (dgP src dst f t ttl data) (size4 (dgP src dst f t ttl data)) 0) = sumB (dgPre ttl data.length) + sumB (digL src 4) + sumB (digL dst 4) := by
  have hl : (builtU src dst (dgU f t data)).length = 8 + data.length := by unfold builtU; rw [if_neg (by simp [dgU])]; exact bytesU_length _ _
  have hsz : size4 (dgP src dst f t ttl data) = 28 + (data.length : Int) := by
    unfold size4
    show 20 + ((0 : Nat) : Int) + ((builtU src dst (dgU f t data)).length : Int) = _
    rw [hl]; omega
  have e : head4 (dgP src dst f t ttl data) (size4 (dgP src dst f t ttl data)) 0 = dgPre ttl data.length ++ (digL 0 2 ++ (digL src 4 ++ digL dst 4)) := by
    rw [hsz]; unfold head4 dgPre; simp [dgP, flg4, List.append_assoc]
  rw [e, sumB_append _ _ (by rw [dgPre_len]), sumB_append _ _ (by rw [digL_length]), sumB_append _ _ (by rw [digL_length]), usumB_dig2 0 (by omega) (by omega)]
  omega
theorem dgPre_pos (ttl : Int) (n : Nat) (h : 0 ≤ ttl ∧ ttl < 256) : 0 < sumB (dgPre ttl n) := by
  have b : Byts (dgPre ttl n) := by
    unfold dgPre
    exact (((Byts.two (by omega) (by omega) (by omega) (by omega)).append (digL_byts _ _)).append (digL_byts _ _)).append (digL_byts _ _) |>.append (Byts.two h.1 (by omega) (by omega) (by omega))
  exact sumB_pos b ⟨69, by simp [dgPre], by decide⟩
theorem sumB_four (x : Int) : 0 ≤ sumB (digL x 4) ∧ sumB (digL x 4) ≤ 131070 := by
  have := sumW_bd (digL_byts x 4) (((digL x 4).length + 1) / 2)
  rw [digL_length] at this
  unfold sumB
  rw [digL_length]
  omega
theorem dg_udp (src dst f t : Int) (data : List Int) (h1 : 0 ≤ src ∧ src < 4294967296) (h2 : 0 ≤ dst ∧ dst < 4294967296) : totalI (partsU src dst (dgU f t data)) = sumB (digL src 4) + sumB (digL dst 4) + sumB (digL 17 2) + sumB (digL ((8 + (data.length : Int)) % 65536) 2) + (sumB (digL f 2) + sumB (digL t 2) + sumB (digL (8 + (data.length : Nat)) 2) + sumB data) := by
  unfold partsU
  rw [totalI_two]
  unfold pseudoB bytesU
  rw [Int.emod_eq_of_lt h1.1 h1.2, Int.emod_eq_of_lt h2.1 h2.2]
  simp only [List.append_assoc]
  rw [sumB_append _ _ (by rw [digL_length]), sumB_append _ _ (by rw [digL_length]), sumB_append _ _ (by rw [digL_length]), sumB_append _ _ (by rw [digL_length]), sumB_append _ _ (by rw [digL_length]), sumB_append _ _ (by rw [digL_length]), sumB_append _ _ (by rw [digL_length]), usumB_dig2 0 (by omega) (by omega)]
  show _ + (sumB (digL f 2) + (sumB (digL t 2) + (sumB (digL (8 + (data.length : Nat)) 2) + (0 + sumB data)))) = _
  show sumB (digL src 4) + (sumB (digL dst 4) + (sumB (digL 17 2) + sumB (digL ((8 + (data.length : Int)) % 65536) 2))) + _ = _
  omega
theorem dg_quo {src dst f t ttl : Int} {data : List Int} (h1 : 0 ≤ src ∧ src < 4294967296) (h2 : 0 ≤ dst ∧ dst < 4294967296) (h3 : 0 ≤ f ∧ f < 65536) (h4 : 0 ≤ t ∧ t < 65536) (h5 : 0 ≤ ttl ∧ ttl < 256) (hn : data.length ≤ 60000) (hb : Byts data) {a x : Int} (ha : 0 ≤ a ∧ a < 4294967296) (hx : 0 ≤ x ∧ x < 65536) :
    readV4 true (bytes4 (dgP src dst f t ttl data)) = dgP src dst f t ttl data ∧ codeQ (bytes4 (dgP src dst f t ttl data)) = 0 ∧ mayQ (bytes4 (dgP src dst f t ttl data)) a x = 0 ∧ hdQ (bytes4 (dgP src dst f t ttl data)) = 20 ∧ noSum (dgP src dst f t ttl data) = false ∧
    (getV (bytes4 (dgP src dst f t ttl data)) 10 2).1 = sum4 (dgP src dst f t ttl data) ∧ (getV (dgP src dst f t ttl data).data 6 2).1 = sumU src dst (dgU f t data) := by
  obtain ⟨k1, k2, k3, k4⟩ := dg_ok (src := src) (dst := dst) h1 h2 h3 h4 h5 hn hb
  obtain ⟨b1, b2, b3, b4⟩ := back4 (p := dgP src dst f t ttl data) k4 Byts.nil k3
  have hu : (getV (dgP src dst f t ttl data).data 6 2).1 = sumU src dst (dgU f t data) := by
    obtain ⟨u0, u1⟩ := sumU_bd src dst (dgU f t data)
    have := (fields (dgU f t data) (sumU src dst (dgU f t data)) data.length rfl k1 u0 u1).2.2.2.1
    show (getV (builtU src dst (dgU f t data)) 6 2).1 = _
    unfold builtU
    rw [if_neg (by simp [dgU])]
    exact this
  have hq : codeQ (bytes4 (dgP src dst f t ttl data)) = 0 := by
    have ho : codeQo (bytes4 (dgP src dst f t ttl data)) = 0 := by
      unfold codeQo
      rw [if_neg (fun g => g b3), b4, if_neg (by show ¬ (0 : Int) < 0; decide), if_neg (by show ¬ (builtU src dst (dgU f t data)).length < 8; omega)]
    unfold codeQ
    rw [if_neg (fun g => g ho), b4]
    unfold codeX
    rw [if_pos (.inr rfl)]
  refine ⟨b4, hq, ?_, ?_, ?_, ?_, hu⟩
  · unfold mayQ
    rw [if_neg (fun g => g hq), if_pos ⟨decide_eq_true ha, fitsB_yes (fit2 hx.1 hx.2)⟩]
  · unfold hdQ; rw [b4]; rfl
  · unfold noSum
    have hp := sumU_pos src dst (dgU f t data)
    rw [hu, Bool.or_eq_false_iff]
    refine ⟨decide_eq_false ?_, ?_⟩
    · show ¬ (builtU src dst (dgU f t data)).length < 6 + 2
      omega
    · show ((17 : Int) == 17 && (sumU src dst (dgU f t data) == 0)) = false
      have : (sumU src dst (dgU f t data) == 0) = false := by simp; omega
      rw [this]; rfl
  · obtain ⟨s0, s1⟩ := sum4_bd (dgP src dst f t ttl data)
    have hsz : size4 (dgP src dst f t ttl data) = 28 + (data.length : Int) := by
      unfold size4
      show 20 + ((0 : Nat) : Int) + ((builtU src dst (dgU f t data)).length : Int) = _
      rw [k2]; omega
    exact (bytes4_at (p := dgP src dst f t ttl data) (size := size4 (dgP src dst f t ttl data)) (s := sum4 (dgP src dst f t ttl data)) (ds := (dgP src dst f t ttl data).data) (by omega) ⟨s0, by omega⟩ (show (0 : Int) ≤ 0 ∧ (0 : Int) < 65536 by decide) (show (0 : Int) ≤ 0 ∧ (0 : Int) < 32768 by decide) h1 h2).2.2.2.2.2.2.2.1
theorem from_dg {src dst f t ttl : Int} {data : List Int} (h1 : 0 ≤ src ∧ src < 4294967296) (h2 : 0 ≤ dst ∧ dst < 4294967296) (h3 : 0 ≤ f ∧ f < 65536) (h4 : 0 ≤ t ∧ t < 65536) (h5 : 0 ≤ ttl ∧ ttl < 256) (hn : data.length ≤ 60000) (hb : Byts data) {a x : Int} (ha : 0 ≤ a ∧ a < 4294967296) (hx : 0 ≤ x ∧ x < 65536) :
    mayQ (bytes4 (dgP src dst f t ttl data)) a x = 0 ∧ fromQ (bytes4 (dgP src dst f t ttl data)) a x = bytes4 (dgP a dst x t ttl data) := by
  obtain ⟨b4, hq, hm, hh, hN, g10, gu⟩ := dg_quo h1 h2 h3 h4 h5 hn hb ha hx
  refine ⟨hm, ?_⟩
  unfold fromQ
  rw [if_pos hm, b4]
  have hr := dg_row src dst f t ttl data
  have e0 : ptQ (dgP src dst f t ttl data) 0 = 0 := rfl
  rw [e0]
  unfold chgQ
  rw [b4, if_neg (by rw [hN]; decide), hh]
  have hat : atQ (dgP src dst f t ttl data) = 6 := rfl
  rw [hat]
  have hs1 : sm1Q (bytes4 (dgP src dst f t ttl data)) 12 a = sum4 (dgP a dst x t ttl data) := by
    unfold sm1Q
    rw [g10]
    have ec : cutI (bytes4 (dgP src dst f t ttl data)) 12 4 = digL src 4 := by
      rw [hr]; unfold dgL; rw [← List.append_assoc]; exact cutI_app _ _ _ 12 4 (by simp [dgPre_len, digL_length]) (digL_length _ _)
    rw [ec]
    have p1 := dgPre_pos ttl data.length h5
    have p2 := sumB_four src
    have p3 := sumB_four dst
    have p4 := sumB_four a
    refine chg_head (digL_length _ _) rfl rfl ?_ ?_ ?_ p2 p4.1
    · rw [totalI_one4, dg_head _ _ _ _ _ 0]; omega
    · rw [totalI_one4, dg_head _ _ _ _ _ 0]; omega
    · rw [totalI_one4, totalI_one4, dg_head _ _ _ _ _ 0, dg_head _ _ _ _ _ 0]; omega
  have hs3 : sm3Q (bytes4 (dgP src dst f t ttl data)) 12 0 a x = sumU a dst (dgU x t data) := by
    unfold sm3Q
    rw [b4]
    have eo : oldQ (bytes4 (dgP src dst f t ttl data)) 12 0 = digL src 4 ++ digL f 2 := by
      unfold oldQ
      rw [b4, if_neg (by show ¬ (17 : Int) = 1; decide), hh, hr]
      refine congr (congrArg _ ?_) ?_
      · unfold dgL; rw [← List.append_assoc]; exact cutI_app _ _ _ 12 4 (by simp [dgPre_len, digL_length]) (digL_length _ _)
      · unfold dgL; rw [← List.append_assoc, ← List.append_assoc, ← List.append_assoc]; exact cutI_app _ _ _ 20 2 (by simp [dgPre_len, digL_length]) (digL_length _ _)
    have en : nowQ (bytes4 (dgP src dst f t ttl data)) a x = digL a 4 ++ digL x 2 := by
      unfold nowQ
      rw [b4, if_neg (by show ¬ (17 : Int) = 1; decide)]
    have p2 := sumB_four src
    have p3 := sumB_four dst
    have p4 := sumB_four a
    have p5 := usumB_dig2 f h3.1 (by omega)
    have p6 := usumB_dig2 x hx.1 (by omega)
    have p7 := usumB_dig2 17 (by omega) (by omega)
    have p8 := sumB_lo (digL_byts ((8 + (data.length : Int)) % 65536) 2)
    have p9 := usumB_dig2 t h4.1 (by omega)
    have p10 := sumB_lo (digL_byts (8 + (data.length : Nat)) 2)
    have p11 := sumB_lo hb
    have eso : sumB (digL src 4 ++ digL f 2) = sumB (digL src 4) + f := by rw [sumB_append _ _ (by rw [digL_length]), p5]
    have esn : sumB (digL a 4 ++ digL x 2) = sumB (digL a 4) + x := by rw [sumB_append _ _ (by rw [digL_length]), p6]
    refine chg_udp (T := totalI (partsU src dst (dgU f t data))) (T' := totalI (partsU a dst (dgU x t data))) (old := digL src 4 ++ digL f 2) (now := digL a 4 ++ digL x 2) (by simp [digL_length]) eso esn ?_ ?_ ?_ (by omega) (by omega) rfl rfl rfl rfl ?_
    · rw [dg_udp _ _ _ _ _ h1 h2]; omega
    · rw [dg_udp _ _ _ _ _ ha h2]; omega
    · rw [dg_udp _ _ _ _ _ h1 h2, dg_udp _ _ _ _ _ ha h2]; omega
    · unfold sm2Q; rw [b4, hat, eo, en]
      show changeI (getV (dgP src dst f t ttl data).data 6 2).1 _ _ = _
      rw [gu]; rfl
  rw [hs3]
  unfold out2Q out1Q
  rw [hs1, hh, hr, dg_row a dst x t ttl data]
  generalize sumU src dst (dgU f t data) = u0
  generalize sumU a dst (dgU x t data) = u1
  generalize sum4 (dgP src dst f t ttl data) = m0
  generalize sum4 (dgP a dst x t ttl data) = m1
  have hl := dgPre_len ttl data.length
  generalize dgPre ttl data.length = pre at *
  unfold dgL
  have q1 : setN (pre ++ (digL m0 2 ++ (digL src 4 ++ (digL dst 4 ++ (digL f 2 ++ (digL t 2 ++ (digL (8 + (data.length : Nat)) 2 ++ (digL u0 2 ++ data)))))))) 12 (digL a 4) 4 = pre ++ (digL m0 2 ++ (digL a 4 ++ (digL dst 4 ++ (digL f 2 ++ (digL t 2 ++ (digL (8 + (data.length : Nat)) 2 ++ (digL u0 2 ++ data))))))) := by
    have := setN_app (pre ++ digL m0 2) (digL src 4) (digL dst 4 ++ (digL f 2 ++ (digL t 2 ++ (digL (8 + (data.length : Nat)) 2 ++ (digL u0 2 ++ data))))) (digL a 4) 12 4 (by simp [hl, digL_length]) (digL_length _ _) (digL_length _ _)
    simpa [List.append_assoc] using this
  rw [q1, setN_app pre _ _ (digL m1 2) 10 2 hl (digL_length _ _) (digL_length _ _)]
  have q2 : setN (pre ++ (digL m1 2 ++ (digL a 4 ++ (digL dst 4 ++ (digL f 2 ++ (digL t 2 ++ (digL (8 + (data.length : Nat)) 2 ++ (digL u0 2 ++ data)))))))) (20 + 0) (digL x 2) 2 = pre ++ (digL m1 2 ++ (digL a 4 ++ (digL dst 4 ++ (digL x 2 ++ (digL t 2 ++ (digL (8 + (data.length : Nat)) 2 ++ (digL u0 2 ++ data))))))) := by
    have := setN_app (pre ++ digL m1 2 ++ digL a 4 ++ digL dst 4) (digL f 2) (digL t 2 ++ (digL (8 + (data.length : Nat)) 2 ++ (digL u0 2 ++ data))) (digL x 2) (20 + 0) 2 (by simp [hl, digL_length]) (digL_length _ _) (digL_length _ _)
    simpa [List.append_assoc] using this
  rw [q2]
  have := setN_app (pre ++ digL m1 2 ++ digL a 4 ++ digL dst 4 ++ digL x 2 ++ digL t 2 ++ digL (8 + (data.length : Nat)) 2) (digL u0 2) data (digL u1 2) (20 + 6) 2 (by simp [hl, digL_length]) (digL_length _ _) (digL_length _ _)
  simpa [List.append_assoc] using this
theorem to_dg {src dst f t ttl : Int} {data : List Int} (h1 : 0 ≤ src ∧ src < 4294967296) (h2 : 0 ≤ dst ∧ dst < 4294967296) (h3 : 0 ≤ f ∧ f < 65536) (h4 : 0 ≤ t ∧ t < 65536) (h5 : 0 ≤ ttl ∧ ttl < 256) (hn : data.length ≤ 60000) (hb : Byts data) {a x : Int} (ha : 0 ≤ a ∧ a < 4294967296) (hx : 0 ≤ x ∧ x < 65536) :
    toQ (bytes4 (dgP src dst f t ttl data)) a x = bytes4 (dgP src a f x ttl data) := by
  obtain ⟨b4, hq, hm, hh, hN, g10, gu⟩ := dg_quo h1 h2 h3 h4 h5 hn hb ha hx
  unfold toQ
  rw [if_pos hm, b4]
  have hr := dg_row src dst f t ttl data
  have e0 : ptQ (dgP src dst f t ttl data) 2 = 2 := rfl
  rw [e0]
  unfold chgQ
  rw [b4, if_neg (by rw [hN]; decide), hh]
  have hat : atQ (dgP src dst f t ttl data) = 6 := rfl
  rw [hat]
  have hs1 : sm1Q (bytes4 (dgP src dst f t ttl data)) 16 a = sum4 (dgP src a f x ttl data) := by
    unfold sm1Q
    rw [g10]
    have ec : cutI (bytes4 (dgP src dst f t ttl data)) 16 4 = digL dst 4 := by
      rw [hr]; unfold dgL; rw [← List.append_assoc, ← List.append_assoc]; exact cutI_app _ _ _ 16 4 (by simp [dgPre_len, digL_length]) (digL_length _ _)
    rw [ec]
    have p1 := dgPre_pos ttl data.length h5
    have p2 := sumB_four src
    have p3 := sumB_four dst
    have p4 := sumB_four a
    refine chg_head (digL_length _ _) rfl rfl ?_ ?_ ?_ p3 p4.1
    · rw [totalI_one4, dg_head _ _ _ _ _ 0]; omega
    · rw [totalI_one4, dg_head _ _ _ _ _ 0]; omega
    · rw [totalI_one4, totalI_one4, dg_head _ _ _ _ _ 0, dg_head _ _ _ _ _ 0]; omega
  have hs3 : sm3Q (bytes4 (dgP src dst f t ttl data)) 16 2 a x = sumU src a (dgU f x data) := by
    unfold sm3Q
    rw [b4]
    have eo : oldQ (bytes4 (dgP src dst f t ttl data)) 16 2 = digL dst 4 ++ digL t 2 := by
      unfold oldQ
      rw [b4, if_neg (by show ¬ (17 : Int) = 1; decide), hh, hr]
      refine congr (congrArg _ ?_) ?_
      · unfold dgL; rw [← List.append_assoc, ← List.append_assoc]; exact cutI_app _ _ _ 16 4 (by simp [dgPre_len, digL_length]) (digL_length _ _)
      · unfold dgL; rw [← List.append_assoc, ← List.append_assoc, ← List.append_assoc, ← List.append_assoc]; exact cutI_app _ _ _ (20 + 2) 2 (by simp [dgPre_len, digL_length]) (digL_length _ _)
    have en : nowQ (bytes4 (dgP src dst f t ttl data)) a x = digL a 4 ++ digL x 2 := by
      unfold nowQ
      rw [b4, if_neg (by show ¬ (17 : Int) = 1; decide)]
    have p2 := sumB_four src
    have p3 := sumB_four dst
    have p4 := sumB_four a
    have p5 := usumB_dig2 f h3.1 (by omega)
    have p6 := usumB_dig2 x hx.1 (by omega)
    have p7 := usumB_dig2 17 (by omega) (by omega)
    have p8 := sumB_lo (digL_byts ((8 + (data.length : Int)) % 65536) 2)
    have p9 := usumB_dig2 t h4.1 (by omega)
    have p10 := sumB_lo (digL_byts (8 + (data.length : Nat)) 2)
    have p11 := sumB_lo hb
    have eso : sumB (digL dst 4 ++ digL t 2) = sumB (digL dst 4) + t := by rw [sumB_append _ _ (by rw [digL_length]), p9]
    have esn : sumB (digL a 4 ++ digL x 2) = sumB (digL a 4) + x := by rw [sumB_append _ _ (by rw [digL_length]), p6]
    refine chg_udp (T := totalI (partsU src dst (dgU f t data))) (T' := totalI (partsU src a (dgU f x data))) (old := digL dst 4 ++ digL t 2) (now := digL a 4 ++ digL x 2) (by simp [digL_length]) eso esn ?_ ?_ ?_ (by omega) (by omega) rfl rfl rfl rfl ?_
    · rw [dg_udp _ _ _ _ _ h1 h2]; omega
    · rw [dg_udp _ _ _ _ _ h1 ha]; omega
    · rw [dg_udp _ _ _ _ _ h1 h2, dg_udp _ _ _ _ _ h1 ha]; omega
    · unfold sm2Q; rw [b4, hat, eo, en]
      show changeI (getV (dgP src dst f t ttl data).data 6 2).1 _ _ = _
      rw [gu]; rfl
  rw [hs3]
  unfold out2Q out1Q
  rw [hs1, hh, hr, dg_row src a f x ttl data]
  generalize sumU src dst (dgU f t data) = u0
  generalize sumU src a (dgU f x data) = u1
  generalize sum4 (dgP src dst f t ttl data) = m0
  generalize sum4 (dgP src a f x ttl data) = m1
  have hl := dgPre_len ttl data.length
  generalize dgPre ttl data.length = pre at *
  unfold dgL
  have q1 : setN (pre ++ (digL m0 2 ++ (digL src 4 ++ (digL dst 4 ++ (digL f 2 ++ (digL t 2 ++ (digL (8 + (data.length : Nat)) 2 ++ (digL u0 2 ++ data)))))))) 16 (digL a 4) 4 = pre ++ (digL m0 2 ++ (digL src 4 ++ (digL a 4 ++ (digL f 2 ++ (digL t 2 ++ (digL (8 + (data.length : Nat)) 2 ++ (digL u0 2 ++ data))))))) := by
    have := setN_app (pre ++ digL m0 2 ++ digL src 4) (digL dst 4) (digL f 2 ++ (digL t 2 ++ (digL (8 + (data.length : Nat)) 2 ++ (digL u0 2 ++ data)))) (digL a 4) 16 4 (by simp [hl, digL_length]) (digL_length _ _) (digL_length _ _)
    simpa [List.append_assoc] using this
  rw [q1, setN_app pre _ _ (digL m1 2) 10 2 hl (digL_length _ _) (digL_length _ _)]
  have q2 : setN (pre ++ (digL m1 2 ++ (digL src 4 ++ (digL a 4 ++ (digL f 2 ++ (digL t 2 ++ (digL (8 + (data.length : Nat)) 2 ++ (digL u0 2 ++ data)))))))) (20 + 2) (digL x 2) 2 = pre ++ (digL m1 2 ++ (digL src 4 ++ (digL a 4 ++ (digL f 2 ++ (digL x 2 ++ (digL (8 + (data.length : Nat)) 2 ++ (digL u0 2 ++ data))))))) := by
    have := setN_app (pre ++ digL m1 2 ++ digL src 4 ++ digL a 4 ++ digL f 2) (digL t 2) (digL (8 + (data.length : Nat)) 2 ++ (digL u0 2 ++ data)) (digL x 2) (20 + 2) 2 (by simp [hl, digL_length]) (digL_length _ _) (digL_length _ _)
    simpa [List.append_assoc] using this
  rw [q2]
  have := setN_app (pre ++ digL m1 2 ++ digL src 4 ++ digL a 4 ++ digL f 2 ++ digL x 2 ++ digL (8 + (data.length : Nat)) 2) (digL u0 2) data (digL u1 2) (20 + 6) 2 (by simp [hl, digL_length]) (digL_length _ _) (digL_length _ _)
  simpa [List.append_assoc] using this
end Go.Proofs.Ytmbmmpbfmakfbaa
/- The statement QuoteSumsSaid: for every input the law QuoteSums returns true, and each argument reads behind the call as it read before. No condition. -/
set_option linter.unusedVariables false
namespace Go.Proofs.Ytmbmmpbfmakfbaa
open Go Go.RowKit
attribute [local go_sem] Oper.semAt_some

set_option maxRecDepth 100000 in
set_option maxHeartbeats 4000000 in
theorem QuoteSums_walk (ea eb ec ed : Int) (A : Option Addr) (n c : Nat) (bs : List Int) (addr port : Int) (w : World) (he : (0 ≤ ea ∧ ea ≤ 65535) ∧ (0 ≤ eb ∧ eb ≤ 65535) ∧ (0 ≤ ec ∧ ec ≤ 65535) ∧ (0 ≤ ed ∧ ed ≤ 65535)) (h : RB w A n c bs) (hx0 : 0 ≤ addr) (hx1 : addr ≤ 4294967295) (hy0 : 0 ≤ port) (hy1 : port ≤ 65535) :
    Calls Try.prog 3 #[.agg #[.int .u16 ea, .int .u16 eb, .int .u16 ec, .int .u16 ed], .slice A n c, .int .u32 addr, .int .u16 port] w fun e w' => e = .returned (.bool true) ∧ Below w.heap.size w w' := by
  have hb0 := Lib.hid ((Below.refl w.heap.size w).alloc (Nat.le_refl _) (.cells #[.int .u16 ea, .int .u16 eb, .int .u16 ec, .int .u16 ed] 23))
  by_cases c1 : 500 < n
  · have c1i : (500 : Int) < n := by omega
    clear h he hx0 hx1 hy0 hy1
    go_enter Try.func3, Try.ntmps3
    go_wp2_with (first
      | (go_at_call 7; refine (awake26 _).mono ?_; rintro e W1 ⟨rfl, hB⟩; have hbE := Lib.hid (hb0.out.trans (hB.mono hb0.out.size)); replace hB := 0)
      | fail)
    go_ret
    exact ⟨by first | rfl | simp, hbE.out⟩
  have c1i : ¬ (500 : Int) < n := by omega
  obtain ⟨⟨a0, a1⟩, ⟨b0, b1⟩, ⟨c0, c1'⟩, ⟨d0, d1⟩⟩ := he
  have hln := h.len
  have hS : ∀ {x : Int}, 0 ≤ x → x ≤ 65535 → 0 ≤ x ∧ x < 65536 := fun g1 g2 => ⟨g1, by omega⟩
  have g1 : 0 ≤ 167772160 + ea ∧ 167772160 + ea < 4294967296 := by omega
  have g2 : 0 ≤ 3221225472 + eb ∧ 3221225472 + eb < 4294967296 := by omega
  have g3 : 0 ≤ ec ∧ ec < 65536 := by omega
  have g4 : 0 ≤ ed ∧ ed < 65536 := by omega
  have g5 : (0 : Int) ≤ 9 ∧ (9 : Int) < 256 := by omega
  have g6 : 0 ≤ addr ∧ addr < 4294967296 := by omega
  have g7 : 0 ≤ port ∧ port < 65536 := by omega
  have hD := fun W (hW : Below w.heap.size w W) => Datagram_any (167772160 + ea) (3221225472 + eb) ec ed 9 A n c bs W g1 g2 g3 g4 g5 (by omega) (h.below hW)
  obtain ⟨k1, k2⟩ := from_dg (data := bs) g1 g2 g3 g4 g5 (by omega) h.byt g6 g7
  have k3 := to_dg (data := bs) g1 g2 g3 g4 g5 (by omega) h.byt g6 g7
  have hlen : (bytes4 (dgP (167772160 + ea) (3221225472 + eb) ec ed 9 bs)).length ≤ 1000 := by
    obtain ⟨q1, q2, q3, q4⟩ := dg_ok (data := bs) g1 g2 g3 g4 g5 (by omega) h.byt
    rw [bytes4_length]
    have e1 : (dgP (167772160 + ea) (3221225472 + eb) ec ed 9 bs).data.length = 8 + bs.length := q2
    have e2 : (dgP (167772160 + ea) (3221225472 + eb) ec ed 9 bs).opts.length = 0 := rfl
    omega
  have hF := fun A2 n2 c2 W (hr : RB W A2 n2 c2 (bytes4 (dgP (167772160 + ea) (3221225472 + eb) ec ed 9 bs))) => QuoteFrom_any addr port A2 n2 c2 _ W hr (by have := hr.len; omega)
  have hT := fun A2 n2 c2 W (hr : RB W A2 n2 c2 (bytes4 (dgP (167772160 + ea) (3221225472 + eb) ec ed 9 bs))) => QuoteTo_any addr port A2 n2 c2 _ W hr (by have := hr.len; omega)
  rw [k1, k2] at hF
  rw [k1, k3] at hT
  clear k1 k2 k3 hlen
  generalize bytes4 (dgP (167772160 + ea) (3221225472 + eb) ec ed 9 bs) = ds at *
  have hP : ∀ s d f t, 0 ≤ s ∧ s < 4294967296 → 0 ≤ d ∧ d < 4294967296 → 0 ≤ f ∧ f < 65536 → 0 ≤ t ∧ t < 65536 →
      (∀ A2 n2 c2 W, RB W A2 n2 c2 (bytes4 (dgP s d f t 9 bs)) → Calls Try.prog 11 #[.slice A2 n2 c2] W (V4Out W (dgP s d f t 9 bs) 0)) ∧
      (∀ A2 n2 c2 W, RB W A2 n2 c2 (dgP s d f t 9 bs).data → Calls Try.prog 12 #[.int .i64 s, .int .i64 d, .slice A2 n2 c2] W (UdpOut W (dgU f t bs) 0)) := fun s d f t e1 e2 e3 e4 => by
    obtain ⟨q1, q2, q3, q4⟩ := dg_ok (src := s) (dst := d) (data := bs) e1 e2 e3 e4 g5 (by omega) h.byt
    obtain ⟨b1, b2, b3, b4⟩ := back4 (p := dgP s d f t 9 bs) q4 Byts.nil q3
    obtain ⟨u1, u2⟩ := backU (src := s) (dst := d) (m := dgU f t bs) (n := bs.length) rfl q1 h.byt
    refine ⟨fun A2 n2 c2 W hr => ?_, fun A2 n2 c2 W hr => ?_⟩
    · have := RefParse4_any A2 n2 c2 _ W hr (by have e := hr.len; rw [bytes4_length] at e; have : (dgP s d f t 9 bs).data.length = 8 + bs.length := q2; have : (dgP s d f t 9 bs).opts.length = 0 := rfl; omega)
      rw [b1, b2] at this
      exact this
    · have := RefUdpParse_any s d A2 n2 c2 _ W hr (by have e := hr.len; have : (dgP s d f t 9 bs).data.length = 8 + bs.length := q2; omega)
      have e : (dgP s d f t 9 bs).data = builtU s d (dgU f t bs) := rfl
      rw [e, u1, u2] at this
      exact this
  obtain ⟨hP1, hU1⟩ := hP addr (3221225472 + eb) port ed g6 g2 g7 g4
  obtain ⟨hP2, hU2⟩ := hP (167772160 + ea) addr ec port g1 g6 g3 g7
  clear hP
  unfold TwoOut at hF hT
  unfold V4Out at hP1 hP2
  unfold UdpOut at hU1 hU2
  have s1 := Lib.hid (show (dgP addr (3221225472 + eb) port ed 9 bs).src = addr from rfl)
  have s2 := Lib.hid (show (dgP addr (3221225472 + eb) port ed 9 bs).dst = 3221225472 + eb from rfl)
  have s3 := Lib.hid (show (dgP (167772160 + ea) addr ec port 9 bs).src = 167772160 + ea from rfl)
  have s4 := Lib.hid (show (dgP (167772160 + ea) addr ec port 9 bs).dst = addr from rfl)
  generalize dgP addr (3221225472 + eb) port ed 9 bs = p at *
  generalize dgP (167772160 + ea) addr ec port 9 bs = q at *
  generalize dgU port ed bs = u at *
  generalize dgU ec port bs = v at *
  generalize hcs : bytes4 p = cs at *
  generalize hes : bytes4 q = es at *
  clear hcs hes hln hS g1 g2 g3 g4 g5 g6 g7 h c1
  replace hD := Lib.hid hD
  replace hF := Lib.hid hF
  replace hT := Lib.hid hT
  replace hP1 := Lib.hid hP1
  replace hP2 := Lib.hid hP2
  replace hU1 := Lib.hid hU1
  replace hU2 := Lib.hid hU2
  go_enter Try.func3, Try.ntmps3
  go_upto_region 4 with (first
    | (go_at_call 8; refine (hD.out _ hb0.out).mono ?_; rintro e w2 ⟨A2, n2, c2, rfl, hr, hB⟩; have hr2 := Lib.hid hr; have hb2 := Lib.hid (hb0.out.trans (hB.mono hb0.out.size)); clear hr; replace hB := 0)
    | fail)
  try simp only [Act.put]
  go_upto_region 6 with (first
    | (go_at_call 9; refine (hF.out _ _ _ _ hr2.out).mono ?_; rintro e w3 ⟨C1, e1, f1, rfl, hr, hB⟩; have hb3 := Lib.hid (hb2.out.trans (hB.mono hb2.out.size)); have hr3 := Lib.hid (hr2.out.below hB); have cr3 := Lib.hid hr; clear hr; replace hB := 0)
    | (go_at_call 10; refine (hT.out _ _ _ _ hr3.out).mono ?_; rintro e w4 ⟨C2, e2, f2, rfl, hr, hB⟩; have hb4 := Lib.hid (hb3.out.trans (hB.mono hb3.out.size)); have cr4 := Lib.hid (cr3.out.below hB); have dr4 := Lib.hid hr; clear hr; replace hB := 0)
    | fail)
  try simp only [Act.put]
  go_upto_region 7 with (first
    | (go_at_call 11; refine (hP1.out _ _ _ _ cr4.out).mono ?_; rintro e w5 ⟨Bo, mo, do_, B1, m1, d1, rfl, ho, hd, hB⟩; have hy := hB.alloc hB.size (.cells (cells4 p Bo mo do_ B1 m1 d1) 32); have hb5 := Lib.hid (hb4.out.trans (hy.mono hb4.out.size)); have dr5 := Lib.hid (dr4.out.below hy); have kp5 := Lib.hid (Blk.new w5 (cells4 p Bo mo do_ B1 m1 d1) 32); have pd5 := Lib.hid (hd.rb.alloc (.cells (cells4 p Bo mo do_ B1 m1 d1) 32)); clear ho hd hy; replace hB := 0)
    | (refine wpList_store_4 rfl (.tmp 14) (.tmp 63) rfl w5.heap.size (cells4 p Bo mo do_ B1 m1 d1) rfl rfl _ (Blk.new _ zero4c 32) rfl rfl (one4 _ _ _ _ _ _ _) ?_; rw [World.setRow_alloc_new])
    | fail)
  obtain ⟨w6, hw6⟩ : ∃ w6, w5.alloc (.cells (cells4 p Bo mo do_ B1 m1 d1) 32) = w6 := ⟨_, rfl⟩
  rw [hw6] at hb5 dr5 kp5 pd5 ⊢
  replace hw6 := 0
  try simp only [Act.put]
  go_upto_region 8 with (first
    | (go_at_call 11; refine (hP2.out _ _ _ _ dr5.out).mono ?_; rintro e w7 ⟨Do, qo, so, D1, q1, s1', rfl, ho, hd, hB⟩; have hy := hB.alloc hB.size (.cells (cells4 q Do qo so D1 q1 s1') 32); have hb7 := Lib.hid (hb5.out.trans (hy.mono hb5.out.size)); have kp7 := Lib.hid (kp5.out.to hy); have pd7 := Lib.hid (pd5.out.below hy); have kq7 := Lib.hid (Blk.new w7 (cells4 q Do qo so D1 q1 s1') 32); have qd7 := Lib.hid (hd.rb.alloc (.cells (cells4 q Do qo so D1 q1 s1') 32)); clear ho hd hy; replace hB := 0)
    | (refine wpList_store_4 rfl (.tmp 16) (.tmp 68) rfl w7.heap.size (cells4 q Do qo so D1 q1 s1') rfl rfl _ (Blk.new _ zero4c 32) rfl rfl (one4 _ _ _ _ _ _ _) ?_; rw [World.setRow_alloc_new])
    | fail)
  obtain ⟨w8, hw8⟩ : ∃ w8, w7.alloc (.cells (cells4 q Do qo so D1 q1 s1') 32) = w8 := ⟨_, rfl⟩
  rw [hw8] at hb7 kp7 pd7 kq7 qd7 ⊢
  replace hw8 := 0
  have a5 := kp7.out.cell 5 (.int .i64 addr) (by rw [← s1.out]; rfl)
  have a6 := kp7.out.cell 6 (.int .i64 (3221225472 + eb)) (by rw [← s2.out]; rfl)
  have a10 := kp7.out.cell 10 (.slice B1 m1 d1) rfl
  try simp only [Act.put]
  go_upto_region 9 with (first
    | (go_at_call 12; refine (hU1.out _ _ _ _ pd7.out).mono ?_; rintro e w9 ⟨E1, g1, h1, rfl, ho, hB⟩; have hy := hB.alloc hB.size (.cells (cellsU u E1 g1 h1) 36); have hb9 := Lib.hid (hb7.out.trans (hy.mono hb7.out.size)); have kq9 := Lib.hid (kq7.out.to hy); have qd9 := Lib.hid (qd7.out.below hy); clear ho hy a5 a6 a10; replace hB := 0)
    | fail)
  have a5 := kq9.out.cell 5 (.int .i64 (167772160 + ea)) (by rw [← s3.out]; rfl)
  have a6 := kq9.out.cell 6 (.int .i64 addr) (by rw [← s4.out]; rfl)
  have a10 := kq9.out.cell 10 (.slice D1 q1 s1') rfl
  obtain ⟨w10, hw10⟩ : ∃ w10, w9.alloc (.cells (cellsU u E1 g1 h1) 36) = w10 := ⟨_, rfl⟩
  unfold cellsU at hw10
  rw [hw10] at hb9 kq9 qd9 a5 a6 a10 ⊢
  replace hw10 := 0
  try simp only [Act.put]
  go_wp2_with (first
    | (go_at_call 12; refine (hU2.out _ _ _ _ qd9.out).mono ?_; rintro e w11 ⟨F1, i1, j1, rfl, ho, hB⟩; have hy := hB.alloc hB.size (.cells (cellsU v F1 i1 j1) 36); have hb11 := Lib.hid (hb9.out.trans (hy.mono hb9.out.size)); clear ho hy a5 a6 a10; replace hB := 0)
    | (go_at_call 7; refine (awake26 _).mono ?_; rintro e W1 ⟨rfl, hB⟩; have hbE := Lib.hid (hb11.out.trans (hB.mono hb11.out.size)); replace hB := 0)
    | fail)
  go_ret
  exact ⟨by first | rfl | simp, hbE.out⟩
end Go.Proofs.Ytmbmmpbfmakfbaa
set_option linter.unusedVariables false
namespace Go.Proofs.Ytmbmmpbfmakfbaa
open Go.ChangeShapes Go.WideShapes Go.ChangeAt Go.RowKit Go.Deep

theorem cells_ends : Try.prog.cellsOf 23 = 4 := by kernel_rfl
theorem cells_u16 : Try.prog.cellsOf 22 = 1 := by kernel_rfl
section
variable {H : Type} {enc : TypeId × Value → H} {W : World}
set_option maxRecDepth 100000 in
theorem ends_of {r : Reach} {b0 : Nat} {v : Value} {d : DataW H} {p : List MemPlace} (hv : Value.okWide Try.prog W r b0 23 v) (h : DataW.Trod enc Try.prog W 0 (fun _ => true) true 23 v d p) :
    ∃ a b c d, v = .agg #[.int .u16 a, .int .u16 b, .int .u16 c, .int .u16 d] ∧ (0 ≤ a ∧ a ≤ 65535) ∧ (0 ≤ b ∧ b ≤ 65535) ∧ (0 ≤ c ∧ c ≤ 65535) ∧ (0 ≤ d ∧ d ≤ 65535) := by
  have ⟨C, hC, hsz⟩ : ∃ cs, v = .agg cs ∧ cs.size = Try.prog.cellsOf 23 := by
    simp only [Value.okWide, Try.underlying23] at hv
    obtain ⟨cs, h1, h2, _⟩ := hv
    exact ⟨cs, h1, h2⟩
  subst hC
  rw [cells_ends] at hsz
  obtain ⟨fuel, hf⟩ := h
  obtain ⟨ys, q, _, _, hl2, hlen2, hall2⟩ := DataW.trod_array Try.underlying23 hf
  have hc : ∀ j, j < 4 → ∃ z, C[j]? = some (.int .u16 z) ∧ 0 ≤ z ∧ z ≤ 65535 := fun j hj => by
    have h3 := hall2 j hj
    rw [List.getElem?_eq_getElem (by omega), cells_u16] at h3
    have h4 : ((Value.agg C).cells.toList.drop (j * 1)).take 1 = [C[j]] := by
      show (C.toList.drop (j * 1)).take 1 = [C[j]]
      rw [Nat.mul_one, List.drop_eq_getElem_cons (by simp; omega)]; simp
    rw [h4] at h3
    obtain ⟨z, hz, _, hw⟩ := DataW.trod_int Try.underlying22 h3
    simp at hz
    have := bounds_u16 hw
    exact ⟨z, by rw [Array.getElem?_eq_getElem (by omega), hz], by omega, by omega⟩
  obtain ⟨z0, e0, b0⟩ := hc 0 (by omega)
  obtain ⟨z1, e1, b1⟩ := hc 1 (by omega)
  obtain ⟨z2, e2, b2⟩ := hc 2 (by omega)
  obtain ⟨z3, e3, b3⟩ := hc 3 (by omega)
  refine ⟨z0, z1, z2, z3, ?_, b0, b1, b2, b3⟩
  congr 1
  apply Array.ext_getElem?
  intro j
  by_cases hj : j < 4
  · have : j = 0 ∨ j = 1 ∨ j = 2 ∨ j = 3 := by omega
    rcases this with rfl | rfl | rfl | rfl
    · exact e0
    · exact e1
    · exact e2
    · exact e3
  · rw [Array.getElem?_eq_none (by omega), Array.getElem?_eq_none (by simp; omega)]
end
set_option maxRecDepth 100000 in
set_option maxHeartbeats 2000000 in
theorem QuoteSums_lifted (os : Os) (started : os.Started) (H : Type) (enc : TypeId × Value → H) :
    ReturnsInHanded {} Try.checked os 3 .any (Rows.quoteSumsSpec.pre6 enc Try.prog Try.f3 Rows.quoteSumsRow.domain false) (Rows.quoteSumsSpec.post enc Try.prog Try.f3 false true false false) := by
  refine returnsInHanded_of_change (C := Try.checked) own_knob started (by kernel_rfl) Try.func3
    (ChangeSpec.witness6 (enc := enc) (C := Try.checked) false ⟨#[], #[.agg #[.int .u16 0, .int .u16 0, .int .u16 0, .int .u16 0], .slice none 0 0, .int .u32 0, .int .u16 0], []⟩ 8 (by kernel_rfl) (by kernel_rfl) (by kernel_rfl) (by kernel_rfl)) ?_
  intro W base args ds gs before hval0 hW hcnd _
  have hval : ∀ (j : Nat) t v, Try.f3.params[j]? = some t → args[j]? = some v → Value.okWide Try.prog W .any base t v := hval0
  have hW' := hW
  obtain ⟨p, q, hA0, hV, rfl, hfz, hnd⟩ := hW
  have hA : DataW.TrodAll enc Try.prog W 0 (fun _ => true) true Try.f3.params.toList args.toList ds p := hA0
  rw [Try.params3] at hA hval
  obtain ⟨v0, vs0, d0, ds0, p0, q0, hargs, rfl, rfl, h0, r0⟩ := trodAll_cons hA
  obtain ⟨v1, vs1, d1, ds1, p1, q1, rfl, rfl, rfl, h1, r1⟩ := trodAll_cons r0
  obtain ⟨v2, vs2, d2, ds2, p2, q2, rfl, rfl, rfl, h2, r2⟩ := trodAll_cons r1
  obtain ⟨v3, vs3, d3, ds3, p3, q3, rfl, rfl, rfl, h3, r3⟩ := trodAll_cons r2
  obtain ⟨rfl, rfl, rfl⟩ := trodAll_nil r3
  obtain rfl : args = #[v0, v1, v2, v3] := by cases args; simp_all
  obtain ⟨rfl, rfl⟩ := trodVars_none hV
  clear hA0 hval0
  have hlt0 : ∀ x ∈ p0, x.block < W.heap.size := fun x hx => hW'.lt x (by simp [hx])
  have h0k := h0
  have hlt1 : ∀ x ∈ p1, x.block < W.heap.size := fun x hx => hW'.lt x (by simp [hx])
  have h1k := h1
  have hlt2 : ∀ x ∈ p2, x.block < W.heap.size := fun x hx => hW'.lt x (by simp [hx])
  have h2k := h2
  have hlt3 : ∀ x ∈ p3, x.block < W.heap.size := fun x hx => hW'.lt x (by simp [hx])
  have h3k := h3
  obtain ⟨ea0, eb0, ec0, ed0, rfl, he0⟩ := ends_of (hval 0 23 v0 rfl rfl) h0
  obtain ⟨A1, n1, c1, bs1, rfl, hr1⟩ := rb_of (hval 1 24 v1 rfl rfl) h1
  obtain ⟨a2, rfl, rfl, rfl, w2⟩ := open_int Try.underlying25 (hval 2 25 v2 rfl rfl) h2
  have b2 := bounds_u32 w2
  obtain ⟨a3, rfl, rfl, rfl, w3⟩ := open_int Try.underlying22 (hval 3 22 v3 rfl rfl) h3
  have b3 := bounds_u16 w3
  refine (QuoteSums_walk ea0 eb0 ec0 ed0 A1 n1 c1 bs1 a2 a3 W he0 hr1 b2.1 b2.2 b3.1 b3.2).mono fun e W' ⟨he, hb⟩ => ?_
  subst he
  refine ⟨_, rfl, _, _, _, [], _, [], hW', trodAll_mk1 (shut_bool Try.underlying4 true), (trodAll_cons_mk (Below.trod laid_out (by kernel_rfl) (of_decide_eq_true (by kernel_rfl)) h0k hb hlt0) (trodAll_cons_mk (Below.trod laid_out (by kernel_rfl) (of_decide_eq_true (by kernel_rfl)) h1k hb hlt1) (trodAll_cons_mk (Below.trod laid_out (by kernel_rfl) (of_decide_eq_true (by kernel_rfl)) h2k hb hlt2) (trodAll_cons_mk (Below.trod laid_out (by kernel_rfl) (of_decide_eq_true (by kernel_rfl)) h3k hb hlt3) trodAll_mk0)))), rfl, hb.frame _, fun h => by cases h⟩

/-- The statement. -/
theorem QuoteSums_holds : Rows.QuoteSumsSaid :=
  OpenClaim.holds_of_wide 3 Try.f3 rfl rfl rfl rfl rfl rfl rfl ⟨rfl, rfl, rfl, rfl, rfl⟩ rfl rfl rfl rfl rfl (by kernel_rfl) Try.func3 (by kernel_rfl)
    (of_decide_eq_true (by kernel_rfl)) (by unfold Func.isWrapper; rw [if_neg (of_decide_eq_false (by kernel_rfl))]; exact ⟨rfl, rfl⟩)
    (fun os started H enc _ => QuoteSums_lifted os started H enc)
#print axioms QuoteSums_holds
end Go.Proofs.Ytmbmmpbfmakfbaa
