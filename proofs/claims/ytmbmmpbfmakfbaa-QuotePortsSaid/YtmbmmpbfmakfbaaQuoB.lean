/- What is quoted: bytes with other endpoints, read again. No program in sight. -/
import Derived.Test.YtmbmmpbfmakfbaaQuoP
import Derived.Test.YtmbmmpbfmakfbaaIcmpPlain
set_option linter.unusedVariables false
namespace Go.Proofs.Ytmbmmpbfmakfbaa
open Go Go.RowKit

theorem chg_far {bs : List Int} {wh pt : Nat} {a x : Int} {j : Nat} (h1 : j < wh ∨ wh + 4 ≤ j) (h2 : j < 10 ∨ 12 ≤ j) (h3 : j < hdQ bs + pt ∨ hdQ bs + pt + 2 ≤ j) (h4 : noSum (readV4 true bs) = true ∨ j < hdQ bs + atQ (readV4 true bs) ∨ hdQ bs + atQ (readV4 true bs) + 2 ≤ j) : (chgQ bs wh pt a x)[j]? = bs[j]? := by
  unfold chgQ
  split
  · unfold out2Q out1Q
    rw [setN_far h3, setN_far h2, setN_far h1]
  · rename_i hN
    unfold out2Q out1Q
    rw [setN_far (h4.resolve_left hN), setN_far h3, setN_far h2, setN_far h1]
/-- What two lists have in common. -/
theorem getV_same {bs cs : List Int} {i s : Nat} (hl : cs.length = bs.length) (h : ∀ j, i ≤ j → j < i + s → cs[j]? = bs[j]?) : getV cs (i : Int) (s : Int) = getV bs (i : Int) (s : Int) := by
  unfold getV
  rw [hl, Int.toNat_natCast, Int.toNat_natCast]
  have : cutI cs i s = cutI bs i s := by
    unfold cutI
    apply List.ext_getElem?
    intro j
    rw [List.getElem?_take, List.getElem?_take]
    by_cases hj : j < s
    · rw [if_pos hj, if_pos hj, List.getElem?_drop, List.getElem?_drop, h (i + j) (by omega) (by omega)]
    · rw [if_neg hj, if_neg hj]
  rw [this]
/-- A head that is as it was in its first ten bytes. -/
theorem head_same {bs cs : List Int} (hl : cs.length = bs.length) (h : ∀ j, j < 10 → cs[j]? = bs[j]?) : hd4 cs = hd4 bs ∧ sz4 cs = sz4 bs ∧ fl4 cs = fl4 bs ∧ codeO true cs = codeO true bs ∧ end4 cs = end4 bs := by
  have e1 : hd4 cs = hd4 bs := by unfold hd4; rw [h 0 (by omega)]
  have e2 : sz4 cs = sz4 bs := congrArg Prod.fst (getV_same (i := 2) (s := 2) hl fun j _ hj => h j (by omega))
  have e3 : fl4 cs = fl4 bs := congrArg Prod.fst (getV_same (i := 6) (s := 2) hl fun j _ hj => h j (by omega))
  exact ⟨e1, e2, e3, by unfold codeO; rw [hl, h 0 (by omega), e1, e2, e3], by unfold end4; rw [e2, hl]⟩
theorem read_same {bs cs : List Int} (hl : cs.length = bs.length) (h : ∀ j, j < 10 → cs[j]? = bs[j]?) (hk : codeV4 true bs = 0) : codeV4 true cs = 0 ∧ readV4 true cs = pack4 cs := by
  have hO : codeO true bs = 0 := by
    unfold codeV4 at hk
    by_cases h : codeO true bs = 0
    · exact h
    · rw [if_pos h] at hk; exact absurd hk h
  have e := (head_same hl h).2.2.2.1.trans hO
  have hv : codeV4 true cs = 0 := by unfold codeV4; rw [e]; rfl
  exact ⟨hv, by unfold readV4; rw [if_pos hv]⟩
/-- Bytes that quote, of which bytes behind the tenth, but for the kind of a message, are others. -/
theorem quo_same {bs cs : List Int} (hb : Byts bs) (hl : cs.length = bs.length) (h : ∀ j, j < 10 → cs[j]? = bs[j]?) (hk : codeQ bs = 0) (hd0 : (readV4 true bs).pr = 1 → cs[hdQ bs]? = bs[hdQ bs]?) :
    codeQ cs = 0 ∧ readV4 true cs = pack4 cs ∧ (pack4 cs).pr = (readV4 true bs).pr ∧ (pack4 cs).data.length = (readV4 true bs).data.length ∧ hd4 cs = hdQ bs ∧ (∀ j, j < (readV4 true bs).data.length → (pack4 cs).data[j]?.getD 0 = cs[hdQ bs + j]?.getD 0) := by
  obtain ⟨hv, hpk, hoff, h8, hhd, hhe, hh60, h9, hbd, hdat, hpr⟩ := quo_ok hb hk
  obtain ⟨e1, e2, e3, e4, e5⟩ := head_same hl h
  obtain ⟨r1, r2⟩ := read_same hl h hv
  have p1 : (pack4 cs).pr = (readV4 true bs).pr := by rw [hpk]; show cs[9]?.getD 0 = bs[9]?.getD 0; rw [h 9 (by omega)]
  have p2 : (pack4 cs).off = (readV4 true bs).off := by rw [hpk]; show fl4 cs % 8192 * 8 = fl4 bs % 8192 * 8; rw [e3]
  have p3 : (pack4 cs).data.length = (readV4 true bs).data.length := by
    rw [hpk]
    show ((cs.take (end4 cs)).drop (hd4 cs)).length = ((bs.take (end4 bs)).drop (hd4 bs)).length
    rw [List.length_drop, List.length_drop, List.length_take, List.length_take, e5, e1, hl]
  have p4 : ∀ j, j < (readV4 true bs).data.length → (pack4 cs).data[j]?.getD 0 = cs[hdQ bs + j]?.getD 0 := by
    intro j hj
    have : (readV4 true bs).data.length = end4 bs - hd4 bs := by
      rw [hpk]
      show ((bs.take (end4 bs)).drop (hd4 bs)).length = _
      rw [List.length_drop, List.length_take]
      have : end4 bs ≤ bs.length := by unfold end4; omega
      omega
    show ((cs.take (end4 cs)).drop (hd4 cs))[j]?.getD 0 = _
    rw [List.getElem?_drop, List.getElem?_take, e5, e1, if_pos (by omega), hhe]
  refine ⟨?_, r2, p1, p3, e1.trans hhe.symm, p4⟩
  have ho : codeQo cs = 0 := by
    unfold codeQo
    rw [if_neg (fun g => g r1), r2, p2, if_neg (by omega), p3, if_neg (by omega)]
  unfold codeQ
  rw [if_neg (fun g => g ho), r2]
  unfold codeX
  rw [p1]
  rcases hpr with g | g | ⟨g, gq⟩
  · rw [if_pos (.inl g)]
  · rw [if_pos (.inr g)]
  · rw [if_neg (by rw [g]; decide)]
    have : qryX (pack4 cs) = true := by
      unfold qryX at gq ⊢
      rw [p1, p4 0 (by omega), Nat.add_zero, hd0 g]
      have := hdat 0 (by omega)
      rw [Nat.add_zero] at this
      rw [← this]; exact gq
    rw [if_pos this]
theorem getV_is {cs : List Int} {i s : Nat} {v : Int} (hs : 1 ≤ s ∧ s ≤ 4) (hl : i + s ≤ cs.length) (hf : fitsP v s) (h : ∀ j, j < s → cs[i + j]? = (digL v s)[j]?) : (getV cs (i : Int) (s : Int)).1 = v := by
  unfold getV
  rw [if_neg (by omega), if_neg (by omega), Int.toNat_natCast, Int.toNat_natCast]
  have : cutI cs i s = digL v s := by
    unfold cutI
    apply List.ext_getElem?
    intro j
    rw [List.getElem?_take]
    by_cases hj : j < s
    · rw [if_pos hj, List.getElem?_drop, h j hj]
    · rw [if_neg hj, List.getElem?_eq_none (by rw [digL_length]; omega)]
  rw [this]
  exact beNum_dig v s hf
theorem chg_wh {bs : List Int} {wh pt : Nat} {a x : Int} (hh : 20 ≤ hdQ bs) (hl : hdQ bs ≤ bs.length) (h1 : 12 ≤ wh) (h2 : wh + 4 ≤ 20) (j : Nat) (hj : j < 4) : (chgQ bs wh pt a x)[wh + j]? = (digL a 4)[j]? := by
  have e : (out2Q bs wh pt a x)[wh + j]? = (digL a 4)[j]? := by
    unfold out2Q out1Q
    rw [setN_far (by omega), setN_far (by omega), setN_at (by omega) (by omega) (by omega), show wh + j - wh = j by omega, digL_get _ _ _ hj]
    rfl
  unfold chgQ
  split
  · exact e
  · rw [setN_far (by omega)]; exact e
theorem chg_pt {bs : List Int} {wh pt : Nat} {a x : Int} (hl : hdQ bs + pt + 2 ≤ bs.length) (hd : pt + 2 ≤ atQ (readV4 true bs) ∨ atQ (readV4 true bs) + 2 ≤ pt) (j : Nat) (hj : j < 2) : (chgQ bs wh pt a x)[hdQ bs + pt + j]? = (digL x 2)[j]? := by
  have e : (out2Q bs wh pt a x)[hdQ bs + pt + j]? = (digL x 2)[j]? := by
    unfold out2Q
    rw [setN_at (by omega) (by omega) (by rw [out1_length]; omega), show hdQ bs + pt + j - (hdQ bs + pt) = j by omega, digL_get _ _ _ hj]
    rfl
  unfold chgQ
  split
  · exact e
  · rw [setN_far (by omega)]; exact e
end Go.Proofs.Ytmbmmpbfmakfbaa
/- What is quoted: ports of bytes with other endpoints. No program in sight. -/
set_option linter.unusedVariables false
namespace Go.Proofs.Ytmbmmpbfmakfbaa
open Go Go.RowKit

theorem may_ok {bs : List Int} {a x : Int} (hm : mayQ bs a x = 0) : codeQ bs = 0 ∧ (0 ≤ a ∧ a < 4294967296) ∧ (0 ≤ x ∧ x < 65536) := by
  have hcq : codeQ bs = 0 := by
    unfold mayQ at hm
    by_cases h : codeQ bs = 0
    · exact h
    · rw [if_pos h] at hm; exact absurd hm h
  obtain ⟨ha, hf⟩ : rightB a = true ∧ fitsB x 2 = true := by
    unfold mayQ at hm
    rw [if_neg (fun g => g hcq)] at hm
    by_cases h : rightB a = true ∧ fitsB x 2 = true
    · exact h
    · rw [if_neg h] at hm; cases hm
  have hf' := of_decide_eq_true hf
  exact ⟨hcq, of_decide_eq_true ha, hf'.2.1, hf'.2.2⟩
theorem atQ_pt {p : V4P} (hpr : p.pr = 6 ∨ p.pr = 17 ∨ (p.pr = 1 ∧ qryX p = true)) {pt : Nat} (h : pt ≤ 2) : (ptQ p pt + 2 ≤ atQ p ∨ atQ p + 2 ≤ ptQ p pt) ∧ ptQ p pt + 2 ≤ 8 := by
  unfold ptQ atQ
  rcases hpr with g | g | ⟨g, _⟩ <;> rw [g] <;> simp <;> omega
theorem chg_all {bs : List Int} {a x : Int} {wh pt : Nat} (hb : Byts bs) (hk : codeQ bs = 0) (ha : 0 ≤ a ∧ a < 4294967296) (hx : 0 ≤ x ∧ x < 65536) (hwh : wh = 12 ∨ wh = 16) (hpt : pt = 0 ∨ pt = 2) :
    ∃ cs, chgQ bs wh (ptQ (readV4 true bs) pt) a x = cs ∧ cs.length = bs.length ∧ (∀ j, j < 10 → cs[j]? = bs[j]?) ∧ codeQ cs = 0 ∧ readV4 true cs = pack4 cs ∧ (pack4 cs).pr = (readV4 true bs).pr ∧
      (getV cs (wh : Int) 4).1 = a ∧ (getV cs ((28 - wh : Nat) : Int) 4).1 = (getV bs ((28 - wh : Nat) : Int) 4).1 ∧ (getV (pack4 cs).data (ptQ (readV4 true bs) pt : Int) 2).1 = x ∧
      ((readV4 true bs).pr = 1 ∨ (getV (pack4 cs).data ((2 - pt : Nat) : Int) 2).1 = (getV (readV4 true bs).data ((2 - pt : Nat) : Int) 2).1) := by
  obtain ⟨hv, hpk, hoff, h8, hhd, hhe, hh60, h9, hbd, hdat, hpr⟩ := quo_ok hb hk
  have hh : 20 ≤ hdQ bs := by unfold hdQ; omega
  obtain ⟨d1, d2⟩ := atQ_pt hpr (pt := pt) (by omega)
  have hN : noSum (readV4 true bs) = true ∨ atQ (readV4 true bs) + 2 ≤ (readV4 true bs).data.length := by
    cases h : noSum (readV4 true bs)
    · exact .inr (noSum_no h)
    · exact .inl rfl
  have hl : (chgQ bs wh (ptQ (readV4 true bs) pt) a x).length = bs.length := chgQ_length _ _ _ _ _
  have h10 : ∀ j, j < 10 → (chgQ bs wh (ptQ (readV4 true bs) pt) a x)[j]? = bs[j]? := fun j hj => chg_far (by omega) (by omega) (by omega) (by omega)
  have hd0 : (readV4 true bs).pr = 1 → (chgQ bs wh (ptQ (readV4 true bs) pt) a x)[hdQ bs]? = bs[hdQ bs]? := fun g => by
    have e1 : ptQ (readV4 true bs) pt = 4 := by unfold ptQ; rw [if_pos g]
    have e2 : atQ (readV4 true bs) = 2 := by unfold atQ; rw [if_neg (by rw [g]; decide), if_pos g]
    exact chg_far (by omega) (by omega) (by omega) (by omega)
  obtain ⟨q1, q2, q3, q4, q5, q6⟩ := quo_same hb hl h10 hk hd0
  have hwa : (getV (chgQ bs wh (ptQ (readV4 true bs) pt) a x) (wh : Int) 4).1 = a := getV_is (s := 4) (by omega) (by omega) (fits4n ha.1 ha.2) (fun j hj => chg_wh hh (by omega) (by omega) (by omega) j hj)
  have hwb : (getV (chgQ bs wh (ptQ (readV4 true bs) pt) a x) ((28 - wh : Nat) : Int) 4).1 = (getV bs ((28 - wh : Nat) : Int) 4).1 := congrArg Prod.fst (getV_same (s := 4) hl fun j h1 h2 => chg_far (by omega) (by omega) (by omega) (by omega))
  have hgd : ∀ i, i + 2 ≤ (readV4 true bs).data.length → (getV (pack4 (chgQ bs wh (ptQ (readV4 true bs) pt) a x)).data (i : Int) 2).1 = (getV (chgQ bs wh (ptQ (readV4 true bs) pt) a x) ((hdQ bs + i : Nat) : Int) 2).1 := fun i hi => by
    rw [getV2_mid (by rw [q4]; exact hi), getV2_mid (by rw [hl]; omega), q6 _ (by omega), q6 _ (by omega), Nat.add_assoc]
  refine ⟨_, rfl, hl, h10, q1, q2, q3, hwa, hwb, ?_, ?_⟩
  · rw [hgd _ (by omega)]
    exact getV_is (s := 2) (by omega) (by omega) (fit2 hx.1 hx.2) (fun j hj => chg_pt (by omega) d1 j hj)
  · by_cases g : (readV4 true bs).pr = 1
    · exact .inl g
    · refine .inr ?_
      have e1 : ptQ (readV4 true bs) pt = pt := by unfold ptQ; rw [if_neg g]
      have e2 : 6 ≤ atQ (readV4 true bs) := by unfold atQ; rw [if_neg g]; split <;> omega
      rw [hgd _ (by omega), getV_data hb hk (by omega)]
      exact congrArg Prod.fst (getV_same (s := 2) hl fun j h1 h2 => chg_far (by omega) (by omega) (by rw [e1]; omega) (by omega))
theorem port_of {cs : List Int} (q1 : codeQ cs = 0) (r2 : readV4 true cs = pack4 cs) : packQ cs = pack4 cs ∧ portQ cs = portsX (pack4 cs) ∧ ((pack4 cs).pr = 6 ∨ (pack4 cs).pr = 17 ∨ qryX (pack4 cs) = true) := by
  refine ⟨by unfold packQ; rw [if_pos q1, r2], by unfold portQ; rw [if_pos q1, r2], ?_⟩
  unfold codeQ at q1
  by_cases ho : codeQo cs ≠ 0
  · rw [if_pos ho] at q1; exact absurd q1 ho
  rw [if_neg ho, r2] at q1
  unfold codeX at q1
  by_cases h1 : (pack4 cs).pr = 6 ∨ (pack4 cs).pr = 17
  · rcases h1 with h | h
    · exact .inl h
    · exact .inr (.inl h)
  rw [if_neg h1] at q1
  by_cases hq : qryX (pack4 cs) = true
  · exact .inr (.inr hq)
  · rw [if_neg hq] at q1; cases q1
theorem qry_1 {p : V4P} (h : qryX p = true) : p.pr = 1 := by unfold qryX at h; rw [Bool.and_eq_true] at h; simpa using h.1
theorem portsX_t {p : V4P} (h : p.pr = 6 ∨ p.pr = 17 ∨ qryX p = true) : (portsX p).2.1 = (getV p.data (ptQ p 0 : Int) 2).1 ∧ (portsX p).2.2 = (getV p.data (ptQ p 2 : Int) 2).1 := by
  unfold portsX ptQ
  rcases h with h | h | h
  · rw [if_pos (.inl h), if_neg (by rw [h]; decide), if_neg (by rw [h]; decide)]; exact ⟨rfl, rfl⟩
  · rw [if_pos (.inr h), if_neg (by rw [h]; decide), if_neg (by rw [h]; decide)]; exact ⟨rfl, rfl⟩
  · have h1 := qry_1 h
    rw [if_neg (by rw [h1]; decide), if_pos h, if_pos h1, if_pos h1]; exact ⟨rfl, rfl⟩
theorem take_same {bs cs : List Int} (h : ∀ j, j < 10 → cs[j]? = bs[j]?) : cs.take 10 = bs.take 10 := by
  apply List.ext_getElem?
  intro j
  rw [List.getElem?_take, List.getElem?_take]
  by_cases hj : j < 10
  · rw [if_pos hj, if_pos hj, h j hj]
  · rw [if_neg hj, if_neg hj]
theorem from_reads {bs : List Int} {a x : Int} (hb : Byts bs) (hm : mayQ bs a x = 0) : codeQ (fromQ bs a x) = 0 ∧ (fromQ bs a x).length = bs.length ∧ (packQ (fromQ bs a x)).src = a ∧ (packQ (fromQ bs a x)).dst = (packQ bs).dst ∧ (portQ (fromQ bs a x)).2.1 = x ∧ ((packQ bs).pr = 1 ∨ (portQ (fromQ bs a x)).2.2 = (portQ bs).2.2) ∧ (fromQ bs a x).take 10 = bs.take 10 := by
  obtain ⟨hk, ha, hx⟩ := may_ok hm
  obtain ⟨cs, hcs, c1, c2, c3, c4, c5, c6, c7, c8, c9⟩ := chg_all (wh := 12) (pt := 0) hb hk ha hx (.inl rfl) (.inl rfl)
  have e : fromQ bs a x = cs := by unfold fromQ; rw [if_pos hm]; exact hcs
  rw [e]
  have hp := (quo_ok hb hk).2.1
  obtain ⟨p1, p2, p3⟩ := port_of c3 c4
  obtain ⟨o1, o2, o3⟩ := port_of hk hp
  obtain ⟨t1, t2⟩ := portsX_t p3
  obtain ⟨u1, u2⟩ := portsX_t o3
  rw [hp] at c5 c8 c9
  have f1 : ∀ k, ptQ (pack4 cs) k = ptQ (pack4 bs) k := fun k => by unfold ptQ; rw [c5]
  refine ⟨c3, c1, by rw [p1]; exact c6, by rw [p1, o1]; exact c7, by rw [p2, t1, f1]; exact c8, ?_, take_same c2⟩
  rw [o1, p2, o2, t2, u2, f1]
  rcases c9 with g | g
  · exact .inl g
  · by_cases g1 : (pack4 bs).pr = 1
    · exact .inl g1
    · refine .inr ?_
      rw [show ptQ (pack4 bs) 2 = 2 by unfold ptQ; rw [if_neg g1]]
      exact g
theorem to_reads {bs : List Int} {a x : Int} (hb : Byts bs) (hm : mayQ bs a x = 0) : codeQ (toQ bs a x) = 0 ∧ (toQ bs a x).length = bs.length ∧ (packQ (toQ bs a x)).dst = a ∧ (packQ (toQ bs a x)).src = (packQ bs).src ∧ (portQ (toQ bs a x)).2.2 = x ∧ ((packQ bs).pr = 1 ∨ (portQ (toQ bs a x)).2.1 = (portQ bs).2.1) := by
  obtain ⟨hk, ha, hx⟩ := may_ok hm
  obtain ⟨cs, hcs, c1, c2, c3, c4, c5, c6, c7, c8, c9⟩ := chg_all (wh := 16) (pt := 2) hb hk ha hx (.inr rfl) (.inr rfl)
  have e : toQ bs a x = cs := by unfold toQ; rw [if_pos hm]; exact hcs
  rw [e]
  have hp := (quo_ok hb hk).2.1
  obtain ⟨p1, p2, p3⟩ := port_of c3 c4
  obtain ⟨o1, o2, o3⟩ := port_of hk hp
  obtain ⟨t1, t2⟩ := portsX_t p3
  obtain ⟨u1, u2⟩ := portsX_t o3
  rw [hp] at c5 c8 c9
  have f1 : ∀ k, ptQ (pack4 cs) k = ptQ (pack4 bs) k := fun k => by unfold ptQ; rw [c5]
  refine ⟨c3, c1, by rw [p1]; exact c6, by rw [p1, o1]; exact c7, by rw [p2, t2, f1]; exact c8, ?_⟩
  rw [o1, p2, o2, t1, u1, f1]
  rcases c9 with g | g
  · exact .inl g
  · by_cases g1 : (pack4 bs).pr = 1
    · exact .inl g1
    · refine .inr ?_
      rw [show ptQ (pack4 bs) 0 = 0 by unfold ptQ; rw [if_neg g1]]
      exact g
theorem may_from {bs : List Int} {a x : Int} (hm : mayQ bs a x ≠ 0) : codeQ bs = mayQ bs a x ∨ mayQ bs a x = 1 := by
  unfold mayQ at hm ⊢
  by_cases h : codeQ bs = 0
  · rw [if_neg (fun g => g h)] at hm ⊢
    split
    · rename_i g; rw [if_pos g] at hm; exact absurd rfl hm
    · exact .inr rfl
  · rw [if_pos h]; exact .inl rfl
end Go.Proofs.Ytmbmmpbfmakfbaa
