/- Plain facts of pcp: what is built is parsed. -/
import Derived.Test.YtldjecilmcnpiaaPcpT
import Derived.Test.YtldjecilmcnpiaaPcpR
set_option linter.unusedVariables false
namespace Go.Proofs.Ytldjecilmcnpiaa
open Go.RowKit

theorem pbeNum_dig (x : Int) (s : Nat) (h : fitsP x s) : beNum (digL x s) = x := by
  obtain ⟨⟨h1, h2⟩, h3, h4⟩ := h
  have hc : s = 1 ∨ s = 2 ∨ s = 3 ∨ s = 4 := by omega
  rcases hc with rfl | rfl | rfl | rfl <;> simp [digL, beNum, List.range_succ] <;> simp at h4 <;> omega
theorem pgetV_mid (xs ys : List Int) (x : Int) (s : Nat) (hf : fitsP x s) (a : Nat) (ha : xs.length = a) : (getV (xs ++ digL x s ++ ys) a s).1 = x := by
  have hs := hf.1
  unfold getV
  rw [if_neg (by omega), if_neg (by simp [digL_length]; omega), Int.toNat_natCast, Int.toNat_natCast]
  have : cutI (xs ++ digL x s ++ ys) a s = digL x s := by
    unfold cutI
    rw [List.append_assoc, ← ha, List.drop_left' rfl, List.take_left' (digL_length x s)]
  show beNum (cutI _ a s) = x
  rw [this, pbeNum_dig x s hf]
theorem fits_u32 {x : Int} (h0 : 0 ≤ x) (h1 : x < 4294967296) : fitsP x ((4 : Nat) : Int) := ⟨by omega, h0, by show _ < (256 : Int) ^ 4; omega⟩
theorem fits_u32' {x : Int} (h : fitsP x 4) : 0 ≤ x ∧ x < 4294967296 := ⟨h.2.1, by have := h.2.2; simpa using this⟩
theorem plainV_map (x : Int) (h0 : 0 ≤ x) (h1 : x < 4294967296) : plainV (mapL x) = (x, true) := by
  have hm : x % 4294967296 = x := Int.emod_eq_of_lt h0 h1
  unfold plainV mapL
  rw [hm, if_pos (show List.take 12 (pre12 ++ digL x 4) = pre12 from List.take_left' rfl)]
  have := pgetV_mid pre12 [] x 4 (fits_u32 h0 h1) 12 rfl
  rw [List.append_nil] at this
  exact Prod.ext this rfl
theorem getV_u32 {bs : List Int} (h : Byts bs) (a : Int) : 0 ≤ (getV bs a 4).1 ∧ (getV bs a 4).1 < 4294967296 := by
  unfold getV
  split
  · simp
  · split
    · simp
    · have hb := cutI_byts h a.toNat (4 : Int).toNat
      have hl : (cutI bs a.toNat (4 : Int).toNat).length ≤ 4 := by unfold cutI; rw [List.length_take]; have : (4 : Int).toNat = 4 := rfl; omega
      have h1 := beNum_lo _ hb
      have h2 := beNum_hi _ hb 4 hl
      exact ⟨h1, by simpa using h2⟩
theorem dig_beNum4 : ∀ (bs : List Int), bs.length = 4 → Byts bs → digL (beNum bs) 4 = bs
  | [a, b, c, d], _, h => by
    have ha := h a (by simp)
    have hb := h b (by simp)
    have hc := h c (by simp)
    have hd := h d (by simp)
    simp [digL, beNum, List.range_succ]
    omega
theorem map_plain (s : List Int) (hs : Six s) (h : (plainV s).2 = true) : mapL (plainV s).1 = s := by
  unfold plainV at h ⊢
  split at h
  · rename_i hp
    rw [if_pos hp]
    have hl := hs.len
    have hg : (getV s 12 4).1 = beNum (s.drop 12) := by
      unfold getV
      rw [if_neg (by omega), if_neg (by omega)]
      show beNum (cutI s 12 4) = _
      unfold cutI
      rw [List.take_of_length_le (by rw [List.length_drop]; omega)]
    have hu := getV_u32 hs.byt 12
    show mapL (getV s 12 4).1 = s
    unfold mapL
    rw [Int.emod_eq_of_lt hu.1 hu.2, hg, dig_beNum4 _ (by rw [List.length_drop]; omega) (fun x hx => hs.byt x (List.mem_of_mem_drop hx)), ← hp, List.take_append_drop]
  · cases h

theorem dig21 : digL 2 1 = [2] := by decide
theorem msg_len {H C : List Int} {a : AskP} (hH : H.length = 4) (hC : C.length = 16) (ha : AskOk a) : (H ++ digL a.life 4 ++ C ++ tailL a).length = 60 := by
  simp [hH, hC, digL_length, tailL_len ha]
theorem drop_pre {L R : List Int} {k : Nat} (h : L.length = k) : (L ++ R).drop k = R := List.drop_left' h
/-- A message's parts. -/
theorem msg_parsed {H C : List Int} {a : AskP} (hH : H.length = 4) (hC : C.length = 16) (ha : AskOk a) (hm : mayB a = true) :
    plainV ((H ++ digL a.life 4 ++ C ++ tailL a).drop 44) = (a.addr, true) ∧ parsedA (H ++ digL a.life 4 ++ C ++ tailL a) = { a with cl := C } := by
  obtain ⟨f1, f2, f3, f4, f5⟩ := mayB_iff hm
  have hn := ha.ln
  obtain ⟨u0, u1⟩ := fits_u32' f5
  have ht : tailL a = a.no ++ (digL a.pr 1 ++ (digL 0 3 ++ (digL a.port 2 ++ (digL a.outer 2 ++ mapL a.addr)))) := by simp [tailL, tailF, putL]
  have h44 : (H ++ digL a.life 4 ++ C ++ tailL a).drop 44 = mapL a.addr := by
    rw [ht]
    have e : H ++ digL a.life 4 ++ C ++ (a.no ++ (digL a.pr 1 ++ (digL 0 3 ++ (digL a.port 2 ++ (digL a.outer 2 ++ mapL a.addr))))) = (H ++ digL a.life 4 ++ C ++ a.no ++ digL a.pr 1 ++ digL 0 3 ++ digL a.port 2 ++ digL a.outer 2) ++ mapL a.addr := by simp
    rw [e]
    exact drop_pre (by simp [hH, hC, hn, digL_length])
  have hp := plainV_map a.addr u0 u1
  refine ⟨by rw [h44, hp], ?_⟩
  unfold parsedA
  rw [h44, hp]
  have g1 : (getV (H ++ digL a.life 4 ++ C ++ tailL a) 4 4).1 = a.life := by
    have := pgetV_mid H (C ++ tailL a) a.life 4 f1 4 hH
    rw [← List.append_assoc] at this
    exact this
  have g2 : ((H ++ digL a.life 4 ++ C ++ tailL a).drop 8).take 16 = C := by
    have e : H ++ digL a.life 4 ++ C ++ tailL a = (H ++ digL a.life 4) ++ (C ++ tailL a) := by simp
    rw [e, drop_pre (by simp [hH, digL_length]), List.take_left' hC]
  have g3 : ((H ++ digL a.life 4 ++ C ++ tailL a).drop 24).take 12 = a.no := by
    rw [drop_pre (by simp [hH, hC, digL_length]), ht, List.take_left' hn]
  have g4 : (getV (H ++ digL a.life 4 ++ C ++ tailL a) 36 1).1 = a.pr := by
    have := pgetV_mid (H ++ digL a.life 4 ++ C ++ a.no) (digL 0 3 ++ (digL a.port 2 ++ (digL a.outer 2 ++ mapL a.addr))) a.pr 1 f2 36 (by simp [hH, hC, hn, digL_length])
    rw [ht]
    simp only [List.append_assoc] at this ⊢
    exact this
  have g5 : (getV (H ++ digL a.life 4 ++ C ++ tailL a) 40 2).1 = a.port := by
    have := pgetV_mid (H ++ digL a.life 4 ++ C ++ a.no ++ digL a.pr 1 ++ digL 0 3) (digL a.outer 2 ++ mapL a.addr) a.port 2 f3 40 (by simp [hH, hC, hn, digL_length])
    rw [ht]
    simp only [List.append_assoc] at this ⊢
    exact this
  have g6 : (getV (H ++ digL a.life 4 ++ C ++ tailL a) 42 2).1 = a.outer := by
    have := pgetV_mid (H ++ digL a.life 4 ++ C ++ a.no ++ digL a.pr 1 ++ digL 0 3 ++ digL a.port 2) (mapL a.addr) a.outer 2 f4 42 (by simp [hH, hC, hn, digL_length])
    rw [ht]
    simp only [List.append_assoc] at this ⊢
    exact this
  rw [g1, g2, g3, g4, g5, g6]
/-- What is built is parsed. -/
theorem ask_form {a : AskP} : bytesAsk a = [2, 1, 0, 0] ++ digL a.life 4 ++ a.cl ++ tailL a := by
  have e1 : digL 2 1 = [2] := by decide
  have e2 : digL 1 1 = [1] := by decide
  have e3 : digL 0 2 = [0, 0] := by decide
  simp [bytesAsk, putL, headF, e1, e2, e3]
theorem ask_len {a : AskP} (ha : AskOk a) : (bytesAsk a).length = 60 := by rw [ask_form]; exact msg_len rfl ha.lc ha
theorem ask_code {a : AskP} (ha : AskOk a) (hm : mayB a = true) (kind : Int) : codeP kind (bytesAsk a) = if kind = 1 then 0 else 4 := by
  have hl := ask_len ha
  have h0 : (bytesAsk a)[0]?.getD 0 = 2 := by rw [ask_form]; rfl
  have h1 : (bytesAsk a)[1]?.getD 0 = 1 := by rw [ask_form]; rfl
  have h2 := (msg_parsed (H := [2, 1, 0, 0]) rfl ha.lc ha hm).1
  rw [← ask_form] at h2
  unfold codeP
  rw [if_neg (by omega), if_neg (by omega), h0, h1, h2]
  by_cases hk : kind = 1
  · subst hk; simp
  · rw [if_pos (.inr (fun e => hk e.symm)), if_neg hk]
theorem ask_read {a : AskP} (ha : AskOk a) (hm : mayB a = true) : readA 1 (bytesAsk a) = a := by
  unfold readA
  rw [ask_code ha hm, if_pos (by simp)]
  have := (msg_parsed (H := [2, 1, 0, 0]) rfl ha.lc ha hm).2
  rw [← ask_form] at this
  exact this
def told16 (t : ToldP) : List Int := digL t.epoch 4 ++ (digL 0 4 ++ (digL 0 4 ++ digL 0 4))
theorem told16_len (t : ToldP) : (told16 t).length = 16 := by simp [told16, digL_length]
theorem told_form {t : ToldP} : bytesTold t = ([2, 129, 0] ++ digL t.result 1) ++ digL t.ask.life 4 ++ told16 t ++ tailL t.ask := by
  have e1 : digL 2 1 = [2] := by decide
  have e2 : digL 129 1 = [129] := by decide
  have e3 : digL 0 1 = [0] := by decide
  simp [bytesTold, putL, head1F, head2F, told16, e1, e2, e3]
theorem told_len {t : ToldP} (ha : AskOk t.ask) : (bytesTold t).length = 60 := by rw [told_form]; exact msg_len (by simp [digL_length]) (told16_len t) ha
theorem mayT_iff {t : ToldP} (h : mayT t = true) : mayB t.ask = true ∧ fitsP t.result 1 ∧ fitsP t.epoch 4 := by
  unfold mayT at h
  rw [Bool.and_eq_true] at h
  exact ⟨h.1, mayTF_fits h.2⟩
theorem told_code {t : ToldP} (ha : AskOk t.ask) (hm : mayT t = true) (kind : Int) : codeP kind (bytesTold t) = if kind = 129 then 0 else 4 := by
  have hl := told_len ha
  have h0 : (bytesTold t)[0]?.getD 0 = 2 := by rw [told_form]; rfl
  have h1 : (bytesTold t)[1]?.getD 0 = 129 := by rw [told_form]; rfl
  have h2 := (msg_parsed (H := [2, 129, 0] ++ digL t.result 1) (by simp [digL_length]) (told16_len t) ha (mayT_iff hm).1).1
  rw [← told_form] at h2
  unfold codeP
  rw [if_neg (by omega), if_neg (by omega), h0, h1, h2]
  by_cases hk : kind = 129
  · subst hk; simp
  · rw [if_pos (.inr (fun e => hk e.symm)), if_neg hk]
theorem told_read {t : ToldP} (ha : AskOk t.ask) (hm : mayT t = true) : readA 129 (bytesTold t) = { t.ask with cl := told16 t } ∧ (getV (bytesTold t) 8 4).1 = t.epoch ∧ (bytesTold t)[3]?.getD 0 = t.result := by
  obtain ⟨m1, m2, m3⟩ := mayT_iff hm
  refine ⟨?_, ?_, ?_⟩
  · unfold readA
    rw [told_code ha hm, if_pos (by simp)]
    have := (msg_parsed (H := [2, 129, 0] ++ digL t.result 1) (by simp [digL_length]) (told16_len t) ha m1).2
    rw [← told_form] at this
    exact this
  · rw [told_form]
    have := pgetV_mid (([2, 129, 0] ++ digL t.result 1) ++ digL t.ask.life 4) ((digL 0 4 ++ (digL 0 4 ++ digL 0 4)) ++ tailL t.ask) t.epoch 4 m3 8 (by simp [digL_length])
    simp only [told16, List.append_assoc] at this ⊢
    exact this
  · rw [told_form]
    have hr : digL t.result 1 = [t.result] := by
      have h1 := m2.2.1
      have h2 : t.result < 256 := by simpa using m2.2.2
      simp [digL, List.range_succ]; omega
    rw [hr]; rfl
end Go.Proofs.Ytldjecilmcnpiaa
