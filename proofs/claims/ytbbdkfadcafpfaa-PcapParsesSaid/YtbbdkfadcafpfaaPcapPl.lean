/- Plain facts: records are read from their bytes. No program in sight. -/
import Derived.Test.YtbbdkfadcafpfaaPcapP
set_option linter.unusedVariables false
namespace Go.Proofs.Ytbbdkfadcafpfaa
open Go Go.RowKit

theorem pbeNum_dig (x : Int) (s : Nat) (h : fitsP x s) : beNum (digL x s) = x := by
  obtain ⟨⟨h1, h2⟩, h3, h4⟩ := h
  have hc : s = 1 ∨ s = 2 ∨ s = 3 ∨ s = 4 := by omega
  rw [Int.toNat_natCast] at h4
  rcases hc with rfl | rfl | rfl | rfl <;> simp [digL, beNum, List.range_succ] at h4 ⊢ <;> omega
theorem pgetV_mid (xs ys : List Int) (x : Int) (s : Nat) (hf : fitsP x s) (a : Nat) (ha : xs.length = a) : (getV (xs ++ digL x s ++ ys) a s).1 = x := by
  have h1 := hf.1
  unfold getV
  rw [if_neg (by omega), if_neg (by simp only [List.length_append, digL_length]; omega)]
  simp only [Int.toNat_natCast]
  have : cutI (xs ++ digL x s ++ ys) a s = digL x s := by
    unfold cutI
    rw [List.append_assoc, List.drop_append_of_le_length (by omega), ← ha, List.drop_length, List.nil_append, List.take_append_of_le_length (by rw [digL_length]; omega), List.take_of_length_le (by rw [digL_length]; omega)]
  rw [this, pbeNum_dig x s hf]
theorem recP_reads {q : QP} (h : goodR q = true) (rest : List Int) :
    codeO (recP q ++ rest) = 0 ∧ recAt (recP q ++ rest) = q ∧ 16 + ownV (recP q ++ rest) = (recP q).length := by
  have hl := recP_len q
  obtain ⟨⟨h1, h2⟩, ⟨h3, h4⟩, ⟨h5, h6⟩, h7, h8⟩ := may_ok h
  have e0 : (getV (recP q ++ rest) 0 4).1 = q.x := by
    have := pgetV_mid [] (digL q.y 4 ++ digL (q.data.length : Int) 4 ++ digL q.z 4 ++ q.data ++ rest) q.x 4 (fit4 h1 h2) 0 rfl
    simpa [recP] using this
  have e4 : (getV (recP q ++ rest) 4 4).1 = q.y := by
    have := pgetV_mid (digL q.x 4) (digL (q.data.length : Int) 4 ++ digL q.z 4 ++ q.data ++ rest) q.y 4 (fit4 h3 (by omega)) 4 (by simp [digL_length])
    simpa [recP] using this
  have e8 : (getV (recP q ++ rest) 8 4).1 = (q.data.length : Int) := by
    have := pgetV_mid (digL q.x 4 ++ digL q.y 4) (digL q.z 4 ++ q.data ++ rest) (q.data.length : Int) 4 (fit4 (by omega) (by omega)) 8 (by simp [digL_length])
    simpa [recP] using this
  have e12 : (getV (recP q ++ rest) 12 4).1 = q.z := by
    have := pgetV_mid (digL q.x 4 ++ digL q.y 4 ++ digL (q.data.length : Int) 4) (q.data ++ rest) q.z 4 (fit4 h5 h6) 12 (by simp [digL_length])
    simpa [recP] using this
  have hd : ((recP q ++ rest).drop 16).take q.data.length = q.data := by
    have : recP q ++ rest = (digL q.x 4 ++ digL q.y 4 ++ digL (q.data.length : Int) 4 ++ digL q.z 4) ++ (q.data ++ rest) := by simp [recP]
    rw [this, List.drop_append_of_le_length (by simp [digL_length]), List.drop_of_length_le (by simp [digL_length]), List.nil_append, List.take_append_of_le_length (Nat.le_refl _), List.take_of_length_le (Nat.le_refl _)]
  have eo : ownV (recP q ++ rest) = (q.data.length : Int) := e8
  have er : recAt (recP q ++ rest) = q := by
    unfold recAt
    rw [e0, e4, e12, eo, Int.toNat_natCast, hd]
  refine ⟨?_, er, by rw [eo, hl]; omega⟩
  unfold codeO
  rw [er, eo, Int.toNat_natCast, List.length_append, hl, if_neg (by omega), if_neg (by omega)]
  have : mayB q q.data.length = true := h
  rw [this]; rfl
theorem recs_flat : ∀ (l : List QP) (f : Nat), (∀ q ∈ l, goodR q = true) → ((l.map recP).flatten).length < f → recsF f ((l.map recP).flatten) = l.map (fun q => (q, (0 : Int)))
  | [], 0, _, h => absurd h (by omega)
  | [], f + 1, _, _ => rfl
  | q :: l, f, hg, h => by
    obtain ⟨f, rfl⟩ : ∃ g, f = g + 1 := ⟨f - 1, by omega⟩
    obtain ⟨h1, h2, h3⟩ := recP_reads (hg q (List.mem_cons_self ..)) ((l.map recP).flatten)
    have hl := recP_len q
    have hc : ((q :: l).map recP).flatten = recP q ++ (l.map recP).flatten := by simp
    rw [hc, List.length_append, hl] at h
    rw [hc]
    show (if (recP q ++ (l.map recP).flatten).length = 0 then [] else if codeO (recP q ++ (l.map recP).flatten) = 0 then (recAt (recP q ++ (l.map recP).flatten), 0) :: recsF f ((recP q ++ (l.map recP).flatten).drop (16 + ownV (recP q ++ (l.map recP).flatten)).toNat) else [(zeroQ, codeO (recP q ++ (l.map recP).flatten))]) = _
    rw [if_neg (by rw [List.length_append, hl]; omega), h1, if_pos rfl, h2, h3, Int.toNat_natCast, List.drop_append_of_le_length (Nat.le_refl _), List.drop_length, List.nil_append, recs_flat l f (fun p hp => hg p (List.mem_cons_of_mem _ hp)) (by omega)]
    rfl
theorem outs_flat (l : List QP) (hg : ∀ q ∈ l, goodR q = true) : outsR (flatR l) = l.map (fun q => (q, (0 : Int))) := by
  have hb : beginsV (flatR l) = 0 := by
    unfold beginsV flatR
    rw [if_neg (by rw [List.length_append, headP_len]; omega), List.take_append_of_le_length (by rw [headP_len]; exact Nat.le_refl _), List.take_of_length_le (by rw [headP_len]; exact Nat.le_refl _), if_pos (by simp)]
  have hd : (flatR l).drop 24 = (l.map recP).flatten := by
    unfold flatR
    rw [List.drop_append_of_le_length (by rw [headP_len]; exact Nat.le_refl _), List.drop_of_length_le (by rw [headP_len]; exact Nat.le_refl _), List.nil_append]
  unfold outsR
  rw [if_pos hb, hd, recs_flat l _ hg (by unfold flatR; rw [List.length_append]; omega)]
theorem err_zero : ∀ (l : List QP), errR (l.map (fun q => (q, (0 : Int)))) = 0
  | [] => rfl
  | _ :: l => err_zero l
theorem back_R (l : List QP) (h : allR l = true) : errR (outsR (flatR l)) = 0 ∧ recsOf (outsR (flatR l)) = l := by
  rw [outs_flat l (fun q hq => List.all_eq_true.1 h q hq)]
  refine ⟨err_zero l, ?_⟩
  unfold recsOf
  rw [if_pos (err_zero l), List.map_map]
  simp [Function.comp_def]
end Go.Proofs.Ytbbdkfadcafpfaa
