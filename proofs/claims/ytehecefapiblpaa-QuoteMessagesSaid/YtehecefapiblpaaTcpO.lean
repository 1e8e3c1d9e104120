/- Options of segments: where they begin; the iterator over them: its walk. -/
import Derived.Test.YtehecefapiblpaaBase
set_option linter.unusedVariables false
namespace Go.Proofs.Ytehecefapiblpaa
open Go.RowKit
attribute [local go_sem] Oper.semAt_some

/-- How many bytes the option at a place has; 0: there is none. -/
def optL (bs : List Int) (a : Nat) : Nat :=
  if bs.length ≤ a then 0 else if bs[a]?.getD 0 ≤ 1 then 1 else if bs.length ≤ a + 1 then 0 else if bs[a + 1]?.getD 0 < 2 then 0 else if (bs.length : Int) - a < bs[a + 1]?.getD 0 then 0 else (bs[a + 1]?.getD 0).toNat
/-- Where options begin. -/
def placesF (bs : List Int) : Nat → Nat → List Nat
  | 0, _ => []
  | f + 1, a => if optL bs a = 0 then [] else if bs[a]?.getD 0 = 0 then [a] else a :: placesF bs f (a + optL bs a)
def places (bs : List Int) : List Nat := placesF bs (bs.length + 1) 0
theorem optL_le (bs : List Int) (a : Nat) : optL bs a = 0 ∨ (a + optL bs a ≤ bs.length ∧ a < bs.length) := by
  unfold optL
  split
  · exact .inl rfl
  · split
    · exact .inr ⟨by omega, by omega⟩
    · split
      · exact .inl rfl
      · split
        · exact .inl rfl
        · split
          · exact .inl rfl
          · exact .inr ⟨by omega, by omega⟩
theorem placesF_mem (bs : List Int) : ∀ (f a p : Nat), p ∈ placesF bs f a → 0 < optL bs p
  | 0, a, p, h => by simp [placesF] at h
  | f + 1, a, p, h => by
    unfold placesF at h
    split at h
    · simp at h
    · rename_i h0
      split at h
      · simp at h; subst h; omega
      · rcases List.mem_cons.1 h with h | h
        · subst h; omega
        · exact placesF_mem bs f _ p h
theorem places_lt {bs : List Int} {p : Nat} (h : p ∈ places bs) : p + optL bs p ≤ bs.length ∧ 0 < optL bs p ∧ p < bs.length := by
  have h1 := placesF_mem bs _ _ p h
  rcases optL_le bs p with h2 | h2
  · omega
  · exact ⟨h2.1, h1, h2.2⟩
theorem placesF_length (bs : List Int) : ∀ (f a : Nat), (placesF bs f a).length ≤ f
  | 0, a => by simp [placesF]
  | f + 1, a => by
    unfold placesF
    split
    · simp
    · split
      · simp
      · have := placesF_length bs f (a + optL bs a); simp; omega

/-- What the iterator hands on. -/
def optE (b off : Nat) (bs : List Int) : List (Array Value) := (places bs).map fun (a : Nat) => #[.int .i64 (a : Int), .slice (some ⟨b, off + a, none⟩) (optL bs a) (optL bs a)]
theorem optE_length (b off : Nat) (bs : List Int) : (optE b off bs).length = (places bs).length := by simp [optE]

set_option maxHeartbeats 400000 in
theorem Options_call (A : Option Addr) (n c : Nat) (w : World) :
    Calls Try.prog 87 #[.slice A n c] w fun e w' => e = .returned (.func (.func 112) #[] #[.pointer (some ⟨w.heap.size, 0, none⟩)]) ∧ w.alloc (.cells #[.slice A n c] 24) = w' := by
  go_enter Try.func87, Try.ntmps87
  go_wp2
  go_ret
  exact ⟨rfl, rfl⟩

set_option maxRecDepth 100000 in
set_option maxHeartbeats 4000000 in
theorem Options_seq (Bs n c b off : Nat) (A : Option Addr) (bs : List Int) (own : Nat → Prop) (w : World) (hx : Boxed w Bs 24 (.slice A n c)) (h : RB w A n c bs) (hA : 0 < n → A = some ⟨b, off, none⟩) (hn : n ≤ 100000) (ho : ¬ own Bs)
    (hoA : 0 < n → ¬ own b) : SeqIs Try.prog 112 #[.pointer (some ⟨Bs, 0, none⟩)] (optE b off bs) own w := by
  intro l J Jx W hW hJ hJx hY h0
  have hB0 := hx.lt
  have hlen := h.len
  have hcB := (hW.cell (p := ⟨Bs, 0, none⟩) hx.lt).trans hx.cell
  clear hx
  refine callsIn_of_wp Try.func112 rfl trivial ?_ rfl
  simp only [Try.ntmps112, List.size_toArray, List.length_cons, List.length_nil, Nat.reduceAdd, Nat.reduceSub, Array.replicate_succ, Array.replicate_zero, List.push_toArray, List.append_toArray, List.nil_append, List.cons_append]
  gi_wp2
  refine wpIn_scope_straight ?_
  gi_wp2
  refine wpIn_label ?_
  gi_wp2
  gi_loopw [3, 4, 5] (fun i u v wr => ∃ (a f : Nat) (pre : List Nat), places bs = pre ++ placesF bs f a ∧ a ≤ n ∧ n < a + f ∧ i = .int .i64 (a : Int) ∧ J pre.length wr ∧ KeepX own w.heap.size W wr) (fun i _ _ _ => n + 2 - (intOf i).toNat)
  case atStart => exact ⟨0, bs.length + 1, [], rfl, by omega, by omega, rfl, h0, KeepX.refl _ _ _⟩
  case round =>
    obtain ⟨a, f, pre, hpl, han, hf, rfl, hJk, hkp⟩ := hrel
    obtain ⟨f, rfl⟩ : ∃ g, f = g + 1 := ⟨f - 1, by omega⟩
    have hcBr : wr.cell? ⟨Bs, 0, none⟩ = some (.slice A n c) := (hkp.cell (p := ⟨Bs, 0, none⟩) hB0 ho).trans hcB
    clear hcB
    by_cases hlt : a < n
    · obtain ⟨b', off', e', hlb, hc⟩ := h.mem (by omega)
      rw [hA (by omega)] at e'
      cases e'
      have hAA := hA (by omega)
      subst hAA
      have hc' : ∀ j, j < n → wr.cell? ⟨b, off + j, none⟩ = some (.int .u8 (bs[j]?.getD 0)) := fun j hj =>
        ((hkp.cell (p := ⟨b, off + j, none⟩) hlb (hoA (by omega))).trans (hW.cell (p := ⟨b, off + j, none⟩) hlb)).trans (hc j hj)
      clear hc
      have hnc := h.nc
      have hcm : c ≤ 9223372036854775807 := by have := h.cm; unfold maxLen at this; omega
      have hc0 := hc' a hlt
      have hb0 := h.byt.get a
      have hb1 := h.byt.get (a + 1)
      have hop : optL bs a = if bs[a]?.getD 0 ≤ 1 then 1 else if n ≤ a + 1 then 0 else if bs[a + 1]?.getD 0 < 2 then 0 else if (n : Int) - a < bs[a + 1]?.getD 0 then 0 else (bs[a + 1]?.getD 0).toNat := by
        unfold optL; rw [hlen, if_neg (by omega)]
      have hpF := show placesF bs (f + 1) a = if optL bs a = 0 then [] else if bs[a]?.getD 0 = 0 then [a] else a :: placesF bs f (a + optL bs a) from rfl
      have hes : ∀ r, placesF bs (f + 1) a = a :: r → (optE b off bs)[pre.length]? = some #[.int .i64 (a : Int), .slice (some ⟨b, off + a, none⟩) (optL bs a) (optL bs a)] := fun r hr => by
        unfold optE
        rw [hpl, hr, List.getElem?_map, List.getElem?_append_right (Nat.le_refl _)]
        simp
      have hela := fun hnil : placesF bs (f + 1) a = [] => show (optE b off bs).length = pre.length by rw [optE_length, hpl, hnil]; simp
      have hel1 := fun hone : placesF bs (f + 1) a = [a] => show (optE b off bs).length = pre.length + 1 by rw [optE_length, hpl, hone]; simp
      have hle1 := fun r (hr : placesF bs (f + 1) a = a :: r) => show pre.length + 1 ≤ (optE b off bs).length by rw [optE_length, hpl, hr]; simp
      have hnx := fun r (hr : placesF bs (f + 1) a = a :: r) => show places bs = (pre ++ [a]) ++ r by rw [hpl, hr]; simp
      generalize bs[a]?.getD 0 = x at *
      by_cases x0 : x = 0
      · subst x0
        have h1 : optL bs a = 1 := by rw [hop, if_pos (by omega)]
        have hone : placesF bs (f + 1) a = [a] := by rw [hpF, h1]; simp
        have hE := hes _ hone
        have hel := hel1 hone
        have hle := hle1 _ hone
        rw [h1] at hE
        obtain ⟨fn, tmps, assign, body, hy, hR⟩ := hY _ _ wr hE hJk
        replace hel := Lib.hid hel
        replace hle := Lib.hid hle
        clear hes hela hel1 hle1 hnx hop hpF hc' hE hY
        gi_wp2
        refine ⟨rfl, hR.mono ?_⟩
        rintro e W3 (⟨rfl, hJ3, hk3⟩ | ⟨rfl, hJx3⟩)
        · gi_wp2
          (first | go_end0 | (rw [Exit.noGoto_normal]; go_end0))
          refine ⟨⟨_, rfl⟩, .inl ?_⟩
          rw [hel.out]; exact hJ3
        · gi_wp2
          (first | go_end0 | (rw [Exit.noGoto_normal]; go_end0))
          exact ⟨⟨_, rfl⟩, .inr ⟨_, hle.out, hJx3⟩⟩
      · have x0' : ¬ (x : Int) = 0 := x0
        by_cases x1 : x = 1
        · subst x1
          have h1 : optL bs a = 1 := by rw [hop, if_pos (by omega)]
          have hcons : placesF bs (f + 1) a = a :: placesF bs f (a + 1) := by rw [hpF, h1]; simp
          have hE := hes _ hcons
          have hle := hle1 _ hcons
          have hnx2 := Lib.hid (hnx _ hcons)
          rw [h1] at hE
          obtain ⟨fn, tmps, assign, body, hy, hR⟩ := hY _ _ wr hE hJk
          replace hle := Lib.hid hle
          clear hes hela hel1 hle1 hnx hop hpF hc' hE hY
          gi_wp2
          refine ⟨rfl, hR.mono ?_⟩
          rintro e W3 (⟨rfl, hJ3, hk3⟩ | ⟨rfl, hJx3⟩)
          · gi_wp2
            go_roundw
            case rel => exact ⟨a + 1, f, pre ++ [a], hnx2.out, by omega, by omega, by go_num, by simpa using hJ3, hkp.trans hk3⟩
            case measure => simp [intOf]; omega
          · gi_wp2
            (first | go_end0 | (rw [Exit.noGoto_normal]; go_end0))
            exact ⟨⟨_, rfl⟩, .inr ⟨_, hle.out, hJx3⟩⟩
        · by_cases hend : n ≤ a + 1
          · have hn1 : n = a + 1 := by omega
            have hn2 : (n : Int) = (a : Int) + 1 := by omega
            have h1 : optL bs a = 0 := by rw [hop, if_neg (by omega), if_pos (by omega)]
            have hel := Lib.hid (hela (by rw [hpF, h1]; simp))
            clear hes hela hel1 hle1 hnx hop hpF hc' hY
            subst hn1
            gi_wp2
            (first | go_end0 | (rw [Exit.noGoto_normal]; go_end0))
            refine ⟨⟨_, rfl⟩, .inl ?_⟩
            rw [hel.out]
            exact hJk
          · have hc1 := hc' (a + 1) (by omega)
            have hne : ((a : Int) + 1 == (n : Int)) = false := by simp; omega
            generalize bs[a + 1]?.getD 0 = y at *
            by_cases y2 : y < 2
            · have h1 : optL bs a = 0 := by rw [hop, if_neg (by omega), if_neg (by omega), if_pos y2]
              have hel := Lib.hid (hela (by rw [hpF, h1]; simp))
              clear hes hela hel1 hle1 hnx hop hpF hc' hY
              gi_wp2
              (first | go_end0 | (rw [Exit.noGoto_normal]; go_end0))
              refine ⟨⟨_, rfl⟩, .inl ?_⟩
              rw [hel.out]
              exact hJk
            · by_cases y3 : (n : Int) - a < y
              · have h1 : optL bs a = 0 := by rw [hop, if_neg (by omega), if_neg (by omega), if_neg y2, if_pos y3]
                have hel := Lib.hid (hela (by rw [hpF, h1]; simp))
                clear hes hela hel1 hle1 hnx hop hpF hc' hY
                gi_wp2
                (first | go_end0 | (rw [Exit.noGoto_normal]; go_end0))
                refine ⟨⟨_, rfl⟩, .inl ?_⟩
                rw [hel.out]
                exact hJk
              · have h1 : optL bs a = y.toNat := by rw [hop, if_neg (by omega), if_neg (by omega), if_neg y2, if_neg y3]
                obtain ⟨s, rfl⟩ := Int.eq_ofNat_of_zero_le (show 0 ≤ y by omega)
                rw [Int.toNat_natCast] at h1
                have hcons : placesF bs (f + 1) a = a :: placesF bs f (a + s) := by rw [hpF, h1, if_neg (by omega), if_neg x0]
                have hE := hes _ hcons
                have hle := hle1 _ hcons
                have hnx2 := Lib.hid (hnx _ hcons)
                rw [h1] at hE
                obtain ⟨fn, tmps, assign, body, hy, hR⟩ := hY _ _ wr hE hJk
                replace hle := Lib.hid hle
                clear hes hela hel1 hle1 hnx hop hpF hc' hE hY
                gi_wp2
                refine ⟨rfl, hR.mono ?_⟩
                rintro e W3 (⟨rfl, hJ3, hk3⟩ | ⟨rfl, hJx3⟩)
                · gi_wp2
                  go_roundw
                  case rel => exact ⟨a + s, f, pre ++ [a], hnx2.out, by omega, by omega, by go_num, by simpa using hJ3, hkp.trans hk3⟩
                  case measure => simp [intOf]; omega
                · gi_wp2
                  (first | go_end0 | (rw [Exit.noGoto_normal]; go_end0))
                  exact ⟨⟨_, rfl⟩, .inr ⟨_, hle.out, hJx3⟩⟩
    · have hfin : a = n := by omega
      subst hfin
      have h1 : optL bs a = 0 := by unfold optL; rw [if_pos (by omega)]
      have hel := Lib.hid (show (optE b off bs).length = pre.length by rw [optE_length, hpl]; unfold placesF; rw [if_pos h1]; simp)
      clear h
      gi_wp2
      (first | go_end0 | (rw [Exit.noGoto_normal]; go_end0))
      refine ⟨⟨_, rfl⟩, .inl ?_⟩
      rw [hel.out]
      exact hJk
end Go.Proofs.Ytehecefapiblpaa
