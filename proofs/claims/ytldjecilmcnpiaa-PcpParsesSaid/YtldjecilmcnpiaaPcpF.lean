/- Numbers with their sizes (pcp): walks of fit and put. -/
import Derived.Test.YtldjecilmcnpiaaPcp
set_option linter.unusedVariables false
namespace Go.Proofs.Ytldjecilmcnpiaa
open Go Go.RowKit

/-- The slice holds the numbers l, each with its size. -/
structure FR (w : World) (A : Option Addr) (n c : Nat) (l : List (Int × Nat)) : Prop where
  len : l.length = n
  mem : 0 < n → ∃ b off, A = some ⟨b, off, none⟩ ∧ b < w.heap.size ∧ ∀ j, j < n → w.cell? ⟨b, off + j * 2, none⟩ = some (.int .i64 (l[j]?.getD (0, 0)).1) ∧ w.cell? ⟨b, off + j * 2 + 1, none⟩ = some (.int .i64 ((l[j]?.getD (0, 0)).2 : Int))
theorem FR.below {w w' : World} {A : Option Addr} {n c : Nat} {l : List (Int × Nat)} (h : FR w A n c l) (hb : Below w.heap.size w w') : FR w' A n c l :=
  ⟨h.len, fun hn => by
    obtain ⟨b, off, e, hlt, hc⟩ := h.mem hn
    exact ⟨b, off, e, by have := hb.size; omega, fun j hj => ⟨(hb.cell (p := ⟨b, off + j * 2, none⟩) hlt).trans (hc j hj).1, (hb.cell (p := ⟨b, off + j * 2 + 1, none⟩) hlt).trans (hc j hj).2⟩⟩⟩
def flsA : List (Int × Nat) → List Value
  | [] => []
  | p :: l => .int .i64 p.1 :: .int .i64 (p.2 : Int) :: flsA l
theorem flsA_get : ∀ (l : List (Int × Nat)) (j : Nat), j < l.length → (flsA l)[j * 2]? = some (.int .i64 (l[j]?.getD (0, 0)).1) ∧ (flsA l)[j * 2 + 1]? = some (.int .i64 ((l[j]?.getD (0, 0)).2 : Int))
  | [], _, h => absurd h (by simp)
  | p :: l, 0, _ => ⟨rfl, rfl⟩
  | p :: l, j + 1, h => by
    have := flsA_get l j (by simpa using h)
    rw [show (j + 1) * 2 = j * 2 + 1 + 1 by omega]
    simpa [flsA] using this
theorem FR.lit (w : World) (T : TypeId) (l : List (Int × Nat)) : FR (w.alloc (.cells (flsA l).toArray T)) (some ⟨w.heap.size, 0, none⟩) l.length l.length l :=
  ⟨rfl, fun hn => ⟨w.heap.size, 0, rfl, by simp, fun j hj => by
    obtain ⟨h1, h2⟩ := flsA_get l j hj
    rw [World.cell?_alloc_at _ _ _ _ rfl, World.cell?_alloc_at _ _ _ _ rfl, Nat.zero_add, List.getElem?_toArray, List.getElem?_toArray]
    exact ⟨h1, h2⟩⟩⟩
theorem FR.blk {W : World} {g : Nat} {T : TypeId} {l : List (Int × Nat)} (h : Blk W g (flsA l).toArray T) : FR W (some ⟨g, 0, none⟩) l.length l.length l :=
  ⟨rfl, fun hn => ⟨g, 0, rfl, h.lt, fun j hj => by
    obtain ⟨h1, h2⟩ := flsA_get l j hj
    rw [Nat.zero_add]
    exact ⟨h.cell _ _ (by rw [List.getElem?_toArray]; exact h1), h.cell _ _ (by rw [List.getElem?_toArray]; exact h2)⟩⟩⟩
theorem FR.at_ (w : World) (T : TypeId) (l : List (Int × Nat)) (g : Nat) (hg : g = w.heap.size) : FR (w.alloc (.cells (flsA l).toArray T)) (some ⟨g, 0, none⟩) l.length l.length l := by
  subst hg; exact FR.lit w T l
/-- Have all of them so many bytes? -/
def fitL (l : List (Int × Nat)) : Bool := l.all fun p => fitsB p.1 (p.2 : Int)
def putL (l : List (Int × Nat)) : List Int := l.flatMap fun p => digL p.1 p.2
theorem fitL_at {l : List (Int × Nat)} (k : Nat) (hk : k < l.length) (h : fitsB (l[k]?.getD (0, 0)).1 ((l[k]?.getD (0, 0)).2 : Int) = false) : fitL l = false := by
  rw [List.getElem?_eq_getElem hk, Option.getD_some] at h
  unfold fitL
  rw [List.all_eq_false]
  exact ⟨_, List.getElem_mem hk, by rw [h]; decide⟩
theorem fitL_all {l : List (Int × Nat)} (h : ∀ j, j < l.length → fitsB (l[j]?.getD (0, 0)).1 ((l[j]?.getD (0, 0)).2 : Int) = true) : fitL l = true := by
  unfold fitL
  rw [List.all_eq_true]
  intro x hx
  obtain ⟨j, hj⟩ := List.getElem?_of_mem hx
  have := h j (List.getElem?_eq_some_iff.1 hj).1
  rw [hj, Option.getD_some] at this
  exact this
set_option maxHeartbeats 1000000 in
theorem FitOne_any (x s : Int) (w : World) : Calls Try.prog 110 #[.agg #[.int .i64 x, .int .i64 s]] w fun e w' => e = .returned (.bool (!fitsB x s)) ∧ Below w.heap.size w w' := by
  have hF := Lib.hid (fun w => Fits_any x s w)
  generalize fitsB x s = q at *
  go_enter Try.func110, Try.ntmps110
  go_wp2_with (first
    | (go_at_call 64; refine (hF.out _).mono ?_; rintro e w' ⟨rfl, rfl⟩)
    | fail)
  go_ret
  exact ⟨rfl, (Below.refl _ w).alloc (Nat.le_refl _) _⟩
def IdxOut (l : List (Int × Nat)) (w : World) (e : Ending) (w' : World) : Prop := ∃ r : Int, e = .returned (.int .i64 r) ∧ decide (0 ≤ r) = !fitL l ∧ Below w.heap.size w w'
set_option maxHeartbeats 1000000 in
theorem IndexFit_any (A : Option Addr) (n c : Nat) (l : List (Int × Nat)) (w : World) (h : FR w A n c l) (hn : n ≤ 300) :
    Calls Try.prog 136 #[.slice A n c, .func (.func 110) #[] #[]] w (IdxOut l w) := by
  go_enter Try.func136, Try.ntmps136
  go_wp2
  go_loopw [8] (fun i wr => ∃ k : Nat, k ≤ n ∧ i = .int .i64 k ∧ (∀ j, j < k → fitsB (l[j]?.getD (0, 0)).1 ((l[j]?.getD (0, 0)).2 : Int) = true) ∧ Below w.heap.size w wr) (fun i _ => n - (intOf i).toNat)
  case atStart => exact ⟨0, by omega, rfl, fun j hj => by omega, Below.refl _ _⟩
  case round =>
    obtain ⟨k, hk, rfl, hall, hb⟩ := hrel
    by_cases hlt : k < n
    · obtain ⟨b, off, rfl, hbl, hc⟩ := h.mem (by omega)
      have hc0 := (hb.cell (p := ⟨b, off + k * 2, none⟩) hbl).trans (hc k hlt).1
      have hc1 := (hb.cell (p := ⟨b, off + k * 2 + 1, none⟩) hbl).trans (hc k hlt).2
      replace hc := Lib.hid hc
      replace hall := Lib.hid hall
      have hkl : k < l.length := by have := h.len; omega
      have hat := Lib.hid (fun hq => fitL_at k hkl hq)
      replace hkl := Lib.hid hkl
      have hnk : ∀ q, q = fitsB (l[k]?.getD (0, 0)).1 ((l[k]?.getD (0, 0)).2 : Int) → q = true → ∀ j, j < k + 1 → fitsB (l[j]?.getD (0, 0)).1 ((l[j]?.getD (0, 0)).2 : Int) = true := fun q e1 e2 j hj => by
        rcases Nat.lt_or_ge j k with h | h
        · exact hall.out j h
        · obtain rfl : j = k := by omega
          rw [← e1, e2]
      replace hnk := Lib.hid hnk
      clear h
      generalize hel : l[k]?.getD (0, 0) = el at *
      obtain ⟨ea, eb⟩ := el
      replace hel := Lib.hid hel
      dsimp only at *
      have hF := Lib.hid (fun w => FitOne_any ea (eb : Int) w)
      generalize fitsB ea (eb : Int) = q at *
      cases q
      · go_wp2_with (first
          | (go_at_call 110; refine (hF.out _).mono ?_; rintro e w2 ⟨rfl, hB2⟩)
          | fail)
        go_ret
        exact ⟨k, rfl, by rw [hat.out (by first | rfl | trivial)]; simp, hb.trans (hB2.mono hb.size)⟩
      · go_wp2_with (first
          | (go_at_call 110; refine (hF.out _).mono ?_; rintro e w2 ⟨rfl, hB2⟩)
          | fail)
        go_roundw
        case rel => exact ⟨k + 1, by omega, by go_num, hnk.out _ rfl rfl, hb.trans (hB2.mono hb.size)⟩
        case measure => simp [intOf]; omega
    · obtain rfl : k = n := by omega
      have hN := Lib.hid (fitL_all (l := l) (fun j hj => hall j (by rw [h.len] at hj; exact hj)))
      clear h hall
      go_wp2
      go_ret
      exact ⟨-1, rfl, by rw [hN.out]; decide, hb⟩
set_option maxHeartbeats 1000000 in
theorem ContainsFit_any (A : Option Addr) (n c : Nat) (l : List (Int × Nat)) (w : World) (h : FR w A n c l) (hn : n ≤ 300) :
    Calls Try.prog 109 #[.slice A n c, .func (.func 110) #[] #[]] w fun e w' => e = .returned (.bool (!fitL l)) ∧ Below w.heap.size w w' := by
  have hI := Lib.hid (IndexFit_any A n c l w h hn)
  clear h
  go_enter Try.func109, Try.ntmps109
  go_wp2_with fail
  refine hI.out.mono ?_
  rintro e w1 ⟨r, rfl, hr, hb⟩
  replace hr := Lib.hid hr
  go_wp2
  go_ret
  exact ⟨ret_bool hr.out, hb⟩
set_option maxHeartbeats 1000000 in
theorem FitL_any (A : Option Addr) (n c : Nat) (l : List (Int × Nat)) (w : World) (h : FR w A n c l) (hn : n ≤ 300) :
    Calls Try.prog 82 #[.slice A n c] w fun e w' => e = .returned (.bool (fitL l)) ∧ Below w.heap.size w w' := by
  have hI := Lib.hid (ContainsFit_any A n c l w h hn)
  clear h
  generalize fitL l = q at *
  go_enter Try.func82, Try.ntmps82
  go_wp2_with fail
  refine hI.out.mono ?_
  rintro e w1 ⟨rfl, hb⟩
  go_wp2
  go_ret
  exact ⟨by cases q <;> rfl, hb⟩

theorem putL_take {l : List (Int × Nat)} {j : Nat} (h : j < l.length) : putL (l.take (j + 1)) = putL (l.take j) ++ digL (l[j]?.getD (0, 0)).1 (l[j]?.getD (0, 0)).2 := by
  unfold putL
  rw [List.take_add_one, List.getElem?_eq_getElem h, List.flatMap_append]
  simp only [Option.toList, List.flatMap_cons, List.flatMap_nil, List.append_nil, Option.getD_some]
theorem putL_len : ∀ (l : List (Int × Nat)), (∀ p ∈ l, fitsP p.1 (p.2 : Int)) → (putL l).length ≤ l.length * 4
  | [], _ => by simp [putL]
  | p :: l, h => by
    have h1 := putL_len l (fun q hq => h q (List.mem_cons_of_mem _ hq))
    have h2 := (h p (List.mem_cons_self ..)).1
    have : putL (p :: l) = digL p.1 p.2 ++ putL l := by simp [putL]
    rw [this, List.length_append, digL_length, List.length_cons]
    omega
set_option maxRecDepth 100000 in
set_option maxHeartbeats 1000000 in
theorem PutL_any (A : Option Addr) (n c : Nat) (bs : List Int) (A' : Option Addr) (m c' : Nat) (l : List (Int × Nat)) (w : World) (h : RB w A n c bs) (hf : FR w A' m c' l) (hn : n ≤ 1000) (hm : m ≤ 100) (h0 : 0 < m) (hfit : ∀ p ∈ l, fitsP p.1 (p.2 : Int)) :
    Calls Try.prog 77 #[.slice A n c, .slice A' m c'] w (Fresh w (n + (putL l).length) (bs ++ putL l)) := by
  have hl := h.len
  have hml := hf.len
  obtain ⟨b, off, rfl, hbl, hc⟩ := hf.mem h0
  replace hc := Lib.hid hc
  replace hfit := Lib.hid hfit
  replace h := Lib.hid h
  clear hf
  go_enter Try.func77, Try.ntmps77
  go_wp2
  go_loopw [0, 9] (fun vb i wr => ∃ (k : Nat) (A3 : Option Addr) (n3 c3 : Nat), k ≤ m ∧ i = .int .i64 k ∧ vb = .slice A3 n3 c3 ∧ n3 = n + (putL (l.take k)).length ∧ RB wr A3 n3 c3 (bs ++ putL (l.take k)) ∧ (0 < k → OB wr w.heap.size A3 n3 c3 (bs ++ putL (l.take k))) ∧ Below w.heap.size w wr) (fun _ i _ => m - (intOf i).toNat)
  case atStart => exact ⟨0, A, n, c, by omega, rfl, rfl, by simp [putL], by simpa [putL] using h.out, fun h => absurd h (by omega), Below.refl _ _⟩
  case round =>
    obtain ⟨k, A3, n3, c3, hk, rfl, rfl, hn3, hr3, ho3, hb⟩ := hrel
    have hpl := putL_len (l.take k) (fun p hp => hfit.out p (List.mem_of_mem_take hp))
    rw [List.length_take] at hpl
    by_cases hlt : k < m
    · have hc0 := (hb.cell (p := ⟨b, off + k * 2, none⟩) hbl).trans (hc.out k hlt).1
      have hc1 := (hb.cell (p := ⟨b, off + k * 2 + 1, none⟩) hbl).trans (hc.out k hlt).2
      have htk := putL_take (l := l) (j := k) (by omega)
      have hft := hfit.out (l[k]?.getD (0, 0)) (by rw [List.getElem?_eq_getElem (by omega)]; exact List.getElem_mem _)
      have hnl : n3 ≤ 100000 := by omega
      generalize l[k]?.getD (0, 0) = el at *
      obtain ⟨ea, eb⟩ := el
      dsimp only at *
      have hP := Lib.hid (Put_yes A3 n3 c3 (bs ++ putL (l.take k)) ea eb _ (hr3.alloc (.cells #[.int .i64 ea, .int .i64 (eb : Int)] 116)) hnl hft)
      have hba := Lib.hid (hb.alloc hb.size (.cells #[.int .i64 ea, .int .i64 (eb : Int)] 116))
      have hnx := Lib.hid (show n3 + eb = n + (putL (l.take (k + 1))).length by rw [htk, List.length_append, digL_length]; omega)
      replace htk := Lib.hid htk
      clear hr3 ho3 hn3 hpl hft
      go_wp2_with (first
        | (go_at_call 72; refine (hP.out).mono ?_; rintro e w2 ⟨A4, c4, rfl, ho4, hB4⟩; replace ho4 := Lib.hid ho4; replace hB4 := Lib.hid hB4)
        | fail)
      have hb5 := hba.out.trans (hB4.out.mono hba.out.size)
      have ho5 := ho4.out.mono (base' := w.heap.size) hba.out.size
      rw [List.append_assoc, ← htk.out] at ho5
      go_roundw
      case rel => exact ⟨k + 1, A4, n3 + eb, c4, by omega, by go_num, rfl, hnx.out, ho5.rb, fun _ => ho5, hb5⟩
      case measure => simp [intOf]; omega
    · obtain rfl : k = m := by omega
      rw [List.take_of_length_le (by omega)] at hn3 hr3 ho3
      have ho := ho3 h0
      subst hn3
      clear hr3 ho3 hpl
      replace ho := Lib.hid ho
      go_wp2
      go_ret
      exact ⟨A3, c3, rfl, ho.out, hb⟩
end Go.Proofs.Ytldjecilmcnpiaa
