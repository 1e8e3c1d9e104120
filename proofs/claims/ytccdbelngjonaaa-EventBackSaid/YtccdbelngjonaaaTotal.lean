/- The sum of the words of parts: walks, in the program and in the reference. -/
import Derived.Test.YtccdbelngjonaaaWords
import Derived.Test.YtccdbelngjonaaaFold
set_option linter.unusedVariables false
namespace Go.Proofs.Ytccdbelngjonaaa
open Go.RowKit Go.Shelf
attribute [local go_sem] Oper.semAt_some

/-- The first k words together. -/
def sumW (bs : List Int) : Nat → Int
  | 0 => 0
  | k + 1 => sumW bs k + wordI bs (2 * k)
/-- The words of bytes together. -/
def sumB (bs : List Int) : Int := sumW bs ((bs.length + 1) / 2)
/-- The words of the first k parts together. -/
def sumP (l : List (List Int)) : Nat → Int
  | 0 => 0
  | k + 1 => sumP l k + sumB (l[k]?.getD [])
def totalI (l : List (List Int)) : Int := sumP l l.length
theorem sumW_bd {bs : List Int} (h : Byts bs) (k : Nat) : 0 ≤ sumW bs k ∧ sumW bs k ≤ 65535 * k := by
  induction k with
  | zero => simp [sumW]
  | succ k ih => have := wordI_bd h (2 * k); simp only [sumW]; omega
theorem sumB_bd {bs : List Int} (h : Byts bs) (hn : bs.length ≤ 100000) : 0 ≤ sumB bs ∧ sumB bs ≤ 3300000000 := by
  have := sumW_bd h ((bs.length + 1) / 2)
  unfold sumB; omega

theorem sumP_bd {l : List (List Int)} (h : Small l) (k : Nat) : 0 ≤ sumP l k ∧ sumP l k ≤ 3300000000 * k := by
  induction k with
  | zero => simp [sumP]
  | succ k ih => have := sumB_bd (h.get k).2 (h.get k).1; simp only [sumP]; omega

set_option maxRecDepth 100000 in
set_option maxHeartbeats 1000000 in
theorem total_any (A : Option Addr) (n c : Nat) (l : List (List Int)) (w : World) (h : RBB w A n c l) (hs : Small l) :
    Calls Try.prog 112 #[.slice A n c] w fun e w' => e = .returned (.int .i64 (totalI l)) ∧ Below w.heap.size w w' := by
  refine (callsIn_wide (n := 0)).1 ?_
  refine callsIn_of_wp_marks Try.func112 rfl trivial ?_ rfl
  simp only [Try.ntmps112, List.size_toArray, List.length_cons, List.length_nil, Nat.reduceAdd, Nat.reduceSub, Array.replicate_succ, Array.replicate_zero, List.push_toArray, List.append_toArray, List.nil_append, List.cons_append]
  gi_wp2
  refine wpIn_loop (fun a W => ∃ (k : Nat) (u5 u11 u12 u13 u14 u15 u21 : Value) (ds : List Deferred), k ≤ n ∧ Boxed W w.heap.size 3 (.int .i64 (sumP l k)) ∧ Below w.heap.size w W ∧ Marks (w.heap.size + 1) W ds ∧
      a = { tmps := #[.slice A n c, undef, .int .i64 0, .pointer (some ⟨w.heap.size, 0, none⟩), undef, u5, undef, undef, .slice A n c, .int .i64 n, .int .i64 k, u11, u12, u13, u14, u15, undef, undef, undef, undef, undef, u21, undef], defers := ds })
    (fun a _ => n - (intOf (a.tmps.getD 10 undef)).toNat) ?_ ?_
  · exact ⟨0, _, _, _, _, _, _, _, [], Nat.zero_le _, Boxed.new w _ _, (Below.refl _ w).alloc (Nat.le_refl _) _, trivial, rfl⟩
  · rintro a W ⟨k, u5, u11, u12, u13, u14, u15, u21, ds, hk, hbx, hB, hM, rfl⟩
    have hbd := sumP_bd hs k
    have hn : n ≤ 100000 := by have := h.len; have := hs.1; omega
    by_cases hlt : k < n
    · obtain ⟨b, off, rfl, hb, hc⟩ := h.mem (by omega)
      obtain ⟨A', n', c', hcell0, hrb0⟩ := hc k hlt
      have hcell := (hB.cell (p := ⟨b, off + k, none⟩) hb).trans hcell0
      have hrb := hrb0.below hB
      have hoA : 0 < n' → ∀ b off, A' = some ⟨b, off, none⟩ → ¬ b = w.heap.size := by
        rintro hn' b' off' rfl rfl
        obtain ⟨_, _, e, hlt', _⟩ := hrb0.mem hn'
        cases e; omega
      clear hc hcell0
      gi_wp2_with (refine ⟨trivial, rfl, (callsIn_wide.2 (Words_call _ _ _ _)).mono ?_⟩; rintro e w' ⟨rfl, rfl⟩)
      obtain ⟨Ws, hWs⟩ : ∃ Ws, W.alloc (.cells #[.slice A' n' c'] 22) = Ws := ⟨_, rfl⟩
      rw [hWs]
      have hsz : Ws.heap.size = W.heap.size + 1 := by rw [← hWs]; simp
      have hbx1 : Boxed Ws w.heap.size 3 (.int .i64 (sumP l k)) := by rw [← hWs]; exact hbx.alloc _
      have hit : Boxed Ws W.heap.size 22 (.slice A' n' c') := by rw [← hWs]; exact Boxed.new _ _ _
      have hrb1 : RB Ws A' n' c' (l[k]?.getD []) := by rw [← hWs]; exact hrb.alloc _
      have hB1 : Below w.heap.size w Ws := by rw [← hWs]; exact hB.alloc hB.size _
      have hM1 : Marks (w.heap.size + 1) Ws ds := by rw [← hWs]; exact hM.keep fun d hd D e => Below.heap_alloc _ _ _ (hM.lt d hd D e).2
      have hltB := hbx.lt
      clear hWs
      have hrl := hrb.len
      have hsm := hs.get k
      refine range_k (gf := 116) (lb := #[.pointer (some ⟨W.heap.size, 0, none⟩)]) rfl (enters_of Try.func116 (by kernel_rfl) rfl) (own := (· = w.heap.size)) (by rintro k rfl; omega)
        (Words_seq W.heap.size n' c' A' _ _ Ws hit hrb1 (by omega) (by omega) hoA) ?hps
        (fun i W' => Boxed W' w.heap.size 3 (.int .i64 (sumP l k + sumW (l[k]?.getD []) i))) (fun _ _ _ => False) (fun i A B h hg => hg.boxed h) (fun _ _ _ _ h _ => h) (by simpa [sumW] using hbx1) ?round ?done ?stop
      case hps =>
        intro e he
        obtain ⟨i, hi⟩ := List.getElem?_of_mem he
        rw [(wordsE_inv _ _ _ _ hi).2]; rfl
      case round =>
        rintro l' i e W' he hi hk hs'
        obtain ⟨h1, rfl⟩ := wordsE_inv _ _ _ _ he
        have hc0 := hi.cell
        have hf0 := hi.frozen
        gi_wp2
        refine ⟨Below.refl _ _, fun W₂ hg hs2 => ?_⟩
        replace hi := hg.boxed hi
        have hc0 := hi.cell
        have hf0 := hi.frozen
        have hbd1 := wordI_bd hsm.2 (2 * i)
        have hbd2 := sumW_bd hsm.2 i
        gi_wp2
        refine ⟨(KeepX.refl _ _ _).setCell (p := ⟨w.heap.size, 0, none⟩) (.inl (by simp)) _, ?_⟩
        dsimp only
        rw [show sumP l k + sumW (l[k]?.getD []) (i + 1) = sumP l k + sumW (l[k]?.getD []) i + wordI (l[k]?.getD []) (2 * i) from by simp only [sumW]; omega]
        exact hi.set _
      case done =>
        intro W' hi hk' hd
        gi_wp2
        refine ⟨⟨k + 1, _, _, _, _, _, _, _, _, by omega, ?_, ?_, ?_, by go_num⟩, by simp [intOf]; omega⟩
        · rw [wordsE_length] at hi
          simp only [sumP]; unfold sumB; rw [hrl]; exact hi
        · exact ⟨hk'.os.trans hB1.os, hk'.tape.trans hB1.tape, hk'.output.trans hB1.output, Nat.le_trans hB1.size hk'.size, fun j hj => (hk'.keep j (by have := hB1.size; omega) (by omega)).trans (hB1.block j hj)⟩
        · refine ⟨_, rfl, by omega, hd, fun d hd D e => by have := (hM1.lt d hd D e).2; omega, hM1.keep fun d hd D e => ?_⟩
          have := hM1.lt d hd D e
          exact hk'.keep D (by omega) (by omega)
      case stop => exact fun c i W _ h => h.elim
    · have hc0 := hbx.cell
      have hf0 := hbx.frozen
      obtain rfl : k = n := by omega
      gi_wp2
      refine leave_marks hM fun W' hg => ?_
      refine ⟨_, results_tmp rfl _ _ _, ?_, hg.below (by omega) hB (Nat.le_refl _)⟩
      rw [show totalI l = sumP l k from by unfold totalI; rw [h.len]]
      rfl
end Go.Proofs.Ytccdbelngjonaaa
