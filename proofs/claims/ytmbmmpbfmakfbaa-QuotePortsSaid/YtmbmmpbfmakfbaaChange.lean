/- Change of a sum: walks, in the program and in the reference. -/
import Derived.Test.YtmbmmpbfmakfbaaSumRightW
set_option linter.unusedVariables false
namespace Go.Proofs.Ytmbmmpbfmakfbaa
open Go.RowKit Go.Shelf
attribute [local go_sem] Oper.semAt_some

/-- What is folded when bytes come in the place of others. -/
def chgT (s : Int) (old now : List Int) : Int := 65535 - s + sumB now + (65535 * (((old.length + 1) / 2 : Nat) : Int) - sumB old)
def changeI (s : Int) (old now : List Int) : Int := if s < 0 ∨ 65535 < s then 0 else 65535 - foldI (chgT s old now)

set_option maxHeartbeats 400000 in
theorem Change_bad (A A' : Option Addr) (n c n' c' : Nat) (s : Int) (w : World) (h : s < 0 ∨ 65535 < s) :
    Calls Try.prog 69 #[.int .i64 s, .slice A n c, .slice A' n' c'] w fun e w' => e = .returned (.int .i64 0) ∧ w = w' := by
  by_cases h1 : s < 0
  all_goals
    have h2 : ¬ s < 0 → 65535 < s := fun h1 => by omega
    first | (have h3 : 65535 < s := h2 h1) | skip
    clear h h2
    go_enter Try.func69, Try.ntmps69
    go_wp2
    go_ret
    exact ⟨rfl, rfl⟩

set_option maxHeartbeats 400000 in
theorem RefChange_bad (A A' : Option Addr) (n c n' c' : Nat) (s : Int) (w : World) (h : s < 0 ∨ 65535 < s) :
    Calls Try.prog 64 #[.int .i64 s, .slice A n c, .slice A' n' c'] w fun e w' => e = .returned (.int .i64 0) ∧ w = w' := by
  by_cases h1 : s < 0
  all_goals
    have h2 : ¬ s < 0 → 65535 < s := fun h1 => by omega
    first | (have h3 : 65535 < s := h2 h1) | skip
    clear h h2
    go_enter Try.func64, Try.ntmps64
    go_wp2
    go_ret
    exact ⟨rfl, rfl⟩

set_option maxRecDepth 100000 in
set_option maxHeartbeats 1000000 in
theorem Change_ok (A A' : Option Addr) (n c n' c' : Nat) (old now : List Int) (s : Int) (w : World) (h : RB w A n c old) (h' : RB w A' n' c' now) (hn : n ≤ 100000) (hn' : n' ≤ 100000) (s0 : 0 ≤ s) (s1 : s ≤ 65535) :
    Calls Try.prog 69 #[.int .i64 s, .slice A n c, .slice A' n' c'] w fun e w' => e = .returned (.int .i64 (65535 - foldI (chgT s old now))) ∧ Below w.heap.size w w' := by
  have hl := h.len
  have hl' := h'.len
  have hT := total_any _ _ _ [now] _ (rbb_one h') (small_one h'.byt (by omega))
  rw [totalI_cons, totalI_nil, Int.add_zero] at hT
  have hb0 := sumB_bd h'.byt (by omega)
  replace hT := Lib.hid hT
  replace hl := Lib.hid hl
  clear hl'
  refine (callsIn_wide (n := 0)).1 ?_
  refine callsIn_of_wp_marks Try.func69 rfl trivial ?_ rfl
  simp only [Try.ntmps69, List.size_toArray, List.length_cons, List.length_nil, Nat.reduceAdd, Nat.reduceSub, Array.replicate_succ, Array.replicate_zero, List.push_toArray, List.append_toArray, List.nil_append, List.cons_append]
  gi_wp2_with fail
  refine call_wide (hT.out.mono ?_)
  rintro e w1 ⟨rfl, hb1⟩
  have hB1 : Below w.heap.size w w1 := ((Below.refl _ w).alloc (Nat.le_refl _) _).trans (hb1.mono (by simp))
  clear hT hb1
  gi_wp2_with fail
  refine call_wide ((Words_call _ _ _ _).mono ?_)
  rintro e w2 ⟨rfl, rfl⟩
  gi_wp2
  obtain ⟨V, hV⟩ : ∃ V, V = 65535 - s + sumB now := ⟨_, rfl⟩
  rw [← hV]
  obtain ⟨Ws, hWs⟩ : ∃ Ws, (w1.alloc (.cells #[.int .i64 V] 3)).alloc (.cells #[.slice A n c] 24) = Ws := ⟨_, rfl⟩
  rw [hWs]
  have hsz : Ws.heap.size = w1.heap.size + 2 := by rw [← hWs]; simp
  have hbx : Boxed Ws w1.heap.size 3 (.int .i64 V) := by rw [← hWs]; exact (Boxed.new _ _ _).alloc _
  have hit : Boxed Ws (w1.heap.size + 1) 24 (.slice A n c) := by
    rw [← hWs]
    have := Boxed.new (w1.alloc (.cells #[.int .i64 V] 3)) 24 (.slice A n c)
    rwa [World.size_alloc] at this
  have hBs : Below w.heap.size w Ws := by rw [← hWs]; exact (hB1.alloc hB1.size _).alloc (by have := hB1.size; simp; omega) _
  have hrb : RB Ws A n c old := by rw [← hWs]; exact ((h.below hB1).alloc _).alloc _
  have hoA : 0 < n → ∀ b off, A = some ⟨b, off, none⟩ → ¬ b = w1.heap.size := by
    rintro hn' b' off' rfl rfl
    obtain ⟨_, _, e, hlt', _⟩ := h.mem hn'
    have := hB1.size
    cases e; omega
  have hwsz := hB1.size
  have hV0 : 0 ≤ V := by omega
  have hV1 : V ≤ 4000000000 := by omega
  have hbo := h.byt
  replace hV := Lib.hid hV
  clear hWs h h' hb0
  refine range_k (gf := 86) (lb := #[.pointer (some ⟨w1.heap.size + 1, 0, none⟩)]) rfl (enters_of Try.func86 (by kernel_rfl) rfl) (own := (· = w1.heap.size)) (by rintro k rfl; omega)
    (Words_seq (w1.heap.size + 1) n c A old _ Ws hit hrb hn (by omega) hoA) ?hps
    (fun i W' => i ≤ 100000 ∧ Boxed W' w1.heap.size 3 (.int .i64 (V + (65535 * (i : Int) - sumW old i)))) (fun _ _ _ => False) (fun i A B h hg => ⟨h.1, hg.boxed h.2⟩) (fun _ _ _ _ h _ => h) ⟨by omega, by simpa [sumW] using hbx⟩ ?round ?done ?stop
  case hps =>
    intro e he
    obtain ⟨i, hi⟩ := List.getElem?_of_mem he
    rw [(wordsE_inv _ _ _ _ hi).2]; rfl
  case round =>
    rintro l' i e W' he hi hk hs'
    obtain ⟨h1, rfl⟩ := wordsE_inv _ _ _ _ he
    gi_wp2
    refine ⟨Below.refl _ _, fun W₂ hg hs2 => ?_⟩
    obtain ⟨hi0, hi⟩ := hi
    replace hi := hg.boxed hi
    have hc0 := hi.cell
    have hf0 := hi.frozen
    have hbd1 := wordI_bd hbo (2 * i)
    have hbd2 := sumW_bd hbo i
    clear hs2
    gi_wp2
    refine ⟨(KeepX.refl _ _ _).setCell (p := ⟨w1.heap.size, 0, none⟩) (.inl (by simp)) _, by omega, ?_⟩
    rw [show V + (65535 * ((i + 1 : Nat) : Int) - sumW old (i + 1)) = V + (65535 * (i : Int) - sumW old i) + (65535 - wordI old (2 * i)) from by simp only [sumW]; omega]
    exact hi.set _
  case done =>
    intro W' hi hk' hd
    obtain ⟨_, hi⟩ := hi
    have hc0 := hi.cell
    rw [wordsE_length] at hc0
    have hbd2 := sumW_bd hbo ((n + 1) / 2)
    have hch : chgT s old now = V + (65535 * (((n + 1) / 2 : Nat) : Int) - sumW old ((n + 1) / 2)) := by
      have e1 : sumB old = sumW old ((n + 1) / 2) := by unfold sumB; rw [hl.out]
      unfold chgT; rw [e1, hl.out, hV.out]
    rw [← hch] at hc0
    have hT0 : chgT s old now ≤ 10000000000000 := by rw [hch]; omega
    clear hi hbd2 hch
    have hlo := foldI_lo (chgT s old now)
    have hhi := foldI_hi (chgT s old now)
    gi_wp2_with fail
    refine call_wide ((Fold_any _ _ (by omega)).mono ?_)
    rintro e w3 ⟨rfl, rfl⟩
    gi_wp2
    refine leave_marks (N := w.heap.size) ⟨_, rfl, by omega, by rw [← hsz]; exact hd, by simp, trivial⟩ fun W3 hg => ?_
    refine ⟨_, results_tmp rfl _ _ _, rfl, hg.below (Nat.le_refl _) ?_ (Nat.le_refl _)⟩
    exact ⟨hk'.os.trans hBs.os, hk'.tape.trans hBs.tape, hk'.output.trans hBs.output, Nat.le_trans hBs.size hk'.size, fun j hj => (hk'.keep j (by omega) (by omega)).trans (hBs.block j hj)⟩
  case stop => exact fun c i W _ h => h.elim
end Go.Proofs.Ytmbmmpbfmakfbaa
