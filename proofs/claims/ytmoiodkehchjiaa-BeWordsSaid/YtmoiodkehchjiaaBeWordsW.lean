/- The law BeWords: its walk. -/
import Derived.Test.YtmoiodkehchjiaaLaw01
import Derived.Test.YtmoiodkehchjiaaWords
set_option linter.unusedVariables false
namespace Go.Proofs.Ytmoiodkehchjiaa
open Go.RowKit Go.Shelf
attribute [local go_sem] Oper.semAt_some

set_option maxHeartbeats 1000000 in
theorem BeWords_big (A : Option Addr) (n c : Nat) (w : World) (hn : 2000 < n) :
    Calls Try.prog 11 #[.slice A n c] w fun e w' => e = .returned (.bool true) ∧ Below w.heap.size w w' := by
  go_enter Try.func11, Try.ntmps11
  go_wp2_with fail
  refine (awake01 _).mono ?_
  rintro e w1 ⟨rfl, hb1⟩
  have hx : Boxed w1 w.heap.size 30 (.slice A n c) := ((Boxed.new w _ _).alloc _).below hb1
  have hr : Boxed w1 (w.heap.size + 1) 4 (.bool false) := by
    have := Boxed.new (w.alloc (.cells #[.slice A n c] 30)) 4 (.bool false)
    rw [World.size_alloc] at this
    exact this.below hb1
  have hB1 : Below w.heap.size w w1 := (((Below.refl _ w).alloc (Nat.le_refl _) _).alloc (by simp) _).trans (hb1.mono (by simp; omega))
  have hcx := hx.cell
  clear hb1 hx
  go_wp2_with fail
  refine (awake01 _).mono ?_
  rintro e w2 ⟨rfl, hb2⟩
  replace hr := hr.below hb2
  have hB2 := hB1.trans (hb2.mono hB1.size)
  have hc2 := hr.cell
  have hf2 := hr.frozen
  have hr2 := hr.set (.bool true)
  have hc3 := hr2.cell
  clear hcx hb2
  go_wp2
  exact bodyPost_ret (v := .bool true) (by simp [results, Try.results11, go_sem, hc3]) rfl ⟨rfl, hB2.setCell (p := ⟨w.heap.size + 1, 0, none⟩) (by simp) _⟩

set_option maxRecDepth 100000 in
set_option maxHeartbeats 1000000 in
theorem BeWords_main (A : Option Addr) (n c : Nat) (bs : List Int) (w : World) (h : RB w A n c bs) (hn : n ≤ 2000) :
    Calls Try.prog 11 #[.slice A n c] w fun e w' => e = .returned (.bool true) ∧ Below w.heap.size w w' := by
  refine (callsIn_wide (n := 0)).1 ?_
  refine callsIn_of_wp_marks Try.func11 rfl trivial ?_ rfl
  simp only [Try.ntmps11, List.size_toArray, List.length_cons, List.length_nil, Nat.reduceAdd, Nat.reduceSub, Array.replicate_succ, Array.replicate_zero, List.push_toArray, List.append_toArray, List.nil_append, List.cons_append]
  gi_wp2_with fail
  refine call_wide ((awake01 _).mono ?_)
  rintro e w1 ⟨rfl, hb1⟩
  have hx : Boxed w1 w.heap.size 30 (.slice A n c) := ((Boxed.new w _ _).alloc _).below hb1
  have hr : Boxed w1 (w.heap.size + 1) 4 (.bool false) := by
    have := Boxed.new (w.alloc (.cells #[.slice A n c] 30)) 4 (.bool false)
    rw [World.size_alloc] at this
    exact this.below hb1
  have hB1 : Below w.heap.size w w1 := (((Below.refl _ w).alloc (Nat.le_refl _) _).alloc (by simp) _).trans (hb1.mono (by simp; omega))
  have hs1 := hr.lt
  have hs0 := hx.lt
  have hcx := hx.cell
  clear hb1
  have h2000 : ¬ (2000 : Int) < n := by omega
  gi_wp2_with fail
  refine call_wide ((Words_call _ _ _ _).mono ?_)
  rintro e w2 ⟨rfl, rfl⟩
  gi_wp2
  obtain ⟨Ws, hWs⟩ : ∃ Ws, (w1.alloc (.cells #[.int .i64 0] 3)).alloc (.cells #[.slice A n c] 30) = Ws := ⟨_, rfl⟩
  rw [hWs]
  have hsz : Ws.heap.size = w1.heap.size + 2 := by rw [← hWs]; simp
  have hbx : Boxed Ws w1.heap.size 3 (.int .i64 0) := by rw [← hWs]; exact (Boxed.new _ _ _).alloc _
  have hit : Boxed Ws (w1.heap.size + 1) 30 (.slice A n c) := by
    rw [← hWs]
    have := Boxed.new (w1.alloc (.cells #[.int .i64 0] 3)) 30 (.slice A n c)
    rwa [World.size_alloc] at this
  replace hx : Boxed Ws w.heap.size 30 (.slice A n c) := by rw [← hWs]; exact (hx.alloc _).alloc _
  replace hr : Boxed Ws (w.heap.size + 1) 4 (.bool false) := by rw [← hWs]; exact (hr.alloc _).alloc _
  have hBs : Below w.heap.size w Ws := by rw [← hWs]; exact (hB1.alloc hB1.size _).alloc (by have := hB1.size; simp; omega) _
  have hrb : RB Ws A n c bs := by rw [← hWs]; exact ((h.below hB1).alloc _).alloc _
  have hoA : 0 < n → ∀ b off, A = some ⟨b, off, none⟩ → ¬ b = w1.heap.size := by
    rintro hn' b' off' rfl rfl
    obtain ⟨_, _, e, hlt', _⟩ := h.mem hn'
    have := hB1.size
    cases e; omega
  have hl := Lib.hid h.len
  replace hsz := Lib.hid hsz
  clear hWs hcx
  refine range_k (gf := 55) (lb := #[.pointer (some ⟨w1.heap.size + 1, 0, none⟩)]) rfl (enters_of Try.func55 (by kernel_rfl) rfl) (own := (· = w1.heap.size)) (by rintro k rfl; have := hsz.out; omega)
    (Words_seq (w1.heap.size + 1) n c A bs _ Ws hit hrb (by omega) (by omega) hoA) ?hps
    (fun i W' => i ≤ 1001 ∧ Boxed W' w1.heap.size 3 (.int .i64 (2 * (i : Int))) ∧ Boxed W' w.heap.size 30 (.slice A n c) ∧ Boxed W' (w.heap.size + 1) 4 (.bool false) ∧ RB W' A n c bs) (fun _ _ _ => False)
    (fun i A B h hg => ⟨h.1, hg.boxed h.2.1, hg.boxed h.2.2.1, hg.boxed h.2.2.2.1, hg.rb h.2.2.2.2⟩) (fun _ _ _ _ h _ => h) ⟨by omega, hbx, hx, hr, hrb⟩ ?round ?done ?stop
  case hps =>
    intro e he
    obtain ⟨i, hi⟩ := List.getElem?_of_mem he
    rw [(wordsE_inv _ _ _ _ hi).2]; rfl
  case round =>
    rintro l' i e W' he hi hk hs'
    obtain ⟨h1, rfl⟩ := wordsE_inv _ _ _ _ he
    gi_wp2
    refine ⟨Below.refl _ _, fun W₂ hg hs2 => ?_⟩
    obtain ⟨hi0, i1, i2, i3, i4⟩ := hi
    replace i1 := hg.boxed i1
    replace i2 := hg.boxed i2
    replace i3 := hg.boxed i3
    replace i4 := hg.rb i4
    have hc1 := i1.cell
    have hf1 := i1.frozen
    have hc2 := i2.cell
    have ht1 : ((2 * (i : Int)) != 2 * (i : Int)) = false := by simp
    have ht2 : decide ((n : Int) ≤ 2 * (i : Int)) = false := by simp; omega
    have hW := Lib.hid (RefWord_at A n c bs (2 * (i : Int)) (2 * i) (by omega) W₂ i4 (by omega) h1)
    clear hs2
    gi_wp2_with fail
    refine call_round l' (hW.out.mono ?_)
    rintro e w3 ⟨rfl, hb3⟩
    replace i1 := i1.below hb3
    replace i2 := i2.below hb3
    replace i3 := i3.below hb3
    replace i4 := i4.below hb3
    have hk3 : KeepX (· = w1.heap.size) (Ws.heap.size + 2) W₂ w3 := KeepX.of_below hb3 (by have := hg.size; omega)
    clear hW hc1 hf1 hc2 ht2 hb3
    have hc1 := i1.cell
    have hf1 := i1.frozen
    gi_wp2
    refine ⟨hk3.setCell (p := ⟨w1.heap.size, 0, none⟩) (.inl (by simp)) _, by omega, ?_, i2.other (by omega) _, i3.other (by omega) _, i4.far i1 (by intro x e; cases e) _⟩
    rw [show 2 * ((i + 1 : Nat) : Int) = 2 * (i : Int) + 2 from by omega]
    exact i1.set _
  case done =>
    intro W' hi hk' hd
    obtain ⟨_, i1, i2, i3, _⟩ := hi
    rw [wordsE_length] at i1
    generalize hm : (n + 1) / 2 = m at *
    have hc1 := i1.cell
    have hc2 := i2.cell
    have g1 : decide ((n : Int) ≤ 2 * (m : Int)) = true := by simp; omega
    have g2 : decide (2 * (m : Int) ≤ (n : Int) + 1) = true := by simp; omega
    have hlr := i3.lt
    clear hm
    gi_wp2_with fail
    refine call_wide ((awake01 _).mono ?_)
    rintro e w4 ⟨rfl, hb4⟩
    replace i3 := i3.below hb4
    have hf3 := i3.frozen
    have hc3 := i3.cell
    have hi3 := i3.set (.bool true)
    have hd4 : w4.heap[Ws.heap.size]? = some (.deferred (some [])) := (hb4.block _ (Array.getElem?_eq_some_iff.1 hd).1).trans hd
    gi_wp2
    have hd5 : (w4.setCell ⟨w.heap.size + 1, 0, none⟩ (.bool true)).heap[Ws.heap.size]? = some (.deferred (some [])) := (Below.heap_setCell _ _ _ _ (by simp; have := hsz.out; omega)).trans hd4
    refine leave_marks (N := w.heap.size) ⟨Ws.heap.size, rfl, by have := hsz.out; omega, hd5, by simp, trivial⟩ fun W3 hg => ?_
    have hc5 := hg.cell hi3.cell
    refine ⟨.bool true, by simp [results, Try.f11, go_sem, hc5], rfl, hg.below (Nat.le_refl _) ?_ (Nat.le_refl _)⟩
    have hB4 : Below w.heap.size w w4 := by
      refine Below.trans ⟨hk'.os.trans hBs.os, hk'.tape.trans hBs.tape, hk'.output.trans hBs.output, Nat.le_trans hBs.size hk'.size, fun j hj => (hk'.keep j (by have := hsz.out; omega) (by omega)).trans (hBs.block j hj)⟩ (hb4.mono ?_)
      have := hk'.size
      have := hsz.out
      omega
    exact hB4.setCell (p := ⟨w.heap.size + 1, 0, none⟩) (by simp) _
  case stop => exact fun c i W _ h => h.elim

theorem BeWords_walk (A : Option Addr) (n c : Nat) (bs : List Int) (w : World) (h : RB w A n c bs) :
    Calls Try.prog 11 #[.slice A n c] w fun e w' => e = .returned (.bool true) ∧ Below w.heap.size w w' := by
  by_cases hn : 2000 < n
  · exact BeWords_big A n c w hn
  · exact BeWords_main A n c bs w h (by omega)
end Go.Proofs.Ytmoiodkehchjiaa
