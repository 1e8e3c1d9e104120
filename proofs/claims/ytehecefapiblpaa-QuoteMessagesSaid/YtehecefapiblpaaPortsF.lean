/- Packets between other ends: walks of ports.moved, From, To. -/
import Derived.Test.YtehecefapiblpaaPortsW
import Derived.Test.YtehecefapiblpaaClampK
set_option linter.unusedVariables false
namespace Go.Proofs.Ytehecefapiblpaa
open Go Go.RowKit
attribute [local go_sem] Oper.semAt_some

/-- A packet, in slices of some capacity, and a code. -/
def MovOut (w : World) (q : V4P) (k : Int) (e : Ending) (w' : World) : Prop :=
  ∃ Ao no co A n c, e = .returned (.tuple #[.agg (cells4 q Ao no co A n c), .int .i64 k]) ∧ RB w' Ao no co q.opts ∧ RB w' A n c q.data ∧ Below w.heap.size w w'
theorem MovOut.no {w w' : World} {q : V4P} {k k' : Int} (hk : k = k') (hq : q = zero4) (hb : Below w.heap.size w w') : MovOut w q k (.returned (.tuple #[.agg zero4c, .int .i64 k'])) w' := by
  subst hq; subst hk
  exact ⟨none, 0, 0, none, 0, 0, rfl, RB.nil _, RB.nil _, hb⟩
theorem MovOut.row {w W : World} {q : V4P} {Ao : Option Addr} {no co : Nat} {A : Option Addr} {n c : Nat} {B : Nat} {z : V4P} {q' : V4P} {k : Int} (hq : q' = q) (hk : k = 0) (kz : Blk W B (cells4 z none 0 0 none 0 0) 32) (ho : RB W Ao no co q.opts) (hd : RB W A n c q.data) (hb : Below w.heap.size w W) (hB : w.heap.size ≤ B) :
    MovOut w q' k (.returned (.tuple #[.agg (cells4 q Ao no co A n c), .int .i64 0])) (W.setRow B (cells4 q Ao no co A n c)) := by
  rw [hq, hk]
  exact ⟨Ao, no, co, A, n, c, rfl, ho.farRow (nbc4 kz) _, hd.farRow (nbc4 kz) _, below_row hb hB _⟩
theorem blk_at {w : World} {C : Array Value} {T : TypeId} {N : Nat} (h : w.heap.size = N) : Blk (w.alloc (.cells C T)) N C T := by rw [← h]; exact Blk.new w C T
set_option maxRecDepth 100000 in
set_option maxHeartbeats 4000000 in
theorem Moved_noA (p : V4P) (a b s d : Int) (ao : Option Addr) (no co : Nat) (A : Option Addr) (n c : Nat) (w : World) (hro : RB w ao no co p.opts) (hr : RB w A n c p.data) (hno : no ≤ 100000) (hn : n ≤ 100000) (hc : codeP p ≠ 0) :
    Calls Try.prog 58 #[.agg (cells4 p ao no co A n c), .agg #[.int .i64 a, .int .i64 b], .agg #[.int .i64 s, .int .i64 d]] w (MovOut w (movQ p a b s d) (codeV p a b s d)) := by
  obtain ⟨w0, hw0⟩ : ∃ w0, (((w.alloc (.cells (cells4 p ao no co A n c) 32)).alloc (.cells #[.int .i64 a, .int .i64 b] 99)).alloc (.cells #[.int .i64 s, .int .i64 d] 99)).alloc (.cells zero4c 32) = w0 := ⟨_, rfl⟩
  have hb := Lib.hid (show Below w.heap.size w w0 by rw [← hw0]; exact ((((Below.refl _ w).alloc (Nat.le_refl _) _).alloc (by simp) _).alloc (by simp; omega) _).alloc (by simp; omega) _)
  have kB := Lib.hid (show Blk w0 w.heap.size (cells4 p ao no co A n c) 32 by rw [← hw0]; exact (((blk_at rfl).alloc _).alloc _).alloc _)
  have kE := Lib.hid (show Blk w0 (w.heap.size + 1) #[.int .i64 a, .int .i64 b] 99 by rw [← hw0]; exact ((blk_at (by simp)).alloc _).alloc _)
  have kP := Lib.hid (show Blk w0 (w.heap.size + 1 + 1) #[.int .i64 s, .int .i64 d] 99 by rw [← hw0]; exact (blk_at (by simp)).alloc _)
  have kZ := Lib.hid (show Blk w0 (w.heap.size + 1 + 1 + 1) zero4c 32 by rw [← hw0]; exact blk_at (by simp))
  have hWi := fun W (hW : Below w.heap.size w W) => Within_any p ao no co A n c W (hro.below hW) (hr.below hW) hno hn
  unfold WithinOut at hWi
  have hby := hr.byt
  obtain ⟨t, hmx⟩ : ∃ t, (if s < d then d else s) = t := ⟨_, rfl⟩
  have hmt : max s d = t := by rw [← hmx]; split <;> omega
  replace hro := Lib.hid hro
  replace hr := Lib.hid hr
  replace hw0 := Lib.hid hw0
  have hk := Lib.hid (show codeV p a b s d = codeP p by unfold codeV; rw [if_pos hc])
  have hq := Lib.hid (show movQ p a b s d = zero4 by unfold movQ; rw [hk.out, if_neg hc])
  have hcn : (codeP p != 0) = true := by simpa using hc
  obtain ⟨k, hke⟩ : ∃ k, codeP p = k := ⟨_, rfl⟩
  rw [hke] at hWi hcn hk
  replace hWi := Lib.hid hWi
  clear hc hke hmx hmt
  go_enter Try.func58, Try.ntmps58
  go_upto_region 1 with fail
  rw [hw0.out]
  go_wp2_with (first
    | (refine wpList_load_4 rfl (.tmp 3) rfl w.heap.size rfl _ kB.out rfl ?_)
    | (refine wpList_store_4 rfl (.tmp 6) (.tmp 18) rfl (w.heap.size + 1 + 1 + 1) zero4c rfl rfl _ kZ1.out rfl rfl (one4 zero4 none 0 0 none 0 0) ?_; rw [setRow_self _ _ _ _ _ kZ1.out.at_])
    | (go_at_call 54; refine (hWi.out _ hb.out).mono ?_; rintro e w1 ⟨v, rfl, hpay, hB1⟩; have kZ1 := Lib.hid (kZ.out.to hB1); have hb1 := Lib.hid (hb.out.trans (hB1.mono hb.out.size)); replace hB1 := 0; clear hpay)
    | fail)
  refine bodyPost_ret (results_ct Try.results58 rfl (run_load_4 kZ1.out rfl)) rfl ?_
  exact MovOut.no hk.out hq.out hb1.out
set_option maxRecDepth 100000 in
set_option maxHeartbeats 4000000 in
theorem Moved_noB (p : V4P) (a b s d : Int) (ao : Option Addr) (no co : Nat) (A : Option Addr) (n c : Nat) (w : World) (hro : RB w ao no co p.opts) (hr : RB w A n c p.data) (hno : no ≤ 100000) (hn : n ≤ 100000) (hc : codeP p = 0) (hok : ¬ (rightB a = true ∧ rightB b = true ∧ fitsB (max s d) 2 = true)) :
    Calls Try.prog 58 #[.agg (cells4 p ao no co A n c), .agg #[.int .i64 a, .int .i64 b], .agg #[.int .i64 s, .int .i64 d]] w (MovOut w (movQ p a b s d) (codeV p a b s d)) := by
  obtain ⟨w0, hw0⟩ : ∃ w0, (((w.alloc (.cells (cells4 p ao no co A n c) 32)).alloc (.cells #[.int .i64 a, .int .i64 b] 99)).alloc (.cells #[.int .i64 s, .int .i64 d] 99)).alloc (.cells zero4c 32) = w0 := ⟨_, rfl⟩
  have hb := Lib.hid (show Below w.heap.size w w0 by rw [← hw0]; exact ((((Below.refl _ w).alloc (Nat.le_refl _) _).alloc (by simp) _).alloc (by simp; omega) _).alloc (by simp; omega) _)
  have kB := Lib.hid (show Blk w0 w.heap.size (cells4 p ao no co A n c) 32 by rw [← hw0]; exact (((blk_at rfl).alloc _).alloc _).alloc _)
  have kE := Lib.hid (show Blk w0 (w.heap.size + 1) #[.int .i64 a, .int .i64 b] 99 by rw [← hw0]; exact ((blk_at (by simp)).alloc _).alloc _)
  have kP := Lib.hid (show Blk w0 (w.heap.size + 1 + 1) #[.int .i64 s, .int .i64 d] 99 by rw [← hw0]; exact (blk_at (by simp)).alloc _)
  have kZ := Lib.hid (show Blk w0 (w.heap.size + 1 + 1 + 1) zero4c 32 by rw [← hw0]; exact blk_at (by simp))
  have hWi := fun W (hW : Below w.heap.size w W) => Within_any p ao no co A n c W (hro.below hW) (hr.below hW) hno hn
  unfold WithinOut at hWi
  have hby := hr.byt
  obtain ⟨t, hmx⟩ : ∃ t, (if s < d then d else s) = t := ⟨_, rfl⟩
  have hmt : max s d = t := by rw [← hmx]; split <;> omega
  replace hro := Lib.hid hro
  replace hr := Lib.hid hr
  replace hw0 := Lib.hid hw0
  rw [hc] at hWi
  have hk := Lib.hid (show codeV p a b s d = 1 by unfold codeV; rw [if_neg (by simpa using hc), if_neg hok])
  have hq := Lib.hid (show movQ p a b s d = zero4 by unfold movQ; rw [hk.out, if_neg (by decide)])
  replace hWi := Lib.hid hWi
  have hR1 := fun W => Right4_any W a
  have hR2 := fun W => Right4_any W b
  have hFi := fun W => Fits_any t 2 W
  obtain ⟨ra, hra⟩ : ∃ x, rightB a = x := ⟨_, rfl⟩
  obtain ⟨rb, hrb⟩ : ∃ x, rightB b = x := ⟨_, rfl⟩
  obtain ⟨rf, hrf⟩ : ∃ x, fitsB t 2 = x := ⟨_, rfl⟩
  rw [hmt, hra, hrb, hrf] at hok
  rw [hra] at hR1
  rw [hrb] at hR2
  rw [hrf] at hFi
  replace hR1 := Lib.hid hR1
  replace hR2 := Lib.hid hR2
  replace hFi := Lib.hid hFi
  clear hc hmt hra hrb hrf
  have hcase : ra = false ∨ (ra = true ∧ rb = false) ∨ (ra = true ∧ rb = true ∧ rf = false) := by revert hok; cases ra <;> cases rb <;> cases rf <;> simp
  clear hok
  rcases hcase with rfl | ⟨rfl, rfl⟩ | ⟨rfl, rfl, rfl⟩
  all_goals
    go_enter Try.func58, Try.ntmps58
    go_upto_region 1 with fail
    rw [hw0.out]
    go_wp2_with (first
      | (refine wpList_load_4 rfl (.tmp 3) rfl w.heap.size rfl _ kB.out rfl ?_)
      | (refine wpList_store_4 rfl (.tmp 6) (.tmp 40) rfl (w.heap.size + 1 + 1 + 1) zero4c rfl rfl _ kZ1.out rfl rfl (one4 zero4 none 0 0 none 0 0) ?_; rw [setRow_self _ _ _ _ _ kZ1.out.at_])
      | (go_at_call 54; refine (hWi.out _ hb.out).mono ?_; rintro e w1 ⟨v, rfl, hpay, hB1⟩; have kZ1 := Lib.hid (kZ.out.to hB1); have kE1 := Lib.hid (kE.out.to hB1); have kP1 := Lib.hid (kP.out.to hB1); have hb1 := Lib.hid (hb.out.trans (hB1.mono hb.out.size)); have p0 := kP1.out.cell 0 _ rfl; have p1 := kP1.out.cell 1 _ rfl; have q0 := kE1.out.cell 0 _ rfl; have q1 := kE1.out.cell 1 _ rfl; replace hB1 := 0; clear hpay)
      | (go_at_call_of 65 (Value.int .i64 a); refine (hR1.out _).mono ?_; rintro e w' ⟨rfl, rfl⟩)
      | (go_at_call_of 65 (Value.int .i64 b); refine (hR2.out _).mono ?_; rintro e w' ⟨rfl, rfl⟩)
      | (go_at_call 66; refine (hFi.out _).mono ?_; rintro e w' ⟨rfl, rfl⟩)
      | fail)
    refine bodyPost_ret (results_ct Try.results58 rfl (run_load_4 kZ1.out rfl)) rfl ?_
    exact MovOut.no hk.out hq.out hb1.out
set_option maxRecDepth 100000 in
set_option maxHeartbeats 4000000 in
theorem Moved_17 (p : V4P) (a b s d : Int) (ao : Option Addr) (no co : Nat) (A : Option Addr) (n c : Nat) (w : World) (hro : RB w ao no co p.opts) (hr : RB w A n c p.data) (hno : no ≤ 100000) (hn : n ≤ 100000) (hc : codeP p = 0) (ha : rightB a = true) (hb' : rightB b = true) (hf : fitsB (max s d) 2 = true) (hs : mayS s) (hd : mayS d) (e17 : p.pr = 17) :
    Calls Try.prog 58 #[.agg (cells4 p ao no co A n c), .agg #[.int .i64 a, .int .i64 b], .agg #[.int .i64 s, .int .i64 d]] w (MovOut w (movQ p a b s d) (codeV p a b s d)) := by
  obtain ⟨w0, hw0⟩ : ∃ w0, (((w.alloc (.cells (cells4 p ao no co A n c) 32)).alloc (.cells #[.int .i64 a, .int .i64 b] 99)).alloc (.cells #[.int .i64 s, .int .i64 d] 99)).alloc (.cells zero4c 32) = w0 := ⟨_, rfl⟩
  have hb := Lib.hid (show Below w.heap.size w w0 by rw [← hw0]; exact ((((Below.refl _ w).alloc (Nat.le_refl _) _).alloc (by simp) _).alloc (by simp; omega) _).alloc (by simp; omega) _)
  have kB := Lib.hid (show Blk w0 w.heap.size (cells4 p ao no co A n c) 32 by rw [← hw0]; exact (((blk_at rfl).alloc _).alloc _).alloc _)
  have kE := Lib.hid (show Blk w0 (w.heap.size + 1) #[.int .i64 a, .int .i64 b] 99 by rw [← hw0]; exact ((blk_at (by simp)).alloc _).alloc _)
  have kP := Lib.hid (show Blk w0 (w.heap.size + 1 + 1) #[.int .i64 s, .int .i64 d] 99 by rw [← hw0]; exact (blk_at (by simp)).alloc _)
  have kZ := Lib.hid (show Blk w0 (w.heap.size + 1 + 1 + 1) zero4c 32 by rw [← hw0]; exact blk_at (by simp))
  have hWi := fun W (hW : Below w.heap.size w W) => Within_any p ao no co A n c W (hro.below hW) (hr.below hW) hno hn
  unfold WithinOut at hWi
  have hby := hr.byt
  obtain ⟨t, hmx⟩ : ∃ t, (if s < d then d else s) = t := ⟨_, rfl⟩
  have hmt : max s d = t := by rw [← hmx]; split <;> omega
  replace hro := Lib.hid hro
  replace hr := Lib.hid hr
  replace hw0 := Lib.hid hw0
  rw [hc] at hWi
  have hk := Lib.hid (show codeV p a b s d = 0 by unfold codeV; rw [if_neg (by simpa using hc), if_pos ⟨ha, hb', hf⟩])
  have hq := Lib.hid (show movQ p a b s d = movP p a b s d by unfold movQ; rw [hk.out, if_pos rfl])
  have hln := read_lens hby hc
  rw [hmt] at hf
  have hR1' := Lib.hid (fun W => show Calls Try.prog 65 #[.int .i64 a] W fun e w' => e = .returned (.bool true) ∧ W = w' by have := Right4_any W a; rwa [ha] at this)
  have hR2' := Lib.hid (fun W => show Calls Try.prog 65 #[.int .i64 b] W fun e w' => e = .returned (.bool true) ∧ W = w' by have := Right4_any W b; rwa [hb'] at this)
  have hFi' := Lib.hid (fun W => show Calls Try.prog 66 #[.int .i64 t, .int .i64 2] W fun e w' => e = .returned (.bool true) ∧ W = w' by have := Fits_any t 2 W; rwa [hf] at this)
  clear hmt
  have hW17 : ∀ W (hW : Below w.heap.size w W), Calls Try.prog 54 #[.agg (cells4 p ao no co A n c)] W (fun e w' => ∃ A3 n3 c3, e = .returned (.tuple #[.iface 132 (.agg (cellsU (readU p.src p.dst p.data) A3 n3 c3)), .int .i64 0]) ∧ RB w' A3 n3 c3 (readU p.src p.dst p.data).data ∧ Below W.heap.size W w') := fun W hW => (hWi W hW).mono (fun e w' ⟨v, he, hp, hB⟩ => by
    rcases hp rfl with ⟨_, A3, n3, c3, rfl, hr3⟩ | ⟨h, _⟩ | ⟨h, _⟩
    · exact ⟨A3, n3, c3, he, hr3, hB⟩
    · omega
    · omega)
  obtain ⟨m1, m2⟩ := movB_17 a b hby hc e17 hs hd
  have hBl : ∀ A3 n3 c3 W (h : RB W A3 n3 c3 (readU p.src p.dst p.data).data), Calls Try.prog 140 #[.agg (cellsU (newU (readU p.src p.dst p.data) s d) A3 n3 c3), .int .i64 a, .int .i64 b] W (TwoOut W (movD p a b s d) 0) := fun A3 n3 c3 W h => by
    have := BuildU_any (newU (readU p.src p.dst p.data) s d) a b A3 n3 c3 W h
    rw [← h.len, m1, m2] at this
    rw [← h.len]
    exact this
  clear hWi hln m1 m2 hc ha hb' hf hs hd hby e17
  have hR1 := hR1'
  have hR2 := hR2'
  have hFi := hFi'
  clear hR1' hR2' hFi'
  generalize readU p.src p.dst p.data = u at *
  replace hWi := Lib.hid hW17
  replace hBl := Lib.hid hBl
  clear hW17
  go_enter Try.func58, Try.ntmps58
  go_upto_region 1 with fail
  rw [hw0.out]
  go_upto_region 7 with (first
    | (refine wpList_load_4 rfl (.tmp 3) rfl w.heap.size rfl _ kB.out rfl ?_)
    | (go_at_call 54; refine (hWi.out _ hb.out).mono ?_; rintro e w1 ⟨A3, n3, c3, rfl, hr3, hB1⟩; have kB1 := Lib.hid (kB.out.to hB1); have kZ1 := Lib.hid (kZ.out.to hB1); have kE1 := Lib.hid (kE.out.to hB1); have kP1 := Lib.hid (kP.out.to hB1); have hb1 := Lib.hid (hb.out.trans (hB1.mono hb.out.size)); have p0 := kP1.out.cell 0 _ rfl; have p1 := kP1.out.cell 1 _ rfl; have q0 := kE1.out.cell 0 _ rfl; have q1 := kE1.out.cell 1 _ rfl; replace hB1 := 0; have hr3' := Lib.hid hr3; clear hr3)
    | (go_at_call_of 65 (Value.int .i64 a); refine (hR1.out _).mono ?_; rintro e w' ⟨rfl, rfl⟩)
    | (go_at_call_of 65 (Value.int .i64 b); refine (hR2.out _).mono ?_; rintro e w' ⟨rfl, rfl⟩)
    | (go_at_call 66; refine (hFi.out _).mono ?_; rintro e w' ⟨rfl, rfl⟩)
    | fail)
  have kd := kB1.out
  have e5 := kd.cell 5 _ rfl
  have f5 := kd.frz 5
  have e6 := (kd.set 5 (.int .i64 a)).cell 6 _ rfl
  have f6 := (kd.set 5 (.int .i64 a)).frz 6
  have hkE := Lib.hid (fun X (hX : Below w1.heap.size w1 X) => show (X.cell? ⟨w.heap.size + 1, 0, none⟩ = some (.int .i64 a) ∧ X.cell? ⟨w.heap.size + 1, 1, none⟩ = some (.int .i64 b)) from ⟨(kE1.out.to hX).cell 0 _ rfl, (kE1.out.to hX).cell 1 _ rfl⟩)
  have hL := kB1.out.lt
  have hB2 := Lib.hid ((hb1.out.setCell (p := ⟨w.heap.size, 5, none⟩) (Nat.le_refl _) (.int .i64 a)).setCell (p := ⟨w.heap.size, 6, none⟩) (Nat.le_refl _) (.int .i64 b)).drew
  have kE2 := (kE1.out.far (B' := w.heap.size) (by omega) 5 (.int .i64 a))
  have kE3 := Lib.hid (kE2.far (B' := w.heap.size) (by omega) 6 (.int .i64 b)).drew
  have kP3 := Lib.hid ((kP1.out.far (B' := w.heap.size) (by omega) 5 (.int .i64 a)).far (B' := w.heap.size) (by omega) 6 (.int .i64 b)).drew
  have kZ3 := Lib.hid ((kZ1.out.far (B' := w.heap.size) (by omega) 5 (.int .i64 a)).far (B' := w.heap.size) (by omega) 6 (.int .i64 b)).drew
  have kB2 : Blk (w1.setCell ⟨w.heap.size, 5, none⟩ (.int .i64 a)) w.heap.size (cells4 { p with src := a } ao no co A n c) 32 := by simpa using kd.set 5 (.int .i64 a)
  have kB3 : Blk ((w1.setCell ⟨w.heap.size, 5, none⟩ (.int .i64 a)).setCell ⟨w.heap.size, 6, none⟩ (.int .i64 b)).drew w.heap.size (cells4 { p with src := a, dst := b } ao no co A n c) 32 := by simpa using (kB2.set 6 (.int .i64 b)).drew
  have ro3 := Lib.hid ((((hro.out.below hb1.out).farN (nbc4 kd) 5 (.int .i64 a)).farN (nbc4 kB2) 6 (.int .i64 b))).drew
  have rd3 := Lib.hid ((hr3'.out.farN (nbc4 kd) 5 (.int .i64 a)).farN (nbc4 kB2) 6 (.int .i64 b)).drew
  have hS1 := hkE.out _ (Below.refl _ w1).drew
  have hS2 : ((w1.setCell ⟨w.heap.size, 5, none⟩ (.int .i64 a)).drew.cell? ⟨w.heap.size + 1, 0, none⟩ = some (.int .i64 a) ∧ (w1.setCell ⟨w.heap.size, 5, none⟩ (.int .i64 a)).drew.cell? ⟨w.heap.size + 1, 1, none⟩ = some (.int .i64 b)) := ⟨kE2.drew.cell 0 _ rfl, kE2.drew.cell 1 _ rfl⟩
  have hS3 : ((w1.setCell ⟨w.heap.size, 5, none⟩ (.int .i64 a)).setCell ⟨w.heap.size, 6, none⟩ (.int .i64 b)).drew.cell? ⟨w.heap.size + 1, 0, none⟩ = some (.int .i64 a) ∧ ((w1.setCell ⟨w.heap.size, 5, none⟩ (.int .i64 a)).setCell ⟨w.heap.size, 6, none⟩ (.int .i64 b)).drew.cell? ⟨w.heap.size + 1, 1, none⟩ = some (.int .i64 b) := ⟨kE3.out.cell 0 _ rfl, kE3.out.cell 1 _ rfl⟩
  replace kB3 := Lib.hid kB3
  clear kd kB2 kE2 hkE p0 p1 q0 q1
  try simp only [Act.put]
  refine wp_region_held_drew (S := fun W => W.cell? ⟨w.heap.size + 1, 0, none⟩ = some (.int .i64 a) ∧ W.cell? ⟨w.heap.size + 1, 1, none⟩ = some (.int .i64 b)) (by kernel_rfl) hS1 (fun hHeld => ?_)
  refine take_h (i := 0) (v := ?_) rfl rfl (by kernel_rfl) (by kernel_rfl) (by kernel_rfl) (fun _ _ _ h => h) (Or.inl ⟨by rfl, fun W hSw => ?_⟩) (by assumption) ?_
  rotate_left
  · (clear hSw; go_simp; try with_reducible rfl)
  simp only [Act.put, List.setIfInBounds_toArray, List.set_cons_zero, List.set_cons_succ]
  refine take_h (i := 1) (v := ?_) rfl rfl (by kernel_rfl) (by kernel_rfl) (by kernel_rfl) (fun _ _ _ h => h) (Or.inl ⟨by rfl, fun W hSw => ?_⟩) (by assumption) ?_
  rotate_left
  · (obtain ⟨hs0, _⟩ := hSw; go_simp; try with_reducible rfl)
  simp only [Act.put, List.setIfInBounds_toArray, List.set_cons_zero, List.set_cons_succ]
  refine take_h (i := 2) (v := ?_) rfl rfl (by kernel_rfl) (by kernel_rfl) (by kernel_rfl) (fun _ _ _ h => h) (Or.inl ⟨by rfl, fun W hSw => ?_⟩) (by assumption) ?_
  rotate_left
  · (clear hSw; go_simp; try with_reducible rfl)
  simp only [Act.put, List.setIfInBounds_toArray, List.set_cons_zero, List.set_cons_succ]
  refine take_h (i := 3) (v := ?_) rfl rfl (by kernel_rfl) (by kernel_rfl) (by kernel_rfl) (fun _ _ _ h => h) (Or.inl ⟨by rfl, fun W hSw => ?_⟩) (by assumption) ?_
  rotate_left
  · (obtain ⟨hs0, hs1⟩ := hSw; go_simp; try with_reducible rfl)
  simp only [Act.put, List.setIfInBounds_toArray, List.set_cons_zero, List.set_cons_succ]
  refine take_h (i := 4) (v := ?_) rfl rfl (by kernel_rfl) (by kernel_rfl) (by kernel_rfl) (fun _ _ _ h => h) (Or.inl ⟨by rfl, fun W hSw => ?_⟩) (by assumption) ?_
  rotate_left
  · (clear hSw; go_simp; try with_reducible rfl)
  simp only [Act.put, List.setIfInBounds_toArray, List.set_cons_zero, List.set_cons_succ]
  refine step_h (i := 5) rfl rfl (by kernel_rfl) (fun K hK => ?_)
  go_simp
  refine hK.out _ _ hS2 (fun hHeld => ?_)
  clear hK K
  try simp only [Act.put, List.setIfInBounds_toArray, List.set_cons_zero, List.set_cons_succ]
  refine take_h (i := 6) (v := ?_) rfl rfl (by kernel_rfl) (by kernel_rfl) (by kernel_rfl) (fun _ _ _ h => h) (Or.inl ⟨by rfl, fun W hSw => ?_⟩) (by assumption) ?_
  rotate_left
  · (clear hSw; go_simp; try with_reducible rfl)
  simp only [Act.put, List.setIfInBounds_toArray, List.set_cons_zero, List.set_cons_succ]
  refine step_h (i := 7) rfl rfl (by kernel_rfl) (fun K hK => ?_)
  go_simp
  refine hK.out _ _ hS3 (fun hHeld => ?_)
  clear hK K
  refine wpAnyH_done (by kernel_rfl) ?_ _
  obtain ⟨w3, hw3⟩ : ∃ w3, ((w1.setCell ⟨w.heap.size, 5, none⟩ (.int .i64 a)).setCell ⟨w.heap.size, 6, none⟩ (.int .i64 b)).drew = w3 := ⟨_, rfl⟩
  rw [hw3] at kB3 kE3 kP3 kZ3 hB2 ro3 rd3 ⊢
  replace hw3 := Lib.hid hw3
  clear hHeld hS1 hS2 hS3 e5 f5 e6 f6
  have e9 := kB3.out.cell 9 _ rfl
  have f9 := kB3.out.frz 9
  have hCl := Lib.hid (Clone_any ao no co p.opts w3 ro3.out (by omega))
  try simp only [Act.put]
  go_upto_region 9 with (first
    | (go_at_call 50; refine hCl.out.mono ?_; rintro e w4 ⟨A4, c4, rfl, ho4, hB4⟩; have k4 := kB3.out.to hB4; clear e9 f9; have e9 := k4.cell 9 _ rfl; have f9 := k4.frz 9; have hb4 := Lib.hid (hB2.out.trans (hB4.mono hB2.out.size)); have ho4' := Lib.hid ho4; have hB4' := Lib.hid hB4; replace ho4 := 0; replace hB4 := 0)
    | fail)
  have n4 := nbc4 k4
  have k5' : Blk (w4.setCell ⟨w.heap.size, 9, none⟩ (.slice A4 no c4)) w.heap.size (cells4 { p with src := a, dst := b } A4 no c4 A n c) 32 := by simpa using k4.set 9 (.slice A4 no c4)
  have hL2 := k4.lt
  have kP5 := Lib.hid ((kP3.out.to hB4'.out).far (B' := w.heap.size) (by omega) 9 (.slice A4 no c4))
  have kZ5 := Lib.hid ((kZ3.out.to hB4'.out).far (B' := w.heap.size) (by omega) 9 (.slice A4 no c4))
  have ro5 := Lib.hid (ho4'.out.rb.farN n4 9 (.slice A4 no c4))
  have hb5 := Lib.hid (hb4.out.setCell (p := ⟨w.heap.size, 9, none⟩) (Nat.le_refl _) (.slice A4 no c4))
  have rd5 := Lib.hid ((rd3.out.below hB4'.out).farN n4 9 (.slice A4 no c4))
  have k5 := Lib.hid k5'
  obtain ⟨w5, hw5⟩ : ∃ w5, w4.setCell ⟨w.heap.size, 9, none⟩ (.slice A4 no c4) = w5 := ⟨_, rfl⟩
  rw [hw5] at k5 kP5 kZ5 ro5 hb5 rd5 ⊢
  clear k5' n4 k4 e9 f9 hL hL2
  replace hw5 := Lib.hid hw5
  have hF := Lib.hid (fun W (hW : Below w5.heap.size w5 W) => show (W.cell? ⟨w.heap.size + 1 + 1, 0, none⟩ = some (.int .i64 s) ∧ W.cell? ⟨w.heap.size + 1 + 1, 1, none⟩ = some (.int .i64 d) ∧ W.cell? ⟨w.heap.size, 5, none⟩ = some (.int .i64 a) ∧ W.cell? ⟨w.heap.size, 6, none⟩ = some (.int .i64 b)) from
    ⟨(kP5.out.to hW).cell 0 _ rfl, (kP5.out.to hW).cell 1 _ rfl, (k5.out.to hW).cell 5 _ rfl, (k5.out.to hW).cell 6 _ rfl⟩)
  have hy5 := Lib.hid (Below.refl w5.heap.size w5).drew
  have hS5 := hF.out _ hy5.out
  try simp only [Act.put]
  refine wp_region_held_drew (S := fun W => W.cell? ⟨w.heap.size + 1 + 1, 0, none⟩ = some (.int .i64 s) ∧ W.cell? ⟨w.heap.size + 1 + 1, 1, none⟩ = some (.int .i64 d) ∧ W.cell? ⟨w.heap.size, 5, none⟩ = some (.int .i64 a) ∧ W.cell? ⟨w.heap.size, 6, none⟩ = some (.int .i64 b)) (by kernel_rfl) hS5 (fun hHeld => ?_)
  refine take_h (i := 0) (v := ?_) rfl rfl (by kernel_rfl) (by kernel_rfl) (by kernel_rfl) (fun _ _ _ h => h) (Or.inl ⟨by rfl, fun W hSw => ?_⟩) (by assumption) ?_
  rotate_left
  · (clear hSw; go_simp; try with_reducible rfl)
  simp only [Act.put, List.setIfInBounds_toArray, List.set_cons_zero, List.set_cons_succ]
  refine take_h (i := 1) (v := ?_) rfl rfl (by kernel_rfl) (by kernel_rfl) (by kernel_rfl) (fun _ _ _ h => h) (Or.inl ⟨by rfl, fun W hSw => ?_⟩) (by assumption) ?_
  rotate_left
  · (clear hSw; go_simp; try with_reducible rfl)
  simp only [Act.put, List.setIfInBounds_toArray, List.set_cons_zero, List.set_cons_succ]
  refine take_h (i := 2) (v := ?_) rfl rfl (by kernel_rfl) (by kernel_rfl) (by kernel_rfl) (fun _ _ _ h => h) (Or.inl ⟨by rfl, fun W hSw => ?_⟩) (by assumption) ?_
  rotate_left
  · (obtain ⟨hs0, hs1, hs2, hs3⟩ := hSw; go_simp; try with_reducible rfl)
  simp only [Act.put, List.setIfInBounds_toArray, List.set_cons_zero, List.set_cons_succ]
  refine take_h (i := 3) (v := ?_) rfl rfl (by kernel_rfl) (by kernel_rfl) (by kernel_rfl) (fun _ _ _ h => h) (Or.inl ⟨by rfl, fun W hSw => ?_⟩) (by assumption) ?_
  rotate_left
  · (clear hSw; go_simp; try with_reducible rfl)
  simp only [Act.put, List.setIfInBounds_toArray, List.set_cons_zero, List.set_cons_succ]
  refine take_h (i := 4) (v := ?_) rfl rfl (by kernel_rfl) (by kernel_rfl) (by kernel_rfl) (fun _ _ _ h => h) (Or.inl ⟨by rfl, fun W hSw => ?_⟩) (by assumption) ?_
  rotate_left
  · (obtain ⟨hs0, hs1, hs2, hs3⟩ := hSw; go_simp; try with_reducible rfl)
  simp only [Act.put, List.setIfInBounds_toArray, List.set_cons_zero, List.set_cons_succ]
  refine take_h (i := 6) (v := ?_) rfl rfl (by kernel_rfl) (by kernel_rfl) (by kernel_rfl) (fun _ _ _ h => h) (Or.inl ⟨by rfl, fun W hSw => ?_⟩) (by assumption) ?_
  rotate_left
  · (clear hSw; go_simp; try with_reducible rfl)
  simp only [Act.put, List.setIfInBounds_toArray, List.set_cons_zero, List.set_cons_succ]
  refine take_h (i := 7) (v := ?_) rfl rfl (by kernel_rfl) (by kernel_rfl) (by kernel_rfl) (fun _ _ _ h => h) (Or.inl ⟨by rfl, fun W hSw => ?_⟩) (by assumption) ?_
  rotate_left
  · (obtain ⟨hs0, hs1, hs2, hs3⟩ := hSw; go_simp; try with_reducible rfl)
  simp only [Act.put, List.setIfInBounds_toArray, List.set_cons_zero, List.set_cons_succ]
  refine take_h (i := 8) (v := ?_) rfl rfl (by kernel_rfl) (by kernel_rfl) (by kernel_rfl) (fun _ _ _ h => h) (Or.inl ⟨by rfl, fun W hSw => ?_⟩) (by assumption) ?_
  rotate_left
  · (clear hSw; go_simp; try with_reducible rfl)
  simp only [Act.put, List.setIfInBounds_toArray, List.set_cons_zero, List.set_cons_succ]
  refine take_h (i := 9) (v := ?_) rfl rfl (by kernel_rfl) (by kernel_rfl) (by kernel_rfl) (fun _ _ _ h => h) (Or.inl ⟨by rfl, fun W hSw => ?_⟩) (by assumption) ?_
  rotate_left
  · (obtain ⟨hs0, hs1, hs2, hs3⟩ := hSw; go_simp; try with_reducible rfl)
  simp only [Act.put, List.setIfInBounds_toArray, List.set_cons_zero, List.set_cons_succ]
  refine step_h (i := 5) rfl rfl (by kernel_rfl) (fun K hK => ?_)
  go_simp
  go_wp2_with (first
    | (go_at_call 142; refine (WithU_any u s d A3 n3 c3 _).mono ?_; rintro e w6 ⟨rfl, hB6⟩)
    | fail)
  have hy6 := Lib.hid (hy5.out.trans (hB6.mono hy5.out.size))
  have hS6 := hF.out _ hy6.out
  have rd6 := Lib.hid (rd5.out.below hy6.out)
  clear hHeld
  refine hK.out _ _ hS6 (fun hHeld => ?_)
  clear hK K
  try simp only [Act.put, List.setIfInBounds_toArray, List.set_cons_zero, List.set_cons_succ]
  refine step_h (i := 10) rfl rfl (by kernel_rfl) (fun K hK => ?_)
  go_simp
  go_wp2_with (first
    | (go_at_call 140; refine (hBl.out A3 n3 c3 _ rd6.out).mono ?_; rintro e w7 ⟨A7, n7, c7, rfl, hr7, hB7⟩)
    | fail)
  have hy7 := Lib.hid (hy6.out.trans (hB7.mono hy6.out.size))
  have hS7 := hF.out _ hy7.out
  clear hHeld
  refine hK.out _ _ hS7 (fun hHeld => ?_)
  clear hK K
  try simp only [Act.put, List.setIfInBounds_toArray, List.set_cons_zero, List.set_cons_succ]
  refine take_h (i := 11) (v := ?_) rfl rfl (by kernel_rfl) (by kernel_rfl) (by kernel_rfl) (fun _ _ _ h => h) (Or.inl ⟨by rfl, fun W hSw => ?_⟩) (by assumption) ?_
  rotate_left
  · (clear hSw; go_simp; try with_reducible rfl)
  simp only [Act.put, List.setIfInBounds_toArray, List.set_cons_zero, List.set_cons_succ]
  refine take_h (i := 12) (v := ?_) rfl rfl (by kernel_rfl) (by kernel_rfl) (by kernel_rfl) (fun _ _ _ h => h) (Or.inl ⟨by rfl, fun W hSw => ?_⟩) (by assumption) ?_
  rotate_left
  · (clear hSw; go_simp; try with_reducible rfl)
  simp only [Act.put, List.setIfInBounds_toArray, List.set_cons_zero, List.set_cons_succ]
  refine take_h (i := 13) (v := ?_) rfl rfl (by kernel_rfl) (by kernel_rfl) (by kernel_rfl) (fun _ _ _ h => h) (Or.inl ⟨by rfl, fun W hSw => ?_⟩) (by assumption) ?_
  rotate_left
  · (clear hSw; go_simp; try with_reducible rfl)
  simp only [Act.put, List.setIfInBounds_toArray, List.set_cons_zero, List.set_cons_succ]
  refine take_h (i := 14) (v := ?_) rfl rfl (by kernel_rfl) (by kernel_rfl) (by kernel_rfl) (fun _ _ _ h => h) (Or.inl ⟨by rfl, fun W hSw => ?_⟩) (by assumption) ?_
  rotate_left
  · (clear hSw; go_simp; try with_reducible rfl)
  simp only [Act.put, List.setIfInBounds_toArray, List.set_cons_zero, List.set_cons_succ]
  have k7 := k5.out.to hy7.out
  have e10 := k7.cell 10 _ rfl
  have f10 := k7.frz 10
  have nb7 := nbc4 k7
  have kL' : Blk (w7.setCell ⟨w.heap.size, 10, none⟩ (.slice A7 n7 c7)) w.heap.size (cells4 (movP p a b s d) A4 no c4 A7 n7 c7) 32 := by
    have := k7.set 10 (.slice A7 n7 c7)
    simpa [movP] using this
  have hL3 := k7.lt
  have hsz7 := hy7.out.size
  have kL := Lib.hid kL'
  have kP7 := kP5.out.to hy7.out
  have kP8 := Lib.hid (kP7.far (B' := w.heap.size) (by omega) 10 (.slice A7 n7 c7))
  have kZ8 := Lib.hid ((kZ5.out.to hy7.out).far (B' := w.heap.size) (by omega) 10 (.slice A7 n7 c7))
  have ro8 := Lib.hid ((ro5.out.below hy7.out).farN nb7 10 (.slice A7 n7 c7))
  have rd8 := Lib.hid (hr7.farN nb7 10 (.slice A7 n7 c7))
  have hb8 := Lib.hid ((hb5.out.trans (hy7.out.mono hb5.out.size)).setCell (p := ⟨w.heap.size, 10, none⟩) (Nat.le_refl _) (.slice A7 n7 c7))
  have hS8 : (w7.setCell ⟨w.heap.size, 10, none⟩ (.slice A7 n7 c7)).cell? ⟨w.heap.size + 1 + 1, 0, none⟩ = some (.int .i64 s) ∧ (w7.setCell ⟨w.heap.size, 10, none⟩ (.slice A7 n7 c7)).cell? ⟨w.heap.size + 1 + 1, 1, none⟩ = some (.int .i64 d) ∧ (w7.setCell ⟨w.heap.size, 10, none⟩ (.slice A7 n7 c7)).cell? ⟨w.heap.size, 5, none⟩ = some (.int .i64 a) ∧ (w7.setCell ⟨w.heap.size, 10, none⟩ (.slice A7 n7 c7)).cell? ⟨w.heap.size, 6, none⟩ = some (.int .i64 b) :=
    ⟨kP8.out.cell 0 _ rfl, kP8.out.cell 1 _ rfl, kL'.cell 5 _ rfl, kL'.cell 6 _ rfl⟩
  clear k7 nb7 kL' kP7
  refine step_h (i := 15) rfl rfl (by kernel_rfl) (fun K hK => ?_)
  go_simp
  refine hK.out _ _ hS8 (fun hHeld => ?_)
  clear hK K
  refine take_h (i := 16) (v := ?_) rfl rfl (by kernel_rfl) (by kernel_rfl) (by kernel_rfl) (fun _ _ _ h => h) (Or.inl ⟨by rfl, fun W hSw => ?_⟩) (by assumption) ?_
  rotate_left
  · (clear hSw; go_simp; try with_reducible rfl)
  simp only [Act.put, List.setIfInBounds_toArray, List.set_cons_zero, List.set_cons_succ]
  refine wpAnyH_done (by kernel_rfl) ?_ _
  clear hHeld hS5 hS6 hS7 hS8 e10 f10
  generalize w7.setCell ⟨w.heap.size, 10, none⟩ (.slice A7 n7 c7) = w8 at *
  try simp only [Act.put]
  go_wp2_with (first
    | (refine wpList_load_4 rfl (.tmp 3) rfl w.heap.size rfl _ kL.out rfl ?_)
    | (refine wpList_store_4 rfl (.tmp 6) (.tmp 66) rfl (w.heap.size + 1 + 1 + 1) (cells4 (movP p a b s d) A4 no c4 A7 n7 c7) rfl rfl _ kZ8.out rfl rfl (one4 _ _ _ _ _ _ _) ?_)
    | fail)
  refine bodyPost_ret (results_ct Try.results58 rfl (run_load_4 (Blk.mk (setRow_heap _ _ _ _ _ _ kZ8.out.at_)) rfl)) rfl ?_
  exact MovOut.row (z := zero4) hq.out hk.out kZ8.out ro8.out rd8.out hb8.out (by omega)
set_option maxRecDepth 100000 in
set_option maxHeartbeats 4000000 in
theorem Moved_6 (p : V4P) (a b s d : Int) (ao : Option Addr) (no co : Nat) (A : Option Addr) (n c : Nat) (w : World) (hro : RB w ao no co p.opts) (hr : RB w A n c p.data) (hno : no ≤ 100000) (hn : n ≤ 100000) (hc : codeP p = 0) (ha : rightB a = true) (hb' : rightB b = true) (hf : fitsB (max s d) 2 = true) (hs : mayS s) (hd : mayS d) (e6 : p.pr = 6) :
    Calls Try.prog 58 #[.agg (cells4 p ao no co A n c), .agg #[.int .i64 a, .int .i64 b], .agg #[.int .i64 s, .int .i64 d]] w (MovOut w (movQ p a b s d) (codeV p a b s d)) := by
  obtain ⟨w0, hw0⟩ : ∃ w0, (((w.alloc (.cells (cells4 p ao no co A n c) 32)).alloc (.cells #[.int .i64 a, .int .i64 b] 99)).alloc (.cells #[.int .i64 s, .int .i64 d] 99)).alloc (.cells zero4c 32) = w0 := ⟨_, rfl⟩
  have hb := Lib.hid (show Below w.heap.size w w0 by rw [← hw0]; exact ((((Below.refl _ w).alloc (Nat.le_refl _) _).alloc (by simp) _).alloc (by simp; omega) _).alloc (by simp; omega) _)
  have kB := Lib.hid (show Blk w0 w.heap.size (cells4 p ao no co A n c) 32 by rw [← hw0]; exact (((blk_at rfl).alloc _).alloc _).alloc _)
  have kE := Lib.hid (show Blk w0 (w.heap.size + 1) #[.int .i64 a, .int .i64 b] 99 by rw [← hw0]; exact ((blk_at (by simp)).alloc _).alloc _)
  have kP := Lib.hid (show Blk w0 (w.heap.size + 1 + 1) #[.int .i64 s, .int .i64 d] 99 by rw [← hw0]; exact (blk_at (by simp)).alloc _)
  have kZ := Lib.hid (show Blk w0 (w.heap.size + 1 + 1 + 1) zero4c 32 by rw [← hw0]; exact blk_at (by simp))
  have hWi := fun W (hW : Below w.heap.size w W) => Within_any p ao no co A n c W (hro.below hW) (hr.below hW) hno hn
  unfold WithinOut at hWi
  have hby := hr.byt
  obtain ⟨t, hmx⟩ : ∃ t, (if s < d then d else s) = t := ⟨_, rfl⟩
  have hmt : max s d = t := by rw [← hmx]; split <;> omega
  replace hro := Lib.hid hro
  replace hr := Lib.hid hr
  replace hw0 := Lib.hid hw0
  rw [hc] at hWi
  have hk := Lib.hid (show codeV p a b s d = 0 by unfold codeV; rw [if_neg (by simpa using hc), if_pos ⟨ha, hb', hf⟩])
  have hq := Lib.hid (show movQ p a b s d = movP p a b s d by unfold movQ; rw [hk.out, if_pos rfl])
  have hln := read_lens hby hc
  rw [hmt] at hf
  have hR1' := Lib.hid (fun W => show Calls Try.prog 65 #[.int .i64 a] W fun e w' => e = .returned (.bool true) ∧ W = w' by have := Right4_any W a; rwa [ha] at this)
  have hR2' := Lib.hid (fun W => show Calls Try.prog 65 #[.int .i64 b] W fun e w' => e = .returned (.bool true) ∧ W = w' by have := Right4_any W b; rwa [hb'] at this)
  have hFi' := Lib.hid (fun W => show Calls Try.prog 66 #[.int .i64 t, .int .i64 2] W fun e w' => e = .returned (.bool true) ∧ W = w' by have := Fits_any t 2 W; rwa [hf] at this)
  clear hmt
  have hW6 : ∀ W (hW : Below w.heap.size w W), Calls Try.prog 54 #[.agg (cells4 p ao no co A n c)] W (fun e w' => ∃ A5 n5 c5 A3 n3 c3, e = .returned (.tuple #[.iface 134 (.agg (cellsT (readT p.src p.dst p.data) A5 n5 c5 A3 n3 c3)), .int .i64 0]) ∧ RB w' A5 n5 c5 (readT p.src p.dst p.data).opts ∧ RB w' A3 n3 c3 (readT p.src p.dst p.data).data ∧ Below W.heap.size W w') := fun W hW => (hWi W hW).mono (fun e w' ⟨v, he, hp, hB⟩ => by
    rcases hp rfl with ⟨h, _⟩ | ⟨_, A5, n5, c5, A3, n3, c3, rfl, hr5, hr3⟩ | ⟨h, _⟩
    · omega
    · exact ⟨A5, n5, c5, A3, n3, c3, he, hr5, hr3, hB⟩
    · omega)
  obtain ⟨m1, m2⟩ := movB_6 a b hby hc e6 hs hd
  have hBl : ∀ A5 n5 c5 A3 n3 c3 W (h5 : RB W A5 n5 c5 (readT p.src p.dst p.data).opts) (h : RB W A3 n3 c3 (readT p.src p.dst p.data).data), Calls Try.prog 147 #[.agg (cellsT (newT (readT p.src p.dst p.data) s d) A5 n5 c5 A3 n3 c3), .int .i64 a, .int .i64 b] W (TwoOut W (movD p a b s d) 0) := fun A5 n5 c5 A3 n3 c3 W h5 h => by
    have := BuildT_any (newT (readT p.src p.dst p.data) s d) a b A5 n5 c5 A3 n3 c3 W h5 h (by have := h.len; have := (hln.2.1 e6).2; omega)
    rw [← h.len, ← h5.len, m1, m2] at this
    rw [← h.len, ← h5.len]
    exact this
  clear hWi hln m1 m2 hc ha hb' hf hs hd hby e6
  have hR1 := hR1'
  have hR2 := hR2'
  have hFi := hFi'
  clear hR1' hR2' hFi'
  generalize readT p.src p.dst p.data = u at *
  replace hWi := Lib.hid hW6
  replace hBl := Lib.hid hBl
  clear hW6
  go_enter Try.func58, Try.ntmps58
  go_upto_region 1 with fail
  rw [hw0.out]
  go_upto_region 7 with (first
    | (refine wpList_load_4 rfl (.tmp 3) rfl w.heap.size rfl _ kB.out rfl ?_)
    | (go_at_call 54; refine (hWi.out _ hb.out).mono ?_; rintro e w1 ⟨A5, n5, c5, A3, n3, c3, rfl, hr5, hr3, hB1⟩; have kB1 := Lib.hid (kB.out.to hB1); have kZ1 := Lib.hid (kZ.out.to hB1); have kE1 := Lib.hid (kE.out.to hB1); have kP1 := Lib.hid (kP.out.to hB1); have hb1 := Lib.hid (hb.out.trans (hB1.mono hb.out.size)); have p0 := kP1.out.cell 0 _ rfl; have p1 := kP1.out.cell 1 _ rfl; have q0 := kE1.out.cell 0 _ rfl; have q1 := kE1.out.cell 1 _ rfl; replace hB1 := 0; have hr3' := Lib.hid hr3; have hr5' := Lib.hid hr5; clear hr3 hr5)
    | (go_at_call_of 65 (Value.int .i64 a); refine (hR1.out _).mono ?_; rintro e w' ⟨rfl, rfl⟩)
    | (go_at_call_of 65 (Value.int .i64 b); refine (hR2.out _).mono ?_; rintro e w' ⟨rfl, rfl⟩)
    | (go_at_call 66; refine (hFi.out _).mono ?_; rintro e w' ⟨rfl, rfl⟩)
    | fail)
  have kd := kB1.out
  have e5 := kd.cell 5 _ rfl
  have f5 := kd.frz 5
  have e6 := (kd.set 5 (.int .i64 a)).cell 6 _ rfl
  have f6 := (kd.set 5 (.int .i64 a)).frz 6
  have hkE := Lib.hid (fun X (hX : Below w1.heap.size w1 X) => show (X.cell? ⟨w.heap.size + 1, 0, none⟩ = some (.int .i64 a) ∧ X.cell? ⟨w.heap.size + 1, 1, none⟩ = some (.int .i64 b)) from ⟨(kE1.out.to hX).cell 0 _ rfl, (kE1.out.to hX).cell 1 _ rfl⟩)
  have hL := kB1.out.lt
  have hB2 := Lib.hid ((hb1.out.setCell (p := ⟨w.heap.size, 5, none⟩) (Nat.le_refl _) (.int .i64 a)).setCell (p := ⟨w.heap.size, 6, none⟩) (Nat.le_refl _) (.int .i64 b)).drew
  have kE2 := (kE1.out.far (B' := w.heap.size) (by omega) 5 (.int .i64 a))
  have kE3 := Lib.hid (kE2.far (B' := w.heap.size) (by omega) 6 (.int .i64 b)).drew
  have kP3 := Lib.hid ((kP1.out.far (B' := w.heap.size) (by omega) 5 (.int .i64 a)).far (B' := w.heap.size) (by omega) 6 (.int .i64 b)).drew
  have kZ3 := Lib.hid ((kZ1.out.far (B' := w.heap.size) (by omega) 5 (.int .i64 a)).far (B' := w.heap.size) (by omega) 6 (.int .i64 b)).drew
  have kB2 : Blk (w1.setCell ⟨w.heap.size, 5, none⟩ (.int .i64 a)) w.heap.size (cells4 { p with src := a } ao no co A n c) 32 := by simpa using kd.set 5 (.int .i64 a)
  have kB3 : Blk ((w1.setCell ⟨w.heap.size, 5, none⟩ (.int .i64 a)).setCell ⟨w.heap.size, 6, none⟩ (.int .i64 b)).drew w.heap.size (cells4 { p with src := a, dst := b } ao no co A n c) 32 := by simpa using (kB2.set 6 (.int .i64 b)).drew
  have ro3 := Lib.hid ((((hro.out.below hb1.out).farN (nbc4 kd) 5 (.int .i64 a)).farN (nbc4 kB2) 6 (.int .i64 b))).drew
  have rd3 := Lib.hid (show RB _ A5 n5 c5 u.opts ∧ RB _ A3 n3 c3 u.data from ⟨((hr5'.out.farN (nbc4 kd) 5 (.int .i64 a)).farN (nbc4 kB2) 6 (.int .i64 b)).drew, ((hr3'.out.farN (nbc4 kd) 5 (.int .i64 a)).farN (nbc4 kB2) 6 (.int .i64 b)).drew⟩)
  have hS1 := hkE.out _ (Below.refl _ w1).drew
  have hS2 : ((w1.setCell ⟨w.heap.size, 5, none⟩ (.int .i64 a)).drew.cell? ⟨w.heap.size + 1, 0, none⟩ = some (.int .i64 a) ∧ (w1.setCell ⟨w.heap.size, 5, none⟩ (.int .i64 a)).drew.cell? ⟨w.heap.size + 1, 1, none⟩ = some (.int .i64 b)) := ⟨kE2.drew.cell 0 _ rfl, kE2.drew.cell 1 _ rfl⟩
  have hS3 : ((w1.setCell ⟨w.heap.size, 5, none⟩ (.int .i64 a)).setCell ⟨w.heap.size, 6, none⟩ (.int .i64 b)).drew.cell? ⟨w.heap.size + 1, 0, none⟩ = some (.int .i64 a) ∧ ((w1.setCell ⟨w.heap.size, 5, none⟩ (.int .i64 a)).setCell ⟨w.heap.size, 6, none⟩ (.int .i64 b)).drew.cell? ⟨w.heap.size + 1, 1, none⟩ = some (.int .i64 b) := ⟨kE3.out.cell 0 _ rfl, kE3.out.cell 1 _ rfl⟩
  replace kB3 := Lib.hid kB3
  clear kd kB2 kE2 hkE p0 p1 q0 q1
  try simp only [Act.put]
  refine wp_region_held_drew (S := fun W => W.cell? ⟨w.heap.size + 1, 0, none⟩ = some (.int .i64 a) ∧ W.cell? ⟨w.heap.size + 1, 1, none⟩ = some (.int .i64 b)) (by kernel_rfl) hS1 (fun hHeld => ?_)
  refine take_h (i := 0) (v := ?_) rfl rfl (by kernel_rfl) (by kernel_rfl) (by kernel_rfl) (fun _ _ _ h => h) (Or.inl ⟨by rfl, fun W hSw => ?_⟩) (by assumption) ?_
  rotate_left
  · (clear hSw; go_simp; try with_reducible rfl)
  simp only [Act.put, List.setIfInBounds_toArray, List.set_cons_zero, List.set_cons_succ]
  refine take_h (i := 1) (v := ?_) rfl rfl (by kernel_rfl) (by kernel_rfl) (by kernel_rfl) (fun _ _ _ h => h) (Or.inl ⟨by rfl, fun W hSw => ?_⟩) (by assumption) ?_
  rotate_left
  · (obtain ⟨hs0, _⟩ := hSw; go_simp; try with_reducible rfl)
  simp only [Act.put, List.setIfInBounds_toArray, List.set_cons_zero, List.set_cons_succ]
  refine take_h (i := 2) (v := ?_) rfl rfl (by kernel_rfl) (by kernel_rfl) (by kernel_rfl) (fun _ _ _ h => h) (Or.inl ⟨by rfl, fun W hSw => ?_⟩) (by assumption) ?_
  rotate_left
  · (clear hSw; go_simp; try with_reducible rfl)
  simp only [Act.put, List.setIfInBounds_toArray, List.set_cons_zero, List.set_cons_succ]
  refine take_h (i := 3) (v := ?_) rfl rfl (by kernel_rfl) (by kernel_rfl) (by kernel_rfl) (fun _ _ _ h => h) (Or.inl ⟨by rfl, fun W hSw => ?_⟩) (by assumption) ?_
  rotate_left
  · (obtain ⟨hs0, hs1⟩ := hSw; go_simp; try with_reducible rfl)
  simp only [Act.put, List.setIfInBounds_toArray, List.set_cons_zero, List.set_cons_succ]
  refine take_h (i := 4) (v := ?_) rfl rfl (by kernel_rfl) (by kernel_rfl) (by kernel_rfl) (fun _ _ _ h => h) (Or.inl ⟨by rfl, fun W hSw => ?_⟩) (by assumption) ?_
  rotate_left
  · (clear hSw; go_simp; try with_reducible rfl)
  simp only [Act.put, List.setIfInBounds_toArray, List.set_cons_zero, List.set_cons_succ]
  refine step_h (i := 5) rfl rfl (by kernel_rfl) (fun K hK => ?_)
  go_simp
  refine hK.out _ _ hS2 (fun hHeld => ?_)
  clear hK K
  try simp only [Act.put, List.setIfInBounds_toArray, List.set_cons_zero, List.set_cons_succ]
  refine take_h (i := 6) (v := ?_) rfl rfl (by kernel_rfl) (by kernel_rfl) (by kernel_rfl) (fun _ _ _ h => h) (Or.inl ⟨by rfl, fun W hSw => ?_⟩) (by assumption) ?_
  rotate_left
  · (clear hSw; go_simp; try with_reducible rfl)
  simp only [Act.put, List.setIfInBounds_toArray, List.set_cons_zero, List.set_cons_succ]
  refine step_h (i := 7) rfl rfl (by kernel_rfl) (fun K hK => ?_)
  go_simp
  refine hK.out _ _ hS3 (fun hHeld => ?_)
  clear hK K
  refine wpAnyH_done (by kernel_rfl) ?_ _
  obtain ⟨w3, hw3⟩ : ∃ w3, ((w1.setCell ⟨w.heap.size, 5, none⟩ (.int .i64 a)).setCell ⟨w.heap.size, 6, none⟩ (.int .i64 b)).drew = w3 := ⟨_, rfl⟩
  rw [hw3] at kB3 kE3 kP3 kZ3 hB2 ro3 rd3 ⊢
  replace hw3 := Lib.hid hw3
  clear hHeld hS1 hS2 hS3 e5 f5 e6 f6
  have e9 := kB3.out.cell 9 _ rfl
  have f9 := kB3.out.frz 9
  have hCl := Lib.hid (Clone_any ao no co p.opts w3 ro3.out (by omega))
  try simp only [Act.put]
  go_upto_region 9 with (first
    | (go_at_call 50; refine hCl.out.mono ?_; rintro e w4 ⟨A4, c4, rfl, ho4, hB4⟩; have k4 := kB3.out.to hB4; clear e9 f9; have e9 := k4.cell 9 _ rfl; have f9 := k4.frz 9; have hb4 := Lib.hid (hB2.out.trans (hB4.mono hB2.out.size)); have ho4' := Lib.hid ho4; have hB4' := Lib.hid hB4; replace ho4 := 0; replace hB4 := 0)
    | fail)
  have n4 := nbc4 k4
  have k5' : Blk (w4.setCell ⟨w.heap.size, 9, none⟩ (.slice A4 no c4)) w.heap.size (cells4 { p with src := a, dst := b } A4 no c4 A n c) 32 := by simpa using k4.set 9 (.slice A4 no c4)
  have hL2 := k4.lt
  have kP5 := Lib.hid ((kP3.out.to hB4'.out).far (B' := w.heap.size) (by omega) 9 (.slice A4 no c4))
  have kZ5 := Lib.hid ((kZ3.out.to hB4'.out).far (B' := w.heap.size) (by omega) 9 (.slice A4 no c4))
  have ro5 := Lib.hid (ho4'.out.rb.farN n4 9 (.slice A4 no c4))
  have hb5 := Lib.hid (hb4.out.setCell (p := ⟨w.heap.size, 9, none⟩) (Nat.le_refl _) (.slice A4 no c4))
  have rd5 := Lib.hid (show RB _ A5 n5 c5 u.opts ∧ RB _ A3 n3 c3 u.data from ⟨(rd3.out.1.below hB4'.out).farN n4 9 (.slice A4 no c4), (rd3.out.2.below hB4'.out).farN n4 9 (.slice A4 no c4)⟩)
  have k5 := Lib.hid k5'
  obtain ⟨w5, hw5⟩ : ∃ w5, w4.setCell ⟨w.heap.size, 9, none⟩ (.slice A4 no c4) = w5 := ⟨_, rfl⟩
  rw [hw5] at k5 kP5 kZ5 ro5 hb5 rd5 ⊢
  clear k5' n4 k4 e9 f9 hL hL2
  replace hw5 := Lib.hid hw5
  have hF := Lib.hid (fun W (hW : Below w5.heap.size w5 W) => show (W.cell? ⟨w.heap.size + 1 + 1, 0, none⟩ = some (.int .i64 s) ∧ W.cell? ⟨w.heap.size + 1 + 1, 1, none⟩ = some (.int .i64 d) ∧ W.cell? ⟨w.heap.size, 5, none⟩ = some (.int .i64 a) ∧ W.cell? ⟨w.heap.size, 6, none⟩ = some (.int .i64 b)) from
    ⟨(kP5.out.to hW).cell 0 _ rfl, (kP5.out.to hW).cell 1 _ rfl, (k5.out.to hW).cell 5 _ rfl, (k5.out.to hW).cell 6 _ rfl⟩)
  have hy5 := Lib.hid (Below.refl w5.heap.size w5).drew
  have hS5 := hF.out _ hy5.out
  try simp only [Act.put]
  refine wp_region_held_drew (S := fun W => W.cell? ⟨w.heap.size + 1 + 1, 0, none⟩ = some (.int .i64 s) ∧ W.cell? ⟨w.heap.size + 1 + 1, 1, none⟩ = some (.int .i64 d) ∧ W.cell? ⟨w.heap.size, 5, none⟩ = some (.int .i64 a) ∧ W.cell? ⟨w.heap.size, 6, none⟩ = some (.int .i64 b)) (by kernel_rfl) hS5 (fun hHeld => ?_)
  refine take_h (i := 0) (v := ?_) rfl rfl (by kernel_rfl) (by kernel_rfl) (by kernel_rfl) (fun _ _ _ h => h) (Or.inl ⟨by rfl, fun W hSw => ?_⟩) (by assumption) ?_
  rotate_left
  · (clear hSw; go_simp; try with_reducible rfl)
  simp only [Act.put, List.setIfInBounds_toArray, List.set_cons_zero, List.set_cons_succ]
  refine take_h (i := 1) (v := ?_) rfl rfl (by kernel_rfl) (by kernel_rfl) (by kernel_rfl) (fun _ _ _ h => h) (Or.inl ⟨by rfl, fun W hSw => ?_⟩) (by assumption) ?_
  rotate_left
  · (clear hSw; go_simp; try with_reducible rfl)
  simp only [Act.put, List.setIfInBounds_toArray, List.set_cons_zero, List.set_cons_succ]
  refine take_h (i := 2) (v := ?_) rfl rfl (by kernel_rfl) (by kernel_rfl) (by kernel_rfl) (fun _ _ _ h => h) (Or.inl ⟨by rfl, fun W hSw => ?_⟩) (by assumption) ?_
  rotate_left
  · (obtain ⟨hs0, hs1, hs2, hs3⟩ := hSw; go_simp; try with_reducible rfl)
  simp only [Act.put, List.setIfInBounds_toArray, List.set_cons_zero, List.set_cons_succ]
  refine take_h (i := 3) (v := ?_) rfl rfl (by kernel_rfl) (by kernel_rfl) (by kernel_rfl) (fun _ _ _ h => h) (Or.inl ⟨by rfl, fun W hSw => ?_⟩) (by assumption) ?_
  rotate_left
  · (clear hSw; go_simp; try with_reducible rfl)
  simp only [Act.put, List.setIfInBounds_toArray, List.set_cons_zero, List.set_cons_succ]
  refine take_h (i := 4) (v := ?_) rfl rfl (by kernel_rfl) (by kernel_rfl) (by kernel_rfl) (fun _ _ _ h => h) (Or.inl ⟨by rfl, fun W hSw => ?_⟩) (by assumption) ?_
  rotate_left
  · (obtain ⟨hs0, hs1, hs2, hs3⟩ := hSw; go_simp; try with_reducible rfl)
  simp only [Act.put, List.setIfInBounds_toArray, List.set_cons_zero, List.set_cons_succ]
  refine take_h (i := 6) (v := ?_) rfl rfl (by kernel_rfl) (by kernel_rfl) (by kernel_rfl) (fun _ _ _ h => h) (Or.inl ⟨by rfl, fun W hSw => ?_⟩) (by assumption) ?_
  rotate_left
  · (clear hSw; go_simp; try with_reducible rfl)
  simp only [Act.put, List.setIfInBounds_toArray, List.set_cons_zero, List.set_cons_succ]
  refine take_h (i := 7) (v := ?_) rfl rfl (by kernel_rfl) (by kernel_rfl) (by kernel_rfl) (fun _ _ _ h => h) (Or.inl ⟨by rfl, fun W hSw => ?_⟩) (by assumption) ?_
  rotate_left
  · (obtain ⟨hs0, hs1, hs2, hs3⟩ := hSw; go_simp; try with_reducible rfl)
  simp only [Act.put, List.setIfInBounds_toArray, List.set_cons_zero, List.set_cons_succ]
  refine take_h (i := 8) (v := ?_) rfl rfl (by kernel_rfl) (by kernel_rfl) (by kernel_rfl) (fun _ _ _ h => h) (Or.inl ⟨by rfl, fun W hSw => ?_⟩) (by assumption) ?_
  rotate_left
  · (clear hSw; go_simp; try with_reducible rfl)
  simp only [Act.put, List.setIfInBounds_toArray, List.set_cons_zero, List.set_cons_succ]
  refine take_h (i := 9) (v := ?_) rfl rfl (by kernel_rfl) (by kernel_rfl) (by kernel_rfl) (fun _ _ _ h => h) (Or.inl ⟨by rfl, fun W hSw => ?_⟩) (by assumption) ?_
  rotate_left
  · (obtain ⟨hs0, hs1, hs2, hs3⟩ := hSw; go_simp; try with_reducible rfl)
  simp only [Act.put, List.setIfInBounds_toArray, List.set_cons_zero, List.set_cons_succ]
  refine step_h (i := 5) rfl rfl (by kernel_rfl) (fun K hK => ?_)
  go_simp
  go_wp2_with (first
    | (go_at_call 149; refine (WithT_any u s d A5 n5 c5 A3 n3 c3 _).mono ?_; rintro e w6 ⟨rfl, hB6⟩)
    | fail)
  have hy6 := Lib.hid (hy5.out.trans (hB6.mono hy5.out.size))
  have hS6 := hF.out _ hy6.out
  have rd6 := Lib.hid (And.intro (rd5.out.1.below hy6.out) (rd5.out.2.below hy6.out))
  clear hHeld
  refine hK.out _ _ hS6 (fun hHeld => ?_)
  clear hK K
  try simp only [Act.put, List.setIfInBounds_toArray, List.set_cons_zero, List.set_cons_succ]
  refine step_h (i := 10) rfl rfl (by kernel_rfl) (fun K hK => ?_)
  go_simp
  go_wp2_with (first
    | (go_at_call 147; refine (hBl.out A5 n5 c5 A3 n3 c3 _ rd6.out.1 rd6.out.2).mono ?_; rintro e w7 ⟨A7, n7, c7, rfl, hr7, hB7⟩)
    | fail)
  have hy7 := Lib.hid (hy6.out.trans (hB7.mono hy6.out.size))
  have hS7 := hF.out _ hy7.out
  clear hHeld
  refine hK.out _ _ hS7 (fun hHeld => ?_)
  clear hK K
  try simp only [Act.put, List.setIfInBounds_toArray, List.set_cons_zero, List.set_cons_succ]
  refine take_h (i := 11) (v := ?_) rfl rfl (by kernel_rfl) (by kernel_rfl) (by kernel_rfl) (fun _ _ _ h => h) (Or.inl ⟨by rfl, fun W hSw => ?_⟩) (by assumption) ?_
  rotate_left
  · (clear hSw; go_simp; try with_reducible rfl)
  simp only [Act.put, List.setIfInBounds_toArray, List.set_cons_zero, List.set_cons_succ]
  refine take_h (i := 12) (v := ?_) rfl rfl (by kernel_rfl) (by kernel_rfl) (by kernel_rfl) (fun _ _ _ h => h) (Or.inl ⟨by rfl, fun W hSw => ?_⟩) (by assumption) ?_
  rotate_left
  · (clear hSw; go_simp; try with_reducible rfl)
  simp only [Act.put, List.setIfInBounds_toArray, List.set_cons_zero, List.set_cons_succ]
  refine take_h (i := 13) (v := ?_) rfl rfl (by kernel_rfl) (by kernel_rfl) (by kernel_rfl) (fun _ _ _ h => h) (Or.inl ⟨by rfl, fun W hSw => ?_⟩) (by assumption) ?_
  rotate_left
  · (clear hSw; go_simp; try with_reducible rfl)
  simp only [Act.put, List.setIfInBounds_toArray, List.set_cons_zero, List.set_cons_succ]
  refine take_h (i := 14) (v := ?_) rfl rfl (by kernel_rfl) (by kernel_rfl) (by kernel_rfl) (fun _ _ _ h => h) (Or.inl ⟨by rfl, fun W hSw => ?_⟩) (by assumption) ?_
  rotate_left
  · (clear hSw; go_simp; try with_reducible rfl)
  simp only [Act.put, List.setIfInBounds_toArray, List.set_cons_zero, List.set_cons_succ]
  have k7 := k5.out.to hy7.out
  have e10 := k7.cell 10 _ rfl
  have f10 := k7.frz 10
  have nb7 := nbc4 k7
  have kL' : Blk (w7.setCell ⟨w.heap.size, 10, none⟩ (.slice A7 n7 c7)) w.heap.size (cells4 (movP p a b s d) A4 no c4 A7 n7 c7) 32 := by
    have := k7.set 10 (.slice A7 n7 c7)
    simpa [movP] using this
  have hL3 := k7.lt
  have hsz7 := hy7.out.size
  have kL := Lib.hid kL'
  have kP7 := kP5.out.to hy7.out
  have kP8 := Lib.hid (kP7.far (B' := w.heap.size) (by omega) 10 (.slice A7 n7 c7))
  have kZ8 := Lib.hid ((kZ5.out.to hy7.out).far (B' := w.heap.size) (by omega) 10 (.slice A7 n7 c7))
  have ro8 := Lib.hid ((ro5.out.below hy7.out).farN nb7 10 (.slice A7 n7 c7))
  have rd8 := Lib.hid (hr7.farN nb7 10 (.slice A7 n7 c7))
  have hb8 := Lib.hid ((hb5.out.trans (hy7.out.mono hb5.out.size)).setCell (p := ⟨w.heap.size, 10, none⟩) (Nat.le_refl _) (.slice A7 n7 c7))
  have hS8 : (w7.setCell ⟨w.heap.size, 10, none⟩ (.slice A7 n7 c7)).cell? ⟨w.heap.size + 1 + 1, 0, none⟩ = some (.int .i64 s) ∧ (w7.setCell ⟨w.heap.size, 10, none⟩ (.slice A7 n7 c7)).cell? ⟨w.heap.size + 1 + 1, 1, none⟩ = some (.int .i64 d) ∧ (w7.setCell ⟨w.heap.size, 10, none⟩ (.slice A7 n7 c7)).cell? ⟨w.heap.size, 5, none⟩ = some (.int .i64 a) ∧ (w7.setCell ⟨w.heap.size, 10, none⟩ (.slice A7 n7 c7)).cell? ⟨w.heap.size, 6, none⟩ = some (.int .i64 b) :=
    ⟨kP8.out.cell 0 _ rfl, kP8.out.cell 1 _ rfl, kL'.cell 5 _ rfl, kL'.cell 6 _ rfl⟩
  clear k7 nb7 kL' kP7
  refine step_h (i := 15) rfl rfl (by kernel_rfl) (fun K hK => ?_)
  go_simp
  refine hK.out _ _ hS8 (fun hHeld => ?_)
  clear hK K
  refine take_h (i := 16) (v := ?_) rfl rfl (by kernel_rfl) (by kernel_rfl) (by kernel_rfl) (fun _ _ _ h => h) (Or.inl ⟨by rfl, fun W hSw => ?_⟩) (by assumption) ?_
  rotate_left
  · (clear hSw; go_simp; try with_reducible rfl)
  simp only [Act.put, List.setIfInBounds_toArray, List.set_cons_zero, List.set_cons_succ]
  refine wpAnyH_done (by kernel_rfl) ?_ _
  clear hHeld hS5 hS6 hS7 hS8 e10 f10
  generalize w7.setCell ⟨w.heap.size, 10, none⟩ (.slice A7 n7 c7) = w8 at *
  try simp only [Act.put]
  go_wp2_with (first
    | (refine wpList_load_4 rfl (.tmp 3) rfl w.heap.size rfl _ kL.out rfl ?_)
    | (refine wpList_store_4 rfl (.tmp 6) (.tmp 66) rfl (w.heap.size + 1 + 1 + 1) (cells4 (movP p a b s d) A4 no c4 A7 n7 c7) rfl rfl _ kZ8.out rfl rfl (one4 _ _ _ _ _ _ _) ?_)
    | fail)
  refine bodyPost_ret (results_ct Try.results58 rfl (run_load_4 (Blk.mk (setRow_heap _ _ _ _ _ _ kZ8.out.at_)) rfl)) rfl ?_
  exact MovOut.row (z := zero4) hq.out hk.out kZ8.out ro8.out rd8.out hb8.out (by omega)
set_option maxRecDepth 100000 in
set_option maxHeartbeats 4000000 in
theorem Moved_1 (p : V4P) (a b s d : Int) (ao : Option Addr) (no co : Nat) (A : Option Addr) (n c : Nat) (w : World) (hro : RB w ao no co p.opts) (hr : RB w A n c p.data) (hno : no ≤ 100000) (hn : n ≤ 100000) (hc : codeP p = 0) (ha : rightB a = true) (hb' : rightB b = true) (hf : fitsB (max s d) 2 = true) (hs : mayS s) (hd : mayS d) (e1 : p.pr = 1) :
    Calls Try.prog 58 #[.agg (cells4 p ao no co A n c), .agg #[.int .i64 a, .int .i64 b], .agg #[.int .i64 s, .int .i64 d]] w (MovOut w (movQ p a b s d) (codeV p a b s d)) := by
  obtain ⟨w0, hw0⟩ : ∃ w0, (((w.alloc (.cells (cells4 p ao no co A n c) 32)).alloc (.cells #[.int .i64 a, .int .i64 b] 99)).alloc (.cells #[.int .i64 s, .int .i64 d] 99)).alloc (.cells zero4c 32) = w0 := ⟨_, rfl⟩
  have hb := Lib.hid (show Below w.heap.size w w0 by rw [← hw0]; exact ((((Below.refl _ w).alloc (Nat.le_refl _) _).alloc (by simp) _).alloc (by simp; omega) _).alloc (by simp; omega) _)
  have kB := Lib.hid (show Blk w0 w.heap.size (cells4 p ao no co A n c) 32 by rw [← hw0]; exact (((blk_at rfl).alloc _).alloc _).alloc _)
  have kE := Lib.hid (show Blk w0 (w.heap.size + 1) #[.int .i64 a, .int .i64 b] 99 by rw [← hw0]; exact ((blk_at (by simp)).alloc _).alloc _)
  have kP := Lib.hid (show Blk w0 (w.heap.size + 1 + 1) #[.int .i64 s, .int .i64 d] 99 by rw [← hw0]; exact (blk_at (by simp)).alloc _)
  have kZ := Lib.hid (show Blk w0 (w.heap.size + 1 + 1 + 1) zero4c 32 by rw [← hw0]; exact blk_at (by simp))
  have hWi := fun W (hW : Below w.heap.size w W) => Within_any p ao no co A n c W (hro.below hW) (hr.below hW) hno hn
  unfold WithinOut at hWi
  have hby := hr.byt
  obtain ⟨t, hmx⟩ : ∃ t, (if s < d then d else s) = t := ⟨_, rfl⟩
  have hmt : max s d = t := by rw [← hmx]; split <;> omega
  replace hro := Lib.hid hro
  replace hr := Lib.hid hr
  replace hw0 := Lib.hid hw0
  rw [hc] at hWi
  have hk := Lib.hid (show codeV p a b s d = 0 by unfold codeV; rw [if_neg (by simpa using hc), if_pos ⟨ha, hb', hf⟩])
  have hq := Lib.hid (show movQ p a b s d = movP p a b s d by unfold movQ; rw [hk.out, if_pos rfl])
  have hln := read_lens hby hc
  rw [hmt] at hf
  have hR1' := Lib.hid (fun W => show Calls Try.prog 65 #[.int .i64 a] W fun e w' => e = .returned (.bool true) ∧ W = w' by have := Right4_any W a; rwa [ha] at this)
  have hR2' := Lib.hid (fun W => show Calls Try.prog 65 #[.int .i64 b] W fun e w' => e = .returned (.bool true) ∧ W = w' by have := Right4_any W b; rwa [hb'] at this)
  have hFi' := Lib.hid (fun W => show Calls Try.prog 66 #[.int .i64 t, .int .i64 2] W fun e w' => e = .returned (.bool true) ∧ W = w' by have := Fits_any t 2 W; rwa [hf] at this)
  clear hmt
  have hW1 : ∀ W (hW : Below w.heap.size w W), Calls Try.prog 54 #[.agg (cells4 p ao no co A n c)] W (fun e w' => ∃ A3 n3 c3, e = .returned (.tuple #[.iface 137 (.agg (cellsI (readI p.data) A3 n3 c3)), .int .i64 0]) ∧ (RB w' A3 n3 c3 (readI p.data).data ∧ n3 ≤ 100000) ∧ Below W.heap.size W w') := fun W hW => (hWi W hW).mono (fun e w' ⟨v, he, hp, hB⟩ => by
    rcases hp rfl with ⟨h, _⟩ | ⟨h, _⟩ | ⟨_, A3, n3, c3, rfl, hr3⟩
    · omega
    · omega
    · exact ⟨A3, n3, c3, he, ⟨hr3, by have := hr3.len; have := hln.2.2 e1; omega⟩, hB⟩)
  obtain ⟨m1, m2⟩ := movB_1 (s := s) (d := d) a b hby hc e1
  have hBl : ∀ A3 n3 c3 W (h : RB W A3 n3 c3 (newI (readI p.data) s d).data), Calls Try.prog 150 #[.agg (cellsI (newI (readI p.data) s d) A3 n3 c3), .int .i64 a, .int .i64 b] W (TwoOut W (movD p a b s d) 0) := fun A3 n3 c3 W h => by
    have := BuildI_any (newI (readI p.data) s d) a b A3 n3 c3 W h
    have hl : (readI p.data).data.length = n3 := h.len
    rw [← hl, m1, m2] at this
    rw [← hl]
    exact this
  clear hWi hln m1 m2 hc ha hb' hf hs hd hby e1
  have hR1 := hR1'
  have hR2 := hR2'
  have hFi := hFi'
  clear hR1' hR2' hFi'
  generalize readI p.data = u at *
  replace hWi := Lib.hid hW1
  replace hBl := Lib.hid hBl
  clear hW1
  go_enter Try.func58, Try.ntmps58
  go_upto_region 1 with fail
  rw [hw0.out]
  go_upto_region 7 with (first
    | (refine wpList_load_4 rfl (.tmp 3) rfl w.heap.size rfl _ kB.out rfl ?_)
    | (go_at_call 54; refine (hWi.out _ hb.out).mono ?_; rintro e w1 ⟨A3, n3, c3, rfl, hr3, hB1⟩; have kB1 := Lib.hid (kB.out.to hB1); have kZ1 := Lib.hid (kZ.out.to hB1); have kE1 := Lib.hid (kE.out.to hB1); have kP1 := Lib.hid (kP.out.to hB1); have hb1 := Lib.hid (hb.out.trans (hB1.mono hb.out.size)); have p0 := kP1.out.cell 0 _ rfl; have p1 := kP1.out.cell 1 _ rfl; have q0 := kE1.out.cell 0 _ rfl; have q1 := kE1.out.cell 1 _ rfl; replace hB1 := 0; have hr3' := Lib.hid hr3; clear hr3)
    | (go_at_call_of 65 (Value.int .i64 a); refine (hR1.out _).mono ?_; rintro e w' ⟨rfl, rfl⟩)
    | (go_at_call_of 65 (Value.int .i64 b); refine (hR2.out _).mono ?_; rintro e w' ⟨rfl, rfl⟩)
    | (go_at_call 66; refine (hFi.out _).mono ?_; rintro e w' ⟨rfl, rfl⟩)
    | fail)
  have kd := kB1.out
  have e5 := kd.cell 5 _ rfl
  have f5 := kd.frz 5
  have e6 := (kd.set 5 (.int .i64 a)).cell 6 _ rfl
  have f6 := (kd.set 5 (.int .i64 a)).frz 6
  have hkE := Lib.hid (fun X (hX : Below w1.heap.size w1 X) => show (X.cell? ⟨w.heap.size + 1, 0, none⟩ = some (.int .i64 a) ∧ X.cell? ⟨w.heap.size + 1, 1, none⟩ = some (.int .i64 b)) from ⟨(kE1.out.to hX).cell 0 _ rfl, (kE1.out.to hX).cell 1 _ rfl⟩)
  have hL := kB1.out.lt
  have hB2 := Lib.hid ((hb1.out.setCell (p := ⟨w.heap.size, 5, none⟩) (Nat.le_refl _) (.int .i64 a)).setCell (p := ⟨w.heap.size, 6, none⟩) (Nat.le_refl _) (.int .i64 b)).drew
  have kE2 := (kE1.out.far (B' := w.heap.size) (by omega) 5 (.int .i64 a))
  have kE3 := Lib.hid (kE2.far (B' := w.heap.size) (by omega) 6 (.int .i64 b)).drew
  have kP3 := Lib.hid ((kP1.out.far (B' := w.heap.size) (by omega) 5 (.int .i64 a)).far (B' := w.heap.size) (by omega) 6 (.int .i64 b)).drew
  have kZ3 := Lib.hid ((kZ1.out.far (B' := w.heap.size) (by omega) 5 (.int .i64 a)).far (B' := w.heap.size) (by omega) 6 (.int .i64 b)).drew
  have kB2 : Blk (w1.setCell ⟨w.heap.size, 5, none⟩ (.int .i64 a)) w.heap.size (cells4 { p with src := a } ao no co A n c) 32 := by simpa using kd.set 5 (.int .i64 a)
  have kB3 : Blk ((w1.setCell ⟨w.heap.size, 5, none⟩ (.int .i64 a)).setCell ⟨w.heap.size, 6, none⟩ (.int .i64 b)).drew w.heap.size (cells4 { p with src := a, dst := b } ao no co A n c) 32 := by simpa using (kB2.set 6 (.int .i64 b)).drew
  have ro3 := Lib.hid ((((hro.out.below hb1.out).farN (nbc4 kd) 5 (.int .i64 a)).farN (nbc4 kB2) 6 (.int .i64 b))).drew
  have rd3 := Lib.hid ((hr3'.out.1.farN (nbc4 kd) 5 (.int .i64 a)).farN (nbc4 kB2) 6 (.int .i64 b)).drew
  have hS1 := hkE.out _ (Below.refl _ w1).drew
  have hS2 : ((w1.setCell ⟨w.heap.size, 5, none⟩ (.int .i64 a)).drew.cell? ⟨w.heap.size + 1, 0, none⟩ = some (.int .i64 a) ∧ (w1.setCell ⟨w.heap.size, 5, none⟩ (.int .i64 a)).drew.cell? ⟨w.heap.size + 1, 1, none⟩ = some (.int .i64 b)) := ⟨kE2.drew.cell 0 _ rfl, kE2.drew.cell 1 _ rfl⟩
  have hS3 : ((w1.setCell ⟨w.heap.size, 5, none⟩ (.int .i64 a)).setCell ⟨w.heap.size, 6, none⟩ (.int .i64 b)).drew.cell? ⟨w.heap.size + 1, 0, none⟩ = some (.int .i64 a) ∧ ((w1.setCell ⟨w.heap.size, 5, none⟩ (.int .i64 a)).setCell ⟨w.heap.size, 6, none⟩ (.int .i64 b)).drew.cell? ⟨w.heap.size + 1, 1, none⟩ = some (.int .i64 b) := ⟨kE3.out.cell 0 _ rfl, kE3.out.cell 1 _ rfl⟩
  replace kB3 := Lib.hid kB3
  clear kd kB2 kE2 hkE p0 p1 q0 q1
  try simp only [Act.put]
  refine wp_region_held_drew (S := fun W => W.cell? ⟨w.heap.size + 1, 0, none⟩ = some (.int .i64 a) ∧ W.cell? ⟨w.heap.size + 1, 1, none⟩ = some (.int .i64 b)) (by kernel_rfl) hS1 (fun hHeld => ?_)
  refine take_h (i := 0) (v := ?_) rfl rfl (by kernel_rfl) (by kernel_rfl) (by kernel_rfl) (fun _ _ _ h => h) (Or.inl ⟨by rfl, fun W hSw => ?_⟩) (by assumption) ?_
  rotate_left
  · (clear hSw; go_simp; try with_reducible rfl)
  simp only [Act.put, List.setIfInBounds_toArray, List.set_cons_zero, List.set_cons_succ]
  refine take_h (i := 1) (v := ?_) rfl rfl (by kernel_rfl) (by kernel_rfl) (by kernel_rfl) (fun _ _ _ h => h) (Or.inl ⟨by rfl, fun W hSw => ?_⟩) (by assumption) ?_
  rotate_left
  · (obtain ⟨hs0, _⟩ := hSw; go_simp; try with_reducible rfl)
  simp only [Act.put, List.setIfInBounds_toArray, List.set_cons_zero, List.set_cons_succ]
  refine take_h (i := 2) (v := ?_) rfl rfl (by kernel_rfl) (by kernel_rfl) (by kernel_rfl) (fun _ _ _ h => h) (Or.inl ⟨by rfl, fun W hSw => ?_⟩) (by assumption) ?_
  rotate_left
  · (clear hSw; go_simp; try with_reducible rfl)
  simp only [Act.put, List.setIfInBounds_toArray, List.set_cons_zero, List.set_cons_succ]
  refine take_h (i := 3) (v := ?_) rfl rfl (by kernel_rfl) (by kernel_rfl) (by kernel_rfl) (fun _ _ _ h => h) (Or.inl ⟨by rfl, fun W hSw => ?_⟩) (by assumption) ?_
  rotate_left
  · (obtain ⟨hs0, hs1⟩ := hSw; go_simp; try with_reducible rfl)
  simp only [Act.put, List.setIfInBounds_toArray, List.set_cons_zero, List.set_cons_succ]
  refine take_h (i := 4) (v := ?_) rfl rfl (by kernel_rfl) (by kernel_rfl) (by kernel_rfl) (fun _ _ _ h => h) (Or.inl ⟨by rfl, fun W hSw => ?_⟩) (by assumption) ?_
  rotate_left
  · (clear hSw; go_simp; try with_reducible rfl)
  simp only [Act.put, List.setIfInBounds_toArray, List.set_cons_zero, List.set_cons_succ]
  refine step_h (i := 5) rfl rfl (by kernel_rfl) (fun K hK => ?_)
  go_simp
  refine hK.out _ _ hS2 (fun hHeld => ?_)
  clear hK K
  try simp only [Act.put, List.setIfInBounds_toArray, List.set_cons_zero, List.set_cons_succ]
  refine take_h (i := 6) (v := ?_) rfl rfl (by kernel_rfl) (by kernel_rfl) (by kernel_rfl) (fun _ _ _ h => h) (Or.inl ⟨by rfl, fun W hSw => ?_⟩) (by assumption) ?_
  rotate_left
  · (clear hSw; go_simp; try with_reducible rfl)
  simp only [Act.put, List.setIfInBounds_toArray, List.set_cons_zero, List.set_cons_succ]
  refine step_h (i := 7) rfl rfl (by kernel_rfl) (fun K hK => ?_)
  go_simp
  refine hK.out _ _ hS3 (fun hHeld => ?_)
  clear hK K
  refine wpAnyH_done (by kernel_rfl) ?_ _
  obtain ⟨w3, hw3⟩ : ∃ w3, ((w1.setCell ⟨w.heap.size, 5, none⟩ (.int .i64 a)).setCell ⟨w.heap.size, 6, none⟩ (.int .i64 b)).drew = w3 := ⟨_, rfl⟩
  rw [hw3] at kB3 kE3 kP3 kZ3 hB2 ro3 rd3 ⊢
  replace hw3 := Lib.hid hw3
  clear hHeld hS1 hS2 hS3 e5 f5 e6 f6
  have e9 := kB3.out.cell 9 _ rfl
  have f9 := kB3.out.frz 9
  have hCl := Lib.hid (Clone_any ao no co p.opts w3 ro3.out (by omega))
  try simp only [Act.put]
  go_upto_region 9 with (first
    | (go_at_call 50; refine hCl.out.mono ?_; rintro e w4 ⟨A4, c4, rfl, ho4, hB4⟩; have k4 := kB3.out.to hB4; clear e9 f9; have e9 := k4.cell 9 _ rfl; have f9 := k4.frz 9; have hb4 := Lib.hid (hB2.out.trans (hB4.mono hB2.out.size)); have ho4' := Lib.hid ho4; have hB4' := Lib.hid hB4; replace ho4 := 0; replace hB4 := 0)
    | fail)
  have n4 := nbc4 k4
  have k5' : Blk (w4.setCell ⟨w.heap.size, 9, none⟩ (.slice A4 no c4)) w.heap.size (cells4 { p with src := a, dst := b } A4 no c4 A n c) 32 := by simpa using k4.set 9 (.slice A4 no c4)
  have hL2 := k4.lt
  have kP5 := Lib.hid ((kP3.out.to hB4'.out).far (B' := w.heap.size) (by omega) 9 (.slice A4 no c4))
  have kZ5 := Lib.hid ((kZ3.out.to hB4'.out).far (B' := w.heap.size) (by omega) 9 (.slice A4 no c4))
  have ro5 := Lib.hid (ho4'.out.rb.farN n4 9 (.slice A4 no c4))
  have hb5 := Lib.hid (hb4.out.setCell (p := ⟨w.heap.size, 9, none⟩) (Nat.le_refl _) (.slice A4 no c4))
  have rd5 := Lib.hid ((rd3.out.below hB4'.out).farN n4 9 (.slice A4 no c4))
  have k5 := Lib.hid k5'
  obtain ⟨w5, hw5⟩ : ∃ w5, w4.setCell ⟨w.heap.size, 9, none⟩ (.slice A4 no c4) = w5 := ⟨_, rfl⟩
  rw [hw5] at k5 kP5 kZ5 ro5 hb5 rd5 ⊢
  clear k5' n4 k4 e9 f9 hL hL2
  replace hw5 := Lib.hid hw5
  have hF := Lib.hid (fun W (hW : Below w5.heap.size w5 W) => show (W.cell? ⟨w.heap.size + 1 + 1, 0, none⟩ = some (.int .i64 s) ∧ W.cell? ⟨w.heap.size + 1 + 1, 1, none⟩ = some (.int .i64 d) ∧ W.cell? ⟨w.heap.size, 5, none⟩ = some (.int .i64 a) ∧ W.cell? ⟨w.heap.size, 6, none⟩ = some (.int .i64 b)) from
    ⟨(kP5.out.to hW).cell 0 _ rfl, (kP5.out.to hW).cell 1 _ rfl, (k5.out.to hW).cell 5 _ rfl, (k5.out.to hW).cell 6 _ rfl⟩)
  have hy5 := Lib.hid (Below.refl w5.heap.size w5).drew
  have hS5 := hF.out _ hy5.out
  try simp only [Act.put]
  refine wp_region_held_drew (S := fun W => W.cell? ⟨w.heap.size + 1 + 1, 0, none⟩ = some (.int .i64 s) ∧ W.cell? ⟨w.heap.size + 1 + 1, 1, none⟩ = some (.int .i64 d) ∧ W.cell? ⟨w.heap.size, 5, none⟩ = some (.int .i64 a) ∧ W.cell? ⟨w.heap.size, 6, none⟩ = some (.int .i64 b)) (by kernel_rfl) hS5 (fun hHeld => ?_)
  refine take_h (i := 0) (v := ?_) rfl rfl (by kernel_rfl) (by kernel_rfl) (by kernel_rfl) (fun _ _ _ h => h) (Or.inl ⟨by rfl, fun W hSw => ?_⟩) (by assumption) ?_
  rotate_left
  · (clear hSw; go_simp; try with_reducible rfl)
  simp only [Act.put, List.setIfInBounds_toArray, List.set_cons_zero, List.set_cons_succ]
  refine take_h (i := 1) (v := ?_) rfl rfl (by kernel_rfl) (by kernel_rfl) (by kernel_rfl) (fun _ _ _ h => h) (Or.inl ⟨by rfl, fun W hSw => ?_⟩) (by assumption) ?_
  rotate_left
  · (clear hSw; go_simp; try with_reducible rfl)
  simp only [Act.put, List.setIfInBounds_toArray, List.set_cons_zero, List.set_cons_succ]
  refine take_h (i := 2) (v := ?_) rfl rfl (by kernel_rfl) (by kernel_rfl) (by kernel_rfl) (fun _ _ _ h => h) (Or.inl ⟨by rfl, fun W hSw => ?_⟩) (by assumption) ?_
  rotate_left
  · (obtain ⟨hs0, hs1, hs2, hs3⟩ := hSw; go_simp; try with_reducible rfl)
  simp only [Act.put, List.setIfInBounds_toArray, List.set_cons_zero, List.set_cons_succ]
  refine take_h (i := 3) (v := ?_) rfl rfl (by kernel_rfl) (by kernel_rfl) (by kernel_rfl) (fun _ _ _ h => h) (Or.inl ⟨by rfl, fun W hSw => ?_⟩) (by assumption) ?_
  rotate_left
  · (clear hSw; go_simp; try with_reducible rfl)
  simp only [Act.put, List.setIfInBounds_toArray, List.set_cons_zero, List.set_cons_succ]
  refine take_h (i := 4) (v := ?_) rfl rfl (by kernel_rfl) (by kernel_rfl) (by kernel_rfl) (fun _ _ _ h => h) (Or.inl ⟨by rfl, fun W hSw => ?_⟩) (by assumption) ?_
  rotate_left
  · (obtain ⟨hs0, hs1, hs2, hs3⟩ := hSw; go_simp; try with_reducible rfl)
  simp only [Act.put, List.setIfInBounds_toArray, List.set_cons_zero, List.set_cons_succ]
  refine take_h (i := 6) (v := ?_) rfl rfl (by kernel_rfl) (by kernel_rfl) (by kernel_rfl) (fun _ _ _ h => h) (Or.inl ⟨by rfl, fun W hSw => ?_⟩) (by assumption) ?_
  rotate_left
  · (clear hSw; go_simp; try with_reducible rfl)
  simp only [Act.put, List.setIfInBounds_toArray, List.set_cons_zero, List.set_cons_succ]
  refine take_h (i := 7) (v := ?_) rfl rfl (by kernel_rfl) (by kernel_rfl) (by kernel_rfl) (fun _ _ _ h => h) (Or.inl ⟨by rfl, fun W hSw => ?_⟩) (by assumption) ?_
  rotate_left
  · (obtain ⟨hs0, hs1, hs2, hs3⟩ := hSw; go_simp; try with_reducible rfl)
  simp only [Act.put, List.setIfInBounds_toArray, List.set_cons_zero, List.set_cons_succ]
  refine take_h (i := 8) (v := ?_) rfl rfl (by kernel_rfl) (by kernel_rfl) (by kernel_rfl) (fun _ _ _ h => h) (Or.inl ⟨by rfl, fun W hSw => ?_⟩) (by assumption) ?_
  rotate_left
  · (clear hSw; go_simp; try with_reducible rfl)
  simp only [Act.put, List.setIfInBounds_toArray, List.set_cons_zero, List.set_cons_succ]
  refine take_h (i := 9) (v := ?_) rfl rfl (by kernel_rfl) (by kernel_rfl) (by kernel_rfl) (fun _ _ _ h => h) (Or.inl ⟨by rfl, fun W hSw => ?_⟩) (by assumption) ?_
  rotate_left
  · (obtain ⟨hs0, hs1, hs2, hs3⟩ := hSw; go_simp; try with_reducible rfl)
  simp only [Act.put, List.setIfInBounds_toArray, List.set_cons_zero, List.set_cons_succ]
  refine step_h (i := 5) rfl rfl (by kernel_rfl) (fun K hK => ?_)
  go_simp
  go_wp2_with (first
    | (go_at_call 152; refine (WithI_any u s d A3 n3 c3 _ (rd5.out.below hy5.out) hr3'.out.2).mono ?_; rintro e w6 ⟨A6, n6, c6, rfl, hr6, hB6⟩)
    | fail)
  have hy6 := Lib.hid (hy5.out.trans (hB6.mono hy5.out.size))
  have hS6 := hF.out _ hy6.out
  have rd6 := Lib.hid hr6; clear hr6
  clear hHeld
  refine hK.out _ _ hS6 (fun hHeld => ?_)
  clear hK K
  try simp only [Act.put, List.setIfInBounds_toArray, List.set_cons_zero, List.set_cons_succ]
  refine step_h (i := 10) rfl rfl (by kernel_rfl) (fun K hK => ?_)
  go_simp
  go_wp2_with (first
    | (go_at_call 150; refine (hBl.out A6 n6 c6 _ rd6.out).mono ?_; rintro e w7 ⟨A7, n7, c7, rfl, hr7, hB7⟩)
    | fail)
  have hy7 := Lib.hid (hy6.out.trans (hB7.mono hy6.out.size))
  have hS7 := hF.out _ hy7.out
  clear hHeld
  refine hK.out _ _ hS7 (fun hHeld => ?_)
  clear hK K
  try simp only [Act.put, List.setIfInBounds_toArray, List.set_cons_zero, List.set_cons_succ]
  refine take_h (i := 11) (v := ?_) rfl rfl (by kernel_rfl) (by kernel_rfl) (by kernel_rfl) (fun _ _ _ h => h) (Or.inl ⟨by rfl, fun W hSw => ?_⟩) (by assumption) ?_
  rotate_left
  · (clear hSw; go_simp; try with_reducible rfl)
  simp only [Act.put, List.setIfInBounds_toArray, List.set_cons_zero, List.set_cons_succ]
  refine take_h (i := 12) (v := ?_) rfl rfl (by kernel_rfl) (by kernel_rfl) (by kernel_rfl) (fun _ _ _ h => h) (Or.inl ⟨by rfl, fun W hSw => ?_⟩) (by assumption) ?_
  rotate_left
  · (clear hSw; go_simp; try with_reducible rfl)
  simp only [Act.put, List.setIfInBounds_toArray, List.set_cons_zero, List.set_cons_succ]
  refine take_h (i := 13) (v := ?_) rfl rfl (by kernel_rfl) (by kernel_rfl) (by kernel_rfl) (fun _ _ _ h => h) (Or.inl ⟨by rfl, fun W hSw => ?_⟩) (by assumption) ?_
  rotate_left
  · (clear hSw; go_simp; try with_reducible rfl)
  simp only [Act.put, List.setIfInBounds_toArray, List.set_cons_zero, List.set_cons_succ]
  refine take_h (i := 14) (v := ?_) rfl rfl (by kernel_rfl) (by kernel_rfl) (by kernel_rfl) (fun _ _ _ h => h) (Or.inl ⟨by rfl, fun W hSw => ?_⟩) (by assumption) ?_
  rotate_left
  · (clear hSw; go_simp; try with_reducible rfl)
  simp only [Act.put, List.setIfInBounds_toArray, List.set_cons_zero, List.set_cons_succ]
  have k7 := k5.out.to hy7.out
  have e10 := k7.cell 10 _ rfl
  have f10 := k7.frz 10
  have nb7 := nbc4 k7
  have kL' : Blk (w7.setCell ⟨w.heap.size, 10, none⟩ (.slice A7 n7 c7)) w.heap.size (cells4 (movP p a b s d) A4 no c4 A7 n7 c7) 32 := by
    have := k7.set 10 (.slice A7 n7 c7)
    simpa [movP] using this
  have hL3 := k7.lt
  have hsz7 := hy7.out.size
  have kL := Lib.hid kL'
  have kP7 := kP5.out.to hy7.out
  have kP8 := Lib.hid (kP7.far (B' := w.heap.size) (by omega) 10 (.slice A7 n7 c7))
  have kZ8 := Lib.hid ((kZ5.out.to hy7.out).far (B' := w.heap.size) (by omega) 10 (.slice A7 n7 c7))
  have ro8 := Lib.hid ((ro5.out.below hy7.out).farN nb7 10 (.slice A7 n7 c7))
  have rd8 := Lib.hid (hr7.farN nb7 10 (.slice A7 n7 c7))
  have hb8 := Lib.hid ((hb5.out.trans (hy7.out.mono hb5.out.size)).setCell (p := ⟨w.heap.size, 10, none⟩) (Nat.le_refl _) (.slice A7 n7 c7))
  have hS8 : (w7.setCell ⟨w.heap.size, 10, none⟩ (.slice A7 n7 c7)).cell? ⟨w.heap.size + 1 + 1, 0, none⟩ = some (.int .i64 s) ∧ (w7.setCell ⟨w.heap.size, 10, none⟩ (.slice A7 n7 c7)).cell? ⟨w.heap.size + 1 + 1, 1, none⟩ = some (.int .i64 d) ∧ (w7.setCell ⟨w.heap.size, 10, none⟩ (.slice A7 n7 c7)).cell? ⟨w.heap.size, 5, none⟩ = some (.int .i64 a) ∧ (w7.setCell ⟨w.heap.size, 10, none⟩ (.slice A7 n7 c7)).cell? ⟨w.heap.size, 6, none⟩ = some (.int .i64 b) :=
    ⟨kP8.out.cell 0 _ rfl, kP8.out.cell 1 _ rfl, kL'.cell 5 _ rfl, kL'.cell 6 _ rfl⟩
  clear k7 nb7 kL' kP7
  refine step_h (i := 15) rfl rfl (by kernel_rfl) (fun K hK => ?_)
  go_simp
  refine hK.out _ _ hS8 (fun hHeld => ?_)
  clear hK K
  refine take_h (i := 16) (v := ?_) rfl rfl (by kernel_rfl) (by kernel_rfl) (by kernel_rfl) (fun _ _ _ h => h) (Or.inl ⟨by rfl, fun W hSw => ?_⟩) (by assumption) ?_
  rotate_left
  · (clear hSw; go_simp; try with_reducible rfl)
  simp only [Act.put, List.setIfInBounds_toArray, List.set_cons_zero, List.set_cons_succ]
  refine wpAnyH_done (by kernel_rfl) ?_ _
  clear hHeld hS5 hS6 hS7 hS8 e10 f10
  generalize w7.setCell ⟨w.heap.size, 10, none⟩ (.slice A7 n7 c7) = w8 at *
  try simp only [Act.put]
  go_wp2_with (first
    | (refine wpList_load_4 rfl (.tmp 3) rfl w.heap.size rfl _ kL.out rfl ?_)
    | (refine wpList_store_4 rfl (.tmp 6) (.tmp 66) rfl (w.heap.size + 1 + 1 + 1) (cells4 (movP p a b s d) A4 no c4 A7 n7 c7) rfl rfl _ kZ8.out rfl rfl (one4 _ _ _ _ _ _ _) ?_)
    | fail)
  refine bodyPost_ret (results_ct Try.results58 rfl (run_load_4 (Blk.mk (setRow_heap _ _ _ _ _ _ kZ8.out.at_)) rfl)) rfl ?_
  exact MovOut.row (z := zero4) hq.out hk.out kZ8.out ro8.out rd8.out hb8.out (by omega)
theorem Moved_any (p : V4P) (a b s d : Int) (ao : Option Addr) (no co : Nat) (A : Option Addr) (n c : Nat) (w : World) (hro : RB w ao no co p.opts) (hr : RB w A n c p.data) (hno : no ≤ 100000) (hn : n ≤ 100000) (hms : fitsB (max s d) 2 = true → mayS s ∧ mayS d) :
    Calls Try.prog 58 #[.agg (cells4 p ao no co A n c), .agg #[.int .i64 a, .int .i64 b], .agg #[.int .i64 s, .int .i64 d]] w (MovOut w (movQ p a b s d) (codeV p a b s d)) := by
  by_cases hc : codeP p = 0
  rotate_left
  · exact Moved_noA p a b s d ao no co A n c w hro hr hno hn hc
  by_cases hok : rightB a = true ∧ rightB b = true ∧ fitsB (max s d) 2 = true
  rotate_left
  · exact Moved_noB p a b s d ao no co A n c w hro hr hno hn hc hok
  obtain ⟨ha, hb', hf⟩ := hok
  obtain ⟨hs, hd⟩ := hms hf
  rcases (codeP_zero hc).2.2 with ⟨h, _⟩ | ⟨h, _⟩ | ⟨h, _⟩
  · exact Moved_17 p a b s d ao no co A n c w hro hr hno hn hc ha hb' hf hs hd h
  · exact Moved_6 p a b s d ao no co A n c w hro hr hno hn hc ha hb' hf hs hd h
  · exact Moved_1 p a b s d ao no co A n c w hro hr hno hn hc ha hb' hf hs hd h
set_option maxRecDepth 100000 in
set_option maxHeartbeats 4000000 in
theorem PortsFrom_any (p : V4P) (addr port : Int) (ao : Option Addr) (no co : Nat) (A : Option Addr) (n c : Nat) (w : World) (hro : RB w ao no co p.opts) (hr : RB w A n c p.data) (hno : no ≤ 100000) (hn : n ≤ 100000) :
    Calls Try.prog 30 #[.agg (cells4 p ao no co A n c), .int .i64 addr, .int .i64 port] w (MovOut w (fromP p addr port) (codeM p addr port)) := by
  obtain ⟨w0, hw0⟩ : ∃ w0, (w.alloc (.cells (cells4 p ao no co A n c) 32)).alloc (.cells zero4c 32) = w0 := ⟨_, rfl⟩
  have hb := Lib.hid (show Below w.heap.size w w0 by rw [← hw0]; exact ((Below.refl _ w).alloc (Nat.le_refl _) _).alloc (by simp) _)
  have kB' := show Blk w0 w.heap.size (cells4 p ao no co A n c) 32 by rw [← hw0]; exact (blk_at rfl).alloc _
  have kZ := Lib.hid (show Blk w0 (w.heap.size + 1) zero4c 32 by rw [← hw0]; exact blk_at (by simp))
  have e5 := kB'.cell 5 _ rfl
  have e6 := kB'.cell 6 _ rfl
  have kB := Lib.hid kB'
  clear kB'
  have hM := fun W (hW : Below w.heap.size w W) => Moved_any p addr p.dst port (-1) ao no co A n c W (hro.below hW) (hr.below hW) hno hn (fun h => ⟨fits_may (by rw [← (fits_max port).1]; exact h), .inl rfl⟩)
  rw [codeV_from] at hM
  have hq : movQ p addr p.dst port (-1) = fromP p addr port := by unfold movQ fromP; rw [codeV_from]
  rw [hq] at hM
  unfold MovOut at hM ⊢
  generalize fromP p addr port = q at *
  generalize codeM p addr port = k at *
  replace hM := Lib.hid hM
  replace hw0 := Lib.hid hw0
  clear hro hr hq
  go_enter Try.func30, Try.ntmps30
  go_upto_region 1 with fail
  rw [hw0.out]
  go_wp2_with (first
    | (refine wpList_load_4 rfl (.tmp 3) rfl w.heap.size rfl _ kB.out rfl ?_)
    | (go_at_call 58; refine (hM.out _ hb.out).mono ?_; rintro e w1 ⟨A3, n3, c3, A4, n4, c4, rfl, ho1, hd1, hB1⟩; have kZ1 := Lib.hid (kZ.out.to hB1); have hb1 := Lib.hid (hb.out.trans (hB1.mono hb.out.size)); replace hB1 := 0; replace ho1 := Lib.hid ho1; replace hd1 := Lib.hid hd1)
    | (refine wpList_store_4 rfl (.tmp 6) (.tmp 16) rfl (w.heap.size + 1) (cells4 q A3 n3 c3 A4 n4 c4) rfl rfl _ kZ1.out rfl rfl (one4 _ _ _ _ _ _ _) ?_)
    | fail)
  refine bodyPost_ret (results_ct Try.results30 rfl (run_load_4 (Blk.mk (setRow_heap _ _ _ _ _ _ kZ1.out.at_)) rfl)) rfl ?_
  exact ⟨A3, n3, c3, A4, n4, c4, rfl, ho1.out.farRow (nbc4 (q := zero4) kZ1.out) _, hd1.out.farRow (nbc4 (q := zero4) kZ1.out) _, below_row hb1.out (Nat.le_succ _) _⟩
set_option maxRecDepth 100000 in
set_option maxHeartbeats 4000000 in
theorem PortsTo_any (p : V4P) (addr port : Int) (ao : Option Addr) (no co : Nat) (A : Option Addr) (n c : Nat) (w : World) (hro : RB w ao no co p.opts) (hr : RB w A n c p.data) (hno : no ≤ 100000) (hn : n ≤ 100000) :
    Calls Try.prog 31 #[.agg (cells4 p ao no co A n c), .int .i64 addr, .int .i64 port] w (MovOut w (toP p addr port) (codeM p addr port)) := by
  obtain ⟨w0, hw0⟩ : ∃ w0, (w.alloc (.cells (cells4 p ao no co A n c) 32)).alloc (.cells zero4c 32) = w0 := ⟨_, rfl⟩
  have hb := Lib.hid (show Below w.heap.size w w0 by rw [← hw0]; exact ((Below.refl _ w).alloc (Nat.le_refl _) _).alloc (by simp) _)
  have kB' := show Blk w0 w.heap.size (cells4 p ao no co A n c) 32 by rw [← hw0]; exact (blk_at rfl).alloc _
  have kZ := Lib.hid (show Blk w0 (w.heap.size + 1) zero4c 32 by rw [← hw0]; exact blk_at (by simp))
  have e5 := kB'.cell 5 _ rfl
  have e6 := kB'.cell 6 _ rfl
  have kB := Lib.hid kB'
  clear kB'
  have hM := fun W (hW : Below w.heap.size w W) => Moved_any p p.src addr (-1) port ao no co A n c W (hro.below hW) (hr.below hW) hno hn (fun h => ⟨.inl rfl, fits_may (by rw [← (fits_max port).2]; exact h)⟩)
  rw [codeV_to] at hM
  have hq : movQ p p.src addr (-1) port = toP p addr port := by unfold movQ toP; rw [codeV_to]
  rw [hq] at hM
  unfold MovOut at hM ⊢
  generalize toP p addr port = q at *
  generalize codeM p addr port = k at *
  replace hM := Lib.hid hM
  replace hw0 := Lib.hid hw0
  clear hro hr hq
  go_enter Try.func31, Try.ntmps31
  go_upto_region 1 with fail
  rw [hw0.out]
  go_wp2_with (first
    | (refine wpList_load_4 rfl (.tmp 3) rfl w.heap.size rfl _ kB.out rfl ?_)
    | (go_at_call 58; refine (hM.out _ hb.out).mono ?_; rintro e w1 ⟨A3, n3, c3, A4, n4, c4, rfl, ho1, hd1, hB1⟩; have kZ1 := Lib.hid (kZ.out.to hB1); have hb1 := Lib.hid (hb.out.trans (hB1.mono hb.out.size)); replace hB1 := 0; replace ho1 := Lib.hid ho1; replace hd1 := Lib.hid hd1)
    | (refine wpList_store_4 rfl (.tmp 6) (.tmp 16) rfl (w.heap.size + 1) (cells4 q A3 n3 c3 A4 n4 c4) rfl rfl _ kZ1.out rfl rfl (one4 _ _ _ _ _ _ _) ?_)
    | fail)
  refine bodyPost_ret (results_ct Try.results31 rfl (run_load_4 (Blk.mk (setRow_heap _ _ _ _ _ _ kZ1.out.at_)) rfl)) rfl ?_
  exact ⟨A3, n3, c3, A4, n4, c4, rfl, ho1.out.farRow (nbc4 (q := zero4) kZ1.out) _, hd1.out.farRow (nbc4 (q := zero4) kZ1.out) _, below_row hb1.out (Nat.le_succ _) _⟩
end Go.Proofs.Ytehecefapiblpaa
