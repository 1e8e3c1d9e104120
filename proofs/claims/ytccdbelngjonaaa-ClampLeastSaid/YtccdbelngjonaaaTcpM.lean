/- The greatest size that a segment tells (tcp): walk of MSS. -/
import Derived.Test.YtccdbelngjonaaaTcpOR
import Derived.RangeFuncNested
set_option linter.unusedVariables false
namespace Go.Proofs.Ytccdbelngjonaaa
open Go.RowKit
attribute [local go_sem] Oper.semAt_some

theorem RB.cutO {w : World} {b off n c : Nat} {bs : List Int} (h : RB w (some ⟨b, off, none⟩) n c bs) (a s : Nat) (hs : a + s ≤ n) : RB w (some ⟨b, off + a, none⟩) s s ((bs.drop a).take s) := by
  have h1 := (h.drop a (by omega)).first_ (show s ≤ n - a by omega)
  have := h.cm
  have := h.nc
  exact ⟨h1.len, Nat.le_refl _, by omega, h1.byt, (fun e => by cases e), h1.mem⟩
theorem getV_cut4 (bs : List Int) (a : Nat) (h : a + 4 ≤ bs.length) : (getV ((bs.drop a).take 4) 2 2).1 = (getV bs ((a : Int) + 2) 2).1 := by
  unfold getV
  rw [if_neg (by omega), if_neg (by simp; omega), if_neg (by omega), if_neg (by omega)]
  have e1 : (2 : Int).toNat = 2 := rfl
  have e2 : ((a : Int) + 2).toNat = a + 2 := by omega
  rw [e1, e2]
  unfold cutI
  rw [List.drop_take, List.drop_drop, List.take_take]
  simp

set_option maxRecDepth 100000 in
set_option maxHeartbeats 4000000 in
theorem MSS_any (m : TcpP) (Ao : Option Addr) (no co : Nat) (A : Option Addr) (n c : Nat) (w : World) (h : RB w Ao no co m.opts) (hn : no ≤ 100000) :
    Calls Try.prog 58 #[.agg (cellsT m Ao no co A n c)] w fun e w' => e = .returned (mssV (mssT m.opts)) ∧ Below w.heap.size w w' := by
  have hlen := h.len
  obtain ⟨b, off, hA⟩ : ∃ b off, 0 < no → (Ao = some ⟨b, off, none⟩ ∧ b < w.heap.size) := by
    by_cases hp : 0 < no
    · obtain ⟨b, off, e, hl, _⟩ := h.mem hp
      exact ⟨b, off, fun _ => ⟨e, hl⟩⟩
    · exact ⟨0, 0, fun h => absurd h hp⟩
  have hms := show mssT m.opts = mssF m.opts (places m.opts) from rfl
  have hpl := fun p (hp : p ∈ places m.opts) => places_lt hp
  have hE := show optE b off m.opts = (places m.opts).map fun (a : Nat) => #[.int .i64 (a : Int), .slice (some ⟨b, off + a, none⟩) (optL m.opts a) (optL m.opts a)] from rfl
  refine (callsIn_wide (n := 0)).1 ?_
  refine callsIn_of_wp_marks Try.func58 rfl trivial ?_ rfl
  simp only [Try.ntmps58, List.size_toArray, List.length_cons, List.length_nil, Nat.reduceAdd, Nat.reduceSub, Array.replicate_succ, Array.replicate_zero, List.push_toArray, List.append_toArray, List.nil_append, List.cons_append]
  replace h := Lib.hid h
  gi_wp2_with (refine ⟨trivial, rfl, (callsIn_wide.2 (Options_call _ _ _ _)).mono ?_⟩; rintro e w' ⟨rfl, rfl⟩)
  obtain ⟨Ws, hWs⟩ : ∃ Ws, ((((w.alloc (.cells (cellsT m Ao no co A n c) 73)).alloc (.cells #[.int .i64 0] 3)).alloc (.cells #[.int .i64 0] 3)).alloc (.cells #[.bool false] 4)).alloc (.cells #[.slice Ao no co] 22) = Ws := ⟨_, rfl⟩
  rw [hWs]
  have hsz : Ws.heap.size = w.heap.size + 5 := by rw [← hWs]; simp
  have x1 : Boxed Ws (w.heap.size + 1) 3 (.int .i64 0) := by
    rw [← hWs]
    have := Boxed.new (w.alloc (.cells (cellsT m Ao no co A n c) 73)) 3 (.int .i64 0)
    rw [World.size_alloc] at this
    exact ((this.alloc _).alloc _).alloc _
  have x2 : Boxed Ws (w.heap.size + 2) 3 (.int .i64 0) := by
    rw [← hWs]
    have := Boxed.new ((w.alloc (.cells (cellsT m Ao no co A n c) 73)).alloc (.cells #[.int .i64 0] 3)) 3 (.int .i64 0)
    rw [World.size_alloc, World.size_alloc] at this
    exact (this.alloc _).alloc _
  have x3 : Boxed Ws (w.heap.size + 3) 4 (.bool false) := by
    rw [← hWs]
    have := Boxed.new (((w.alloc (.cells (cellsT m Ao no co A n c) 73)).alloc (.cells #[.int .i64 0] 3)).alloc (.cells #[.int .i64 0] 3)) 4 (.bool false)
    rw [World.size_alloc, World.size_alloc, World.size_alloc] at this
    exact this.alloc _
  have x4 : Boxed Ws (w.heap.size + 4) 22 (.slice Ao no co) := by
    rw [← hWs]
    have := Boxed.new ((((w.alloc (.cells (cellsT m Ao no co A n c) 73)).alloc (.cells #[.int .i64 0] 3)).alloc (.cells #[.int .i64 0] 3)).alloc (.cells #[.bool false] 4)) 22 (.slice Ao no co)
    rw [World.size_alloc, World.size_alloc, World.size_alloc, World.size_alloc] at this
    exact this
  have hB1 : Below w.heap.size w Ws := by
    rw [← hWs]
    exact (((((Below.refl _ w).alloc (Nat.le_refl _) _).alloc (by simp) _).alloc (by simp; omega) _).alloc (by simp; omega) _).alloc (by simp; omega) _
  have hrb := h.out.below hB1
  clear hWs
  refine range_k (gf := 92) (lb := #[.pointer (some ⟨w.heap.size + 4, 0, none⟩)]) rfl (enters_of Try.func92 (by kernel_rfl) rfl) (own := fun k => k = w.heap.size + 1 ∨ k = w.heap.size + 2 ∨ k = w.heap.size + 3) (by intro k hk; omega)
    (Options_seq (w.heap.size + 4) no co b off Ao m.opts _ Ws x4 hrb (fun hp => (hA hp).1) hn (by omega) (fun hp => by have := (hA hp).2; omega)) ?hps
    (fun i W' => i ≤ (places m.opts).length ∧ mssT m.opts = mssF m.opts ((places m.opts).drop i) ∧ Boxed W' (w.heap.size + 1) 3 (.int .i64 0) ∧ Boxed W' (w.heap.size + 2) 3 (.int .i64 0) ∧ Boxed W' (w.heap.size + 3) 4 (.bool false))
    (fun cd _ W' => cd = .ret ∧ ∃ v a : Int, mssT m.opts = (v, a, true) ∧ Boxed W' (w.heap.size + 1) 3 (.int .i64 v) ∧ Boxed W' (w.heap.size + 2) 3 (.int .i64 a) ∧ Boxed W' (w.heap.size + 3) 4 (.bool true))
    (fun i A B h hg => ⟨h.1, h.2.1, hg.boxed h.2.2.1, hg.boxed h.2.2.2.1, hg.boxed h.2.2.2.2⟩) (fun cd i A B h hg => by obtain ⟨h1, v, a, h2, h3, h4, h5⟩ := h; exact ⟨h1, v, a, h2, hg.boxed h3, hg.boxed h4, hg.boxed h5⟩)
    ⟨Nat.zero_le _, hms, x1, x2, x3⟩ ?round ?done ?stop
  case hps =>
    intro e he
    unfold optE at he
    obtain ⟨a, _, rfl⟩ := List.mem_map.1 he
    rfl
  case round =>
    rintro l' i e W' he hi hk hs'
    unfold optE at he
    rw [List.getElem?_map] at he
    obtain ⟨a, ha, rfl⟩ := Option.map_eq_some_iff.1 he
    have hlt := (List.getElem?_eq_some_iff.1 ha).1
    obtain ⟨hp1, hp2, hp3⟩ := hpl a (List.mem_of_getElem? ha)
    rw [hlen] at hp1 hp3
    obtain ⟨rfl, hbl⟩ := hA (by omega)
    gi_wp2
    refine ⟨Below.refl _ _, fun W₂ hg hs2 => ?_⟩
    obtain ⟨hi0, hRi, i1, i2, i3⟩ := hi
    replace i1 := hg.boxed i1
    replace i2 := hg.boxed i2
    replace i3 := hg.boxed i3
    have hdr : (places m.opts).drop i = a :: (places m.opts).drop (i + 1) := by
      rw [List.drop_eq_getElem_cons hlt]
      rw [List.getElem?_eq_getElem hlt] at ha
      rw [Option.some.inj ha]
    rw [hdr] at hRi
    have hRd : mssF m.opts (a :: (places m.opts).drop (i + 1)) = if m.opts[a]?.getD 0 = 2 ∧ optL m.opts a = 4 then ((getV m.opts (a + 2) 2).1, (a : Int), true) else mssF m.opts ((places m.opts).drop (i + 1)) := rfl
    rw [hRd] at hRi
    have hr2 : RB W₂ (some ⟨b, off, none⟩) no co m.opts := hg.rb (hk.rb hrb (by omega) (by omega))
    obtain ⟨_, _, e', _, hc⟩ := hr2.mem (by omega)
    cases e'
    have hc0 := hc a hp3
    have hcut := hr2.cutO a (optL m.opts a) hp1
    have hG := fun hs : optL m.opts a = 4 => getV_cut4 m.opts a (by omega)
    clear hc hs2 he ha hdr hRd hk hg
    generalize m.opts[a]?.getD 0 = x at *
    generalize optL m.opts a = s at *
    have hs0 : (0 : Int) < s := by omega
    replace hcut := Lib.hid hcut
    replace hG := Lib.hid hG
    by_cases hx : x = 2
    · subst hx
      by_cases hs : s = 4
      · have hR2 := Lib.hid (hRi.trans (if_pos ⟨rfl, hs⟩))
        subst hs
        have hGc := Get_any _ 4 4 _ 2 2 W₂ hcut.out (by omega)
        have hg4 := hG.out rfl
        rw [hg4] at hGc
        replace hRi := 0
        replace hGc := Lib.hid hGc
        generalize (getV m.opts ((a : Int) + 2) 2).1 = v at *
        have c1 := i1.cell
        have c2 : W₂.cell? ⟨w.heap.size + 1 + 1, 0, none⟩ = some (.int .i64 0) := i2.cell
        have c3 : W₂.cell? ⟨w.heap.size + 1 + 1 + 1, 0, none⟩ = some (.bool false) := i3.cell
        have f1 := i1.frozen
        have f2 : W₂.frozen? ⟨w.heap.size + 1 + 1, 0, none⟩ = false := i2.frozen
        have f3 : W₂.frozen? ⟨w.heap.size + 1 + 1 + 1, 0, none⟩ = false := i3.frozen
        have j1 := Lib.hid (((i1.set (.int .i64 v)).other (B' := w.heap.size + 2) (by omega) (.int .i64 (a : Int))).other (B' := w.heap.size + 3) (by omega) (.bool true))
        have j2 := Lib.hid (((i2.other (B' := w.heap.size + 1) (by omega) (.int .i64 v)).set (.int .i64 (a : Int))).other (B' := w.heap.size + 3) (by omega) (.bool true))
        have j3 := Lib.hid (((i3.other (B' := w.heap.size + 1) (by omega) (.int .i64 v)).other (B' := w.heap.size + 2) (by omega) (.int .i64 (a : Int))).set (.bool true))
        replace i1 := Lib.hid i1
        replace i2 := Lib.hid i2
        replace i3 := Lib.hid i3
        gi_wp2_with fail
        refine call_round l' (hGc.out.mono ?_)
        rintro e w3 ⟨rfl, rfl⟩
        gi_wp2
        refine ⟨?_, rfl, v, (a : Int), hR2.out, j1.out, j2.out, j3.out⟩
        exact (((KeepX.refl _ _ _).setCell (p := ⟨w.heap.size + 1, 0, none⟩) (.inl (.inl rfl)) _).setCell (p := ⟨w.heap.size + 2, 0, none⟩) (.inl (.inr (.inl rfl))) _).setCell (p := ⟨w.heap.size + 3, 0, none⟩) (.inl (.inr (.inr rfl))) _
      · have hR2 := Lib.hid (hRi.trans (if_neg (fun h => hs h.2)))
        have hs4 : ((s : Int) == 4) = false := by simp; omega
        replace hRi := 0
        replace i1 := Lib.hid i1
        replace i2 := Lib.hid i2
        replace i3 := Lib.hid i3
        gi_wp2
        exact ⟨KeepX.refl _ _ _, by omega, hR2.out, i1.out, i2.out, i3.out⟩
    · have hR2 := Lib.hid (hRi.trans (if_neg (fun h => hx h.1)))
      have hx2 : (x == 2) = false := by simpa using hx
      replace hRi := 0
      replace i1 := Lib.hid i1
      replace i2 := Lib.hid i2
      replace i3 := Lib.hid i3
      gi_wp2
      exact ⟨KeepX.refl _ _ _, by omega, hR2.out, i1.out, i2.out, i3.out⟩
  case done =>
    intro W' hi hk' hd
    rw [optE_length] at hi
    obtain ⟨_, hRi, i1, i2, i3⟩ := hi
    rw [List.drop_length] at hRi
    have hR2 := Lib.hid (show mssT m.opts = (0, 0, false) from hRi)
    replace hRi := 0
    have hBW := Lib.hid (show Below w.heap.size w W' from ⟨hk'.os.trans hB1.os, hk'.tape.trans hB1.tape, hk'.output.trans hB1.output, Nat.le_trans hB1.size hk'.size, fun j hj => (hk'.keep j (by omega) (by omega)).trans (hB1.block j hj)⟩)
    have c1 := i1.cell
    have c2 : W'.cell? ⟨w.heap.size + 1 + 1, 0, none⟩ = some (.int .i64 0) := i2.cell
    have c3 : W'.cell? ⟨w.heap.size + 1 + 1 + 1, 0, none⟩ = some (.bool false) := i3.cell
    have f1 := i1.frozen
    have f2 : W'.frozen? ⟨w.heap.size + 1 + 1, 0, none⟩ = false := i2.frozen
    have f3 : W'.frozen? ⟨w.heap.size + 1 + 1 + 1, 0, none⟩ = false := i3.frozen
    have j1 := Lib.hid (((i1.set (.int .i64 0)).other (B' := w.heap.size + 2) (by omega) (.int .i64 0)).other (B' := w.heap.size + 3) (by omega) (.bool false))
    have j2 := Lib.hid (((i2.other (B' := w.heap.size + 1) (by omega) (.int .i64 0)).set (.int .i64 0)).other (B' := w.heap.size + 3) (by omega) (.bool false))
    have j3 := Lib.hid (((i3.other (B' := w.heap.size + 1) (by omega) (.int .i64 0)).other (B' := w.heap.size + 2) (by omega) (.int .i64 0)).set (.bool false))
    have hdf := Lib.hid (show (((W'.setCell ⟨w.heap.size + 1, 0, none⟩ (.int .i64 0)).setCell ⟨w.heap.size + 2, 0, none⟩ (.int .i64 0)).setCell ⟨w.heap.size + 3, 0, none⟩ (.bool false)).heap[Ws.heap.size]? = some (.deferred (some [])) from
      (Below.heap_setCell _ _ _ _ (by simp; omega)).trans ((Below.heap_setCell _ _ _ _ (by simp; omega)).trans ((Below.heap_setCell _ _ _ _ (by simp; omega)).trans hd)))
    replace i1 := Lib.hid i1
    replace i2 := Lib.hid i2
    replace i3 := Lib.hid i3
    have hbf := Lib.hid (((hBW.out.setCell (p := ⟨w.heap.size + 1, 0, none⟩) (by simp) (.int .i64 0)).setCell (p := ⟨w.heap.size + 2, 0, none⟩) (by simp) (.int .i64 0)).setCell (p := ⟨w.heap.size + 3, 0, none⟩) (by simp) (.bool false))
    clear hd hk' hB1 hrb
    gi_wp2
    refine leave_marks (N := w.heap.size) ⟨Ws.heap.size, rfl, by omega, hdf.out, by simp, trivial⟩ fun W3 hg => ?_
    have r1 := hg.cell j1.out.cell
    have r2 : W3.cell? ⟨w.heap.size + 1 + 1, 0, none⟩ = some (.int .i64 0) := hg.cell j2.out.cell
    have r3 : W3.cell? ⟨w.heap.size + 1 + 1 + 1, 0, none⟩ = some (.bool false) := hg.cell j3.out.cell
    exact ⟨mssV (0, 0, false), by simp [results, Try.results58, go_sem, r1, r2, r3, mssV], by rw [hR2.out], hg.below (Nat.le_refl _) hbf.out (Nat.le_refl _)⟩
  case stop =>
    rintro cd i W' hile ⟨rfl, v, a, hRi, i1, i2, i3⟩ hk' hd
    have hBW := Lib.hid (show Below w.heap.size w W' from ⟨hk'.os.trans hB1.os, hk'.tape.trans hB1.tape, hk'.output.trans hB1.output, Nat.le_trans hB1.size hk'.size, fun j hj => (hk'.keep j (by omega) (by omega)).trans (hB1.block j hj)⟩)
    replace hRi := Lib.hid hRi
    replace i1 := Lib.hid i1
    replace i2 := Lib.hid i2
    replace i3 := Lib.hid i3
    replace hd := Lib.hid hd
    clear hk' hB1 hrb
    gi_wp2
    refine leave_marks (N := w.heap.size) ⟨Ws.heap.size, rfl, by omega, hd.out, by simp, trivial⟩ fun W3 hg => ?_
    have r1 := hg.cell i1.out.cell
    have r2 : W3.cell? ⟨w.heap.size + 1 + 1, 0, none⟩ = some (.int .i64 a) := hg.cell i2.out.cell
    have r3 : W3.cell? ⟨w.heap.size + 1 + 1 + 1, 0, none⟩ = some (.bool true) := hg.cell i3.out.cell
    exact ⟨mssV (v, a, true), by simp [results, Try.results58, go_sem, r1, r2, r3, mssV], by rw [hRi.out], hg.below (Nat.le_refl _) hBW.out (Nat.le_refl _)⟩
end Go.Proofs.Ytccdbelngjonaaa
