/- Captures: walk of Parse. -/
import Derived.Test.YtbbdkfadcafpfaaPcapS
import Derived.Test.YtbbdkfadcafpfaaQuadsIn
import Derived.RangeFuncNested
set_option linter.unusedVariables false
namespace Go.Proofs.Ytbbdkfadcafpfaa
open Go Go.RowKit
attribute [local go_sem] Oper.semAt_some

def errR : List (QP × Int) → Int
  | [] => 0
  | p :: r => if p.2 = 0 then errR r else p.2
def recsOf (l : List (QP × Int)) : List QP := if errR l = 0 then l.map (·.1) else []
theorem recsF_length : ∀ (f : Nat) (bs : List Int), (recsF f bs).length ≤ f
  | 0, _ => Nat.le_refl _
  | f + 1, bs => by
    unfold recsF
    split
    · simp
    · split
      · have := recsF_length f (bs.drop (16 + ownV bs).toNat); simp; omega
      · simp
theorem outsR_length (bs : List Int) : (outsR bs).length ≤ bs.length + 1 := by
  unfold outsR
  split
  · exact recsF_length _ _
  · simp
def PParseOut (w : World) (bs : List Int) (e : Ending) (w' : World) : Prop :=
  ∃ A2 n2 c2, e = .returned (.tuple #[.slice A2 n2 c2, .int .i64 (errR (outsR bs))]) ∧ LQ w' A2 n2 c2 (recsOf (outsR bs)) ∧ Below w.heap.size w w'

theorem LO.far {w : World} {base B t : Nat} {T : TypeId} {v : Value} {A : Option Addr} {n c : Nat} {l : List QP} (h : LO w base T A n c l) (hx : Boxed w B t v) (hv : ∀ x, v ≠ .int .u8 x) (hB : B < base) (u : Value) : LO (w.setCell ⟨B, 0, none⟩ u) base T A n c l := by
  obtain ⟨ps, h1, h2, h3⟩ := h
  exact ⟨ps, h1, ⟨h2.own.kept (row := some B) ⟨rfl, rfl, rfl, by simp [World.setCell], fun k _ hk => Below.heap_setCell _ _ _ _ (fun e => hk (by simp [e]))⟩ (.inr (by rw [ownBlk_eq]; intro e; have := (h2.blk e).1; omega))⟩, fun p hp => ⟨(h3 p hp).1.far hx hv u, (h3 p hp).2⟩⟩
theorem Boxed.otherB {W : World} {B B' t : Nat} {v : Value} (h : Boxed W B t v) (hB : B' ≠ B) (u : Value) : Boxed (W.setCell ⟨B', 0, none⟩ u) B t v := (Below.heap_setCell W ⟨B', 0, none⟩ u B (fun e => hB e.symm)).trans h
theorem take_fst {l : List (QP × Int)} {i : Nat} {q : QP} {k : Int} (h : l[i]? = some (q, k)) : (l.take (i + 1)).map (·.1) = (l.take i).map (·.1) ++ [q] := by
  rw [List.take_add_one, h, Option.toList_some, List.map_append]; rfl
theorem errR_at {l : List (QP × Int)} {i : Nat} {q : QP} {k : Int} (h : l[i]? = some (q, k)) : errR (l.drop i) = if k = 0 then errR (l.drop (i + 1)) else k := by
  have hlt := (List.getElem?_eq_some_iff.1 h).1
  rw [List.drop_eq_getElem_cons hlt]
  rw [List.getElem?_eq_getElem hlt] at h
  rw [Option.some.inj h]; rfl

set_option maxRecDepth 100000 in
set_option maxHeartbeats 2000000 in
theorem PParse_any (A : Option Addr) (n c : Nat) (bs : List Int) (w : World) (h : RB w A n c bs) (hn : n ≤ 100000) :
    Calls Try.prog 42 #[.slice A n c] w (PParseOut w bs) := by
  have hlen := h.len
  obtain ⟨b, hA, hbn⟩ : ∃ b, (0 < n → (∃ o, A = some ⟨b, o, none⟩) ∧ b < w.heap.size) ∧ ¬ (b = w.heap.size ∨ b = w.heap.size + 1 ∨ b = w.heap.size + 2) := by
    by_cases hp : 0 < n
    · obtain ⟨b, off, e, hl, _⟩ := h.mem hp
      exact ⟨b, fun _ => ⟨⟨off, e⟩, hl⟩, by omega⟩
    · exact ⟨w.heap.size + 9, fun h => absurd h hp, by omega⟩
  have hml := outsR_length bs
  rw [hlen] at hml
  refine (callsIn_wide (n := 0)).1 ?_
  refine callsIn_of_wp_marks Try.func42 rfl trivial ?_ rfl
  simp only [Try.ntmps42, List.size_toArray, List.length_cons, List.length_nil, Nat.reduceAdd, Nat.reduceSub, Array.replicate_succ, Array.replicate_zero, List.push_toArray, List.append_toArray, List.nil_append, List.cons_append]
  replace h := Lib.hid h
  gi_wp2_with (refine ⟨trivial, rfl, (callsIn_wide.2 (Records_call _ _ _ _)).mono ?_⟩; rintro e w' ⟨rfl, rfl⟩)
  obtain ⟨Ws, hWs⟩ : ∃ Ws, (((w.alloc (.cells #[.slice none 0 0] 52)).alloc (.cells #[.int .i64 0] 28)).alloc (.cells #[.slice none 0 0] 52)).alloc (.cells #[.slice A n c] 24) = Ws := ⟨_, rfl⟩
  rw [hWs]
  have hsz1 : w.heap.size + 4 ≤ Ws.heap.size := by rw [← hWs]; simp
  have hsz2 : Ws.heap.size ≤ w.heap.size + 4 := by rw [← hWs]; simp
  have x1 : Boxed Ws w.heap.size 52 (.slice none 0 0) := by
    rw [← hWs]
    exact (((Boxed.new w 52 (.slice none 0 0)).alloc _).alloc _).alloc _
  have x2 : Boxed Ws (w.heap.size + 1) 28 (.int .i64 0) := by
    rw [← hWs]
    have := Boxed.new (w.alloc (.cells #[.slice none 0 0] 52)) 28 (.int .i64 0)
    rw [World.size_alloc] at this
    exact (this.alloc _).alloc _
  have x3 : Boxed Ws (w.heap.size + 2) 52 (.slice none 0 0) := by
    rw [← hWs]
    have := Boxed.new ((w.alloc (.cells #[.slice none 0 0] 52)).alloc (.cells #[.int .i64 0] 28)) 52 (.slice none 0 0)
    rw [World.size_alloc, World.size_alloc] at this
    exact this.alloc _
  have x4 : Boxed Ws (w.heap.size + 3) 24 (.slice A n c) := by
    rw [← hWs]
    have := Boxed.new (((w.alloc (.cells #[.slice none 0 0] 52)).alloc (.cells #[.int .i64 0] 28)).alloc (.cells #[.slice none 0 0] 52)) 24 (.slice A n c)
    rw [World.size_alloc, World.size_alloc, World.size_alloc] at this
    exact this
  have hB1 : Below w.heap.size w Ws := by
    rw [← hWs]
    exact ((((Below.refl _ w).alloc (Nat.le_refl _) _).alloc (by simp) _).alloc (by simp; omega) _).alloc (by simp; omega) _
  have hrb := h.out.below hB1
  clear hWs
  have hseq := Records_seq (w.heap.size + 3) n c b A bs (fun k => k = w.heap.size ∨ k = w.heap.size + 1 ∨ k = w.heap.size + 2) Ws x4 hrb (fun hp => ⟨(hA hp).1, by have := (hA hp).2; omega⟩) hn (by omega) hbn
  refine range_kR (gf := 76) (lb := #[.pointer (some ⟨w.heap.size + 3, 0, none⟩)]) rfl (enters_of Try.func76 (by kernel_rfl) rfl) (own := fun k => k = w.heap.size ∨ k = w.heap.size + 1 ∨ k = w.heap.size + 2) (by intro k hk; omega)
    hseq ?hps
    (fun i W' => i ≤ (outsR bs).length ∧ errR (outsR bs) = errR ((outsR bs).drop i) ∧ Boxed W' w.heap.size 52 (.slice none 0 0) ∧ Boxed W' (w.heap.size + 1) 28 (.int .i64 0) ∧ ∃ A2 n2 c2, Boxed W' (w.heap.size + 2) 52 (.slice A2 n2 c2) ∧ LO W' (Ws.heap.size + 2) 67 A2 n2 c2 (((outsR bs).take i).map (·.1)))
    (fun cd _ W' => cd = .ret ∧ ∃ k : Int, k ≠ 0 ∧ errR (outsR bs) = k ∧ Boxed W' w.heap.size 52 (.slice none 0 0) ∧ Boxed W' (w.heap.size + 1) 28 (.int .i64 k))
    (fun i A B h hg => by obtain ⟨h1, h2, h3, h4, A2, n2, c2, h5, h6⟩ := h; exact ⟨h1, h2, hg.boxed h3, hg.boxed h4, A2, n2, c2, hg.boxed h5, h6.gr hg⟩) (fun cd i A B h hg => by obtain ⟨h1, k, h2, h3, h4, h5⟩ := h; exact ⟨h1, k, h2, h3, hg.boxed h4, hg.boxed h5⟩)
    ⟨Nat.zero_le _, rfl, x1, x2, none, 0, 0, x3, LO.nil _ _ _⟩ ?round ?done ?stop
  case hps =>
    rintro i e W ⟨q, k, A3, m3, c3, _, rfl, _⟩
    rfl
  case round =>
    rintro l' i e W' him ⟨q, k, A3, m3, c3, hel, rfl, ho⟩ hi hk hs'
    gi_wp2
    refine ⟨(Below.refl _ _).alloc (Nat.le_refl _) _, fun W₂ hg hs2 => ?_⟩
    obtain ⟨hi0, hRi, i1, i2, A2, n2, c2, i3, hlo⟩ := hi
    replace i1 := hg.boxed (i1.alloc _)
    replace i2 := hg.boxed (i2.alloc _)
    replace i3 := hg.boxed (i3.alloc _)
    have hlo2 := (hlo.alloc _).gr hg
    have ho2 := (ho.alloc _).gr hg
    have kr := (Blk.new W' (cellsQ q A3 m3 c3) 67).gr hg
    have hsW : Ws.heap.size + 2 ≤ W₂.heap.size := by have := hg.size; rw [World.size_alloc] at this; omega
    have hrlt : Ws.heap.size + 2 ≤ W'.heap.size := hs'
    rw [errR_at hel] at hRi
    have htk := take_fst hel
    have hn2 : n2 ≤ 100001 := by
      have := hlo2.len
      rw [List.length_map, List.length_take] at this
      omega
    clear hs2 hg hlo ho hk hs'
    by_cases hk0 : k = 0
    · subst hk0
      rw [if_pos rfl] at hRi
      have hR2 := Lib.hid hRi
      have c3' := i3.cell
      have f3' := i3.frozen
      obtain ⟨r0, r1, r2, r3⟩ := qcells kr
      have hbo := Lib.hid (fun k' (hk' : ownBlk A2 = some k') => (hlo2.blk hk').1)
      replace hlo2 := Lib.hid (hlo2.alloc (.cells (cellsQ q A3 m3 c3) 67))
      replace ho2 := Lib.hid (ho2.alloc (.cells (cellsQ q A3 m3 c3) 67))
      have hi1 := Lib.hid (i1.alloc (.cells (cellsQ q A3 m3 c3) 67))
      have hi2 := Lib.hid (i2.alloc (.cells (cellsQ q A3 m3 c3) 67))
      have hi3 := Lib.hid (i3.alloc (.cells (cellsQ q A3 m3 c3) 67))
      have hkx := Lib.hid ((KeepX.refl (fun k => k = w.heap.size ∨ k = w.heap.size + 1 ∨ k = w.heap.size + 2) (Ws.heap.size + 2) W₂).alloc hsW (.cells (cellsQ q A3 m3 c3) 67))
      replace htk := Lib.hid htk
      clear i1 i2 i3 kr hRi
      gi_wp2_with (gi_at_builtin; refine wpListIn_append_lo _ rfl 52 67 (.tmp 14) (.tmp 16) rfl (.agg zeroQc) Try.underlying52 info_recz rfl rfl (g := W₂.heap.size) rfl hlo2.out (Blk.new W₂ (cellsQ q A3 m3 c3) 67) ho2.out.rb (fun _ => ho2.out.apart hlo2.out (by decide)) (by omega) (by rw [World.size_alloc]; omega) ?_; intro A6 c6 w6 hlo6 hg6 hr6; have i36 := Boxed.kept hi3.out hg6 (fun e => by have := hbo.out _ e.symm; omega); have c36 := Boxed.cell i36; have f36 := Boxed.frozen i36; have j3 := Lib.hid (Boxed.set (.slice A6 (n2 + 1) c6) i36); have j1 := Lib.hid (Boxed.otherB (Boxed.kept hi1.out hg6 (fun e => by have := hbo.out _ e.symm; omega)) (B' := w.heap.size + 2) (by omega) (.slice A6 (n2 + 1) c6)); have j2 := Lib.hid (Boxed.otherB (Boxed.kept hi2.out hg6 (fun e => by have := hbo.out _ e.symm; omega)) (B' := w.heap.size + 2) (by omega) (.slice A6 (n2 + 1) c6)); have hlo7 := Lib.hid (hlo6.far i36 (by intro x hx; cases hx) (by omega) (.slice A6 (n2 + 1) c6)); have hkx2 := Lib.hid ((hkx.out.grown hg6 (by rw [World.size_alloc]; omega) (fun k hk => .inr (hbo.out k hk))).setCell (p := ⟨w.heap.size + 2, 0, none⟩) (.inl (.inr (.inr rfl))) (.slice A6 (n2 + 1) c6)); replace i36 := 0; clear hlo6 hg6 hr6)
      refine ⟨hkx2.out, by omega, hR2.out, j1.out, j2.out, A6, n2 + 1, c6, j3.out, ?_⟩
      have := hlo7.out
      rw [← htk.out] at this
      first | exact this | (rw [List.map_take] at this; exact this)
    · rw [if_neg hk0] at hRi
      have hR2 := Lib.hid hRi
      have hne : (k != 0) = true := by simpa using hk0
      have c1' := i1.cell
      have f1' := i1.frozen
      have c2' := i2.cell
      have f2' := i2.frozen
      have j1 := Lib.hid (Boxed.otherB (Boxed.set (.slice none 0 0) i1) (B' := w.heap.size + 1) (by omega) (.int .i64 k))
      have j2 := Lib.hid (Boxed.set (.int .i64 k) (Boxed.otherB i2 (B' := w.heap.size) (by omega) (.slice none 0 0)))
      have hkk := Lib.hid hk0
      replace i1 := Lib.hid i1
      replace i2 := Lib.hid i2
      clear hRi
      gi_wp2
      refine ⟨?_, rfl, k, hkk.out, hR2.out, j1.out, j2.out⟩
      exact ((KeepX.refl _ _ _).setCell (p := ⟨w.heap.size, 0, none⟩) (.inl (.inl rfl)) _).setCell (p := ⟨w.heap.size + 1, 0, none⟩) (.inl (.inr (.inl rfl))) _
  case done =>
    intro W' hi hk' hd
    obtain ⟨_, hRi, i1, i2, A2, n2, c2, i3, hlo⟩ := hi
    rw [List.drop_length] at hRi
    rw [List.take_length] at hlo
    have hR2 := Lib.hid (show errR (outsR bs) = 0 from hRi)
    have hrec := Lib.hid (show recsOf (outsR bs) = (outsR bs).map (·.1) by unfold recsOf; rw [if_pos hR2.out])
    have hBW := Lib.hid (show Below w.heap.size w W' from ⟨hk'.os.trans hB1.os, hk'.tape.trans hB1.tape, hk'.output.trans hB1.output, Nat.le_trans hB1.size hk'.size, fun j hj => (hk'.keep j (by omega) (by omega)).trans (hB1.block j hj)⟩)
    have c1 := i1.cell
    have c2' := i2.cell
    have c3' := i3.cell
    have f1 := i1.frozen
    have f2 := i2.frozen
    have j1 := Lib.hid (Boxed.otherB (Boxed.set (.slice A2 n2 c2) i1) (B' := w.heap.size + 1) (by omega) (.int .i64 0))
    have j2 := Lib.hid (Boxed.set (.int .i64 0) (Boxed.otherB i2 (B' := w.heap.size) (by omega) (.slice A2 n2 c2)))
    have hlo2 := Lib.hid ((hlo.far i1 (by intro x hx; cases hx) (by omega) (.slice A2 n2 c2)).far (Boxed.otherB i2 (B' := w.heap.size) (by omega) (.slice A2 n2 c2)) (by intro x hx; cases hx) (by omega) (.int .i64 0))
    have hdf := Lib.hid (show ((W'.setCell ⟨w.heap.size, 0, none⟩ (.slice A2 n2 c2)).setCell ⟨w.heap.size + 1, 0, none⟩ (.int .i64 0)).heap[Ws.heap.size]? = some (.deferred (some [])) from
      (Below.heap_setCell _ _ _ _ (by simp; omega)).trans ((Below.heap_setCell _ _ _ _ (by simp; omega)).trans hd))
    have hbf := Lib.hid ((hBW.out.setCell (p := ⟨w.heap.size, 0, none⟩) (Nat.le_refl _) (.slice A2 n2 c2)).setCell (p := ⟨w.heap.size + 1, 0, none⟩) (Nat.le_succ _) (.int .i64 0))
    replace i1 := Lib.hid i1
    replace i2 := Lib.hid i2
    replace i3 := Lib.hid i3
    clear hd hk' hB1 hrb hRi hlo
    gi_wp2
    refine leave_marks (N := w.heap.size) ⟨Ws.heap.size, rfl, by omega, hdf.out, by simp, trivial⟩ fun W3 hg => ?_
    have r1 := hg.cell (Boxed.cell j1.out)
    have r2 := hg.cell (Boxed.cell j2.out)
    exact ⟨.tuple #[.slice A2 n2 c2, .int .i64 0], by simp [results, Try.results42, go_sem, r1, r2], ⟨A2, n2, c2, by rw [hR2.out], by rw [hrec.out]; exact (hlo2.out.gr hg).lq, hg.below (Nat.le_refl _) hbf.out (Nat.le_refl _)⟩⟩
  case stop =>
    rintro cd i W' hile ⟨rfl, k, hk0, hRi, i1, i2⟩ hk' hd
    have hBW := Lib.hid (show Below w.heap.size w W' from ⟨hk'.os.trans hB1.os, hk'.tape.trans hB1.tape, hk'.output.trans hB1.output, Nat.le_trans hB1.size hk'.size, fun j hj => (hk'.keep j (by omega) (by omega)).trans (hB1.block j hj)⟩)
    have hrec := Lib.hid (show recsOf (outsR bs) = [] by unfold recsOf; rw [hRi, if_neg hk0])
    replace hRi := Lib.hid hRi
    replace i1 := Lib.hid i1
    replace i2 := Lib.hid i2
    replace hd := Lib.hid hd
    clear hk' hB1 hrb
    gi_wp2
    refine leave_marks (N := w.heap.size) ⟨Ws.heap.size, rfl, by omega, hd.out, by simp, trivial⟩ fun W3 hg => ?_
    have r1 := hg.cell (Boxed.cell i1.out)
    have r2 := hg.cell (Boxed.cell i2.out)
    exact ⟨.tuple #[.slice none 0 0, .int .i64 k], by simp [results, Try.results42, go_sem, r1, r2], ⟨none, 0, 0, by rw [hRi.out], by rw [hrec.out]; exact LQ.nil _, hg.below (Nat.le_refl _) hBW.out (Nat.le_refl _)⟩⟩
end Go.Proofs.Ytbbdkfadcafpfaa
