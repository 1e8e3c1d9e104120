/- Captures: the law PcapParses. -/
import Derived.Test.YtbbdkfadcafpfaaPcapE
import Derived.Test.YtbbdkfadcafpfaaPcapA
set_option linter.unusedVariables false
namespace Go.Proofs.Ytbbdkfadcafpfaa
open Go Go.RowKit
attribute [local go_sem] Oper.semAt_some

theorem keepT_cell {N : Nat} {A B : World} (h : KeepO (fun k o => N ≤ k ∧ ttE o) A B) {p : Addr} {v : Value} (hc : A.cell? p = some v) (hv : ∀ x, v ≠ .int .i64 x) : B.cell? p = some v := by
  obtain ⟨o, ho, hr⟩ := cells_of_cell hc
  have := h.keep _ o ho (by
    rintro ⟨_, h1 | ⟨x, fr, rfl⟩⟩
    · cases o <;> simp_all [Obj.isCells, isRec]
    · have hc2 : (if p.spot.isSome then none else (#[Value.int IntKind.i64 x])[p.off]?) = some v := by
        unfold World.cell? at hc; rw [ho] at hc; exact hc
      split at hc2
      · cases hc2
      · have h0 := (Array.getElem?_eq_some_iff.1 hc2).1
        have h1 : p.off = 0 := by simpa using h0
        rw [h1] at hc2
        exact hv x (Option.some.inj hc2).symm)
  exact (World.cell?_of_block (this.trans ho.symm)).trans hc
theorem RB.keepT {N : Nat} {A B : World} (h : KeepO (fun k o => N ≤ k ∧ ttE o) A B) {a : Option Addr} {n c : Nat} {bs : List Int} (hx : RB A a n c bs) : RB B a n c bs :=
  ⟨hx.len, hx.nc, hx.cm, hx.byt, hx.niln, fun hn => by
    obtain ⟨b, off, e, hlt, hc⟩ := hx.mem hn
    exact ⟨b, off, e, by have := h.size; omega, fun j hj => keepT_cell h (hc j hj) (fun x hx => by cases hx)⟩⟩
theorem LO.keepT {N base : Nat} {A B : World} {T : TypeId} (hT : T ≠ 3) {a : Option Addr} {n c : Nat} {l : List QP} (hg : KeepO (fun k o => N ≤ k ∧ ttE o) A B) (h : LO A base T a n c l) : LO B base T a n c l := by
  obtain ⟨ps, h1, h2, h3⟩ := h
  refine ⟨ps, h1, ⟨?_⟩, fun p hp => ⟨RB.keepT hg (h3 p hp).1, (h3 p hp).2⟩⟩
  obtain ⟨g1, g2⟩ := h2.own
  refine ⟨g1, ?_⟩
  rcases g2 with g2 | ⟨g, cap, cur, hv, hg0, hh, r⟩
  · exact Or.inl g2
  · refine Or.inr ⟨g, cap, cur, hv, hg0, hg.keep g _ hh ?_, r⟩
    rintro ⟨_, h | ⟨x, fr, h⟩⟩
    · cases h
    · cases h; exact hT rfl
theorem LO.blkT {base : Nat} {w : World} {T : TypeId} {A : Option Addr} {n c k : Nat} {l : List QP} (h : LO w base T A n c l) (hk : ownBlk A = some k) : base ≤ k ∧ ∃ xs fr, w.heap[k]? = some (.cells xs T fr) := by
  refine ⟨(h.blk hk).1, ?_⟩
  obtain ⟨ps, h1, h2, h3⟩ := h
  rcases h2.own.2 with ⟨e, _⟩ | ⟨g, cap, cur, e, hg, hh, _⟩
  · cases e; cases hk
  · cases e
    cases hk
    exact ⟨_, _, hh⟩

def ownE (E : Nat) (k : Nat) (o : Obj) : Prop := (k = E ∧ ∃ v, o = .cells #[v] 52 (0, 0)) ∨ (E ≤ k ∧ ∃ xs fr, o = .cells xs 67 fr)
theorem ownE_le {E k : Nat} {o : Obj} (h : ownE E k o) : E ≤ k := by rcases h with ⟨rfl, _⟩ | ⟨h, _⟩ <;> omega
theorem ownE_cells (E : Nat) : ∀ k o, ownE E k o → o.isCells = true := by
  rintro k o (⟨_, v, rfl⟩ | ⟨_, xs, fr, rfl⟩) <;> rfl
theorem ownE_types (E : Nat) : ∀ k xs t fr, ownE E k (.cells xs t fr) → t ≠ 98 ∧ t ≠ 3 ∧ t ≠ 24 := by
  rintro k xs t fr (⟨_, v, h⟩ | ⟨_, ys, gr, h⟩) <;> (cases h; decide)

set_option maxRecDepth 100000 in
set_option maxHeartbeats 4000000 in
theorem PcapParses_walk (A : Option Addr) (n c : Nat) (bs : List Int) (w : World) (h : RB w A n c bs) :
    Calls Try.prog 11 #[.slice A n c] w fun e w' => e = .returned (.bool true) ∧ Below w.heap.size w w' := by
  refine (callsIn_wide (n := 0)).1 ?_
  refine callsIn_of_wp_marks Try.func11 rfl trivial ?_ rfl
  simp only [Try.ntmps11, List.size_toArray, List.length_cons, List.length_nil, Nat.reduceAdd, Nat.reduceSub, Array.replicate_succ, Array.replicate_zero, List.push_toArray, List.append_toArray, List.nil_append, List.cons_append]
  have hb0 := Lib.hid ((Below.refl w.heap.size w).alloc (Nat.le_refl _) (.cells #[.bool false] 4))
  have k0 := Lib.hid (Boxed.new w 4 (.bool false))
  by_cases hbig : 3000 < n
  · have hbi : (3000 : Int) < n := by omega
    clear h
    gi_wp2_with (first
      | (refine ⟨trivial, rfl, (callsIn_wide.2 (awake45 (w.alloc (.cells #[.bool false] 4)))).mono ?_⟩; rintro e w1 ⟨rfl, hB1⟩; have hb1 := Lib.hid (hb0.out.trans (hB1.mono hb0.out.size)); have k1 := Boxed.below k0.out hB1; have c1 := k1.cell; have f1 := k1.frozen; have hk1 := Lib.hid k1; replace hB1 := 0; clear k1)
      | fail)
    gi_wp2_with (first
      | (refine ⟨trivial, rfl, (callsIn_wide.2 (awake45 w1)).mono ?_⟩; rintro e w2 ⟨rfl, hB2⟩; have hb2 := Lib.hid (hb1.out.trans (hB2.mono hb1.out.size)); have k2 := Boxed.below hk1.out hB2; have c2 := k2.cell; have f2 := k2.frozen; have hk2 := Lib.hid k2; replace hB2 := 0; clear k2)
      | fail)
    have r2 := (Boxed.set (.bool true) hk2.out).cell
    exact leave_marks (N := w.heap.size) trivial fun W3 hg => ⟨.bool true, by have := hg.cell r2; simp [results, Try.results11, go_sem, this], rfl, hg.below (Nat.le_refl _) (hb2.out.setCell (Nat.le_refl _) _) (Nat.le_refl _)⟩
  · have hbi : ¬ (3000 : Int) < n := by omega
    have hlen := h.len
    have hml := outsR_length bs
    have hEl : (eachR bs).length ≤ 3001 := by
      have : (eachR bs).length ≤ (outsR bs).length := by
        unfold eachR
        rw [List.length_map]
        exact (List.takeWhile_prefix _).length_le
      omega
    have hRl : (recsOf (outsR bs)).length ≤ 3001 := by
      unfold recsOf
      split
      · rw [List.length_map]; omega
      · simp
    have hP := fun W (hW : Below w.heap.size w W) => PParse_any A n c bs W (h.below hW) (by omega)
    have hRP := fun W (hW : Below w.heap.size w W) => RefPParse_any A n c bs W (h.below hW) (by omega)
    have hRE := fun W (hW : Below w.heap.size w W) => RefPEach_any A n c bs W (h.below hW) (by omega)
    unfold PParseOut at hP hRP
    unfold EachOut at hRE
    have hO := Lib.hid (fun (q : List QP) A1 n1 c1 W (h1 : LQ W A1 n1 c1 q) (hq : q.length ≤ 3001) => POwn_any A1 n1 c1 q W h1 (by rw [← h1.len]; omega))
    have hS := Lib.hid (fun (q : List QP) A1 n1 c1 A2 c2 W (h1 : LQ W A1 n1 c1 q) (h2 : LQ W A2 n1 c2 q) (hq : q.length ≤ 3001) => PSameL_any q A1 n1 c1 A2 c2 W h1 h2 (by rw [← h1.len]; omega))
    replace hP := Lib.hid hP
    replace hRP := Lib.hid hRP
    replace hRE := Lib.hid hRE
    replace h := Lib.hid h
    generalize errR (outsR bs) = kk at *
    generalize recsOf (outsR bs) = rr at *
    clear hml hbig
    gi_wp2_with (first
      | (refine ⟨trivial, rfl, (callsIn_wide.2 (awake45 (w.alloc (.cells #[.bool false] 4)))).mono ?_⟩; rintro e w1 ⟨rfl, hB1⟩; have hb1 := Lib.hid (hb0.out.trans (hB1.mono hb0.out.size)); have k1 := Lib.hid (Boxed.below k0.out hB1); replace hB1 := 0)
      | (refine ⟨trivial, rfl, (callsIn_wide.2 (hP.out w1 hb1.out)).mono ?_⟩; rintro e w2 ⟨A2, n2, c2, rfl, hl2, hB2⟩; have hb2 := Lib.hid (hb1.out.trans (hB2.mono hb1.out.size)); have k2 := Lib.hid (Boxed.below k1.out hB2); replace hl2 := Lib.hid hl2; replace hB2 := 0)
      | (refine ⟨trivial, rfl, (callsIn_wide.2 (hRP.out w2 hb2.out)).mono ?_⟩; rintro e w3 ⟨A3, n3, c3, rfl, hl3, hB3⟩; have hb3 := Lib.hid (hb2.out.trans (hB3.mono hb2.out.size)); have k3 := Lib.hid (Boxed.below k2.out hB3); have hl23 := Lib.hid (hl2.out.below hB3); replace hl3 := Lib.hid hl3; replace hB3 := 0)
      | (refine ⟨trivial, rfl, (callsIn_wide.2 (Each_call _ _ _ _)).mono ?_⟩; rintro e w' ⟨rfl, rfl⟩)
      | fail)
    obtain ⟨Ws, hWs⟩ : ∃ Ws, (w3.alloc (.cells #[.slice none 0 0] 52)).alloc (.cells #[.slice A n c] 24) = Ws := ⟨_, rfl⟩
    rw [hWs]
    have hsz1 : w3.heap.size + 2 ≤ Ws.heap.size := by rw [← hWs]; simp
    have hsz2 : Ws.heap.size ≤ w3.heap.size + 2 := by rw [← hWs]; simp
    have x1 : Boxed Ws w3.heap.size 52 (.slice none 0 0) := by
      rw [← hWs]
      exact (Boxed.new w3 52 (.slice none 0 0)).alloc _
    have x2 : Boxed Ws (w3.heap.size + 1) 24 (.slice A n c) := by
      rw [← hWs]
      have := Boxed.new (w3.alloc (.cells #[.slice none 0 0] 52)) 24 (.slice A n c)
      rw [World.size_alloc] at this
      exact this
    have hB4 : Below w3.heap.size w3 Ws := by
      rw [← hWs]
      exact ((Below.refl _ w3).alloc (Nat.le_refl _) _).alloc (by simp) _
    have hR0 := k0.out.lt
    have hR3 := k3.out.lt
    have hrs := (h.out.below hb3.out).below hB4
    have hw3 := hb3.out.size
    clear hWs
    obtain ⟨b2, hb21, hb22⟩ : ∃ b2, (0 < n → (∃ o, A = some ⟨b2, o, none⟩) ∧ b2 < Ws.heap.size) ∧ b2 < w3.heap.size := by
      by_cases hp : 0 < n
      · obtain ⟨b, off, e, hl, _⟩ := h.out.mem hp
        exact ⟨b, fun _ => ⟨⟨off, e⟩, by omega⟩, by omega⟩
      · exact ⟨w.heap.size, fun h => absurd h hp, by omega⟩
    have hseq := Each_seq (w3.heap.size + 1) n c b2 A bs (ownE w3.heap.size) Ws x2 hrs hb21 (by omega) (fun o h => by have := ownE_le h; omega) (ownE_cells _) (ownE_types _)
    refine range_kO (gf := 68) (lb := #[.pointer (some ⟨w3.heap.size + 1, 0, none⟩)]) rfl (enters_of Try.func68 (by kernel_rfl) rfl) (own := ownE w3.heap.size)
      (fun o hc h => by rw [ownE_cells _ _ _ h] at hc; cases hc) (fun o hc h => by rw [ownE_cells _ _ _ h] at hc; cases hc) ttE_rec hseq ?hps
      (fun i X => ∃ A5 c5, Boxed X w3.heap.size 52 (.slice A5 i c5) ∧ LO X Ws.heap.size 67 A5 i c5 ((eachR bs).take i))
      (fun _ _ _ => False)
      (fun i A B h hg => by obtain ⟨A5, c5, h1, h2⟩ := h; exact ⟨A5, c5, hg.boxed h1 (fun h => by omega), h2.keepT (by decide) hg⟩)
      (fun _ _ _ _ h _ => h)
      ⟨none, 0, x1, LO.nil _ _ _⟩ ?round ?done ?stop
    case hps =>
      rintro i e W ⟨q, A4, m4, c4, _, rfl, _⟩
      rfl
    case stop =>
      rintro cd i W' hile h hk' hd
      exact h.elim
    case round =>
      rintro l' i e W' him ⟨q, A4, m4, c4, hel, rfl, ho⟩ hi hk hs'
      gi_wp2
      refine ⟨(Below.refl _ _).alloc (Nat.le_refl _) _, fun W₂ hg hs2 => ?_⟩
      obtain ⟨A5, c5, i1, hlo⟩ := hi
      replace i1 := hg.boxed (i1.alloc _)
      have hlo2 := (hlo.alloc _).gr hg
      have ho2 := (ho.alloc _).gr hg
      have kr := (Blk.new W' (cellsQ q A4 m4 c4) 67).gr hg
      have hsW : Ws.heap.size + 2 ≤ W₂.heap.size := by have := hg.size; rw [World.size_alloc] at this; omega
      have htk : (eachR bs).take (i + 1) = (eachR bs).take i ++ [q] := by rw [List.take_add_one, hel]; rfl
      clear hs2 hg hlo ho hk hs'
      have hbo := Lib.hid (fun k' (hk' : ownBlk A5 = some k') => hlo2.blkT hk')
      have c3' := i1.cell
      have f3' := i1.frozen
      obtain ⟨r0, r1, r2, r3⟩ := qcells kr
      replace hlo2 := Lib.hid (hlo2.alloc (.cells (cellsQ q A4 m4 c4) 67))
      replace ho2 := Lib.hid (ho2.alloc (.cells (cellsQ q A4 m4 c4) 67))
      have hi1 := Lib.hid (i1.alloc (.cells (cellsQ q A4 m4 c4) 67))
      have hkx := Lib.hid ((KeepO.refl (ownE w3.heap.size) W₂).alloc (.cells (cellsQ q A4 m4 c4) 67))
      have hbo2 := Lib.hid (fun k' (hk' : ownBlk A5 = some k') => (hlo2.out.blkT hk'))
      replace htk := Lib.hid htk
      have hin : i ≤ 3001 := by omega
      clear i1 kr hel
      gi_wp2_with (gi_at_builtin; refine wpListIn_append_lo _ rfl 52 67 (.tmp 34) (.tmp 36) rfl (.agg zeroQc) Try.underlying52 info_recz rfl rfl (g := W₂.heap.size) rfl hlo2.out (Blk.new W₂ (cellsQ q A4 m4 c4) 67) ho2.out.rb (fun _ => ho2.out.apart hlo2.out (by decide)) (by omega) (by rw [World.size_alloc]; omega) ?_; intro A6 c6 w6 hlo6 hg6 hr6; have i36 := Boxed.kept hi1.out hg6 (fun e => by have := (hbo.out _ e.symm).1; omega); have c36 := Boxed.cell i36; have f36 := Boxed.frozen i36; have hkx2 := Lib.hid ((hkx.out.grown hg6 (fun k o hk ho => .inr ⟨by have := (hbo.out k hk).1; omega, by obtain ⟨xs, fr, hx⟩ := (hbo2.out k hk).2; exact ⟨xs, fr, Option.some.inj (ho.symm.trans hx)⟩⟩)).trans (KeepO.setBox (p := ⟨w3.heap.size, 0, none⟩) (fun o ho => .inl ⟨rfl, _, Option.some.inj (ho.symm.trans i36)⟩) (.slice A6 (i + 1) c6))); have j3 := Lib.hid (Boxed.set (.slice A6 (i + 1) c6) i36); have hlo7 := Lib.hid (hlo6.far i36 (by intro x hx; cases hx) (by omega) (.slice A6 (i + 1) c6)); replace i36 := 0; clear hlo6 hg6 hr6)
      refine ⟨hkx2.out, A6, c6, j3.out, ?_⟩
      rw [htk.out]
      exact hlo7.out
    case done =>
      rintro W' ⟨A5, c5, i1, hlo⟩ hk' hd
      rw [List.take_length] at hlo
      have hBW : Below w3.heap.size w3 W' := hB4.trans (hk'.below (N := w3.heap.size) (by omega) (fun k o h => ownE_le h))
      have hb4 := Lib.hid (hb3.out.trans (hBW.mono hw3))
      have hl24 := Lib.hid (hl23.out.below hBW)
      have hl34 := Lib.hid (hl3.out.below hBW)
      have k4 := Lib.hid (Boxed.below k3.out hBW)
      obtain rfl : n3 = n2 := hl34.out.len.symm.trans hl24.out.len
      have hl5 := Lib.hid hlo.lq
      have hdf := Lib.hid hd
      have i5 := Lib.hid i1
      obtain ⟨ne, hne⟩ : ∃ ne, (eachR bs).length = ne := ⟨_, rfl⟩
      rw [hne] at hl5 i5
      generalize eachR bs = ee at *
      have c5' := i5.out.cell
      replace hne := Lib.hid hne
      clear i1 hlo hd hk' hBW hB4 hrs hseq x1 x2
      gi_wp2_with (first
        | (refine ⟨trivial, rfl, (callsIn_wide.2 (awake45 w9)).mono ?_⟩; rintro e w10 ⟨rfl, hB10⟩; have hb10 := Lib.hid (hb9.out.trans (hB10.mono hb9.out.size)); have k10 := Boxed.below k9.out hB10; have c10 := k10.cell; have f10 := k10.frozen; have hk10 := Lib.hid k10; have hd10 := Lib.hid ((hB10.block _ (Array.getElem?_eq_some_iff.1 hd9.out).1).trans hd9.out); replace hB10 := 0; clear k10)
        | (refine ⟨trivial, rfl, (callsIn_wide.2 (hS.out ee A7 n8 c7 A8 c8 w8 hl78.out hl8.out hEl)).mono ?_⟩; rintro e w9 ⟨rfl, hB9⟩; have hb9 := Lib.hid (hb8.out.trans (hB9.mono hb8.out.size)); have k9 := Lib.hid (Boxed.below k8.out hB9); have hd9 := Lib.hid ((hB9.block _ (Array.getElem?_eq_some_iff.1 hd8.out).1).trans hd8.out); replace hB9 := 0)
        | (refine ⟨trivial, rfl, (callsIn_wide.2 (hRE.out w7 hb7.out)).mono ?_⟩; rintro e w8 ⟨A8, n8, c8, rfl, hl8, hB8⟩; have hb8 := Lib.hid (hb7.out.trans (hB8.mono hb7.out.size)); have k8 := Lib.hid (Boxed.below k7.out hB8); have hl78 := Lib.hid (hl7.out.below hB8); obtain rfl : n8 = ne := hl8.len.symm.trans hne.out; replace hl8 := Lib.hid hl8; have hd8 := Lib.hid ((hB8.block _ (Array.getElem?_eq_some_iff.1 hd7.out).1).trans hd7.out); replace hB8 := 0)
        | (refine ⟨trivial, rfl, (callsIn_wide.2 (hO.out ee A5 ne c5 w6 hl56.out hEl)).mono ?_⟩; rintro e w7 ⟨A7, c7, rfl, hl7, hB7⟩; have hb7 := Lib.hid (hb6.out.trans (hB7.mono hb6.out.size)); have k7 := Lib.hid (Boxed.below k6.out hB7); replace hl7 := Lib.hid hl7; have hd7 := Lib.hid ((hB7.block _ (Array.getElem?_eq_some_iff.1 hd6.out).1).trans hd6.out); replace hB7 := 0)
        | (refine ⟨trivial, rfl, (callsIn_wide.2 (hS.out rr A6 n3 c6 A3 c3 w5 hl6.out hl35.out hRl)).mono ?_⟩; rintro e w6 ⟨rfl, hB6⟩; have hb6 := Lib.hid (hb5.out.trans (hB6.mono hb5.out.size)); have k6 := Lib.hid (Boxed.below k5.out hB6); have hl56 := Lib.hid (hl55.out.below hB6); have i56 := Boxed.below i55.out hB6; have c56 := i56.cell; replace i56 := 0; have hd6 := Lib.hid ((hB6.block _ (Array.getElem?_eq_some_iff.1 hd5.out).1).trans hd5.out); replace hB6 := 0)
        | (refine ⟨trivial, rfl, (callsIn_wide.2 (hO.out rr A2 n3 c2 W' hl24.out hRl)).mono ?_⟩; rintro e w5 ⟨A6, c6, rfl, hl6, hB5⟩; have hb5 := Lib.hid (hb4.out.trans (hB5.mono hb4.out.size)); have k5 := Lib.hid (Boxed.below k4.out hB5); have hl35 := Lib.hid (hl34.out.below hB5); have hl55 := Lib.hid (hl5.out.below hB5); have i55 := Lib.hid (Boxed.below i5.out hB5); replace hl6 := Lib.hid hl6; have hd5 := Lib.hid ((hB5.block _ (Array.getElem?_eq_some_iff.1 hdf.out).1).trans hdf.out); replace hB5 := 0)
        | fail)
      have r10 := (Boxed.set (.bool true) hk10.out).cell
      refine leave_marks (N := w.heap.size) ⟨Ws.heap.size, rfl, by omega, (Below.heap_setCell _ _ _ _ (by simp; omega)).trans hd10.out, by simp, trivial⟩ fun W3 hg => ?_
      exact ⟨.bool true, by have := hg.cell r10; simp [results, Try.results11, go_sem, this], rfl, hg.below (Nat.le_refl _) (hb10.out.setCell (Nat.le_refl _) _) (Nat.le_refl _)⟩
end Go.Proofs.Ytbbdkfadcafpfaa
