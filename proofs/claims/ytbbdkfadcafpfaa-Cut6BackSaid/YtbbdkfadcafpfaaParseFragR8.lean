/- Fragment headers (the reference): walk of ParseFrag, of eight bytes in a slice of that capacity. -/
import Derived.Test.YtbbdkfadcafpfaaParseFragR
set_option linter.unusedVariables false
namespace Go.Proofs.Ytbbdkfadcafpfaa
open Go.RowKit

set_option maxRecDepth 100000 in
set_option maxHeartbeats 600000 in
theorem RefParseFrag_eight (b off : Nat) (bs : List Int) (w : World) (h : RB w (some ⟨b, off, none⟩) 8 8 bs) :
    Calls Try.prog 26 #[.slice (some ⟨b, off, none⟩) 8 8] w (FragOut w (bs[0]?.getD 0) (placeF bs / 8 * 8) (idF bs) (placeF bs % 2 == 1) (bs.drop 8) 0) := by
  obtain ⟨p0, p1⟩ := getV_bd h.byt 2
  have hG1 := fun w' (hb : Below w.heap.size w w') => RefGet_any _ 8 8 bs 2 2 w' (h.below hb) (by decide)
  have hG2 := fun w' (hb : Below w.heap.size w w') => RefGet_any _ 8 8 bs 4 4 w' (h.below hb) (by decide)
  have hcl := i64_clear8 _ p0 p1
  have hand : bits .and .i64 (getV bs 2 2).1 1 = (getV bs 2 2).1 % 2 := i64_mask 1 (by omega) _ p0 (by omega)
  have hx0 : (0 : Int) ≤ bs[0]?.getD 0 ∧ bs[0]?.getD 0 < (256 : Int) := by
    cases e : bs[0]? with
    | none => simp
    | some v => have := h.byt v (List.mem_of_getElem? e); simp; omega
  obtain ⟨b', off', e, hbl, hc⟩ := h.mem (by omega)
  cases e
  have hc0 := hc 0 (by omega)
  rw [Nat.add_zero] at hc0
  replace hc := Lib.hid hc
  have hdr : bs.drop 8 = [] := List.drop_eq_nil_of_le (by have := h.len; omega)
  rw [hdr]
  have hD : Hid (RB w (some ⟨b, off, none⟩) 0 0 []) := ⟨rfl, Nat.le_refl _, by simp [maxLen], Byts.nil, fun h => by (cases h), fun h => absurd h (by omega)⟩
  replace h := Lib.hid h
  unfold placeF idF
  generalize (getV bs 2 2).1 = pl at *
  generalize (getV bs 2 2).2 = pe at *
  generalize (getV bs 4 4).1 = id at *
  generalize (getV bs 4 4).2 = ie at *
  generalize bs[0]?.getD 0 = x0 at *
  obtain ⟨hx0, hx1⟩ := hx0
  have hb1 := fun o => (Below.refl w.heap.size w).alloc (Nat.le_refl _) o
  replace hG1 := Lib.hid hG1
  replace hG2 := Lib.hid hG2
  replace hb1 := Lib.hid hb1
  go_enter Try.func26, Try.ntmps26
  go_wp2_with (first
    | (go_at_call_of 56 (Value.int IntKind.i64 (4 : Int)); refine (hG2.out _ (hb1.out _)).mono ?_; rintro e w' ⟨rfl, rfl⟩)
    | (go_at_call 56; refine (hG1.out _ (hb1.out _)).mono ?_; rintro e w' ⟨rfl, rfl⟩))
  have hR := Lib.hid (fun W (hW : Below w.heap.size w W) => hD.out.below hW)
  generalize hw0 : w.alloc (.cells #[.int .i64 0, .int .i64 0, .int .i64 0, .bool false] 36) = w0
  have hv0 : VBox w0 w.heap.size #[.int .i64 0, .int .i64 0, .int .i64 0, .bool false] := by rw [← hw0]; exact VBox.new _ _ _
  have hbb : Below w.heap.size w w0 := by rw [← hw0]; exact hb1.out _
  have hsz : w0.heap.size = w.heap.size + 1 := by rw [← hw0]; simp
  have hfz : ∀ j, w0.frozen? ⟨w.heap.size, j, none⟩ = false := fun j => by
    have : w0.heap[w.heap.size]? = some (.cells #[.int .i64 0, .int .i64 0, .int .i64 0, .bool false] 36) := by rw [← hw0]; exact World.alloc_heap_new w _
    unfold World.frozen?
    rw [this]
    simp
  replace hw0 := Lib.hid hw0
  have hF : ∀ W, Below w0.heap.size w0 W → W.cell? ⟨b, off, none⟩ = some (.int .u8 x0) ∧
      (W.cell? ⟨w.heap.size, 0, none⟩ = some (.int .i64 0) ∧ W.cell? ⟨w.heap.size, 1, none⟩ = some (.int .i64 0) ∧ W.cell? ⟨w.heap.size, 2, none⟩ = some (.int .i64 0) ∧ W.cell? ⟨w.heap.size, 3, none⟩ = some (.bool false)) ∧
      (W.frozen? ⟨w.heap.size, 0, none⟩ = false ∧ W.frozen? ⟨w.heap.size, 1, none⟩ = false ∧ W.frozen? ⟨w.heap.size, 2, none⟩ = false ∧ W.frozen? ⟨w.heap.size, 3, none⟩ = false) := by
    intro W hW
    have k0 := hv0.below hW hv0.lt
    have kf : ∀ j, W.frozen? ⟨w.heap.size, j, none⟩ = false := fun j => by
      have := hfz j
      unfold World.frozen? at this ⊢
      rw [hW.block _ hv0.lt]; exact this
    have hWt := hbb.trans (hW.mono (show w.heap.size ≤ w0.heap.size by omega))
    exact ⟨(hWt.cell (p := ⟨b, off, none⟩) hbl).trans hc0, ⟨k0.at_ 0 _ rfl, k0.at_ 1 _ rfl, k0.at_ 2 _ rfl, k0.at_ 3 _ rfl⟩, kf 0, kf 1, kf 2, kf 3⟩
  obtain ⟨cc0, ⟨z0, z1, z2, z3⟩, f0, f1, f2, f3⟩ := hF _ (Below.refl _ w0)
  replace hF := Lib.hid hF
  replace hfz := Lib.hid hfz
  replace hv0 := Lib.hid hv0
  replace hbb := Lib.hid hbb
  replace hsz := Lib.hid hsz
  have hwx : IntKind.i64.wrap x0 = x0 := by rw [IntKind.wrap_i64]; omega
  have htd : pl.tdiv 8 = pl / 8 := Int.tdiv_eq_ediv_of_nonneg p0
  have htm : pl.tmod 2 = pl % 2 := Int.tmod_eq_emod_of_nonneg p0
  have hw1 : IntKind.i64.wrap (pl / 8) = pl / 8 := by rw [IntKind.wrap_i64]; omega
  have hw2 : IntKind.i64.wrap (pl / 8 * 8) = pl / 8 * 8 := by rw [IntKind.wrap_i64]; omega
  have hsm : 0 + 0 ≤ 140737488355328 := by decide
  have hnil := OB.nil w0.drew w0.heap.size
  have hRd := hR.out _ hbb.out.drew
  have hdz : w0.heap.size ≤ w0.drew.heap.size := ((Below.refl w0.heap.size w0).drew).size
  have hN : ∀ A2 k2 W', OB W' w0.heap.size A2 (0 + 0) k2 ([] ++ ([] : List Int)) → w0.drew.grownBy W' (ownBlk none) → OB W' w0.heap.size A2 0 k2 (([] : List Int)) ∧ Below w0.heap.size w0 W' := fun A2 k2 W' ho hg =>
    ⟨by simpa using ho, ((Below.refl _ w0).drew).grown hg hdz (fun k hk => by simp [ownBlk] at hk)⟩
  replace hN := Lib.hid hN
  replace hnil := Lib.hid hnil
  replace hRd := Lib.hid hRd
  replace hdz := Lib.hid hdz
  go_region_law (refine step_append_bytes rfl (.const (.slice none 0 0)) (.tmp 36) rfl (A := none) (n := 0) (c := 0) (by simp [Act.eval]) (A' := some ⟨b, off, none⟩) (m := 0) (c' := 0) (by simp [Act.eval, Act.put]) hnil.out hRd.out hsm hdz.out ?_; intro A2 k2 W' ho hg hr; obtain ⟨ho, hbW⟩ := hN.out _ _ _ ho hg; obtain ⟨g0, ⟨y0, y1, y2, y3⟩, q0, q1, q2, q3⟩ := hF.out W' hbW; replace hbW := Lib.hid hbW; clear hg hr)
  all_goals
    go_wp2
    have hfold : ((((W'.setCell ⟨w.heap.size, 0, none⟩ (.int .i64 x0)).setCell ⟨w.heap.size, 1, none⟩ (.int .i64 (pl / 8 * 8))).setCell ⟨w.heap.size, 2, none⟩ (.int .i64 id)).setCell ⟨w.heap.size, 3, none⟩ (.bool (pl % 2 == 1))) = set4 W' w.heap.size (.int .i64 x0) (.int .i64 (pl / 8 * 8)) (.int .i64 id) (.bool (pl % 2 == 1)) := rfl
    rw [hfold]
    obtain ⟨r0, r1, r2, r3⟩ := set4_at W' w.heap.size (.int .i64 x0) (.int .i64 (pl / 8 * 8)) (.int .i64 id) (.bool (pl % 2 == 1)) y0 y1 y2 y3
    have hsz2 := hsz.out
    have hob := (ho.set4 (B := w.heap.size) (by omega) (.int .i64 x0) (.int .i64 (pl / 8 * 8)) (.int .i64 id) (.bool (pl % 2 == 1))).rb
    have hbf := below_set4 (B := w.heap.size) (hbb.out.trans (hbW.out.mono (show w.heap.size ≤ w0.heap.size by omega))) (Nat.le_refl _) (.int .i64 x0) (.int .i64 (pl / 8 * 8)) (.int .i64 id) (.bool (pl % 2 == 1))
    clear hfold g0 y0 y1 y2 y3 q0 q1 q2 q3 ho hbW hsz2
    generalize set4 W' w.heap.size (.int .i64 x0) (.int .i64 (pl / 8 * 8)) (.int .i64 id) (.bool (pl % 2 == 1)) = Wf at *
    exact bodyPost_ret (v := .tuple #[.agg #[.int .i64 x0, .int .i64 (pl / 8 * 8), .int .i64 id, .bool (pl % 2 == 1)], .slice A2 0 k2, .int .i64 0]) (by simp [results, Try.results26, go_sem, r0, r1, r2, r3]) rfl ⟨A2, 0, k2, rfl, hob, hbf⟩
end Go.Proofs.Ytbbdkfadcafpfaa
