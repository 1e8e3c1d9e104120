/- Fragment headers (v6): walk of ParseFrag. -/
import Derived.Test.YtbbdkfadcafpfaaFragR
import Derived.Test.YtbbdkfadcafpfaaGet
import Derived.Test.YtbbdkfadcafpfaaMem
set_option linter.unusedVariables false
namespace Go.Proofs.Ytbbdkfadcafpfaa
open Go.RowKit

theorem nat_clear8 (x : Nat) (h : x < 65536) : x &&& 18446744073709551608 = x / 8 * 8 := by
  have e : (18446744073709551608 : Nat) = 2 ^ 3 * (2 ^ 61 - 1) := by decide
  have e2 : x / 8 * 8 = 2 ^ 3 * (x / 2 ^ 3) := by rw [Nat.mul_comm]
  rw [e, e2]
  apply Nat.eq_of_testBit_eq
  intro i
  rw [Nat.testBit_and, Nat.testBit_two_pow_mul, Nat.testBit_two_pow_mul, Nat.testBit_two_pow_sub_one, Nat.testBit_div_two_pow]
  by_cases hi : i ≥ 3
  · have h3 : i - 3 + 3 = i := by omega
    simp only [hi, decide_true, Bool.true_and, h3]
    by_cases h61 : i - 3 < 61
    · simp [h61]
    · have : x.testBit i = false := Nat.testBit_lt_two_pow (Nat.lt_of_lt_of_le h (by exact Nat.le_trans (by decide : 65536 ≤ 2 ^ 16) (Nat.pow_le_pow_right (by decide) (by omega))))
      simp [this]
  · simp [hi]
theorem i64_clear8 (x : Int) (h0 : 0 ≤ x) (h1 : x < 65536) : bits .andNot .i64 x 7 = x / 8 * 8 := by
  obtain ⟨x, rfl⟩ := Int.eq_ofNat_of_zero_le h0
  have := nat_clear8 x (by omega)
  have h2 : ((x : Int) / 8 * 8) = ((x / 8 * 8 : Nat) : Int) := by simp
  rw [h2]
  have e1 : x % 2 ^ IntKind.i64.bits = x := Nat.mod_eq_of_lt (by show x < 2 ^ 64; omega)
  have e2 : 2 ^ IntKind.i64.bits - 1 - 7 % 2 ^ IntKind.i64.bits = 18446744073709551608 := by decide
  simp only [bits]
  have e3 : (IntKind.i64.wrap (((x % 2 ^ IntKind.i64.bits &&& 2 ^ IntKind.i64.bits - 1 - 7 % 2 ^ IntKind.i64.bits : Nat)) : Int)) = ((x / 8 * 8 : Nat) : Int) := by
    rw [e1, e2, this, IntKind.wrap_i64]; omega
  simpa [bits] using e3

/-- What a fragment header's bytes are. -/
def placeF (bs : List Int) : Int := (getV bs 2 2).1
def idF (bs : List Int) : Int := (getV bs 4 4).1
theorem getV_bd {bs : List Int} (h : Byts bs) (a : Int) : 0 ≤ (getV bs a 2).1 ∧ (getV bs a 2).1 < 65536 := by
  unfold getV
  split
  · simp
  · split
    · simp
    · have hb : Byts (cutI bs a.toNat (2 : Int).toNat) := fun x hx => h x (List.mem_of_mem_drop (List.mem_of_mem_take (by simpa [cutI] using hx)))
      refine ⟨beNum_lo _ hb, ?_⟩
      have := beNum_hi _ hb 2 (by simp [cutI]; omega)
      simpa using this

/-- A fragment header, bytes and a code are answered. -/
def FragOut (w : World) (nx off id : Int) (m : Bool) (r : List Int) (e0 : Int) (e : Ending) (w' : World) : Prop :=
  ∃ A2 n2 c2, e = .returned (.tuple #[.agg #[.int .i64 nx, .int .i64 off, .int .i64 id, .bool m], .slice A2 n2 c2, .int .i64 e0]) ∧ RB w' A2 n2 c2 r ∧ Below w.heap.size w w'

set_option maxHeartbeats 1000000 in
theorem ParseFrag_short (A : Option Addr) (n c : Nat) (w : World) (hn : n < 8) :
    Calls Try.prog 25 #[.slice A n c] w (FragOut w 0 0 0 false [] 3) := by
  go_enter Try.func25, Try.ntmps25
  go_wp2
  exact bodyPost_ret (v := .tuple #[.agg #[.int .i64 0, .int .i64 0, .int .i64 0, .bool false], .slice none 0 0, .int .i64 3]) (by simp [results, Try.results25, go_sem]) rfl ⟨none, 0, 0, rfl, RB.nil _, (Below.refl _ w).alloc (Nat.le_refl _) _⟩

set_option maxRecDepth 100000 in
set_option maxHeartbeats 2000000 in
theorem ParseFrag_long (b off n c : Nat) (bs : List Int) (w : World) (h : RB w (some ⟨b, off, none⟩) n c bs) (hn : n ≤ 100000) (h8 : 8 ≤ n) (h9 : 8 < c) :
    Calls Try.prog 25 #[.slice (some ⟨b, off, none⟩) n c] w (FragOut w (bs[0]?.getD 0) (placeF bs / 8 * 8) (idF bs) (placeF bs % 2 == 1) (bs.drop 8) 0) := by
  obtain ⟨p0, p1⟩ := getV_bd h.byt 2
  have hG1 := fun w' (hb : Below w.heap.size w w') => Get_any _ n c bs 2 2 w' (h.below hb) hn
  have hG2 := fun w' (hb : Below w.heap.size w w') => Get_any _ n c bs 4 4 w' (h.below hb) hn
  have hcl := i64_clear8 _ p0 p1
  have hand : bits .and .i64 (getV bs 2 2).1 1 = (getV bs 2 2).1 % 2 := i64_mask 1 (by omega) _ p0 (by omega)
  have hx0 : (0 : Int) ≤ bs[0]?.getD 0 ∧ bs[0]?.getD 0 < (256 : Int) := by
    cases e : bs[0]? with
    | none => simp
    | some v => have := h.byt v (List.mem_of_getElem? e); simp; omega
  obtain ⟨b', off', e, hbl, hc⟩ := h.mem (by omega)
  cases e
  have hc0 := hc 0 (by omega)
  rw [Nat.add_zero] at hc0
  replace hc := Lib.hid hc
  have hD := Lib.hid (h.drop 8 h8)
  have hcm : c ≤ 9223372036854775807 ∧ n ≤ c := by have := h.cm; have := h.nc; unfold maxLen at *; omega
  obtain ⟨hcm, hnc⟩ := hcm
  replace h := Lib.hid h
  unfold placeF idF
  generalize (getV bs 2 2).1 = pl at *
  generalize (getV bs 2 2).2 = pe at *
  generalize (getV bs 4 4).1 = id at *
  generalize (getV bs 4 4).2 = ie at *
  generalize bs[0]?.getD 0 = x0 at *
  obtain ⟨hx0, hx1⟩ := hx0
  have hb1 := fun o => (Below.refl w.heap.size w).alloc (Nat.le_refl _) o
  replace hG1 := Lib.hid hG1
  replace hG2 := Lib.hid hG2
  replace hb1 := Lib.hid hb1
  go_enter Try.func25, Try.ntmps25
  go_wp2_with (first
    | (go_at_call_of 54 (Value.int IntKind.i64 (4 : Int)); refine (hG2.out _ (hb1.out _)).mono ?_; rintro e w' ⟨rfl, rfl⟩)
    | (go_at_call 54; refine (hG1.out _ (hb1.out _)).mono ?_; rintro e w' ⟨rfl, rfl⟩))
  have hR := Lib.hid (fun W (hW : Below w.heap.size w W) => hD.out.below hW)
  generalize hw0 : (w.alloc (.cells #[.int .i64 0, .int .i64 0, .int .i64 0, .bool false] 36)).alloc (.cells #[.int .i64 x0, .int .i64 (pl / 8 * 8), .int .i64 id, .bool (pl % 2 == 1)] 36) = w0
  have hv0 : VBox w0 w.heap.size #[.int .i64 0, .int .i64 0, .int .i64 0, .bool false] := by rw [← hw0]; exact (VBox.new _ _ _).alloc _
  have hv9 : VBox w0 (w.heap.size + 1) #[.int .i64 x0, .int .i64 (pl / 8 * 8), .int .i64 id, .bool (pl % 2 == 1)] := by
    rw [← hw0]
    have := VBox.new (w.alloc (.cells #[.int .i64 0, .int .i64 0, .int .i64 0, .bool false] 36)) #[.int .i64 x0, .int .i64 (pl / 8 * 8), .int .i64 id, .bool (pl % 2 == 1)] 36
    simpa using this
  have hbb : Below w.heap.size w w0 := by rw [← hw0]; exact (hb1.out _).alloc (by simp) _
  have hsz : w0.heap.size = w.heap.size + 2 := by rw [← hw0]; simp
  have hfz : ∀ j, w0.frozen? ⟨w.heap.size, j, none⟩ = false := fun j => by
    have : w0.heap[w.heap.size]? = some (.cells #[.int .i64 0, .int .i64 0, .int .i64 0, .bool false] 36) := by rw [← hw0]; rw [Below.heap_alloc _ _ _ (by simp)]; exact World.alloc_heap_new w _
    unfold World.frozen?
    rw [this]
    simp
  replace hw0 := Lib.hid hw0
  have hF : ∀ W, Below w0.heap.size w0 W → (W.cell? ⟨w.heap.size + 1, 0, none⟩ = some (.int .i64 x0) ∧ W.cell? ⟨w.heap.size + 1, 1, none⟩ = some (.int .i64 (pl / 8 * 8)) ∧ W.cell? ⟨w.heap.size + 1, 2, none⟩ = some (.int .i64 id) ∧ W.cell? ⟨w.heap.size + 1, 3, none⟩ = some (.bool (pl % 2 == 1))) ∧
      (W.cell? ⟨w.heap.size, 0, none⟩ = some (.int .i64 0) ∧ W.cell? ⟨w.heap.size, 1, none⟩ = some (.int .i64 0) ∧ W.cell? ⟨w.heap.size, 2, none⟩ = some (.int .i64 0) ∧ W.cell? ⟨w.heap.size, 3, none⟩ = some (.bool false)) ∧
      (W.frozen? ⟨w.heap.size, 0, none⟩ = false ∧ W.frozen? ⟨w.heap.size, 1, none⟩ = false ∧ W.frozen? ⟨w.heap.size, 2, none⟩ = false ∧ W.frozen? ⟨w.heap.size, 3, none⟩ = false) := by
    intro W hW
    have k0 := hv0.below hW hv0.lt
    have k9 := hv9.below hW hv9.lt
    have kf : ∀ j, W.frozen? ⟨w.heap.size, j, none⟩ = false := fun j => by
      have := hfz j
      unfold World.frozen? at this ⊢
      rw [hW.block _ hv0.lt]; exact this
    exact ⟨⟨k9.at_ 0 _ rfl, k9.at_ 1 _ rfl, k9.at_ 2 _ rfl, k9.at_ 3 _ rfl⟩, ⟨k0.at_ 0 _ rfl, k0.at_ 1 _ rfl, k0.at_ 2 _ rfl, k0.at_ 3 _ rfl⟩, kf 0, kf 1, kf 2, kf 3⟩
  obtain ⟨⟨c0, c1, c2, c3⟩, ⟨z0, z1, z2, z3⟩, f0, f1, f2, f3⟩ := hF _ (Below.refl _ w0)
  replace hF := Lib.hid hF
  replace hfz := Lib.hid hfz
  replace hv0 := Lib.hid hv0
  replace hv9 := Lib.hid hv9
  replace hbb := Lib.hid hbb
  replace hsz := Lib.hid hsz
  have hi1 : ¬ ((n : Int) < 8) := by omega
  go_region_with (first
    | (go_at_call 55; refine (Clone_any _ _ _ (bs.drop 8) _ ?_ ?_).mono ?_; exact hR.out _ hbb.out.drew; omega; rintro e W' ⟨A2, k2, rfl, ho, hb⟩; obtain ⟨⟨g0, g1, g2, g3⟩, ⟨y0, y1, y2, y3⟩, q0, q1, q2, q3⟩ := hF.out W' (((Below.refl _ w0).drew).trans hb); replace hb := Lib.hid hb))
  all_goals
    go_wp2
    have hfold : ((((W'.setCell ⟨w.heap.size, 0, none⟩ (.int .i64 x0)).setCell ⟨w.heap.size, 1, none⟩ (.int .i64 (pl / 8 * 8))).setCell ⟨w.heap.size, 2, none⟩ (.int .i64 id)).setCell ⟨w.heap.size, 3, none⟩ (.bool (pl % 2 == 1))) = set4 W' w.heap.size (.int .i64 x0) (.int .i64 (pl / 8 * 8)) (.int .i64 id) (.bool (pl % 2 == 1)) := rfl
    rw [hfold]
    obtain ⟨r0, r1, r2, r3⟩ := set4_at W' w.heap.size (.int .i64 x0) (.int .i64 (pl / 8 * 8)) (.int .i64 id) (.bool (pl % 2 == 1)) y0 y1 y2 y3
    have hsz2 := hsz.out
    have hob := (ho.set4 (B := w.heap.size) (show w.heap.size < w0.heap.size by omega) (.int .i64 x0) (.int .i64 (pl / 8 * 8)) (.int .i64 id) (.bool (pl % 2 == 1))).rb
    have hbf := below_set4 (B := w.heap.size) (hbb.out.trans ((((Below.refl _ w0).drew).trans hb.out).mono (show w.heap.size ≤ w0.heap.size by omega))) (Nat.le_refl _) (.int .i64 x0) (.int .i64 (pl / 8 * 8)) (.int .i64 id) (.bool (pl % 2 == 1))
    clear hfold g0 g1 g2 g3 y0 y1 y2 y3 q0 q1 q2 q3 ho hb hsz2
    generalize set4 W' w.heap.size (.int .i64 x0) (.int .i64 (pl / 8 * 8)) (.int .i64 id) (.bool (pl % 2 == 1)) = Wf at *
    exact bodyPost_ret (v := .tuple #[.agg #[.int .i64 x0, .int .i64 (pl / 8 * 8), .int .i64 id, .bool (pl % 2 == 1)], .slice A2 (n - 8) k2, .int .i64 0]) (by simp [results, Try.results25, go_sem, r0, r1, r2, r3]) rfl ⟨A2, n - 8, k2, rfl, hob, hbf⟩
end Go.Proofs.Ytbbdkfadcafpfaa
