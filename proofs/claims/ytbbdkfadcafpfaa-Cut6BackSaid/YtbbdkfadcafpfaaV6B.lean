/- Packets of IPv6 (v6): walk of Build. -/
import Derived.Test.YtbbdkfadcafpfaaV6
import Derived.Test.YtbbdkfadcafpfaaConcat
import Derived.Test.YtbbdkfadcafpfaaMem
import Derived.Laws.Rows
import Derived.Deep.RegionHeld3
set_option linter.unusedVariables false
namespace Go.Proofs.Ytbbdkfadcafpfaa
open Go.RowKit

theorem info_v6 : (Try.prog.info? 26).map (·.size) = some 37 := by kernel_rfl

/-- The first number of a packet's bytes. -/
def firstV (p : V6P) : Int := 1610612736 + p.t * 1048576 + p.fl
/-- A packet's bytes. -/
def bytesV (p : V6P) : List Int := digL (firstV p) 4 ++ digL p.data.length 2 ++ [p.nx, p.hp] ++ p.src ++ p.dst ++ p.data

theorem fits1 {x : Int} (h : fitsB x 1 = true) : 0 ≤ x ∧ x < 256 := by
  have := of_decide_eq_true h
  exact ⟨this.2.1, by simpa using this.2.2⟩

/-- What a packet that may be has. -/
theorem checkV_ok {p : V6P} {n : Nat} (h : checkV p n = 0) : (0 ≤ p.t ∧ p.t < 256) ∧ (0 ≤ p.nx ∧ p.nx < 256) ∧ (0 ≤ p.hp ∧ p.hp < 256) ∧ (0 ≤ p.fl ∧ p.fl < 1048576) ∧ n ≤ 65535 := by
  unfold checkV at h
  by_cases h1 : fitsB p.t 1 = false
  · simp [h1] at h
  · by_cases h2 : fitsB p.nx 1 = false
    · simp [h2] at h
    · by_cases h3 : fitsB p.hp 1 = false
      · simp [h3] at h
      · rw [if_neg h1, if_neg h2, if_neg h3] at h
        by_cases h4 : p.fl < 0 ∨ 1048576 ≤ p.fl
        · simp [h4] at h
        · rw [if_neg h4] at h
          by_cases h5 : 65535 < n
          · simp [h5] at h
          · exact ⟨fits1 (by simpa using h1), fits1 (by simpa using h2), fits1 (by simpa using h3), by omega, by omega⟩
theorem checkV_code (p : V6P) (n : Nat) : checkV p n = 0 ∨ checkV p n = 1 ∨ checkV p n = 6 := by
  unfold checkV
  repeat' split
  all_goals simp

theorem rbb4 (W : World) {A1 A2 A3 A4 : Option Addr} {n1 n2 n3 n4 c1 c2 c3 c4 : Nat} {b1 b2 b3 b4 : List Int} {T : TypeId} (h1 : RB W A1 n1 c1 b1) (h2 : RB W A2 n2 c2 b2) (h3 : RB W A3 n3 c3 b3) (h4 : RB W A4 n4 c4 b4) :
    RBB (W.alloc (.cells #[.slice A1 n1 c1, .slice A2 n2 c2, .slice A3 n3 c3, .slice A4 n4 c4] T)) (some ⟨W.heap.size, 0, none⟩) 4 4 [b1, b2, b3, b4] :=
  ⟨rfl, Nat.le_refl _, by simp [maxLen], fun _ => ⟨W.heap.size, 0, rfl, by simp, fun j hj => by
    have hc : j = 0 ∨ j = 1 ∨ j = 2 ∨ j = 3 := by omega
    rcases hc with rfl | rfl | rfl | rfl
    · exact ⟨A1, n1, c1, by rw [World.cell?_alloc_at _ _ _ _ rfl]; rfl, h1.alloc _⟩
    · exact ⟨A2, n2, c2, by rw [World.cell?_alloc_at _ _ _ _ rfl]; rfl, h2.alloc _⟩
    · exact ⟨A3, n3, c3, by rw [World.cell?_alloc_at _ _ _ _ rfl]; rfl, h3.alloc _⟩
    · exact ⟨A4, n4, c4, by rw [World.cell?_alloc_at _ _ _ _ rfl]; rfl, h4.alloc _⟩⟩⟩
theorem lenK (p : V6P) (n : Nat) (hd : p.data.length = n) (h1 : p.src.length = 16) (h2 : p.dst.length = 16) (hn : n ≤ 65535) : [digL (1610612736 + p.t * 1048576 + p.fl) 4 ++ digL (n : Int) 2 ++ [p.nx, p.hp], p.src, p.dst, p.data].flatten.length ≤ 1000000 := by
  simp [digL_length]; omega

theorem firstV_fits {p : V6P} (ht0 : 0 ≤ p.t) (ht1 : p.t < 256) (hf0 : 0 ≤ p.fl) (hf1 : p.fl < 1048576) : fitsP (1610612736 + p.t * 1048576 + p.fl) ((4 : Nat) : Int) :=
  ⟨by omega, by omega, by show _ < (256 : Int) ^ 4; omega⟩
theorem len_fits {n : Nat} (h : n ≤ 65535) : fitsP n ((2 : Nat) : Int) := ⟨by omega, by omega, by show _ < (256 : Int) ^ 2; omega⟩

set_option maxRecDepth 100000 in
set_option maxHeartbeats 2000000 in
theorem V6Build_any (P : Array Value) (p : V6P) (A : Option Addr) (n c : Nat) (w : World) (h : V6V P p A n c) (hd : RB w A n c p.data) :
    Calls Try.prog 14 #[.agg P] w (TwoOut w (if checkV p n = 0 then bytesV p else []) (checkV p n)) := by
  have hck := V6Check_any P p A n c
  have hsz := h.size
  have hg1 : (w.alloc (.cells P 26)).heap[w.heap.size]? = some (.cells P 26) := World.alloc_heap_new w _
  have hiv : (Try.prog.info? 26).map (·.size) = some P.size := by rw [hsz]; exact info_v6
  replace hg1 := Lib.hid hg1
  replace hiv := Lib.hid hiv
  have hvb := Lib.hid (VBox.new w P 26)
  have hb0 := Lib.hid ((Below.refl _ w).alloc (Nat.le_refl _) (.cells P 26))
  by_cases hok : checkV p n = 0
  · rw [if_pos hok]
    obtain ⟨⟨ht0, ht1⟩, ⟨hn0, hn1⟩, ⟨hp0, hp1⟩, ⟨hf0, hf1⟩, hn⟩ := checkV_ok hok
    rw [hok]
    rw [hok] at hck
    have hor1 : bits .or .i64 1610612736 (p.t * 1048576) = 1610612736 + p.t * 1048576 := i64_join 28 _ _ (by omega) (by omega) (by omega) (by omega) (by omega) (by omega)
    have hor2 : bits .or .i64 (1610612736 + p.t * 1048576) p.fl = 1610612736 + p.t * 1048576 + p.fl := i64_join 20 _ _ (by omega) (by omega) (by omega) (by omega) (by omega) (by omega)
    have hV := Lib.hid h
    clear h hsz
    go_enter Try.func14, Try.ntmps14
    go_wp2_with (first
      | (go_at_call 19; refine (hck _ hV.out).mono ?_; rintro e w1 ⟨rfl, hB1⟩; have hv1 := hvb.out.below hB1 (by simp); have c0 := hv1.at_ _ _ hV.out.h0; have c1 := hv1.at_ _ _ hV.out.h1; replace hv1 := Lib.hid hv1)
      | (refine wpList_load_row rfl 26 (.tmp 1) rfl w.heap.size rfl _ P _ _ hg1.out Try.underlying26 rfl hiv.out ?_)
      | (go_at_call_of 49 (Value.int IntKind.i64 (4 : Int)); refine (Put_yes none 0 0 [] _ 4 _ (RB.nil _) (by omega) (firstV_fits ht0 ht1 hf0 hf1)).mono ?_; rintro e w2 ⟨A2, c2, rfl, ho2, hB2⟩; have hBt2 := (hb0.out.trans (hB1.mono (by simp))).trans (hB2.mono (by have := hB1.size; simp at this; omega)); have hv2 := hv1.out.below hB2 hv1.out.lt; have c36 := hv2.at_ _ _ hV.out.h36; replace hv2 := Lib.hid hv2; clear hB1 hB2)
      | (go_at_call_of 49 (Value.int IntKind.i64 (2 : Int)); refine (Put_yes A2 (0 + 4) c2 ([] ++ digL (1610612736 + p.t * 1048576 + p.fl) 4) _ 2 _ ho2.rb (by omega) (len_fits hn)).mono ?_; rintro e w3 ⟨A3, c3, rfl, ho3, hB3⟩; have hBt3 := hBt2.trans (hB3.mono hBt2.size); have hv3 := hv2.out.below hB3 hv2.out.lt; have d2 := hv3.at_ _ _ hV.out.h2; have d3 := hv3.at_ _ _ hV.out.h3; replace hv3 := Lib.hid hv3; have hs3 := hBt3.size; have hs23 := hB3.size; have hs2 := hBt2.size; clear hB3)
      | (at_builtin; refine wpList_append_bytes _ rfl (.tmp 26) (.tmp 33) rfl rfl rfl (ho3.alloc _) (RB.lit w3 5 [p.nx, p.hp] (Byts.two hn0 hn1 hp0 hp1) (by simp)) (by omega) (by simp; omega) ?_; intro A4 c4 w4 ho4 hg4 hr4))
    have hs4 := hg4.size
    simp at hs4
    have hB34 : Below w2.heap.size w3 w4 := ((Below.refl _ w3).alloc hs23 _).grown hg4 (by simp; omega) (fun k hk => (ho3.blk hk).1)
    have hBt4 := hBt3.trans (hB34.mono hs2)
    have hv4 := hv3.out.below hB34 hv2.out.lt
    have e36 := hv4.at_ _ _ hV.out.h36
    have r1 := ho4.rb
    have r2 := rb_cells (off := 4) hv4.lt hV.out.ls (by decide) hV.out.bs (fun j hj => hv4.at_ _ _ (hV.out.hs j hj))
    have r3 := rb_cells (off := 20) hv4.lt hV.out.ld (by decide) hV.out.bd (fun j hj => hv4.at_ _ _ (hV.out.hd j hj))
    have r4 := hd.below hBt4
    have hK : ∀ W, Below w4.heap.size w4 W → RBB (W.alloc (.cells #[.slice A4 (0 + 4 + 2 + 2) c4, .slice (some ⟨w.heap.size, 4, none⟩) 16 16, .slice (some ⟨w.heap.size, 20, none⟩) 16 16, .slice A n c] 24)) (some ⟨W.heap.size, 0, none⟩) 4 4 [digL (1610612736 + p.t * 1048576 + p.fl) 4 ++ digL (n : Int) 2 ++ [p.nx, p.hp], p.src, p.dst, p.data] :=
      fun W hW => rbb4 W (by simpa using r1.below hW) (r2.below hW) (r3.below hW) (r4.below hW)
    have hK36 : ∀ W, Below w4.heap.size w4 W → W.cell? ⟨w.heap.size, 36, none⟩ = some (.slice A n c) := fun W hW => (hW.cell (p := ⟨w.heap.size, 36, none⟩) hv4.lt).trans e36
    have hlenK := lenK p n hd.len hV.out.ls hV.out.ld hn
    replace hK := Lib.hid hK
    replace hK36 := Lib.hid hK36
    replace hlenK := Lib.hid hlenK
    have hB0 := Below.refl w4.heap.size w4
    clear hB34 hBt3 hBt2 hg4 hr4 ho4 ho3 ho2 c0 c1 c36 d2 d3 e36 r1 r2 r3 r4 hv4 hor1 hor2 hck
    have hX : ∀ W W' o, Below w4.heap.size w4 W → Below (W.alloc o).heap.size (W.alloc o) W' → W'.cell? ⟨w.heap.size, 36, none⟩ = some (.slice A n c) ∧ Below w4.heap.size w4 W' := by
      intro W W' o h1 h2
      have h3 := (h1.alloc h1.size o).trans (h2.mono (by have := h1.size; simp; omega))
      exact ⟨hK36.out _ h3, h3⟩
    replace hX := Lib.hid hX
    go_region_held3 (fun W => W.cell? ⟨w.heap.size, 36, none⟩ = some (.slice A n c) ∧ Below w4.heap.size w4 W) (first | exact ⟨hK36.out _ (Below.drew hB0), Below.drew hB0⟩ | exact ⟨hK36.out _ (Below.drew (Below.alloc hB0 (Nat.le_refl _) _)), Below.drew (Below.alloc hB0 (Nat.le_refl _) _)⟩ | exact ⟨by assumption, by assumption⟩)
      (first
        | (go_at_call 50; refine (Concat_any _ _ _ _ _ (hK.out _ (by first | exact Below.drew hB0 | assumption)) (by decide) hlenK.out).mono ?_; rintro e W' ⟨A5, c5, rfl, ho5, hb5⟩; obtain ⟨k1, k2⟩ := hX.out _ _ _ (by first | exact Below.drew hB0 | assumption) hb5; clear hb5))
    go_wp2
    go_ret2
    refine ⟨A5, _, c5, rfl, ?_, hBt4.trans (Below.mono (B := w4.heap.size) (by assumption) hBt4.size)⟩
    have hr := ho5.rb
    have e : [digL (1610612736 + p.t * 1048576 + p.fl) 4 ++ digL (n : Int) 2 ++ [p.nx, p.hp], p.src, p.dst, p.data].flatten = bytesV p := by
      unfold bytesV firstV; rw [hd.len]; simp
    rw [e] at hr
    exact hr.relen (by unfold bytesV; simp only [List.length_append, List.length_cons, List.length_nil, digL_length]; omega)
  · rw [if_neg hok]
    have hc := checkV_code p n
    have hV := Lib.hid h
    clear h hsz
    generalize checkV p n = e0 at *
    go_enter Try.func14, Try.ntmps14
    rcases hc with rfl | rfl | rfl
    · exact absurd rfl hok
    all_goals
      clear hok
      go_wp2_with (first
        | (go_at_call 19; refine (hck _ hV.out).mono ?_; rintro e w1 ⟨rfl, hB1⟩)
        | (refine wpList_load_row rfl 26 (.tmp 1) rfl w.heap.size rfl _ P _ _ hg1.out Try.underlying26 rfl hiv.out ?_))
      go_ret2
      exact ⟨none, 0, 0, rfl, RB.nil _, hb0.out.trans (hB1.mono (by simp))⟩
end Go.Proofs.Ytbbdkfadcafpfaa
