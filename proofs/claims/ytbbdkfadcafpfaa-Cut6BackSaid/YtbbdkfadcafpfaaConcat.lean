/- slices.Grow of a nil slice of bytes, and slices.Concat of slices of bytes: walks. -/
import Derived.Test.YtbbdkfadcafpfaaAppend
import Derived.Lib.AppendZerosOnto
set_option linter.unusedVariables false
namespace Go.Proofs.Ytbbdkfadcafpfaa
open Go.RowKit Go.Lib

theorem OB.hold (w : World) (G : Nat) (xs : Array Value) (hx : xs.size = G) (hG : G ≤ maxLen) :
    OB (w.drew.alloc (.cells xs 5)) w.heap.size (some ⟨w.heap.size, 0, none⟩) 0 G [] :=
  ⟨⟨rfl, .inr ⟨w.heap.size, G, _, rfl, Nat.le_refl _, World.alloc_heap_new w.drew _, Nat.zero_le _, hG, by omega, by simp [u8s]⟩⟩, Byts.nil⟩

set_option maxRecDepth 100000 in
set_option maxHeartbeats 1000000 in
theorem Grow_nil (k : Nat) (w : World) (hk : k ≤ 1000000) :
    Calls Try.prog 71 #[.slice none 0 0, .int .i64 k] w (Fresh w 0 []) := by
  obtain ⟨i0, hi, hz0, hz1, hz2⟩ := info_parts info_u8
  rcases Nat.eq_zero_or_pos k with rfl | h0
  · go_enter Try.func71, Try.ntmps71
    go_wp2
    go_ret
    exact ⟨none, 0, rfl, OB.nil w _, Below.refl _ w⟩
  · have hG1 := grownCap_ge w (0 + k) 0 5
    have hG2 := grownCap_le_maxLen w (0 + k) 0 5 (by unfold maxLen; omega)
    have hrz : ∀ ty, (Builtin.append_ #[24, 3] ty #[.slice none 0 0, .int .i64 (k : Int)]).run Try.prog w =
        .ok (.slice (some ⟨w.heap.size, 0, none⟩) (0 + k) (grownCap w (0 + k) 0 5)) (w.drew.alloc (.cells (([] : List Value).toArray ++ Builtin.zeroCells (Value.int .u8 0).cells k ++ Builtin.zeroCells (Value.int .u8 0).cells (grownCap w (0 + k) 0 5 - (0 + k))) 5)) := by
      intro ty
      exact run_append_grow_zeros w 24 3 ty 5 i0 (.int .u8 0) .i64 .i64 Try.underlying24 Try.underlying3 hi hz0 none 0 0 [] (run_firstCells_none w.drew i0.size 0 0 0) k h0 (by omega) (by omega) (by omega) (by rw [hz2]; omega)
        (by rw [hz2]; exact growslice_fits (by omega) (by omega))
    simp only [Nat.zero_add] at hrz hG1 hG2
    generalize grownCap w k 0 5 = G at *
    have hob := fun xs hx => OB.hold w G xs hx hG2
    replace hob := Lib.hid hob
    have hGm : G ≤ 9223372036854775807 := by unfold maxLen at hG2; omega
    clear hG2
    go_enter Try.func71, Try.ntmps71
    go_wp2_with (at_builtin; refine Lib.wpList_append_run _ rfl _ _ _ _ rfl _ _ rfl rfl _ _ (hrz _) ?_)
    all_goals
      go_ret
      exact ⟨_, _, rfl, hob.out _ (by simp [Builtin.zeroCells]; try omega), ((Below.refl _ w).drew).alloc (by simp) _⟩

/-- The first k of lists, joined. -/
def flatL (l : List (List Int)) (k : Nat) : List Int := (l.take k).flatten
def flatN (l : List (List Int)) (k : Nat) : Nat := (flatL l k).length
theorem flatL_zero (l : List (List Int)) : flatL l 0 = [] := by simp [flatL]
theorem flatN_zero (l : List (List Int)) : flatN l 0 = 0 := by simp [flatN, flatL]
theorem flatL_all (l : List (List Int)) : flatL l l.length = l.flatten := by simp [flatL]
theorem flatL_succ (l : List (List Int)) (k : Nat) (hk : k < l.length) : flatL l (k + 1) = flatL l k ++ (l[k]?.getD []) := by
  unfold flatL
  rw [List.take_add_one, List.flatten_append]
  congr 1
  rw [List.getElem?_eq_getElem hk]; simp
theorem flatN_succ (l : List (List Int)) (k : Nat) (hk : k < l.length) : flatN l (k + 1) = flatN l k + (l[k]?.getD []).length := by
  unfold flatN; rw [flatL_succ l k hk, List.length_append]
theorem flatN_le (l : List (List Int)) (k : Nat) : flatN l k ≤ l.flatten.length := by
  have := congrArg (fun x => x.flatten.length) (List.take_append_drop k l)
  simp only [List.flatten_append, List.length_append] at this
  unfold flatN flatL
  omega

set_option maxHeartbeats 2000000 in
theorem Concat_any (A : Option Addr) (n c : Nat) (l : List (List Int)) (w : World) (h : RBB w A n c l) (hn : n ≤ 100000) (hN : l.flatten.length ≤ 1000000) :
    Calls Try.prog 50 #[.slice A n c] w (Fresh w l.flatten.length l.flatten) := by
  have hl := h.len
  have hfle := Lib.hid (fun k => Nat.le_trans (flatN_le l k) hN)
  have hall := Lib.hid (flatL_all l)
  have halln : flatN l l.length = l.flatten.length := by rw [flatN, flatL_all]
  replace halln := Lib.hid halln
  go_enter Try.func50, Try.ntmps50
  go_wp2
  go_loopw [3, 11] (fun t i wr => ∃ k : Nat, k ≤ n ∧ i = .int .i64 k ∧ t = .int .i64 (flatN l k : Nat) ∧ Below w.heap.size w wr) (fun _ i _ => n - (intOf i).toNat)
  case atStart => exact ⟨0, by omega, rfl, by rw [flatN_zero]; rfl, Below.refl _ w⟩
  case round =>
    obtain ⟨k, hk, rfl, rfl, hB⟩ := hrel
    by_cases hlt : k < n
    · obtain ⟨b, off, rfl, hbl, hc⟩ := h.mem (by omega)
      obtain ⟨A', n', c', hcell0, hrb0⟩ := hc k hlt
      have hcell := (hB.cell (p := ⟨b, off + k, none⟩) hbl).trans hcell0
      have hf := flatN_succ l k (by omega)
      rw [hrb0.len] at hf
      have hle := hfle.out (k + 1)
      rw [hf] at hle
      replace hf := Lib.hid hf
      replace hc := Lib.hid hc
      clear hcell0 hrb0
      go_wp2
      go_roundw
      case rel => exact ⟨k + 1, by omega, by simp, by rw [hf.out]; simp, hB⟩
      case measure => first | (simp [intOf]; done) | (simp [intOf]; omega) | omega
    · obtain rfl : k = n := by omega
      have hle := hfle.out k
      go_wp2_with (go_at_call 71; refine (Grow_nil _ _ hle).mono ?_; rintro e w1 ⟨A1, c1, rfl, ho1, hB1⟩)
      have hB2 := hB.trans (hB1.mono hB.size)
      replace ho1 := ho1.mono hB.size
      clear hB hB1
      go_loopw [6, 27] (fun v i wr => ∃ (m : Nat) (A3 : Option Addr) (c3 : Nat), m ≤ k ∧ i = .int .i64 m ∧ v = .slice A3 (flatN l m) c3 ∧ OB wr w.heap.size A3 (flatN l m) c3 (flatL l m) ∧ Below w.heap.size w wr) (fun _ i _ => k - (intOf i).toNat)
      case atStart => exact ⟨0, A1, c1, by omega, rfl, by rw [flatN_zero], by rw [flatN_zero, flatL_zero]; exact ho1, hB2⟩
      case round =>
        obtain ⟨m, A3, c3, hm, rfl, rfl, ho3, hB⟩ := hrel
        clear ho1 hB2
        by_cases hlt : m < k
        · obtain ⟨b, off, rfl, hbl, hc⟩ := h.mem (by omega)
          obtain ⟨A', n', c', hcell0, hrb0⟩ := hc m hlt
          have hcell := (hB.cell (p := ⟨b, off + m, none⟩) hbl).trans hcell0
          have hrb := hrb0.below hB
          have hf := flatN_succ l m (by omega)
          rw [hrb0.len] at hf
          have hfl := Lib.hid (flatL_succ l m (by omega))
          have hle := hfle.out (m + 1)
          rw [hf] at hle
          replace hf := Lib.hid hf
          replace hc := Lib.hid hc
          replace hrb := Lib.hid hrb
          clear hcell0 hrb0
          go_wp2_with (at_builtin; refine wpList_append_bytes _ rfl (.tmp 31) (.tmp 32) rfl rfl rfl ho3 hrb.out (by omega) hB.size ?_; intro A4 c4 w5 ho5 hg5 hr5)
          go_roundw
          case rel => exact ⟨m + 1, A4, c4, by omega, by simp, by rw [hf.out], by rw [hf.out, hfl.out]; exact ho5, hB.grown hg5 hB.size (fun j hj => (ho3.blk hj).1)⟩
          case measure => first | (simp [intOf]; done) | (simp [intOf]; omega) | omega
        · obtain rfl : m = k := by omega
          have e1 := hall.out
          have e2 := halln.out
          rw [hl] at e1 e2
          replace e1 := Lib.hid e1
          replace e2 := Lib.hid e2
          go_wp2
          go_ret
          rw [e1.out, e2.out] at ho3
          rw [e2.out]
          exact ⟨A3, c3, rfl, ho3, hB⟩
end Go.Proofs.Ytbbdkfadcafpfaa
