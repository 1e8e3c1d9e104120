/- Captures (the reference): walk of Each. -/
import Derived.Test.YtbbdkfadcafpfaaPcapPR
set_option linter.unusedVariables false
namespace Go.Proofs.Ytbbdkfadcafpfaa
open Go Go.RowKit

def EachOut (w : World) (bs : List Int) (e : Ending) (w' : World) : Prop := ∃ A2 n2 c2, e = .returned (.slice A2 n2 c2) ∧ LQ w' A2 n2 c2 (eachR bs) ∧ Below w.heap.size w w'
set_option maxRecDepth 100000 in
set_option maxHeartbeats 4000000 in
theorem RefPEach_any (A : Option Addr) (n c : Nat) (bs : List Int) (w : World) (h : RB w A n c bs) (hn : n ≤ 100000) :
    Calls Try.prog 46 #[.slice A n c] w (EachOut w bs) := by
  have hlen := h.len
  have hbt := Lib.hid (Below.refl w.heap.size w)
  have hou : outsR bs = if beginsV bs = 0 then recsF (n + 1) (bs.drop 24) else [(zeroQ, beginsV bs)] := by unfold outsR; rw [hlen]
  have hbv : beginsV bs = if n < 24 then 3 else if (bs.take 24 == headP) = true then 0 else 4 := by unfold beginsV; rw [hlen]
  unfold EachOut
  by_cases h24 : n < 24
  · rw [hbv, if_pos h24, if_neg (by decide)] at hou
    obtain ⟨_, _, e1⟩ := all_bad (l := []) (k := 3) hou (by decide)
    rw [e1]
    have i1 : (n : Int) < 24 := by omega
    have i1d : decide ((n : Int) < 24) = true := decide_eq_true i1
    clear h hbv hlen hou e1
    go_enter Try.func46, Try.ntmps46
    have hK := Lib.hid (show ∀ W W', (fun W => Below w.heap.size w W) W → Below W.heap.size W W' → (fun W => Below w.heap.size w W) W' from fun W W' h1 h2 => h1.trans (h2.mono h1.size))
    go_wp2
    refine wp_region_loose (fun W => Below w.heap.size w W) (by kernel_rfl) (by kernel_rfl) (by kernel_rfl) hbt.out.drew ?_
    repeat (first
      | (refine looseL_skip (by rfl) (by rfl) rfl ?_; simp only [putV, List.setIfInBounds_toArray, List.set_cons_zero, List.set_cons_succ])
      | (refine looseL_call0E (d := 14) (BytP headP) (by rfl) rfl 63 _ rfl en_RPHead rfl (BytP.stable headP) ?_ ?_; (intro W hS; exact (RefPHead_any W).mono fun e W' ⟨A9, c9, he, ho, hb⟩ => ⟨⟨_, he, A9, 24, c9, rfl, ho.rb⟩, hK.out W W' hS hb, hb⟩))
      | (refine looseL_fromv (e := 14) (BytP headP) (.string (strOfNums headP)) (by rfl) (by rfl) rfl (by simp) rfl (by rfl) rfl (List.elem_iff.1 rfl) ?_ ?_; (intro u W hp; obtain ⟨A9, n9, c9, rfl, r9⟩ := hp; exact conv_val14 r9 rfl rfl); simp only [putV, List.setIfInBounds_toArray, List.set_cons_zero, List.set_cons_succ])
      | (refine looseL_val (v := .string (strOfNums b24)) (by rfl) (by rfl) (by rfl) rfl (fun W hS => ?_) ?_; (have hcw := hcv.out W hS; clear hS; go_simp); simp only [putV, List.setIfInBounds_toArray, List.set_cons_zero, List.set_cons_succ])
      | (refine looseL_val (v := ?_) (by rfl) (by rfl) (by rfl) rfl (fun W hS => ?_) ?_; rotate_left; (· (clear hS; go_simp; try with_reducible rfl)); simp only [putV, List.setIfInBounds_toArray, List.set_cons_zero, List.set_cons_succ]))
    refine looseL_nil fun a W hS hsz hds hR => ?_
    have hT := tmps_loose (T := a.tmps) [14] hsz (by rw [hsz]; rfl) (by rw [hsz]; rfl) hR
    rw [List.foldl_cons, List.foldl_nil] at hT
    generalize a.tmps.getD 14 undef = u1 at hT
    simp only [List.setIfInBounds_toArray, List.set_cons_zero, List.set_cons_succ] at hT
    clear hR hsz
    obtain ⟨T, D⟩ := a
    have hD' : D = [] := hds
    subst hD'
    dsimp only at hT
    subst hT
    clear hds
    replace hS := Lib.hid hS
    go_wp2
    go_ret
    exact ⟨none, 0, 0, by first | rfl | simp, LQ.nil _, hS.out⟩
  · rw [if_neg h24] at hbv
    have hf := h.first_ (k := 24) (by omega)
    have hnc := h.nc
    have i0 : ¬ (n : Int) < 24 := by omega
    have i0d : decide ((n : Int) < 24) = false := decide_eq_false i0
    have i1 : (24 : Int) ≤ c := by omega
    have i2 : 24 ≤ c := by omega
    have i3 : (24 : Int) ≤ n := by omega
    have i4 : 24 ≤ n := by omega
    have hst := str_beq hf.byt headP_byts
    have hcv := Lib.hid (fun W (hW : Below w.heap.size w W) => conv_bytes (hf.below hW))
    have hK := Lib.hid (show ∀ W W', (fun W => Below w.heap.size w W) W → Below W.heap.size W W' → (fun W => Below w.heap.size w W) W' from fun W W' h1 h2 => h1.trans (h2.mono h1.size))
    generalize hb24 : bs.take 24 = b24 at *
    cases heq : (b24 == headP)
    · rw [heq] at hbv hst
      rw [if_neg (by decide)] at hbv
      rw [hbv, if_neg (by decide)] at hou
      obtain ⟨_, _, e1⟩ := all_bad (l := []) (k := 4) hou (by decide)
      rw [e1]
      clear h hf hbv hlen hou e1 heq hb24
      go_enter Try.func46, Try.ntmps46
      go_wp2
      refine wp_region_loose (fun W => Below w.heap.size w W) (by kernel_rfl) (by kernel_rfl) (by kernel_rfl) hbt.out.drew ?_
      repeat (first
        | (refine looseL_skip (by rfl) (by rfl) rfl ?_; simp only [putV, List.setIfInBounds_toArray, List.set_cons_zero, List.set_cons_succ])
        | (refine looseL_call0E (d := 14) (BytP headP) (by rfl) rfl 63 _ rfl en_RPHead rfl (BytP.stable headP) ?_ ?_; (intro W hS; exact (RefPHead_any W).mono fun e W' ⟨A9, c9, he, ho, hb⟩ => ⟨⟨_, he, A9, 24, c9, rfl, ho.rb⟩, hK.out W W' hS hb, hb⟩))
        | (refine looseL_fromv (e := 14) (BytP headP) (.string (strOfNums headP)) (by rfl) (by rfl) rfl (by simp) rfl (by rfl) rfl (List.elem_iff.1 rfl) ?_ ?_; (intro u W hp; obtain ⟨A9, n9, c9, rfl, r9⟩ := hp; exact conv_val14 r9 rfl rfl); simp only [putV, List.setIfInBounds_toArray, List.set_cons_zero, List.set_cons_succ])
        | (refine looseL_val (v := .string (strOfNums b24)) (by rfl) (by rfl) (by rfl) rfl (fun W hS => ?_) ?_; (have hcw := hcv.out W hS; clear hS; go_simp); simp only [putV, List.setIfInBounds_toArray, List.set_cons_zero, List.set_cons_succ])
        | (refine looseL_val (v := ?_) (by rfl) (by rfl) (by rfl) rfl (fun W hS => ?_) ?_; rotate_left; (· (clear hS; go_simp; try with_reducible rfl)); simp only [putV, List.setIfInBounds_toArray, List.set_cons_zero, List.set_cons_succ]))
      refine looseL_nil fun a W hS hsz hds hR => ?_
      have hT := tmps_loose (T := a.tmps) [14] hsz (by rw [hsz]; rfl) (by rw [hsz]; rfl) hR
      rw [List.foldl_cons, List.foldl_nil] at hT
      generalize a.tmps.getD 14 undef = u1 at hT
      simp only [List.setIfInBounds_toArray, List.set_cons_zero, List.set_cons_succ] at hT
      clear hR hsz
      obtain ⟨T, D⟩ := a
      have hD' : D = [] := hds
      subst hD'
      dsimp only at hT
      subst hT
      clear hds
      replace hS := Lib.hid hS
      go_wp2
      go_ret
      exact ⟨none, 0, 0, by first | rfl | simp, LQ.nil _, hS.out⟩
    · rw [heq] at hbv hst
      rw [if_pos rfl] at hbv
      rw [hbv, if_pos rfl] at hou
      obtain ⟨b, off, rfl, hbl, _⟩ := h.mem (by omega)
      have hdr := h.drop_any 24 (by omega)
      obtain ⟨A1, hif1⟩ : ∃ A1, (if c = 24 then some (⟨b, off, none⟩ : Addr) else some ⟨b, off + 24, none⟩) = A1 := ⟨_, rfl⟩
      rw [hif1] at hdr
      replace hdr := Lib.hid hdr
      replace hou := Lib.hid hou
      replace hS := 0
      clear h hf hbv hlen heq hb24
      go_enter Try.func46, Try.ntmps46
      go_wp2
      refine wp_region_loose (fun W => Below w.heap.size w W) (by kernel_rfl) (by kernel_rfl) (by kernel_rfl) hbt.out.drew ?_
      repeat (first
        | (refine looseL_skip (by rfl) (by rfl) rfl ?_; simp only [putV, List.setIfInBounds_toArray, List.set_cons_zero, List.set_cons_succ])
        | (refine looseL_call0E (d := 14) (BytP headP) (by rfl) rfl 63 _ rfl en_RPHead rfl (BytP.stable headP) ?_ ?_; (intro W hS; exact (RefPHead_any W).mono fun e W' ⟨A9, c9, he, ho, hb⟩ => ⟨⟨_, he, A9, 24, c9, rfl, ho.rb⟩, hK.out W W' hS hb, hb⟩))
        | (refine looseL_fromv (e := 14) (BytP headP) (.string (strOfNums headP)) (by rfl) (by rfl) rfl (by simp) rfl (by rfl) rfl (List.elem_iff.1 rfl) ?_ ?_; (intro u W hp; obtain ⟨A9, n9, c9, rfl, r9⟩ := hp; exact conv_val14 r9 rfl rfl); simp only [putV, List.setIfInBounds_toArray, List.set_cons_zero, List.set_cons_succ])
        | (refine looseL_val (v := .string (strOfNums b24)) (by rfl) (by rfl) (by rfl) rfl (fun W hS => ?_) ?_; (have hcw := hcv.out W hS; clear hS; go_simp); simp only [putV, List.setIfInBounds_toArray, List.set_cons_zero, List.set_cons_succ])
        | (refine looseL_val (v := ?_) (by rfl) (by rfl) (by rfl) rfl (fun W hS => ?_) ?_; rotate_left; (· (clear hS; go_simp; try with_reducible rfl)); simp only [putV, List.setIfInBounds_toArray, List.set_cons_zero, List.set_cons_succ]))
      refine looseL_nil fun a W hS hsz hds hR => ?_
      have hT := tmps_loose (T := a.tmps) [14] hsz (by rw [hsz]; rfl) (by rw [hsz]; rfl) hR
      rw [List.foldl_cons, List.foldl_nil] at hT
      generalize a.tmps.getD 14 undef = u1 at hT
      simp only [List.setIfInBounds_toArray, List.set_cons_zero, List.set_cons_succ] at hT
      clear hR hsz
      obtain ⟨T, D⟩ := a
      have hD' : D = [] := hds
      subst hD'
      dsimp only at hT
      subst hT
      clear hds
      replace hS := Lib.hid hS
      go_wp2
      clear hcv hst hK
      go_loopw [0, 3, 4, 5, 6] (fun vb vo _ _ _ wr => ∃ (A1 : Option Addr) (n1 c1 : Nat) (rest : List Int) (f : Nat) (l : List QP) (A2 : Option Addr) (k c2 : Nat), vb = .slice A1 n1 c1 ∧ RB w A1 n1 c1 rest ∧ vo = .slice A2 k c2 ∧ LO wr w.heap.size 90 A2 k c2 l ∧ outsR bs = pz l ++ recsF f rest ∧ n1 < f ∧ k + n1 ≤ 100000 ∧ Below w.heap.size w wr) (fun vb _ _ _ _ _ => match vb with | .slice _ n _ => n | _ => 0)
      case atStart => exact ⟨A1, n - 24, c - 24, bs.drop 24, n + 1, [], none, 0, 0, rfl, hdr.out, rfl, LO.nil _ _ _, hou.out, by omega, by omega, hS.out⟩
      case round =>
        obtain ⟨A1, n1, c1, rest, f, l, A2, k, c2, rfl, hr, rfl, hlo, hFl, hf, hk, hB⟩ := hrel
        obtain ⟨f, rfl⟩ : ∃ g, f = g + 1 := ⟨f - 1, by omega⟩
        have hOne := fun W (hr : RB W A1 n1 c1 rest) => RefPOne_any A1 n1 c1 rest W hr (by omega)
        unfold ROneOut at hOne
        replace hdr := 0
        replace hou := 0
        have hl1 := hr.len
        rw [recsF_step, hl1] at hFl
        by_cases hz : n1 = 0
        · subst hz
          rw [if_pos rfl] at hFl
          obtain ⟨_, _, e1⟩ := all_done hFl
          replace e1 := Lib.hid e1
          replace hOne := 0
          clear hl1 hFl
          go_wp2
          go_ret
          rw [e1.out]
          exact ⟨A2, k, c2, by first | rfl | simp, hlo.lq, hB⟩
        rw [if_neg hz] at hFl
        have hzi : (0 : Int) < n1 := by omega
        by_cases hco : codeO rest = 0
        · rw [if_pos hco] at hFl
          have hq : oneRQ rest = recAt rest := by unfold oneRQ; rw [if_pos hco]
          have hqn : oneRN rest = 16 + ownV rest := by unfold oneRN; rw [if_pos hco]
          rw [hq, hqn, hco] at hOne
          obtain ⟨hj1, hj2⟩ := codeO_rest hco hr.byt
          obtain ⟨j, hj⟩ := Int.eq_ofNat_of_zero_le (show 0 ≤ 16 + ownV rest by omega)
          rw [hj] at hOne hFl hj1 hj2
          rw [hl1] at hj2
          rw [Int.toNat_natCast, pz_snoc] at hFl
          obtain ⟨b, off, rfl, hbl, _⟩ := hr.mem (by omega)
          have hdr := hr.drop_any j (by omega)
          have hnc := hr.nc
          have hcm := hr.cm
          unfold maxLen at hcm
          obtain ⟨A5, hif⟩ : ∃ A5, (if c1 = j then some (⟨b, off, none⟩ : Addr) else some ⟨b, off + j, none⟩) = A5 := ⟨_, rfl⟩
          rw [hif] at hdr
          have hblk := Lib.hid (fun k' (hk' : ownBlk A2 = some k') => (hlo.blk hk').2)
          have q1 : (j : Int) ≤ n1 := by omega
          have q2 : j ≤ n1 := by omega
          have q3 : (j : Int) ≤ c1 := by omega
          have q4 : 16 ≤ j := by omega
          replace hFl := Lib.hid hFl
          replace hOne := Lib.hid hOne
          replace hr := Lib.hid hr
          replace hdr := Lib.hid hdr
          replace hlo := Lib.hid hlo
          replace hB := Lib.hid hB
          generalize recAt rest = q at *
          clear hl1 hco hq hqn hj hj1 hj2
          go_wp2_with (first
            | (go_at_call 67; refine (hOne.out _ (hr.out.below hB.out)).mono ?_; rintro e w2 ⟨A9, m9, c9, rfl, ho9, hB2⟩; have hb3 := Lib.hid (hB.out.trans (hB2.mono hB.out.size)); have hlo3 := Lib.hid (hlo.out.below hB2); have hsz2 := hB2.size; replace ho9 := Lib.hid ho9; replace hB2 := 0)
            | (refine wpList_store_S rfl (.tmp 4) (.tmp 26) rfl w2.heap.size (cellsQ q A9 m9 c9) rfl rfl _ (Blk.new w2 zeroQc 90) rfl rfl (one_Q _ _ _ _) ?_; have hbe : Below w2.heap.size w2 ((w2.alloc (.cells zeroQc 90)).setRow w2.heap.size (cellsQ q A9 m9 c9)) := below_row ((Below.refl _ w2).alloc (Nat.le_refl _) _) (Nat.le_refl _) _; have k3 : Blk ((w2.alloc (.cells zeroQc 90)).setRow w2.heap.size (cellsQ q A9 m9 c9)) w2.heap.size (cellsQ q A9 m9 c9) 90 := ⟨setRow_heap _ _ _ _ _ _ (Blk.new w2 zeroQc 90).at_⟩; generalize (w2.alloc (.cells zeroQc 90)).setRow w2.heap.size (cellsQ q A9 m9 c9) = w3 at *; (have hlo4 := Lib.hid ((hlo3.out.below hbe).alloc (.cells (cellsQ q A9 m9 c9) 90)); have hb4 := Lib.hid (hb3.out.trans (hbe.mono hb3.out.size)); have ho4 := Lib.hid ((ho9.out.below hbe).alloc (.cells (cellsQ q A9 m9 c9) 90)); have hb5 := Lib.hid (hb4.out.alloc hb4.out.size (.cells (cellsQ q A9 m9 c9) 90))); replace hbe := 0; replace k3 := Lib.hid k3)
            | (refine wpList_load_S rfl (.tmp 4) rfl w2.heap.size rfl (cellsQ q A9 m9 c9) k3.out rfl ?_)
            | (at_builtin; refine wpList_append_lo _ rfl 56 90 (.tmp 31) (.tmp 33) rfl (.agg zeroQc) Try.underlying56 info_rrecz rfl rfl (g := w3.heap.size) rfl hlo4.out (Blk.new w3 (cellsQ q A9 m9 c9) 90) ho4.out.rb (fun _ k1 hk1 e => ?_) (by omega) hb5.out.size ?_; (have h1 := (ho9.out.blk hk1).1; have h2 := hblk.out k1 e; omega); intro A6 c6 w6 hlo6 hg6 hr6)
            | fail)
          go_roundw
          case rel => exact ⟨A5, n1 - j, c1 - j, rest.drop j, f, l ++ [q], A6, k + 1, c6, rfl, hdr.out, rfl, hlo6, hFl.out, by omega, by omega, hb5.out.grown hg6 hb5.out.size (fun k1 hk1 => (hlo.out.blk hk1).1)⟩
          case measure => show n1 - j < n1; omega
        · rw [if_neg hco] at hFl
          obtain ⟨_, _, e1⟩ := all_bad hFl hco
          have hq : oneRQ rest = zeroQ := by unfold oneRQ; rw [if_neg hco]
          have hqn : oneRN rest = 0 := by unfold oneRN; rw [if_neg hco]
          rw [hq, hqn] at hOne
          replace e1 := Lib.hid e1
          have hne : (codeO rest != 0) = true := by simpa using hco
          generalize codeO rest = kk at *
          replace hOne := Lib.hid hOne
          replace hr := Lib.hid hr
          replace hB := Lib.hid hB
          replace hlo := Lib.hid hlo
          clear hl1 hq hqn hFl
          go_wp2_with (first
            | (go_at_call 67; refine (hOne.out _ (hr.out.below hB.out)).mono ?_; rintro e w2 ⟨A9, m9, c9, rfl, ho9, hB2⟩; have hb3 := Lib.hid (hB.out.trans (hB2.mono hB.out.size)); have hlo3 := Lib.hid (hlo.out.below hB2); replace ho9 := 0; replace hB2 := 0)
            | (refine wpList_store_S rfl (.tmp 4) (.tmp 26) rfl w2.heap.size (cellsQ zeroQ A9 m9 c9) rfl rfl _ (Blk.new w2 zeroQc 90) rfl rfl (one_Q _ _ _ _) ?_; have hbe : Below w2.heap.size w2 ((w2.alloc (.cells zeroQc 90)).setRow w2.heap.size (cellsQ zeroQ A9 m9 c9)) := below_row ((Below.refl _ w2).alloc (Nat.le_refl _) _) (Nat.le_refl _) _; have k3 : Blk ((w2.alloc (.cells zeroQc 90)).setRow w2.heap.size (cellsQ zeroQ A9 m9 c9)) w2.heap.size (cellsQ zeroQ A9 m9 c9) 90 := ⟨setRow_heap _ _ _ _ _ _ (Blk.new w2 zeroQc 90).at_⟩; generalize (w2.alloc (.cells zeroQc 90)).setRow w2.heap.size (cellsQ zeroQ A9 m9 c9) = w3 at *; (have hb4 := Lib.hid (hb3.out.trans (hbe.mono hb3.out.size)); have hlo4 := Lib.hid (hlo3.out.below hbe)); replace hbe := 0; replace k3 := Lib.hid k3)
            | fail)
          go_ret
          rw [e1.out]
          exact ⟨A2, k, c2, by first | rfl | simp, hlo4.out.lq, hb4.out⟩
end Go.Proofs.Ytbbdkfadcafpfaa
