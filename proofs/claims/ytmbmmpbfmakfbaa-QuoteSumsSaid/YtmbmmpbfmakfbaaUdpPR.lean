/- Datagrams (the reference): walk of Parse. -/
import Derived.Test.YtmbmmpbfmakfbaaUdpP
set_option linter.unusedVariables false
namespace Go.Proofs.Ytmbmmpbfmakfbaa
open Go.RowKit

abbrev zeroU : Array Value := #[.int .i64 0, .int .i64 0, .bool false, .slice none 0 0]


set_option maxRecDepth 100000 in
set_option maxHeartbeats 4000000 in
theorem RefUdpParse_any (src dst : Int) (A : Option Addr) (n c : Nat) (bs : List Int) (w : World) (h : RB w A n c bs) (hn : n ≤ 100000) :
    Calls Try.prog 12 #[.int .i64 src, .int .i64 dst, .slice A n c] w (UdpOut w (readU src dst bs) (codeU src dst bs)) := by
  have hb0 := Lib.hid ((Below.refl _ w).alloc (Nat.le_refl _) (.cells #[.int .i64 0, .int .i64 0, .bool false, .slice none 0 0] 36))
  by_cases h8 : n < 8
  · have hk := Lib.hid (show codeU src dst bs = 3 by unfold codeU; rw [h.len, if_pos h8])
    clear h
    go_enter Try.func12, Try.ntmps12
    go_wp2
    exact bodyPost_ret (v := .tuple #[.agg #[.int .i64 0, .int .i64 0, .bool false, .slice none 0 0], .int .i64 3]) (by simp [results, Try.results12, go_sem]) rfl (UdpOut.bad hk.out (by decide) hb0.out)
  · have hlen := h.len
    have hnc := h.nc
    have hcm : c ≤ 9223372036854775807 := by have := h.cm; unfold maxLen at this; omega
    obtain ⟨b, off, rfl, hbl, hc⟩ := h.mem (by omega)
    replace hc := 0
    have hda := h.drop_any 8 (by omega)
    obtain ⟨A8, hif⟩ : ∃ A8, (if c = 8 then some (⟨b, off, none⟩ : Addr) else some ⟨b, off + 8, none⟩) = A8 := ⟨_, rfl⟩
    rw [hif] at hda
    have hD8 := Lib.hid (fun W (hW : Below w.heap.size w W) => hda.below hW)
    replace hda := 0
    have hG0 := Lib.hid (fun W (hW : Below w.heap.size w W) => RefGet_any _ n c bs 0 2 W (h.below hW) hn)
    have hG2 := Lib.hid (fun W (hW : Below w.heap.size w W) => RefGet_any _ n c bs 2 2 W (h.below hW) hn)
    have hG4 := Lib.hid (fun W (hW : Below w.heap.size w W) => RefGet_any _ n c bs 4 2 W (h.below hW) hn)
    have hG6 := Lib.hid (fun W (hW : Below w.heap.size w W) => RefGet_any _ n c bs 6 2 W (h.below hW) hn)
    have hpar := Lib.hid (show parsedU bs = ⟨(getV bs 0 2).1, (getV bs 2 2).1, (getV bs 6 2).1 == 0, bs.drop 8⟩ from rfl)
    have hcode : codeU src dst bs = if (getV bs 4 2).1 < 8 then 4 else if (n : Int) < (getV bs 4 2).1 then 3 else if (getV bs 4 2).1 < (n : Int) then 4 else
        if ((getV bs 6 2).1 == 0) = true then 0 else if (foldI (totalI [pseudoB src dst 17 (n : Int), bs]) == 65535) = true then 0 else 5 := by
      unfold codeU
      rw [hlen, if_neg h8]
    have hsmall := Lib.hid (small_two (pseudoB_byts src dst 17 (n : Int)) (by rw [pseudoB_length]; omega) h.byt (by omega))
    generalize (getV bs 0 2).1 = q0 at *
    generalize (getV bs 0 2).2 = q0e at *
    generalize (getV bs 2 2).1 = q1 at *
    generalize (getV bs 2 2).2 = q1e at *
    generalize (getV bs 4 2).1 = sz at *
    generalize (getV bs 4 2).2 = sze at *
    generalize (getV bs 6 2).1 = ow at *
    generalize (getV bs 6 2).2 = owe at *
    replace h := Lib.hid h
    replace hlen := Lib.hid hlen
    by_cases s8 : sz < 8
    · have hk := Lib.hid (hcode.trans (if_pos s8))
      replace hcode := 0
      go_enter Try.func12, Try.ntmps12
      go_wp2_with (first
        | (go_at_call_of 28 (Value.int IntKind.i64 (4 : Int)); refine (hG4.out _ hb0.out).mono ?_; rintro e w' ⟨rfl, rfl⟩)
        | (go_at_call_of 28 (Value.int IntKind.i64 (6 : Int)); refine (hG6.out _ hb0.out).mono ?_; rintro e w' ⟨rfl, rfl⟩)
        | fail)
      exact bodyPost_ret (v := .tuple #[.agg #[.int .i64 0, .int .i64 0, .bool false, .slice none 0 0], .int .i64 4]) (by simp [results, Try.results12, go_sem]) rfl (UdpOut.bad hk.out (by decide) hb0.out)
    · by_cases s9 : (n : Int) < sz
      · have hk := Lib.hid (hcode.trans ((if_neg s8).trans (if_pos s9)))
        replace hcode := 0
        go_enter Try.func12, Try.ntmps12
        go_wp2_with (first
          | (go_at_call_of 28 (Value.int IntKind.i64 (4 : Int)); refine (hG4.out _ hb0.out).mono ?_; rintro e w' ⟨rfl, rfl⟩)
          | (go_at_call_of 28 (Value.int IntKind.i64 (6 : Int)); refine (hG6.out _ hb0.out).mono ?_; rintro e w' ⟨rfl, rfl⟩)
          | fail)
        exact bodyPost_ret (v := .tuple #[.agg #[.int .i64 0, .int .i64 0, .bool false, .slice none 0 0], .int .i64 3]) (by simp [results, Try.results12, go_sem]) rfl (UdpOut.bad hk.out (by decide) hb0.out)
      · by_cases s10 : sz < (n : Int)
        · have hk := Lib.hid (hcode.trans ((if_neg s8).trans ((if_neg s9).trans (if_pos s10))))
          replace hcode := 0
          go_enter Try.func12, Try.ntmps12
          go_wp2_with (first
            | (go_at_call_of 28 (Value.int IntKind.i64 (4 : Int)); refine (hG4.out _ hb0.out).mono ?_; rintro e w' ⟨rfl, rfl⟩)
            | (go_at_call_of 28 (Value.int IntKind.i64 (6 : Int)); refine (hG6.out _ hb0.out).mono ?_; rintro e w' ⟨rfl, rfl⟩)
            | fail)
          exact bodyPost_ret (v := .tuple #[.agg #[.int .i64 0, .int .i64 0, .bool false, .slice none 0 0], .int .i64 4]) (by simp [results, Try.results12, go_sem]) rfl (UdpOut.bad hk.out (by decide) hb0.out)
        · obtain rfl : sz = (n : Int) := by omega
          have hc2 := hcode.trans ((if_neg s8).trans ((if_neg s9).trans (if_neg s10)))
          replace hcode := 0
          cases how : (ow == 0)
          · have hown : (ow != 0) = true := by simp [bne, how]
            cases hq : (foldI (totalI [pseudoB src dst 17 (n : Int), bs]) == 65535)
            · have hk := Lib.hid (show codeU src dst bs = 5 from hc2.trans (by rw [how, hq]; rfl))
              replace hc2 := 0
              replace hq := Lib.hid hq
              go_enter Try.func12, Try.ntmps12
              go_wp2_with (first
                | (go_at_call_of 28 (Value.int IntKind.i64 (4 : Int)); refine (hG4.out _ hb0.out).mono ?_; rintro e w' ⟨rfl, rfl⟩)
                | (go_at_call_of 28 (Value.int IntKind.i64 (6 : Int)); refine (hG6.out _ hb0.out).mono ?_; rintro e w' ⟨rfl, rfl⟩)
                | fail)
              have hW0 : ∃ W0, w.alloc (.cells #[.int .i64 0, .int .i64 0, .bool false, .slice none 0 0] 36) = W0 := ⟨_, rfl⟩
              obtain ⟨W0, hW0⟩ := hW0
              have hz0 : Blk W0 w.heap.size #[.int .i64 0, .int .i64 0, .bool false, .slice none 0 0] 36 := by rw [← hW0]; exact Blk.new w _ _
              have hBW : Below w.heap.size w W0 := by rw [← hW0]; exact hb0.out
              rw [hW0]
              replace hW0 := Lib.hid hW0
              replace hz0 := Lib.hid hz0
              replace hBW := Lib.hid hBW
              go_region_held3 (fun W => True ∧ Below w.heap.size w W)
                (first | assumption | exact ⟨trivial, hBW.out.drew⟩ | exact ⟨trivial, hB2.out.alloc hB2.out.size _⟩)
                (first
                | (go_at_call 30; refine (RefPseudo_any src dst 17 (n : Int) _).mono ?_; rintro e W2 ⟨A3, c3, rfl, ho3, hb2⟩; have hrr := Lib.hid (rbb_two ho3.rb ((h.out.below hBW.out.drew).below hb2)); have hB2 := Lib.hid (hBW.out.drew.trans (hb2.mono hBW.out.drew.size)); have hz2 := Lib.hid (hz0.out.drew.to hb2); have hS2 : True ∧ Below w.heap.size w W2 := ⟨trivial, hB2.out⟩; replace ho3 := 0; replace hb2 := 0)
                | (go_at_call 29; refine (RefRight_any _ 2 2 [pseudoB src dst 17 (n : Int), bs] _ hrr.out hsmall.out).mono ?_; rintro e W4 ⟨rfl, hb4⟩; rw [hq.out]; have hB4 := Lib.hid ((hB2.out.alloc hB2.out.size _).trans (hb4.mono (by have := hB2.out.size; simp; omega))); have hz4 := Lib.hid ((hz2.out.alloc _).to hb4); have hS4 : True ∧ Below w.heap.size w W4 := ⟨trivial, hB4.out⟩; have hBt := hB4.out; obtain ⟨⟨z0, z1, z2, z3⟩, f0, f1, f2, f3⟩ := hz4.out.z4; replace hb4 := 0)
                | fail)
              go_wp2
              have hfold : ((((W4.setCell ⟨w.heap.size, 0, none⟩ (.int .i64 0)).setCell ⟨w.heap.size, 1, none⟩ (.int .i64 0)).setCell ⟨w.heap.size, 2, none⟩ (.bool false)).setCell ⟨w.heap.size, 3, none⟩ (.slice none 0 0)) = set4 W4 w.heap.size (.int .i64 0) (.int .i64 0) (.bool false) (.slice none 0 0) := rfl
              rw [hfold]
              obtain ⟨r0, r1, r2, r3⟩ := set4_at W4 w.heap.size (.int .i64 0) (.int .i64 0) (.bool false) (.slice none 0 0) z0 z1 z2 z3
              have hbf := below_set4 (B := w.heap.size) hBt (by omega) (.int .i64 0) (.int .i64 0) (.bool false) (.slice none 0 0)
              clear hfold z0 z1 z2 z3 f0 f1 f2 f3 hBt
              generalize set4 W4 w.heap.size (.int .i64 0) (.int .i64 0) (.bool false) (.slice none 0 0) = Wf at *
              exact bodyPost_ret (v := .tuple #[.agg #[(.int .i64 0), (.int .i64 0), (.bool false), (.slice none 0 0)], .int .i64 5]) (by simp [results, Try.results12, go_sem, r0, r1, r2, r3]) rfl (UdpOut.bad hk.out (by decide) hbf)
            · have hk := Lib.hid (show codeU src dst bs = 0 from hc2.trans (by rw [how, hq]; rfl))
              replace hc2 := 0
              replace hq := Lib.hid hq
              go_enter Try.func12, Try.ntmps12
              go_wp2_with (first
                | (go_at_call_of 28 (Value.int IntKind.i64 (4 : Int)); refine (hG4.out _ hb0.out).mono ?_; rintro e w' ⟨rfl, rfl⟩)
                | (go_at_call_of 28 (Value.int IntKind.i64 (6 : Int)); refine (hG6.out _ hb0.out).mono ?_; rintro e w' ⟨rfl, rfl⟩)
                | fail)
              have hW0 : ∃ W0, w.alloc (.cells #[.int .i64 0, .int .i64 0, .bool false, .slice none 0 0] 36) = W0 := ⟨_, rfl⟩
              obtain ⟨W0, hW0⟩ := hW0
              have hz0 : Blk W0 w.heap.size #[.int .i64 0, .int .i64 0, .bool false, .slice none 0 0] 36 := by rw [← hW0]; exact Blk.new w _ _
              have hBW : Below w.heap.size w W0 := by rw [← hW0]; exact hb0.out
              rw [hW0]
              replace hW0 := Lib.hid hW0
              replace hz0 := Lib.hid hz0
              replace hBW := Lib.hid hBW
              go_region_held3 (fun W => True ∧ Below w.heap.size w W)
                (first | assumption | exact ⟨trivial, hBW.out.drew⟩ | exact ⟨trivial, hB2.out.alloc hB2.out.size _⟩)
                (first
                | (go_at_call 30; refine (RefPseudo_any src dst 17 (n : Int) _).mono ?_; rintro e W2 ⟨A3, c3, rfl, ho3, hb2⟩; have hrr := Lib.hid (rbb_two ho3.rb ((h.out.below hBW.out.drew).below hb2)); have hB2 := Lib.hid (hBW.out.drew.trans (hb2.mono hBW.out.drew.size)); have hz2 := Lib.hid (hz0.out.drew.to hb2); have hS2 : True ∧ Below w.heap.size w W2 := ⟨trivial, hB2.out⟩; replace ho3 := 0; replace hb2 := 0)
                | (go_at_call 29; refine (RefRight_any _ 2 2 [pseudoB src dst 17 (n : Int), bs] _ hrr.out hsmall.out).mono ?_; rintro e W4 ⟨rfl, hb4⟩; rw [hq.out]; have hB4 := Lib.hid ((hB2.out.alloc hB2.out.size _).trans (hb4.mono (by have := hB2.out.size; simp; omega))); have hz4 := Lib.hid ((hz2.out.alloc _).to hb4); have hS4 : True ∧ Below w.heap.size w W4 := ⟨trivial, hB4.out⟩; have hBt := hB4.out; obtain ⟨⟨z0, z1, z2, z3⟩, f0, f1, f2, f3⟩ := hz4.out.z4; replace hb4 := 0)
                | fail)
              have hsz4 := hz4.out.lt
              have hnl := Lib.hid (OB.nil W4 W4.heap.size)
              go_wp2_with (first
                | (go_at_call_of 28 (Value.int IntKind.i64 (0 : Int)); refine (hG0.out _ hB4.out).mono ?_; rintro e w' ⟨rfl, rfl⟩)
                | (go_at_call 28; refine (hG2.out _ hB4.out).mono ?_; rintro e w' ⟨rfl, rfl⟩)
                | (at_builtin; refine wpList_append_bytes _ rfl (.const (.slice none 0 0)) (.tmp 74) rfl rfl rfl hnl.out (hD8.out _ hB4.out) (by omega) (Nat.le_refl _) ?_; intro A9 c9 W9 ho9 hg9 _; have hb9 := (Below.refl W4.heap.size W4).grown hg9 (Nat.le_refl _) (fun k hk => by simp [ownBlk] at hk); rw [Nat.zero_add, List.nil_append] at ho9; have hz9 := hz4.out.to hb9; have hB9 := Lib.hid (hB4.out.trans (hb9.mono hB4.out.size)); clear z0 z1 z2 z3 f0 f1 f2 f3 hg9; obtain ⟨⟨z0, z1, z2, z3⟩, f0, f1, f2, f3⟩ := hz9.z4; replace hb9 := 0; have hlt9 := hz9.lt)
                | fail)
              have hBt := hB9.out
              have hob := Lib.hid (ho9.set4 (B := w.heap.size) hsz4 (.int .i64 q0) (.int .i64 q1) (.bool false) (.slice A9 (n - 8) c9))
              have hfold : ((((W9.setCell ⟨w.heap.size, 0, none⟩ (.int .i64 q0)).setCell ⟨w.heap.size, 1, none⟩ (.int .i64 q1)).setCell ⟨w.heap.size, 2, none⟩ (.bool false)).setCell ⟨w.heap.size, 3, none⟩ (.slice A9 (n - 8) c9)) = set4 W9 w.heap.size (.int .i64 q0) (.int .i64 q1) (.bool false) (.slice A9 (n - 8) c9) := rfl
              rw [hfold]
              obtain ⟨r0, r1, r2, r3⟩ := set4_at W9 w.heap.size (.int .i64 q0) (.int .i64 q1) (.bool false) (.slice A9 (n - 8) c9) z0 z1 z2 z3
              have hbf := below_set4 (B := w.heap.size) hBt (by omega) (.int .i64 q0) (.int .i64 q1) (.bool false) (.slice A9 (n - 8) c9)
              clear hfold z0 z1 z2 z3 f0 f1 f2 f3 hBt
              generalize set4 W9 w.heap.size (.int .i64 q0) (.int .i64 q1) (.bool false) (.slice A9 (n - 8) c9) = Wf at *
              exact bodyPost_ret (v := .tuple #[.agg #[(.int .i64 q0), (.int .i64 q1), (.bool false), (.slice A9 (n - 8) c9)], .int .i64 0]) (by simp [results, Try.results12, go_sem, r0, r1, r2, r3]) rfl ((by unfold readU; rw [hk.out, if_pos rfl, hpar.out, how]; exact ⟨A9, n - 8, c9, rfl, hob.out.mono (Nat.le_of_lt hsz4), hbf⟩))
          · have hown : (ow != 0) = false := by simp [bne, how]
            have hk := Lib.hid (show codeU src dst bs = 0 from hc2.trans (by rw [how]; rfl))
            replace hc2 := 0
            go_enter Try.func12, Try.ntmps12
            go_wp2_with (first
              | (go_at_call_of 28 (Value.int IntKind.i64 (4 : Int)); refine (hG4.out _ hb0.out).mono ?_; rintro e w' ⟨rfl, rfl⟩)
              | (go_at_call_of 28 (Value.int IntKind.i64 (6 : Int)); refine (hG6.out _ hb0.out).mono ?_; rintro e w' ⟨rfl, rfl⟩)
              | fail)
            have hW0 : ∃ W0, w.alloc (.cells #[.int .i64 0, .int .i64 0, .bool false, .slice none 0 0] 36) = W0 := ⟨_, rfl⟩
            obtain ⟨W0, hW0⟩ := hW0
            have hz0 : Blk W0 w.heap.size #[.int .i64 0, .int .i64 0, .bool false, .slice none 0 0] 36 := by rw [← hW0]; exact Blk.new w _ _
            have hBW : Below w.heap.size w W0 := by rw [← hW0]; exact hb0.out
            rw [hW0]
            replace hW0 := Lib.hid hW0
            have hz4 := Lib.hid hz0.drew
            have hB4 := Lib.hid hBW.drew
            clear hz0
            clear hBW
            refine wp_region_tame (fun W => W = W0.drew) (by kernel_rfl) (by kernel_rfl) rfl ?_
            repeat (first
              | (refine tameL_skip rfl ?_; simp only [Act.put, List.setIfInBounds_toArray, List.set_cons_zero, List.set_cons_succ])
              | (refine tameL_val (v := ?_) rfl (fun W hS => ?_) ?_; rotate_left; (· (clear hS; go_simp; try with_reducible rfl)); simp only [Act.put, List.setIfInBounds_toArray, List.set_cons_zero, List.set_cons_succ]))
            refine tameL_nil fun W hS => ?_
            subst hS
            generalize W0.drew = W4 at *
            obtain ⟨⟨z0, z1, z2, z3⟩, f0, f1, f2, f3⟩ := hz4.out.z4
            have hsz4 := hz4.out.lt
            have hnl := Lib.hid (OB.nil W4 W4.heap.size)
            go_wp2_with (first
              | (go_at_call_of 28 (Value.int IntKind.i64 (0 : Int)); refine (hG0.out _ hB4.out).mono ?_; rintro e w' ⟨rfl, rfl⟩)
              | (go_at_call 28; refine (hG2.out _ hB4.out).mono ?_; rintro e w' ⟨rfl, rfl⟩)
              | (at_builtin; refine wpList_append_bytes _ rfl (.const (.slice none 0 0)) (.tmp 74) rfl rfl rfl hnl.out (hD8.out _ hB4.out) (by omega) (Nat.le_refl _) ?_; intro A9 c9 W9 ho9 hg9 _; have hb9 := (Below.refl W4.heap.size W4).grown hg9 (Nat.le_refl _) (fun k hk => by simp [ownBlk] at hk); rw [Nat.zero_add, List.nil_append] at ho9; have hz9 := hz4.out.to hb9; have hB9 := Lib.hid (hB4.out.trans (hb9.mono hB4.out.size)); clear z0 z1 z2 z3 f0 f1 f2 f3 hg9; obtain ⟨⟨z0, z1, z2, z3⟩, f0, f1, f2, f3⟩ := hz9.z4; replace hb9 := 0; have hlt9 := hz9.lt)
              | fail)
            have hBt := hB9.out
            have hob := Lib.hid (ho9.set4 (B := w.heap.size) hsz4 (.int .i64 q0) (.int .i64 q1) (.bool true) (.slice A9 (n - 8) c9))
            have hfold : ((((W9.setCell ⟨w.heap.size, 0, none⟩ (.int .i64 q0)).setCell ⟨w.heap.size, 1, none⟩ (.int .i64 q1)).setCell ⟨w.heap.size, 2, none⟩ (.bool true)).setCell ⟨w.heap.size, 3, none⟩ (.slice A9 (n - 8) c9)) = set4 W9 w.heap.size (.int .i64 q0) (.int .i64 q1) (.bool true) (.slice A9 (n - 8) c9) := rfl
            rw [hfold]
            obtain ⟨r0, r1, r2, r3⟩ := set4_at W9 w.heap.size (.int .i64 q0) (.int .i64 q1) (.bool true) (.slice A9 (n - 8) c9) z0 z1 z2 z3
            have hbf := below_set4 (B := w.heap.size) hBt (by omega) (.int .i64 q0) (.int .i64 q1) (.bool true) (.slice A9 (n - 8) c9)
            clear hfold z0 z1 z2 z3 f0 f1 f2 f3 hBt
            generalize set4 W9 w.heap.size (.int .i64 q0) (.int .i64 q1) (.bool true) (.slice A9 (n - 8) c9) = Wf at *
            exact bodyPost_ret (v := .tuple #[.agg #[(.int .i64 q0), (.int .i64 q1), (.bool true), (.slice A9 (n - 8) c9)], .int .i64 0]) (by simp [results, Try.results12, go_sem, r0, r1, r2, r3]) rfl ((by unfold readU; rw [hk.out, if_pos rfl, hpar.out, how]; exact ⟨A9, n - 8, c9, rfl, hob.out.mono (Nat.le_of_lt hsz4), hbf⟩))
end Go.Proofs.Ytmbmmpbfmakfbaa
