/- The law V6Back: its walk. -/
import Derived.Test.YtbbdkfadcafpfaaV6PO
import Derived.Test.YtbbdkfadcafpfaaV6Back0
import Derived.Test.YtbbdkfadcafpfaaAwake06
import Derived.Test.YtbbdkfadcafpfaaSame6
import Derived.Test.YtbbdkfadcafpfaaZero6
set_option linter.unusedVariables false
namespace Go.Proofs.Ytbbdkfadcafpfaa
open Go Go.RowKit

theorem bsameV_refl (p : V6P) : sameV p p = true := by simp [sameV]
theorem ParseFrag_ge (A : Option Addr) (n c : Nat) (bs : List Int) (w : World) (h : RB w A n c bs) (hn : n ≤ 100000) (h8 : 8 ≤ n) :
    Calls Try.prog 25 #[.slice A n c] w (FragOut w (bs[0]?.getD 0) (placeF bs / 8 * 8) (idF bs) (placeF bs % 2 == 1) (bs.drop 8) 0) := by
  obtain ⟨b, off, rfl, _, _⟩ := h.mem (by omega)
  have hnc := h.nc
  by_cases h9 : 8 < c
  · exact ParseFrag_long b off n c bs w h hn h8 h9
  · obtain rfl : c = 8 := by omega
    obtain rfl : n = 8 := by omega
    exact ParseFrag_eight b off bs w h
theorem frag_cells {W : World} {B : Nat} {x y z : Int} {m : Bool} {T : TypeId} (h : Blk W B #[.int .i64 x, .int .i64 y, .int .i64 z, .bool m] T) :
    W.cell? ⟨B, 0, none⟩ = some (.int .i64 x) ∧ W.cell? ⟨B, 1, none⟩ = some (.int .i64 y) ∧ W.cell? ⟨B, 2, none⟩ = some (.int .i64 z) ∧ W.cell? ⟨B, 3, none⟩ = some (.bool m) :=
  ⟨h.cell 0 _ rfl, h.cell 1 _ rfl, h.cell 2 _ rfl, h.cell 3 _ rfl⟩

set_option maxRecDepth 100000 in
set_option maxHeartbeats 1000000 in
theorem V6Back_walk (P : Array Value) (p : V6P) (A : Option Addr) (n c : Nat) (nx fo id : Int) (m : Bool) (A' : Option Addr) (n' c' : Nat) (bs : List Int) (w : World) (hV : V6V P p A n c) (hr : RB w A n c p.data) (hmore : RB w A' n' c' bs) :
    Calls Try.prog 6 #[.agg P, .agg #[.int .i64 nx, .int .i64 fo, .int .i64 id, .bool m], .slice A' n' c'] w fun e w' => e = .returned (.bool true) ∧ Below w.heap.size w w' := by
  have b := Lib.hid (((Below.refl _ w).alloc (Nat.le_refl _) (.cells P 26)).alloc (by simp) (.cells #[.int .i64 nx, .int .i64 fo, .int .i64 id, .bool m] 36))
  have k1 := Lib.hid ((Blk.new w P 26).alloc (.cells #[.int .i64 nx, .int .i64 fo, .int .i64 id, .bool m] 36))
  have k2 := Blk.new (w.alloc (.cells P 26)) #[.int .i64 nx, .int .i64 fo, .int .i64 id, .bool m] 36
  rw [World.size_alloc] at k2
  have x36 := k1.out.cell 36 _ hV.h36
  obtain ⟨y0, y1, y2, y3⟩ := frag_cells k2
  replace k2 := Lib.hid k2
  by_cases hn : 3000 < n
  · have hni : (3000 : Int) < n := by omega
    clear hV hr hmore
    go_enter Try.func6, Try.ntmps6
    go_wp2_with (first
      | (go_at_call 13; refine (awake06 _).mono ?_; rintro e w' ⟨rfl, hb2⟩)
      | fail)
    go_ret
    exact ⟨rfl, b.out.trans (hb2.mono b.out.size)⟩
  · have hni : ¬ (3000 : Int) < n := by omega
    by_cases hn' : 500 < n'
    · have hni' : (500 : Int) < n' := by omega
      clear hV hr hmore
      go_enter Try.func6, Try.ntmps6
      go_wp2_with (first
        | (go_at_call 13; refine (awake06 _).mono ?_; rintro e w' ⟨rfl, hb2⟩)
        | fail)
      go_ret
      exact ⟨rfl, b.out.trans (hb2.mono b.out.size)⟩
    · have hni' : ¬ (500 : Int) < n' := by omega
      have hm := Lib.hid (fun W (hW : Below w.heap.size w W) => hmore.below hW)
      have hml := Lib.hid hmore.len
      have hB := fun W (hW : Below w.heap.size w W) => V6Build_any P p A n c W hV (hr.below hW)
      have hF := fun W => BuildFrag_any nx fo id m W
      have hSz := Lib.hid (fun W => V6Size_any P p A n c W hV (by omega))
      have hSm := Lib.hid (fun P' A' n' c' W (hV' : V6V P' p A' n' c') (hW : Below w.heap.size w W) (hr' : RB W A' n' c' p.data) => by have := V6Same_any P P' p p A A' n c n' c' W hV hV' (hr.below hW) hr'; rw [bsameV_refl] at this; exact this)
      have hrl := hr.len
      clear hmore hr
      have hV2 := Lib.hid hV
      by_cases hfk : okF nx fo id
      · rw [show bytesF? nx fo id m = bytesF nx fo id m from if_pos hfk, show codeF nx fo id = 0 from if_pos hfk] at hF
        have hPF := fun A N c W (hr : RB W A N c (bytesF nx fo id m ++ bs)) (hN : N ≤ 100000) (h8 : 8 ≤ N) => ParseFrag_ge A N c _ W hr hN h8
        obtain ⟨q0, q1, q2, q3, q4⟩ := back_F (m := m) hfk bs
        rw [q0, q1, q2, q3, q4] at hPF
        replace hPF := Lib.hid hPF
        replace hF := Lib.hid hF
        clear q0 q1 q2 q3 q4
        by_cases hck : checkV p n = 0
        · rw [if_pos hck, hck] at hB
          have hPa := fun A N c W (hr : RB W A N c (bytesV p ++ bs)) (hN : N ≤ 100000) => V6Parse_any A N c _ W hr hN
          obtain ⟨q0, q1⟩ := back_V hrl hck hV.ls hV.ld bs
          rw [q0, q1] at hPa
          unfold V6Out at hPa
          have hbl := Lib.hid (show (bytesV p).length = 40 + n by rw [bytesV_len hV.ls hV.ld, hrl])
          replace hPa := Lib.hid hPa
          replace hB := Lib.hid hB
          clear q0 q1 hck hfk hrl
          replace hV := hV2
          go_enter Try.func6, Try.ntmps6
          go_wp2_with (first
            | (refine wpList_load_V rfl (.tmp 3) rfl w.heap.size rfl P k1.out hV.out.size ?_)
            | (go_at_call 14; refine (hB.out _ b.out).mono ?_; rintro e w1 ⟨A1, n1, c1, rfl, r1, hb1⟩; have hl1 := r1.len; obtain rfl : n1 = 40 + n := hl1.symm.trans hbl.out; clear hl1; have o1 := Lib.hid r1; clear y0 y1 y2 y3 x36; replace k1 := Lib.hid (k1.out.to hb1); replace k2 := Lib.hid (k2.out.to hb1); replace b := Lib.hid (b.out.trans (hb1.mono b.out.size)); obtain ⟨y0, y1, y2, y3⟩ := frag_cells k2.out; clear hb1 r1)
            | (go_at_call 31; refine (BClone_any A1 (40 + n) c1 _ _ o1.out (by omega)).mono ?_; rintro e w2 ⟨A2, c2, rfl, ho2, hb2⟩; have hc2 := Lib.hid hb2; have hs2 := hb2.size; replace ho2 := Lib.hid ho2; clear hb2)
            | (at_builtin; refine wpList_append_bytes _ rfl (.tmp 35) (.tmp 36) rfl rfl rfl ho2.out (hm.out _ (b.out.trans (hc2.out.mono b.out.size))) (by omega) hs2 ?_; intro A3 c3 w3 ho3 hg3 hr3; have hb3 := hc2.out.grown hg3 hs2 (fun k hk => (ho2.out.blk hk).1); clear y0 y1 y2 y3; replace k1 := Lib.hid (k1.out.to hb3); replace k2 := Lib.hid (k2.out.to hb3); replace b := Lib.hid (b.out.trans (hb3.mono b.out.size)); obtain ⟨y0, y1, y2, y3⟩ := frag_cells k2.out; have o3 := Lib.hid ho3.rb; clear hb3 ho3 hg3 hr3 hs2)
            | (go_at_call 27; refine (hPa.out _ _ _ _ o3.out (by omega)).mono ?_; rintro e w4 ⟨P4, A4, n4, c4, rfl, hV4, ho4, hb4⟩; clear y0 y1 y2 y3; replace k1 := Lib.hid (k1.out.to hb4); replace k2 := Lib.hid (k2.out.to hb4); replace b := Lib.hid (b.out.trans (hb4.mono b.out.size)); replace hV4 := Lib.hid hV4; have o4 := Lib.hid ho4.rb; clear hb4 ho4)
            | (refine wpList_store_V rfl (.tmp 9) (.tmp 39) rfl w4.heap.size P4 rfl rfl _ (Blk.new w4 zeroVx 26) rfl hV4.out.size hV4.out.one ?_; have hbe : Below w4.heap.size w4 ((w4.alloc (.cells zeroVx 26)).setRow w4.heap.size P4) := below_row ((Below.refl _ w4).alloc (Nat.le_refl _) _) (Nat.le_refl _) _; have k4 : Blk ((w4.alloc (.cells zeroVx 26)).setRow w4.heap.size P4) w4.heap.size P4 26 := ⟨setRow_heap _ _ _ _ _ _ (Blk.new w4 zeroVx 26).at_⟩; generalize (w4.alloc (.cells zeroVx 26)).setRow w4.heap.size P4 = u4 at *; (replace k1 := Lib.hid (k1.out.to hbe); replace k2 := Lib.hid (k2.out.to hbe); replace b := Lib.hid (b.out.trans (hbe.mono b.out.size)); replace o4 := Lib.hid (o4.out.below hbe); obtain ⟨y0, y1, y2, y3⟩ := frag_cells k2.out); replace hbe := 0; replace k4 := Lib.hid k4)
            | (refine wpList_load_V rfl (.tmp 9) rfl w4.heap.size rfl P4 k4.out hV4.out.size ?_)
            | (go_at_call 21; refine (hSm.out _ _ _ _ _ hV4.out b.out o4.out).mono ?_; rintro e w5 ⟨rfl, hb5⟩; clear y0 y1 y2 y3; replace k1 := Lib.hid (k1.out.to hb5); replace k2 := Lib.hid (k2.out.to hb5); replace b := Lib.hid (b.out.trans (hb5.mono b.out.size)); obtain ⟨y0, y1, y2, y3⟩ := frag_cells k2.out; clear hb5)
            | (go_at_call 17; refine (hSz.out _).mono ?_; rintro e w5b ⟨rfl, hb5⟩; clear y0 y1 y2 y3; replace k1 := Lib.hid (k1.out.to hb5); replace k2 := Lib.hid (k2.out.to hb5); replace b := Lib.hid (b.out.trans (hb5.mono b.out.size)); obtain ⟨y0, y1, y2, y3⟩ := frag_cells k2.out; clear hb5)
            | (go_at_call 23; refine (hF.out _).mono ?_; rintro e w6 ⟨A6, n6, c6, rfl, r6, hb6⟩; have hl6 := r6.len; obtain rfl : n6 = 8 := hl6.symm.trans (bytesF_len _ _ _ _); have o6 := Lib.hid r6; clear y0 y1 y2 y3; replace k2 := Lib.hid (k2.out.to hb6); replace b := Lib.hid (b.out.trans (hb6.mono b.out.size)); obtain ⟨y0, y1, y2, y3⟩ := frag_cells k2.out; clear hb6 r6 hl6)
            | (go_at_call 31; refine (BClone_any A6 8 c6 _ _ o6.out (by omega)).mono ?_; rintro e w7 ⟨A7, c7, rfl, ho7, hb7⟩; have hc7 := Lib.hid hb7; have hs7 := hb7.size; replace ho7 := Lib.hid ho7; clear hb7)
            | (at_builtin; refine wpList_append_bytes _ rfl (.tmp 71) (.tmp 72) rfl rfl rfl ho7.out (hm.out _ (b.out.trans (hc7.out.mono b.out.size))) (by omega) hs7 ?_; intro A8 c8 w8 ho8 hg8 hr8; have hb8 := hc7.out.grown hg8 hs7 (fun k hk => (ho7.out.blk hk).1); clear y0 y1 y2 y3; replace k2 := Lib.hid (k2.out.to hb8); replace b := Lib.hid (b.out.trans (hb8.mono b.out.size)); obtain ⟨y0, y1, y2, y3⟩ := frag_cells k2.out; have o8 := Lib.hid ho8.rb; clear hb8 ho8 hg8 hr8 hs7)
            | (go_at_call 25; refine (hPF.out _ _ _ _ o8.out (by omega) (by omega)).mono ?_; rintro e w9 ⟨A9, n9, c9, rfl, r9, hb9⟩; clear y0 y1 y2 y3; replace k2 := Lib.hid (k2.out.to hb9); replace b := Lib.hid ((b.out.trans (hb9.mono b.out.size)).alloc (b.out.trans (hb9.mono b.out.size)).size (.cells #[.int .i64 nx, .int .i64 fo, .int .i64 id, .bool m] 36)); have h2lt := k2.out.lt; obtain ⟨y0, y1, y2, y3⟩ := frag_cells k2.out; replace r9 := Lib.hid (r9.alloc (.cells #[.int .i64 nx, .int .i64 fo, .int .i64 id, .bool m] 36)); clear hb9)
            | (go_at_call 16; refine (Equal_same _ _ _ _ _ _ _ _ r9.out (hm.out _ b.out)).mono ?_; rintro e w' ⟨rfl, rfl⟩)
            | (go_at_call 13; refine (awake06 _).mono ?_; rintro e w' ⟨rfl, hbz⟩)
            | fail)
          go_ret
          exact ⟨by first | rfl | simp, b.out.trans (hbz.mono b.out.size)⟩
        · rw [if_neg hck] at hB
          have hcc := checkV_code p n
          generalize checkV p n = e0 at *
          replace hB := Lib.hid hB
          clear hfk hrl
          replace hV := hV2
          go_enter Try.func6, Try.ntmps6
          rcases hcc with rfl | rfl | rfl
          · exact absurd rfl hck
          all_goals clear hck
          all_goals
            go_wp2_with (first
              | (refine wpList_load_V rfl (.tmp 3) rfl w.heap.size rfl P k1.out hV.out.size ?_)
              | (go_at_call 14; refine (hB.out _ b.out).mono ?_; rintro e w1 ⟨A1, n1, c1, rfl, r1, hb1⟩; skip; have o1 := Lib.hid r1; clear y0 y1 y2 y3 x36; replace k1 := Lib.hid (k1.out.to hb1); replace k2 := Lib.hid (k2.out.to hb1); replace b := Lib.hid (b.out.trans (hb1.mono b.out.size)); obtain ⟨y0, y1, y2, y3⟩ := frag_cells k2.out; clear hb1 r1)
              | (go_at_call 23; refine (hF.out _).mono ?_; rintro e w6 ⟨A6, n6, c6, rfl, r6, hb6⟩; have hl6 := r6.len; obtain rfl : n6 = 8 := hl6.symm.trans (bytesF_len _ _ _ _); have o6 := Lib.hid r6; clear y0 y1 y2 y3; replace k2 := Lib.hid (k2.out.to hb6); replace b := Lib.hid (b.out.trans (hb6.mono b.out.size)); obtain ⟨y0, y1, y2, y3⟩ := frag_cells k2.out; clear hb6 r6 hl6)
              | (go_at_call 31; refine (BClone_any A6 8 c6 _ _ o6.out (by omega)).mono ?_; rintro e w7 ⟨A7, c7, rfl, ho7, hb7⟩; have hc7 := Lib.hid hb7; have hs7 := hb7.size; replace ho7 := Lib.hid ho7; clear hb7)
              | (at_builtin; refine wpList_append_bytes _ rfl (.tmp 71) (.tmp 72) rfl rfl rfl ho7.out (hm.out _ (b.out.trans (hc7.out.mono b.out.size))) (by omega) hs7 ?_; intro A8 c8 w8 ho8 hg8 hr8; have hb8 := hc7.out.grown hg8 hs7 (fun k hk => (ho7.out.blk hk).1); clear y0 y1 y2 y3; replace k2 := Lib.hid (k2.out.to hb8); replace b := Lib.hid (b.out.trans (hb8.mono b.out.size)); obtain ⟨y0, y1, y2, y3⟩ := frag_cells k2.out; have o8 := Lib.hid ho8.rb; clear hb8 ho8 hg8 hr8 hs7)
              | (go_at_call 25; refine (hPF.out _ _ _ _ o8.out (by omega) (by omega)).mono ?_; rintro e w9 ⟨A9, n9, c9, rfl, r9, hb9⟩; clear y0 y1 y2 y3; replace k2 := Lib.hid (k2.out.to hb9); replace b := Lib.hid ((b.out.trans (hb9.mono b.out.size)).alloc (b.out.trans (hb9.mono b.out.size)).size (.cells #[.int .i64 nx, .int .i64 fo, .int .i64 id, .bool m] 36)); have h2lt := k2.out.lt; obtain ⟨y0, y1, y2, y3⟩ := frag_cells k2.out; replace r9 := Lib.hid (r9.alloc (.cells #[.int .i64 nx, .int .i64 fo, .int .i64 id, .bool m] 36)); clear hb9)
              | (go_at_call 16; refine (Equal_same _ _ _ _ _ _ _ _ r9.out (hm.out _ b.out)).mono ?_; rintro e w' ⟨rfl, rfl⟩)
              | (go_at_call 13; refine (awake06 _).mono ?_; rintro e w' ⟨rfl, hbz⟩)
              | fail)
            go_ret
            exact ⟨by first | rfl | simp, b.out.trans (hbz.mono b.out.size)⟩
      · rw [show bytesF? nx fo id m = [] from if_neg hfk, show codeF nx fo id = 1 from if_neg hfk] at hF
        replace hF := Lib.hid hF
        by_cases hck : checkV p n = 0
        · rw [if_pos hck, hck] at hB
          have hPa := fun A N c W (hr : RB W A N c (bytesV p ++ bs)) (hN : N ≤ 100000) => V6Parse_any A N c _ W hr hN
          obtain ⟨q0, q1⟩ := back_V hrl hck hV.ls hV.ld bs
          rw [q0, q1] at hPa
          unfold V6Out at hPa
          have hbl := Lib.hid (show (bytesV p).length = 40 + n by rw [bytesV_len hV.ls hV.ld, hrl])
          replace hPa := Lib.hid hPa
          replace hB := Lib.hid hB
          clear q0 q1 hck hfk hrl
          replace hV := hV2
          go_enter Try.func6, Try.ntmps6
          go_wp2_with (first
            | (refine wpList_load_V rfl (.tmp 3) rfl w.heap.size rfl P k1.out hV.out.size ?_)
            | (go_at_call 14; refine (hB.out _ b.out).mono ?_; rintro e w1 ⟨A1, n1, c1, rfl, r1, hb1⟩; have hl1 := r1.len; obtain rfl : n1 = 40 + n := hl1.symm.trans hbl.out; clear hl1; have o1 := Lib.hid r1; clear y0 y1 y2 y3 x36; replace k1 := Lib.hid (k1.out.to hb1); replace k2 := Lib.hid (k2.out.to hb1); replace b := Lib.hid (b.out.trans (hb1.mono b.out.size)); obtain ⟨y0, y1, y2, y3⟩ := frag_cells k2.out; clear hb1 r1)
            | (go_at_call 31; refine (BClone_any A1 (40 + n) c1 _ _ o1.out (by omega)).mono ?_; rintro e w2 ⟨A2, c2, rfl, ho2, hb2⟩; have hc2 := Lib.hid hb2; have hs2 := hb2.size; replace ho2 := Lib.hid ho2; clear hb2)
            | (at_builtin; refine wpList_append_bytes _ rfl (.tmp 35) (.tmp 36) rfl rfl rfl ho2.out (hm.out _ (b.out.trans (hc2.out.mono b.out.size))) (by omega) hs2 ?_; intro A3 c3 w3 ho3 hg3 hr3; have hb3 := hc2.out.grown hg3 hs2 (fun k hk => (ho2.out.blk hk).1); clear y0 y1 y2 y3; replace k1 := Lib.hid (k1.out.to hb3); replace k2 := Lib.hid (k2.out.to hb3); replace b := Lib.hid (b.out.trans (hb3.mono b.out.size)); obtain ⟨y0, y1, y2, y3⟩ := frag_cells k2.out; have o3 := Lib.hid ho3.rb; clear hb3 ho3 hg3 hr3 hs2)
            | (go_at_call 27; refine (hPa.out _ _ _ _ o3.out (by omega)).mono ?_; rintro e w4 ⟨P4, A4, n4, c4, rfl, hV4, ho4, hb4⟩; clear y0 y1 y2 y3; replace k1 := Lib.hid (k1.out.to hb4); replace k2 := Lib.hid (k2.out.to hb4); replace b := Lib.hid (b.out.trans (hb4.mono b.out.size)); replace hV4 := Lib.hid hV4; have o4 := Lib.hid ho4.rb; clear hb4 ho4)
            | (refine wpList_store_V rfl (.tmp 9) (.tmp 39) rfl w4.heap.size P4 rfl rfl _ (Blk.new w4 zeroVx 26) rfl hV4.out.size hV4.out.one ?_; have hbe : Below w4.heap.size w4 ((w4.alloc (.cells zeroVx 26)).setRow w4.heap.size P4) := below_row ((Below.refl _ w4).alloc (Nat.le_refl _) _) (Nat.le_refl _) _; have k4 : Blk ((w4.alloc (.cells zeroVx 26)).setRow w4.heap.size P4) w4.heap.size P4 26 := ⟨setRow_heap _ _ _ _ _ _ (Blk.new w4 zeroVx 26).at_⟩; generalize (w4.alloc (.cells zeroVx 26)).setRow w4.heap.size P4 = u4 at *; (replace k1 := Lib.hid (k1.out.to hbe); replace k2 := Lib.hid (k2.out.to hbe); replace b := Lib.hid (b.out.trans (hbe.mono b.out.size)); replace o4 := Lib.hid (o4.out.below hbe); obtain ⟨y0, y1, y2, y3⟩ := frag_cells k2.out); replace hbe := 0; replace k4 := Lib.hid k4)
            | (refine wpList_load_V rfl (.tmp 9) rfl w4.heap.size rfl P4 k4.out hV4.out.size ?_)
            | (go_at_call 21; refine (hSm.out _ _ _ _ _ hV4.out b.out o4.out).mono ?_; rintro e w5 ⟨rfl, hb5⟩; clear y0 y1 y2 y3; replace k1 := Lib.hid (k1.out.to hb5); replace k2 := Lib.hid (k2.out.to hb5); replace b := Lib.hid (b.out.trans (hb5.mono b.out.size)); obtain ⟨y0, y1, y2, y3⟩ := frag_cells k2.out; clear hb5)
            | (go_at_call 17; refine (hSz.out _).mono ?_; rintro e w5b ⟨rfl, hb5⟩; clear y0 y1 y2 y3; replace k1 := Lib.hid (k1.out.to hb5); replace k2 := Lib.hid (k2.out.to hb5); replace b := Lib.hid (b.out.trans (hb5.mono b.out.size)); obtain ⟨y0, y1, y2, y3⟩ := frag_cells k2.out; clear hb5)
            | (go_at_call 23; refine (hF.out _).mono ?_; rintro e w6 ⟨A6, n6, c6, rfl, r6, hb6⟩; have hl6 := r6.len; obtain rfl : n6 = 0 := hl6.symm; have o6 := Lib.hid r6; clear y0 y1 y2 y3; replace k2 := Lib.hid (k2.out.to hb6); replace b := Lib.hid (b.out.trans (hb6.mono b.out.size)); obtain ⟨y0, y1, y2, y3⟩ := frag_cells k2.out; clear hb6 r6 hl6)
            | (go_at_call 13; refine (awake06 _).mono ?_; rintro e w' ⟨rfl, hbz⟩)
            | fail)
          go_ret
          exact ⟨by first | rfl | simp, b.out.trans (hbz.mono b.out.size)⟩
        · rw [if_neg hck] at hB
          have hcc := checkV_code p n
          generalize checkV p n = e0 at *
          replace hB := Lib.hid hB
          clear hfk hrl
          replace hV := hV2
          go_enter Try.func6, Try.ntmps6
          rcases hcc with rfl | rfl | rfl
          · exact absurd rfl hck
          all_goals clear hck
          all_goals
            go_wp2_with (first
              | (refine wpList_load_V rfl (.tmp 3) rfl w.heap.size rfl P k1.out hV.out.size ?_)
              | (go_at_call 14; refine (hB.out _ b.out).mono ?_; rintro e w1 ⟨A1, n1, c1, rfl, r1, hb1⟩; skip; have o1 := Lib.hid r1; clear y0 y1 y2 y3 x36; replace k1 := Lib.hid (k1.out.to hb1); replace k2 := Lib.hid (k2.out.to hb1); replace b := Lib.hid (b.out.trans (hb1.mono b.out.size)); obtain ⟨y0, y1, y2, y3⟩ := frag_cells k2.out; clear hb1 r1)
              | (go_at_call 23; refine (hF.out _).mono ?_; rintro e w6 ⟨A6, n6, c6, rfl, r6, hb6⟩; have hl6 := r6.len; obtain rfl : n6 = 0 := hl6.symm; have o6 := Lib.hid r6; clear y0 y1 y2 y3; replace k2 := Lib.hid (k2.out.to hb6); replace b := Lib.hid (b.out.trans (hb6.mono b.out.size)); obtain ⟨y0, y1, y2, y3⟩ := frag_cells k2.out; clear hb6 r6 hl6)
              | (go_at_call 13; refine (awake06 _).mono ?_; rintro e w' ⟨rfl, hbz⟩)
              | fail)
            go_ret
            exact ⟨by first | rfl | simp, b.out.trans (hbz.mono b.out.size)⟩
end Go.Proofs.Ytbbdkfadcafpfaa
