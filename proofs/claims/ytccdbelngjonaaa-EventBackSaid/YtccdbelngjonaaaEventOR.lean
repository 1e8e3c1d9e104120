/- Events (the reference): walk of One. -/
import Derived.Test.YtccdbelngjonaaaEventO
set_option linter.unusedVariables false
namespace Go.Proofs.Ytccdbelngjonaaa
open Go.RowKit

set_option maxRecDepth 100000 in
set_option maxHeartbeats 4000000 in
theorem RefEvOne_any (A : Option Addr) (n c : Nat) (bs : List Int) (w : World) (h : RB w A n c bs) (hn : n ≤ 100000) :
    Calls Try.prog 17 #[.slice A n c] w (OneOut w bs) := by
  have hbz := Lib.hid ((Below.refl _ w).alloc (Nat.le_refl _) (.cells zeroQc 25))
  have kz := Lib.hid (Blk.new w zeroQc 25)
  have hlen := h.len
  have hone : oneB bs = (decide (8 ≤ bs.length) && decide ((getV bs 6 2).1 ≤ (bs.length : Int) - 8) && checkE (evAt bs) (getV bs 6 2).1.toNat) := rfl
  have hG1 := Lib.hid (fun W (hW : Below w.heap.size w W) => RefGet_any A n c bs 2 4 W (h.below hW) (by omega))
  have hG2 := Lib.hid (fun W (hW : Below w.heap.size w W) => RefGet_any A n c bs 6 2 W (h.below hW) (by omega))
  have hs0 : 0 ≤ (getV bs 6 2).1 := getV_nn bs 6 2 h.byt
  have hev : evAt bs = ⟨bs[0]?.getD 0, bs[1]?.getD 0, (getV bs 2 4).1, (bs.drop 8).take (getV bs 6 2).1.toNat⟩ := rfl
  obtain ⟨s, hsn⟩ := Int.eq_ofNat_of_zero_le hs0
  rw [hsn, hlen] at hone
  rw [hsn] at hG2
  rw [hsn, Int.toNat_natCast] at hev
  rw [Int.toNat_natCast] at hone
  by_cases h8 : n < 8
  · have hk := Lib.hid (show oneB bs = false by rw [hone, decide_eq_false (by omega)]; rfl)
    clear h hlen hone hsn hs0 hev
    go_enter Try.func17, Try.ntmps17
    go_wp2_with (first
      | (go_at_call_of 64 (Value.int IntKind.i64 (4 : Int)); refine (hG1.out _ hbz.out).mono ?_; rintro e w1 ⟨rfl, rfl⟩)
      | (go_at_call 64; refine (hG2.out _ hbz.out).mono ?_; rintro e w1 ⟨rfl, rfl⟩)
      | fail)
    exact bodyPost_ret (v := .tuple #[.agg zeroQc, .int .i64 0, .bool false]) (by simp [results, Try.results17, go_sem]) rfl (OneOut.bad hk.out hbz.out)
  · by_cases hsz : (n : Int) - 8 < s
    · have hk := Lib.hid (show oneB bs = false by rw [hone, decide_eq_false (p := (s : Int) ≤ n - 8) (by omega)]; simp)
      clear h hlen hone hsn hs0 hev
      go_enter Try.func17, Try.ntmps17
      go_wp2_with (first
        | (go_at_call_of 64 (Value.int IntKind.i64 (4 : Int)); refine (hG1.out _ hbz.out).mono ?_; rintro e w1 ⟨rfl, rfl⟩)
        | (go_at_call 64; refine (hG2.out _ hbz.out).mono ?_; rintro e w1 ⟨rfl, rfl⟩)
        | fail)
      exact bodyPost_ret (v := .tuple #[.agg zeroQc, .int .i64 0, .bool false]) (by simp [results, Try.results17, go_sem]) rfl (OneOut.bad hk.out hbz.out)
    · have hone2 : oneB bs = checkE (evAt bs) s := by rw [hone, decide_eq_true (by omega), decide_eq_true (by omega)]; rfl
      obtain ⟨b, off, rfl, hbl, hc⟩ := h.mem (by omega)
      have hc0 := hc 0 (by omega)
      rw [Nat.add_zero] at hc0
      have hc1 := hc 1 (by omega)
      have y0 := h.byt.get 0
      have y1 := h.byt.get 1
      have hnc := h.nc
      have hcm : c ≤ 9223372036854775807 := by have := h.cm; unfold maxLen at this; omega
      have hd8 := (h.drop_any 8 (by omega)).first_ (show s ≤ n - 8 by omega)
      obtain ⟨A1, hif1⟩ : ∃ A1, (if c = 8 then some (⟨b, off, none⟩ : Addr) else some ⟨b, off + 8, none⟩) = A1 := ⟨_, rfl⟩
      rw [hif1] at hd8
      have hD := Lib.hid (fun W (hW : Below w.heap.size w W) => hd8.below hW)
      have hdl := hd8.len
      have hws : IntKind.i64.wrap (8 + (s : Int)) = 8 + (s : Int) := by rw [IntKind.wrap_i64]; omega
      have hwn : IntKind.i64.wrap ((n : Int) - 8) = (n : Int) - 8 := by rw [IntKind.wrap_i64]; omega
      have q1 : (8 : Int) + s ≤ c := by omega
      have q4 : (0 : Int) ≤ 8 + s := by omega
      have q5 : ((8 : Int) + s).toNat = 8 + s := by omega
      have q6 : (8 : Int) ≤ 8 + s := by omega
      have q3 : 8 + s - 8 = s := by omega
      have q7 : 8 + s ≤ c := by omega
      have hszz := hsn
      replace hsn := 0
      have hsn : ¬ (n : Int) - 8 < s := hsz
      clear hs0
      have hi0 : (0 : Int) < n := by omega
      have hi1 : (1 : Int) < n := by omega
      have hi0n : 0 < n := by omega
      have hi1n : 1 < n := by omega
      obtain ⟨d, hdd⟩ : ∃ d, (bs.drop 8).take s = d := ⟨_, rfl⟩
      rw [hdd] at hev hd8
      have hD := Lib.hid (fun W (hW : Below w.heap.size w W) => hd8.below hW)
      generalize bs[0]?.getD 0 = x at *
      generalize bs[1]?.getD 0 = y at *
      generalize (getV bs 2 4).1 = z at *
      replace hszz := Lib.hid hszz
      replace hone := 0
      replace hdd := 0
      have hone3 := Lib.hid hone2
      replace hone2 := 0
      have hev2 := Lib.hid hev
      replace hev := 0
      have hwx : IntKind.i64.wrap x = x := by rw [IntKind.wrap_i64]; omega
      have hwy : IntKind.i64.wrap y = y := by rw [IntKind.wrap_i64]; omega
      have hck := Lib.hid (fun A c W => RefEvCheck_any (⟨x, y, z, d⟩ : QP) A s c W (by omega))
      replace h := 0
      replace hd8 := 0
      clear hc hlen
      go_enter Try.func17, Try.ntmps17
      go_wp2_with (first
        | (go_at_call_of 64 (Value.int IntKind.i64 (4 : Int)); refine (hG1.out _ hbz.out).mono ?_; rintro e w1 ⟨rfl, rfl⟩)
        | (go_at_call 64; refine (hG2.out _ hbz.out).mono ?_; rintro e w1 ⟨rfl, rfl⟩)
        | fail)
      have hT8 := Lib.hid (show 5 ≠ 25 from by decide)
      have hMk := Lib.hid (show MkH w (w.heap.size + 1) 25 (fun W => Blk W w.heap.size zeroQc 25) (fun cs W => ∃ A c, cs = cellsQ ⟨x, y, z, d⟩ A s c ∧ OB W (w.heap.size + 1) A s c d) from
        ⟨fun W W' h1 hb => h1.upto hb (Nat.lt_succ_self _), fun cs u W W' ⟨A, c, e1, e2⟩ hs => ⟨A, c, e1, e2.stay hs hT8.out⟩, Nat.le_succ _⟩)
      have hC0 := Lib.hid (show ∀ W, (Below w.heap.size w W ∧ (fun W => Blk W w.heap.size zeroQc 25) W) → (W.cell? ⟨b, off, none⟩ = some (.int .u8 x) ∧ W.cell? ⟨b, off + 1, none⟩ = some (.int .u8 y)) from fun W hS =>
        ⟨(hS.1.cell (p := ⟨b, off, none⟩) hbl).trans hc0, (hS.1.cell (p := ⟨b, off + 1, none⟩) hbl).trans hc1⟩)
      refine wp_region_lst (JM w (w.heap.size + 1) 15 16 9 25 4 (fun W => Blk W w.heap.size zeroQc 25) (fun cs W => ∃ A c, cs = cellsQ ⟨x, y, z, d⟩ A s c ∧ OB W (w.heap.size + 1) A s c d)) (StayT 25) (by kernel_rfl) (by kernel_rfl) (by kernel_rfl) (StayT.refl _)
        ⟨hbz.out.drew, by simp, kz.out.drew, fun _ => ⟨rfl, rfl⟩, fun h => by cases h⟩ ?_
      repeat (first
        | (refine mk_append (d := 43) s d (by rfl) (by rfl) rfl (by rfl) (by decide) (by decide) (by decide) hMk.out hT8.out (.tmp 42) rfl rfl (fun W hS => hD.out _ hS.1) (by omega) ?_)
        | (refine mk_from (d := 44) (e := 43) (OwnR (w.heap.size + 1) s d) (fun u W => ∃ F, u = .agg F ∧ F.size = 4 ∧ F.all (·.oneCell') = true ∧ (fun cs W => ∃ A c, cs = cellsQ ⟨x, y, z, d⟩ A s c ∧ OB W (w.heap.size + 1) A s c d) F W) (by rfl) (by rfl) (by rfl) (show (43 : Nat) < 52 from by decide) (by rfl) rfl (by rfl) (by decide) (by decide) (by decide) hMk.out ?_ (by decide) (fun u W hu => ?_) ?_; exact fun u W W' ⟨F, e1, e2, e3, A, c, e4, e5⟩ hs => ⟨F, e1, e2, e3, A, c, e4, e5.stay hs hT8.out⟩; (obtain ⟨A9, c9, rfl, ho9⟩ := hu; refine ⟨.agg (cellsQ ⟨x, y, z, d⟩ A9 s c9), ?_, _, rfl, rfl, one_Q ⟨x, y, z, d⟩ A9 s c9, A9, c9, rfl, ho9⟩; go_simp; try with_reducible rfl))
        | (refine mk_alloc (by rfl) rfl (by rfl) zeroQc rfl (show (9 : Nat) < 52 from by decide) rfl (by decide) hMk.out (fun a W => ?_) ?_; (unfold execOp; simp [go_sem]))
        | (refine mk_store (e := 44) (by rfl) (by rfl) rfl (by decide) rfl hMk.out rfl (by rfl) (by rfl) info_event ?_)
        | (refine mk_val (v := ?_) (by rfl) (by rfl) (by rfl) (by rfl) (by rfl) (by decide) (by decide) (by decide) hMk.out (fun W hS => ?_) ?_; rotate_left; (· (obtain ⟨g0, g1⟩ := hC0.out W hS; clear hS; go_simp; try with_reducible rfl)); simp only [putV, List.setIfInBounds_toArray, List.set_cons_zero, List.set_cons_succ]))
      refine lstL_nil fun L a W7 hL hS hsz hds hR => ?_
      obtain ⟨hB7, _, kz7, _, hmade⟩ := hS
      obtain ⟨g, cs, hg9, hgH, hgb, hgs, hok⟩ := hmade (hL 15 (by decide))
      obtain ⟨A9, c9, rfl, ho9⟩ := hok (hL 16 (by decide))
      have hT := tmps_eql (T := a.tmps) [9, 43, 44] (by rw [hsz]; rfl) (by rw [hsz]; rfl) hR
      rw [List.foldl_cons, List.foldl_cons, List.foldl_cons, List.foldl_nil, hg9] at hT
      generalize a.tmps.getD 43 undef = u1 at hT
      generalize a.tmps.getD 44 undef = u2 at hT
      simp only [List.setIfInBounds_toArray, List.set_cons_zero, List.set_cons_succ] at hT
      clear hR hsz hmade hL hg9
      obtain ⟨T, D⟩ := a
      have hD' : D = [] := hds
      subst hD'
      dsimp only at hT
      subst hT
      clear hds
      have hgl := hgb.lt
      have hzl := kz7.lt
      replace hgb := Lib.hid hgb
      replace kz7 := Lib.hid kz7
      replace hB7 := Lib.hid hB7
      replace ho9 := Lib.hid ho9
      replace hC0 := 0
      replace hMk := 0
      cases hck1 : checkE ⟨x, y, z, d⟩ s
      · rw [hck1] at hck
        have hk := Lib.hid (show oneB bs = false by rw [hone3.out, hev2.out, hck1])
        go_wp2_with (first
          | (refine wpList_load_E rfl (.tmp 9) rfl g rfl (cellsQ ⟨x, y, z, d⟩ A9 s c9) hgb.out rfl ?_)
          | (go_at_call 25; refine (hck.out _ _ _).mono ?_; rintro e w8 ⟨rfl, hB8⟩; have hb8 := Lib.hid (hB7.out.trans (hB8.mono hB7.out.size)); have kz8 := Lib.hid (kz7.out.to hB8); replace hB8 := 0)
          | (refine wpList_store_E rfl (.tmp 2) (.tmp 48) rfl w.heap.size zeroQc rfl rfl _ kz8.out rfl rfl (one_Q zeroQ none 0 0) ?_)
          | fail)
        obtain ⟨r0, r1, r2, r3⟩ := qcells (q := zeroQ) (A := none) (n := 0) (c := 0) (Blk.mk (setRow_heap w8 w.heap.size zeroQc zeroQc 25 _ kz8.out.at_))
        exact bodyPost_ret (v := .tuple #[.agg zeroQc, .int .i64 0, .bool false]) (by simp [results, Try.results17, go_sem, r0, r1, r2, r3, zeroQ]) rfl (OneOut.bad hk.out (below_row hb8.out (Nat.le_refl _) _))
      · rw [hck1] at hck
        have hk := Lib.hid (show oneB bs = true by rw [hone3.out, hev2.out, hck1])
        go_wp2_with (first
          | (refine wpList_load_E rfl (.tmp 9) rfl g rfl (cellsQ ⟨x, y, z, d⟩ A9 s c9) gb8.out rfl ?_)
          | (refine wpList_load_E rfl (.tmp 9) rfl g rfl (cellsQ ⟨x, y, z, d⟩ A9 s c9) hgb.out rfl ?_)
          | (go_at_call 25; refine (hck.out _ _ _).mono ?_; rintro e w8 ⟨rfl, hB8⟩; have hb8 := Lib.hid (hB7.out.trans (hB8.mono hB7.out.size)); have kz8 := Lib.hid (kz7.out.to hB8); have gb8 := Lib.hid (hgb.out.to hB8); have ho8 := Lib.hid (ho9.out.below hB8); replace hB8 := 0)
          | (refine wpList_store_E rfl (.tmp 2) (.tmp 49) rfl w.heap.size (cellsQ ⟨x, y, z, d⟩ A9 s c9) rfl rfl _ kz8.out rfl rfl (one_Q _ _ _ _) ?_)
          | fail)
        obtain ⟨r0, r1, r2, r3⟩ := qcells (q := ⟨x, y, z, d⟩) (A := A9) (n := s) (c := c9) (Blk.mk (setRow_heap w8 w.heap.size zeroQc (cellsQ ⟨x, y, z, d⟩ A9 s c9) 25 _ kz8.out.at_))
        refine bodyPost_ret (v := .tuple #[.agg (cellsQ ⟨x, y, z, d⟩ A9 s c9), .int .i64 (8 + (s : Int)), .bool true]) (by simp [results, Try.results17, go_sem, r0, r1, r2, r3]) rfl ?_
        unfold OneOut oneQ oneN
        rw [hk.out, if_pos rfl, if_pos rfl, hev2.out]
        refine ⟨A9, s, c9, by first | rfl | (rw [hszz.out]), (ho8.out.stay (StayT.row kz8.out _) hT8.out).mono (Nat.le_succ _), below_row hb8.out (Nat.le_refl _) _⟩
end Go.Proofs.Ytccdbelngjonaaa
