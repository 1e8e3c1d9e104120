/- What bytes ask, and tell (the reference of pcp): read joined; walks of Parse, Read. -/
import Derived.Test.YtldjecilmcnpiaaPcpN
import Derived.Test.YtldjecilmcnpiaaPcpO
set_option linter.unusedVariables false
namespace Go.Proofs.Ytldjecilmcnpiaa
open Go Go.RowKit

theorem RRead_any (A : Option Addr) (n c : Nat) (bs : List Int) (kind : Int) (w : World) (h : RB w A n c bs) (hn : n ≤ 100000) :
    Calls Try.prog 74 #[.slice A n c, .int .u8 kind] w (AskOut w (readA kind bs) (codeP kind bs)) := by
  by_cases h1 : n < 60
  · exact RRead_short A n c bs kind w h h1
  · by_cases h2 : 60 < n
    · exact RRead_long A n c bs kind w h h2 hn
    · obtain rfl : n = 60 := by omega
      exact RRead_go A c bs kind w h
set_option maxRecDepth 100000 in
set_option maxHeartbeats 1000000 in
theorem RParse_any (A : Option Addr) (n c : Nat) (bs : List Int) (w : World) (h : RB w A n c bs) (hn : n ≤ 100000) :
    Calls Try.prog 29 #[.slice A n c] w (AskOut w (readA 1 bs) (codeP 1 bs)) := by
  have hz := Lib.hid (Blk.new w zAc 54)
  have hb := Lib.hid ((Below.refl _ w).alloc (Nat.le_refl _) (.cells zAc 54))
  have hR := Lib.hid (RRead_any A n c bs 1 _ (h.below hb.out) hn)
  have hok := Lib.hid (rowA_size (readA_ok (kind := 1) h.byt))
  clear h
  unfold AskOut at hR
  generalize readA 1 bs = a at *
  generalize codeP 1 bs = k at *
  go_enter Try.func29, Try.ntmps29
  go_wp2_with (first
    | (go_at_call 74; refine (hR.out).mono ?_; rintro e w1 ⟨rfl, hB1⟩; have hz1 := Lib.hid (hz.out.to hB1); have hb1 := Lib.hid (hb.out.trans (hB1.mono hb.out.size)); clear hB1)
    | (refine wpList_store_RK rfl (.tmp 2) (.tmp 6) rfl w.heap.size (rowA a).toArray rfl rfl zAc hz1.out rfl hok.out rowA_one ?_)
    | fail)
  exact bodyPost_ret (results_ct Try.results29 rfl (run_load_RK ⟨setRow_heap _ _ _ _ _ _ hz1.out.at_⟩ hok.out)) rfl ⟨rfl, below_row hb1.out (Nat.le_refl _) _⟩
set_option maxRecDepth 100000 in
set_option maxHeartbeats 2000000 in
theorem RTold_any (A : Option Addr) (n c : Nat) (bs : List Int) (w : World) (h : RB w A n c bs) (hn : n ≤ 100000) :
    Calls Try.prog 31 #[.slice A n c] w (ToldOut w (readT bs) (codeP 129 bs)) := by
  have hz := Lib.hid (Blk.new w zTc 62)
  have hb := Lib.hid ((Below.refl _ w).alloc (Nat.le_refl _) (.cells zTc 62))
  have hR := Lib.hid (RRead_any A n c bs 129 _ (h.below hb.out) hn)
  have hak := readA_ok (kind := 129) h.byt
  have hok := Lib.hid (rowA_size hak)
  have hrt := Lib.hid (show readT bs = if codeP 129 bs = 0 then ⟨bs[3]?.getD 0, (getV bs 8 4).1, { readA 129 bs with cl := z16 }⟩ else zeroT from rfl)
  have hl60 : codeP 129 bs = 0 → n = 60 := fun hc => by
    have hl := h.len
    unfold codeP at hc
    by_cases h1 : bs.length < 60
    · rw [if_pos h1] at hc; simp at hc
    · rw [if_neg h1] at hc
      by_cases h2 : 60 < bs.length
      · rw [if_pos h2] at hc; simp at hc
      · omega
  have hG := Lib.hid (fun W (hW : Below w.heap.size w W) => RNum43_any A n c bs 8 4 W (h.below hW) hn)
  have hh := Lib.hid h
  have hL := Lib.hid hak.ln
  have hC := Lib.hid hak.lc
  unfold AskOut at hR
  generalize hk : codeP 129 bs = k at *
  generalize readA 129 bs = a at *
  clear h hak hk
  by_cases h0 : k = 0
  · subst h0
    obtain rfl := hl60 rfl
    have hrt2 := hrt.out
    rw [if_pos rfl] at hrt2
    rw [hrt2]
    replace hrt := 0
    clear hrt2
    obtain ⟨b, off, rfl, hbl, hc⟩ := hh.out.mem (by omega)
    have hc3 := Lib.hid (fun W (hW : Below w.heap.size w W) => (hW.cell (p := ⟨b, off + 3, none⟩) hbl).trans (hc 3 (by omega)))
    have hnc := hh.out.nc
    have hcm := Lib.hid hh.out.cm
    clear hc hl60
    generalize (getV bs 8 4).1 = ep at *
    have y3 := hh.out.byt.get 3
    have hwx : IntKind.i64.wrap (bs[3]?.getD 0) = bs[3]?.getD 0 := by rw [IntKind.wrap_i64]; omega
    have hwx := Lib.hid hwx
    clear y3
    generalize bs[3]?.getD 0 = x3 at *
    obtain ⟨life, cl, no, pr, port, outer, addr⟩ := a
    dsimp only at hL hC
    go_enter Try.func31, Try.ntmps31
    go_upto_region 2 with (first
      | (go_at_call 74; refine (hR.out).mono ?_; rintro e w1 ⟨rfl, hB1⟩; have hz1 := Lib.hid (hz.out.to hB1); have hb1 := Lib.hid (hb.out.trans (hB1.mono hb.out.size)); clear hB1)
      | (refine wpList_store_RK rfl (.tmp 4) (.tmp 9) rfl w1.heap.size (rowA ⟨life, cl, no, pr, port, outer, addr⟩).toArray rfl rfl zAc (Blk.new w1 zAc 54) rfl hok.out rowA_one ?_)
      | fail)
    obtain ⟨w2, hw2⟩ : ∃ w2, (w1.alloc (.cells zAc 54)).setRow w1.heap.size (rowA ⟨life, cl, no, pr, port, outer, addr⟩).toArray = w2 := ⟨_, rfl⟩
    have k4 := Lib.hid (show Blk w2 w1.heap.size (rowA ⟨life, cl, no, pr, port, outer, addr⟩).toArray 54 by rw [← hw2]; exact ⟨setRow_heap _ _ _ _ _ _ (Blk.new w1 zAc 54).at_⟩)
    have hb4 := Lib.hid (show Below w1.heap.size w1 w2 by rw [← hw2]; exact below_row ((Below.refl _ w1).alloc (Nat.le_refl _) _) (Nat.le_refl _) _)
    rw [hw2]
    clear hw2
    have hth := Lib.hid (k4.out.there 1 16 (by rw [hok.out]; decide))
    go_upto_region 5 with (first
      | (refine wpList_store_mid rfl 44 (.tmp 16) (.tmp 15) rfl w1.heap.size 1 z6c rfl rfl hth.out info_six (u8s_all z16) ?_)
      | fail)
    obtain ⟨w3, hw3⟩ : ∃ w3, w2.setCells w1.heap.size 1 (u8s z16) = w3 := ⟨_, rfl⟩
    have k5 := setCells_blk (u8s z16) 1 _ w2 k4.out (by rw [rowA_lenG hC.out hL.out]; decide)
    rw [rowA_setcl hC.out rfl, hw3] at k5
    have hb5 := below_setCells (Nat.le_refl w1.heap.size) (u8s z16) 1 w2 hb4.out
    rw [hw3] at hb5
    have hlt1 := Lib.hid (show w.heap.size < w1.heap.size from hz1.out.lt)
    have hz3 := Lib.hid (hz1.out.to hb5)
    have hb6 := Lib.hid (hb1.out.trans (hb5.mono hb1.out.size))
    replace k5 := Lib.hid k5
    have hi := Lib.hid (show (Try.prog.info? 54).map (·.size) = some (rowA ⟨life, z16, no, pr, port, outer, addr⟩).length by rw [rowA_lenG rfl hL.out]; exact info_ask43)
    have hbt := Lib.hid (built_rtold x3 ep life pr port outer addr z16 no rfl hL.out)
    have hrs := Lib.hid (show (rowT ⟨x3, ep, ⟨life, z16, no, pr, port, outer, addr⟩⟩).toArray.size = 35 by simp [rowT, rowA_lenG (a := ⟨life, z16, no, pr, port, outer, addr⟩) rfl hL.out])
    change Code.wp _ _ _ _ (World.setCells w2 w1.heap.size 1 (u8s z16))
    rw [hw3]
    clear hb5 hw3
    replace k4 := 0
    replace hb4 := 0
    replace hth := 0
    simp only [Act.put]
    have hC0 := Lib.hid (show w3.drew.cell? ⟨b, off + 3, none⟩ = some (.int .u8 x3) ∧ w3.drew.rangeAt w1.heap.size 0 (rowA ⟨life, z16, no, pr, port, outer, addr⟩) from ⟨hc3.out _ hb6.out.drew, fun j v hj => by rw [Nat.zero_add]; exact k5.out.drew.cell j v (by rw [List.getElem?_toArray]; exact hj)⟩)
    refine wp_region_held_drew (S := fun W => W.cell? ⟨b, off + 3, none⟩ = some (.int .u8 x3) ∧ W.rangeAt w1.heap.size 0 (rowA ⟨life, z16, no, pr, port, outer, addr⟩)) (by kernel_rfl) hC0.out (fun hHeld => ?_)
    have i3 : (3 : Int) < 60 := by omega
    refine take_h (i := 0) (v := ?_) rfl rfl (by kernel_rfl) (by kernel_rfl) (by kernel_rfl) (fun _ _ _ h => h) (Or.inl ⟨by rfl, fun W hSw => ?_⟩) (by assumption) ?_
    rotate_left
    · (clear hSw; go_simp; try with_reducible rfl)
    simp only [Act.put, List.setIfInBounds_toArray, List.set_cons_zero, List.set_cons_succ]
    refine take_h (i := 1) (v := ?_) rfl rfl (by kernel_rfl) (by kernel_rfl) (by kernel_rfl) (fun _ _ _ h => h) (Or.inl ⟨by rfl, fun W hSw => ?_⟩) (by assumption) ?_
    rotate_left
    · (clear hSw; go_simp; try with_reducible rfl)
    simp only [Act.put, List.setIfInBounds_toArray, List.set_cons_zero, List.set_cons_succ]
    refine take_h (i := 2) (v := ?_) rfl rfl (by kernel_rfl) (by kernel_rfl) (by kernel_rfl) (fun _ _ _ h => h) (Or.inl ⟨by rfl, fun W hSw => ?_⟩) (by assumption) ?_
    rotate_left
    · (obtain ⟨hs0, _⟩ := hSw; go_simp; try with_reducible rfl)
    simp only [Act.put, List.setIfInBounds_toArray, List.set_cons_zero, List.set_cons_succ]
    have hwx := hwx.out
    refine take_h (i := 3) (v := ?_) rfl rfl (by kernel_rfl) (by kernel_rfl) (by kernel_rfl) (fun _ _ _ h => h) (Or.inl ⟨by rfl, fun W hSw => ?_⟩) (by assumption) ?_
    rotate_left
    · (clear hSw; go_simp; try with_reducible rfl)
    simp only [Act.put, List.setIfInBounds_toArray, List.set_cons_zero, List.set_cons_succ]
    refine take_h (i := 4) (v := ?_) rfl rfl (by kernel_rfl) (by kernel_rfl) (by kernel_rfl) (fun _ _ _ h => h) (Or.inl ⟨by rfl, fun W hSw => ?_⟩) (by assumption) ?_
    rotate_left
    · (clear hSw; go_simp; try with_reducible rfl)
    simp only [Act.put, List.setIfInBounds_toArray, List.set_cons_zero, List.set_cons_succ]
    refine take_h (i := 6) rfl rfl (by kernel_rfl) (by kernel_rfl) (by kernel_rfl) (fun _ _ _ h => h) (yieldsIf_load_mid (by rfl) 54 (.tmp 4) rfl _ _ rfl (rowA ⟨life, z16, no, pr, port, outer, addr⟩) _ (fun W hW => hW.2) Try.underlying54 rfl hi.out) (by assumption) ?_
    simp only [Act.put, List.setIfInBounds_toArray, List.set_cons_zero, List.set_cons_succ]
    refine step_h (i := 5) rfl rfl (by kernel_rfl) (fun K hK => ?_)
    go_simp
    refine Calls.mono (hG.out _ hb6.out.drew) ?_
    rintro e w' ⟨rfl, rfl⟩
    go_wp2_with fail
    clear hHeld
    refine hK.out _ _ hC0.out (fun hHeld => ?_)
    clear hK K
    refine take_h (i := 7) rfl rfl (by kernel_rfl) (by kernel_rfl) (by kernel_rfl) (fun _ _ _ h => h) (yields_built (by rfl) 62 _ rfl ([(0, .int .i64 x3), (1, .int .i64 ep), (2, .agg (rowA ⟨life, z16, no, pr, port, outer, addr⟩).toArray)]) rfl _ (hbt.out)) (by assumption) ?_
    simp only [Act.put, List.setIfInBounds_toArray, List.set_cons_zero, List.set_cons_succ]
    refine step_h (i := 8) rfl rfl (by kernel_rfl) (fun K hK => ?_)
    rw [if_pos (by rfl)]
    refine wp_store_row 62 (.tmp 2) (.tmp 24) rfl w.heap.size (rowT ⟨x3, ep, ⟨life, z16, no, pr, port, outer, addr⟩⟩).toArray rfl rfl 62 zTc hz3.out.drew.at_ (by rw [hrs.out]; exact info_told43) (by rw [hrs.out]; rfl) rowT_one ?_
    have hS7 : (w3.drew.setRow w.heap.size (rowT ⟨x3, ep, ⟨life, z16, no, pr, port, outer, addr⟩⟩).toArray).cell? ⟨b, off + 3, none⟩ = some (.int .u8 x3) ∧ (w3.drew.setRow w.heap.size (rowT ⟨x3, ep, ⟨life, z16, no, pr, port, outer, addr⟩⟩).toArray).rangeAt w1.heap.size 0 (rowA ⟨life, z16, no, pr, port, outer, addr⟩) := by
      have hbr := below_row (Below.refl w.heap.size w3.drew) (Nat.le_refl _) (rowT ⟨x3, ep, ⟨life, z16, no, pr, port, outer, addr⟩⟩).toArray
      refine ⟨(hbr.cell (p := ⟨b, off + 3, none⟩) hbl).trans hC0.out.1, fun j v hj => ?_⟩
      rw [cell_setRow_other _ _ _ _ (by show w1.heap.size ≠ w.heap.size; have := hlt1.out; omega)]
      exact hC0.out.2 j v hj
    replace hS7 := Lib.hid hS7
    clear hHeld
    refine hK.out _ _ hS7.out (fun hHeld => ?_)
    clear hK K
    simp only [Act.put]
    refine take_h (i := 9) (v := ?_) rfl rfl (by kernel_rfl) (by kernel_rfl) (by kernel_rfl) (fun _ _ _ h => h) (Or.inl ⟨by rfl, fun W hSw => ?_⟩) (by assumption) ?_
    rotate_left
    · (clear hSw; go_simp; try with_reducible rfl)
    simp only [Act.put, List.setIfInBounds_toArray, List.set_cons_zero, List.set_cons_succ]
    refine wpAnyH_done (by kernel_rfl) ?_ _
    clear hHeld
    go_wp2
    exact bodyPost_ret (results_ct Try.results31 rfl (run_load_RT ⟨setRow_heap _ _ _ _ _ _ hz3.out.drew.at_⟩ hrs.out)) rfl ⟨rfl, below_row hb6.out.drew (Nat.le_refl _) _⟩
  · have hne : (k != 0) = true := by simpa using h0
    rw [hrt.out, if_neg h0]
    replace hrt := 0
    replace hh := 0
    clear hl60 h0
    go_enter Try.func31, Try.ntmps31
    go_upto_region 2 with (first
      | (go_at_call 74; refine (hR.out).mono ?_; rintro e w1 ⟨rfl, hB1⟩; have hz1 := Lib.hid (hz.out.to hB1); have hb1 := Lib.hid (hb.out.trans (hB1.mono hb.out.size)); clear hB1)
      | (refine wpList_store_RK rfl (.tmp 4) (.tmp 9) rfl w1.heap.size (rowA a).toArray rfl rfl zAc (Blk.new w1 zAc 54) rfl hok.out rowA_one ?_)
      | fail)
    obtain ⟨w2, hw2⟩ : ∃ w2, (w1.alloc (.cells zAc 54)).setRow w1.heap.size (rowA a).toArray = w2 := ⟨_, rfl⟩
    have hb4 : Below w1.heap.size w1 w2 := by rw [← hw2]; exact below_row ((Below.refl _ w1).alloc (Nat.le_refl _) _) (Nat.le_refl _) _
    rw [hw2]
    clear hw2
    have hz2 := Lib.hid (hz1.out.to hb4)
    have hb5 := Lib.hid (hb1.out.trans (hb4.mono hb1.out.size))
    clear hb4
    go_wp2_with (first
      | (refine wpList_store_RT rfl (.tmp 2) (.tmp 13) rfl w.heap.size zTc rfl rfl zTc hz2.out rfl rfl zT_one ?_)
      | fail)
    exact bodyPost_ret (results_ct Try.results31 rfl (run_load_RT ⟨setRow_heap _ _ _ zTc _ _ hz2.out.at_⟩ rfl)) rfl ⟨rfl, below_row hb5.out (Nat.le_refl _) _⟩
end Go.Proofs.Ytldjecilmcnpiaa
