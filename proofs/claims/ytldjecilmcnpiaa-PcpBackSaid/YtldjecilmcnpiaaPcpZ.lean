/- The law PcpBack, where an answer is built: its walk. -/
import Derived.Test.YtldjecilmcnpiaaPcpY
set_option linter.unusedVariables false
namespace Go.Proofs.Ytldjecilmcnpiaa
open Go Go.RowKit

set_option maxRecDepth 100000 in
set_option maxHeartbeats 4000000 in
theorem PcpBack_full (t : ToldP) (w : World) (h : AskOk t.ask) (hm : mayB t.ask = true) (hm2 : mayT t = true) :
    Calls Try.prog 9 #[.agg (rowT t).toArray] w fun e w' => e = .returned (.bool true) ∧ Below w.heap.size w w' := by
  have hk := Lib.hid (Blk.new w (rowT t).toArray 58)
  have hb := Lib.hid ((Below.refl _ w).alloc (Nat.le_refl _) (.cells (rowT t).toArray 58))
  have hsT := Lib.hid (rowT_size h)
  have hsA := Lib.hid (rowA_size h)
  have hmid := Lib.hid (fun W (k : Blk W w.heap.size (rowT t).toArray 58) => rowT_mid k)
  have hi := Lib.hid (show (Try.prog.info? 51).map (·.size) = some (rowA t.ask).length by rw [rowA_len h]; exact info_ask)
  have hnA := Lib.hid (rowA_nums t.ask)
  have hleA := Lib.hid (show Try.prog.cellsOf 51 ≤ (rowA t.ask).toArray.size from Nat.le_of_eq (eqt_ask.2.2.2.trans hsA.out.symm))
  have hB := Lib.hid (fun W => BuildYes t.ask h hm W)
  have hP := Lib.hid (fun W A c hr => ParseYes t.ask h hm W A c hr)
  have hR := Lib.hid (fun W A c hr => ReadNo t.ask h hm W A c hr)
  have hAn := Lib.hid (fun W => AnswerYes t h W hm2)
  have hRy := Lib.hid (fun W A c hr => ReadYes t h W hm2 A c hr)
  have hPn := Lib.hid (fun W A c hr => ParseNo t h W hm2 A c hr)
  have hset := Lib.hid (rowT_setcl (t := t) (s' := z16) h.lc rfl)
  have hlT := Lib.hid (show 3 + (u8s z16).length ≤ (rowT t).length by rw [u8s_length, show (rowT t).length = 35 from rowT_size h]; decide)
  have hthr := Lib.hid (fun W (k : Blk W w.heap.size (rowT t).toArray 58) => k.there 3 16 (by rw [rowT_size h]; decide))
  have hok' : AskOk { t.ask with cl := z16 } := ⟨rfl, h.ln, z16_byts, h.bn⟩
  have hsT' := Lib.hid (rowT_size (t := { t with ask := { t.ask with cl := z16 } }) hok')
  clear h hm hm2 hok'
  generalize ({ t with ask := { t.ask with cl := z16 } } : ToldP) = t' at *
  have hnT := Lib.hid (rowT_nums t')
  have hleT := Lib.hid (show Try.prog.cellsOf 58 ≤ (rowT t').toArray.size from Nat.le_of_eq (eqt_told.2.2.2.trans hsT'.out.symm))
  go_enter Try.func9, Try.ntmps9
  go_upto_region 4 with (first
    | (refine wpList_load_mid rfl 51 (.tmp 16) rfl w.heap.size 2 rfl (rowA t.ask) _ (hmid.out _ hk.out) Try.underlying51 rfl hi.out ?_)
    | (go_at_call 34; refine (hB.out _).mono ?_; rintro e w1 ⟨A1, c1, rfl, hr1, hB1⟩; have k1 := Lib.hid (hk.out.to hB1); have hb1 := Lib.hid (hb.out.trans (hB1.mono hb.out.size)); replace hr1 := Lib.hid hr1; clear hB1)
    | (go_at_call 28; refine (hP.out _ _ _ hr1.out).mono ?_; rintro e w2 ⟨rfl, hB2⟩; have k2 := Lib.hid (k1.out.to hB2); have hr2 := Lib.hid (hr1.out.below hB2); have hb2 := Lib.hid (hb1.out.trans (hB2.mono hb1.out.size)); clear hB2)
    | (refine wpList_store_K rfl (.tmp 5) (.tmp 26) rfl w2.heap.size (rowA t.ask).toArray rfl rfl zAc (Blk.new w2 zAc 51) rfl hsA.out rowA_one ?_)
    | fail)
  obtain ⟨w3, hw3⟩ : ∃ w3, (w2.alloc (.cells zAc 51)).setRow w2.heap.size (rowA t.ask).toArray = w3 := ⟨_, rfl⟩
  have kq3 := Lib.hid (show Blk w3 w2.heap.size (rowA t.ask).toArray 51 by rw [← hw3]; exact ⟨setRow_heap _ _ _ _ _ _ (Blk.new w2 zAc 51).at_⟩)
  have hb23 : Below w2.heap.size w2 w3 := by rw [← hw3]; exact below_row ((Below.refl _ w2).alloc (Nat.le_refl _) _) (Nat.le_refl _) _
  have k3 := Lib.hid (k2.out.to hb23)
  have hr3 := Lib.hid (hr2.out.below hb23)
  have hb3 := Lib.hid (hb2.out.trans (hb23.mono hb2.out.size))
  rw [hw3]
  clear hw3 hb23
  replace hP := 0
  replace hB := 0
  go_upto_region 5 with (first
    | (go_at_call 30; refine (hR.out _ _ _ hr3.out).mono ?_; rintro e w4 ⟨rfl, hB4⟩; have k4 := Lib.hid (k3.out.to hB4); have kq4 := Lib.hid (kq3.out.to hB4); have hb4 := Lib.hid (hb3.out.trans (hB4.mono hb3.out.size)); clear hB4)
    | (refine wpList_store_T rfl (.tmp 7) (.tmp 31) rfl w4.heap.size zTc rfl rfl zTc (Blk.new w4 zTc 58) rfl rfl zT_one ?_)
    | fail)
  obtain ⟨w5, hw5⟩ : ∃ w5, (w4.alloc (.cells zTc 58)).setRow w4.heap.size zTc = w5 := ⟨_, rfl⟩
  have hb45 : Below w4.heap.size w4 w5 := by rw [← hw5]; exact below_row ((Below.refl _ w4).alloc (Nat.le_refl _) _) (Nat.le_refl _) _
  have k5 := Lib.hid (k4.out.to hb45)
  have kq5 := Lib.hid (kq4.out.to hb45)
  have hb5 := Lib.hid (hb4.out.trans (hb45.mono hb4.out.size))
  rw [hw5]
  clear hw5 hb45
  replace hR := 0
  go_upto_region 7 with (first
    | (refine wpList_load_K (by rfl) (.tmp 5) rfl w2.heap.size rfl (rowA t.ask).toArray kq5.out hsA.out ?_)
    | (refine BigFrame.wpList_want (by rfl) fun _ hK => wp_load_mid 51 (.tmp 37) rfl w.heap.size 2 rfl (rowA t.ask) _ (hmid.out _ k5.out) Try.underlying51 rfl hi.out (hK _ _ ?_))
    | (refine wpList_neq_same (by rfl) 51 (.tmp 36) (.tmp 38) rfl (rowA t.ask).toArray rfl rfl eqt_ask.1 eqt_ask.2.1 eqt_ask.2.2.1 hleA.out hnA.out ?_)
    | fail)
  go_upto_region 11 with (first
    | (refine wpList_load_T rfl (.tmp 1) rfl w.heap.size rfl (rowT t).toArray k5.out hsT.out ?_)
    | (go_at_call 36; refine (hAn.out _).mono ?_; rintro e w6 ⟨A6, c6, rfl, hr6, hB6⟩; have k6 := Lib.hid (k5.out.to hB6); have hb6 := Lib.hid (hb5.out.trans (hB6.mono hb5.out.size)); replace hr6 := Lib.hid hr6; clear hB6)
    | (go_at_call 30; refine (hRy.out _ _ _ hr6.out).mono ?_; rintro e w7 ⟨rfl, hB7⟩; have k7 := Lib.hid (k6.out.to hB7); have hr7 := Lib.hid (hr6.out.below hB7); have hb7 := Lib.hid (hb6.out.trans (hB7.mono hb6.out.size)); clear hB7)
    | (refine wpList_store_T rfl (.tmp 11) (.tmp 61) rfl w7.heap.size (rowT t').toArray rfl rfl zTc (Blk.new w7 zTc 58) rfl hsT'.out rowT_one ?_)
    | fail)
  obtain ⟨w8, hw8⟩ : ∃ w8, (w7.alloc (.cells zTc 58)).setRow w7.heap.size (rowT t').toArray = w8 := ⟨_, rfl⟩
  have kq8 := Lib.hid (show Blk w8 w7.heap.size (rowT t').toArray 58 by rw [← hw8]; exact ⟨setRow_heap _ _ _ _ _ _ (Blk.new w7 zTc 58).at_⟩)
  have hb78 : Below w7.heap.size w7 w8 := by rw [← hw8]; exact below_row ((Below.refl _ w7).alloc (Nat.le_refl _) _) (Nat.le_refl _) _
  have k8 := Lib.hid (k7.out.to hb78)
  have hr8 := Lib.hid (hr7.out.below hb78)
  have hb8 := Lib.hid (hb7.out.trans (hb78.mono hb7.out.size))
  have hne7 := Lib.hid (show w7.heap.size ≠ w.heap.size from fun e => by have := k7.out.lt; omega)
  rw [hw8]
  clear hw8 hb78
  go_upto_region 12 with (first
    | (go_at_call 28; refine (hPn.out _ _ _ hr8.out).mono ?_; rintro e w9 ⟨rfl, hB9⟩; have k9 := Lib.hid (k8.out.to hB9); have kq9 := Lib.hid (kq8.out.to hB9); have hb9 := Lib.hid (hb8.out.trans (hB9.mono hb8.out.size)); clear hB9)
    | (refine wpList_store_K rfl (.tmp 13) (.tmp 66) rfl w9.heap.size zAc rfl rfl zAc (Blk.new w9 zAc 51) rfl rfl zA_one ?_)
    | fail)
  obtain ⟨w10, hw10⟩ : ∃ w10, (w9.alloc (.cells zAc 51)).setRow w9.heap.size zAc = w10 := ⟨_, rfl⟩
  have hb910 : Below w9.heap.size w9 w10 := by rw [← hw10]; exact below_row ((Below.refl _ w9).alloc (Nat.le_refl _) _) (Nat.le_refl _) _
  have k10 := Lib.hid (k9.out.to hb910)
  have kq10 := Lib.hid (kq9.out.to hb910)
  have hb10 := Lib.hid (hb9.out.trans (hb910.mono hb9.out.size))
  have hth := Lib.hid (hthr.out _ k10.out)
  rw [hw10]
  clear hw10 hb910
  go_upto_region 13 with (first
    | (refine wpList_store_mid rfl 44 (.tmp 70) (.tmp 68) rfl w.heap.size 3 z6c rfl rfl hth.out info_six (u8s_all z16) ?_)
    | fail)
  obtain ⟨w11, hw11⟩ : ∃ w11, w10.setCells w.heap.size 3 (u8s z16) = w11 := ⟨_, rfl⟩
  have k11 := setCells_blk (u8s z16) 3 _ w10 k10.out hlT.out
  rw [hset.out, hw11] at k11
  have kq11 := Blk.farCells hne7.out (u8s z16) 3 w10 kq10.out
  have hb11 := below_setCells (Nat.le_refl w.heap.size) (u8s z16) 3 w10 hb10.out
  rw [hw11] at kq11 hb11
  change Code.wp _ _ _ _ (World.setCells w10 w.heap.size 3 (u8s z16))
  rw [hw11]
  clear hw11
  replace k11 := Lib.hid k11
  replace kq11 := Lib.hid kq11
  replace hb11 := Lib.hid hb11
  simp only [Act.put]
  go_wp2_with (first
    | (refine wpList_load_T (by rfl) (.tmp 11) rfl w7.heap.size rfl (rowT t').toArray kq11.out hsT'.out ?_)
    | (refine wpList_load_T (by rfl) (.tmp 1) rfl w.heap.size rfl (rowT t').toArray k11.out hsT'.out ?_)
    | (refine wpList_eql_same (by rfl) 58 (.tmp 74) (.tmp 75) rfl (rowT t').toArray rfl rfl eqt_told.1 eqt_told.2.1 eqt_told.2.2.1 hleT.out hnT.out ?_)
    | (go_at_call 27; refine (PAwake_any _).mono ?_; rintro e w12 ⟨rfl, hB12⟩; have hb12 := Lib.hid (hb11.out.trans (hB12.mono hb11.out.size)); clear hB12)
    | fail)
  go_ret
  exact ⟨rfl, hb12.out⟩
theorem PcpBack_walk (t : ToldP) (w : World) (h : AskOk t.ask) :
    Calls Try.prog 9 #[.agg (rowT t).toArray] w fun e w' => e = .returned (.bool true) ∧ Below w.heap.size w w' := by
  cases hm : mayB t.ask
  · exact PcpBack_none t w h hm
  · cases hm2 : mayT t
    · exact PcpBack_half t w h hm hm2
    · exact PcpBack_full t w h hm hm2
end Go.Proofs.Ytldjecilmcnpiaa
