/- The law PcpParses: its walk. -/
import Derived.Test.YtldjecilmcnpiaaPcpNj
import Derived.Test.YtldjecilmcnpiaaPcpX
set_option linter.unusedVariables false
namespace Go.Proofs.Ytldjecilmcnpiaa
open Go Go.RowKit

theorem eqt_ask43 : EqT 54 33 := ⟨by kernel_rfl, by kernel_rfl, (by rw [Try.underlying54]; rintro ⟨q, hq⟩; cases hq), by kernel_rfl⟩
theorem eqt_told43 : EqT 62 35 := ⟨by kernel_rfl, by kernel_rfl, (by rw [Try.underlying62]; rintro ⟨q, hq⟩; cases hq), by kernel_rfl⟩
theorem readT_ok {bs : List Int} (h : Byts bs) : AskOk (readT bs).ask := by
  unfold readT
  split
  · have := readA_ok (kind := 129) h
    exact ⟨rfl, this.ln, z16_byts, this.bn⟩
  · exact zeroA_ok
theorem en_POwn (args : Array Value) (w : World) : (callFunc 32 args).run Try.prog w = .ok (.enter 32 args) w := enters Try.func32 (by kernel_rfl) (by kernel_rfl) args w
theorem en_PTold (args : Array Value) (w : World) : (callFunc 33 args).run Try.prog w = .ok (.enter 33 args) w := enters Try.func33 (by kernel_rfl) (by kernel_rfl) args w
set_option maxRecDepth 100000 in
set_option maxHeartbeats 4000000 in
theorem PcpParses_walk (A : Option Addr) (n c : Nat) (bs : List Int) (w : World) (h : RB w A n c bs) :
    Calls Try.prog 7 #[.slice A n c] w fun e w' => e = .returned (.bool true) ∧ Below w.heap.size w w' := by
  by_cases hn : 300 < n
  · clear h
    have hni : (300 : Int) < n := by omega
    go_enter Try.func7, Try.ntmps7
    go_wp2_with (go_at_call 27; refine (PAwake_any _).mono ?_; rintro e w' ⟨rfl, hb1⟩)
    go_ret
    exact ⟨rfl, hb1⟩
  · have hni : ¬ (300 : Int) < n := by omega
    have hn2 : n ≤ 100000 := by omega
    have hak := readA_ok (kind := 1) h.byt
    have htk := readT_ok h.byt
    have hP := Lib.hid (fun W (hW : Below w.heap.size w W) => PParse_any A n c bs W (h.below hW) hn2)
    have hRP := Lib.hid (fun W (hW : Below w.heap.size w W) => RParse_any A n c bs W (h.below hW) hn2)
    have hT := Lib.hid (fun W (hW : Below w.heap.size w W) => PTold_any A n c bs W (h.below hW) hn2)
    have hRT := Lib.hid (fun W (hW : Below w.heap.size w W) => RTold_any A n c bs W (h.below hW) hn2)
    have hO := Lib.hid (fun W => Own43_any (readA 1 bs) hak W)
    have hTo := Lib.hid (fun W => Told43_any (readT bs) htk W)
    have hsA := Lib.hid (rowA_size hak)
    have hsT := Lib.hid (rowT_size htk)
    clear h hak htk hn2 hn
    unfold AskOut at hP hRP
    unfold ToldOut at hT hRT
    generalize readA 1 bs = a at *
    generalize readT bs = t at *
    generalize codeP 1 bs = k1 at *
    generalize codeP 129 bs = k2 at *
    have hnA := Lib.hid (rowA_nums a)
    have hnT := Lib.hid (rowT_nums t)
    have hlA := Lib.hid (show Try.prog.cellsOf 54 ≤ (rowA a).toArray.size from Nat.le_of_eq (eqt_ask43.2.2.2.trans hsA.out.symm))
    have hlT := Lib.hid (show Try.prog.cellsOf 62 ≤ (rowT t).toArray.size from Nat.le_of_eq (eqt_told43.2.2.2.trans hsT.out.symm))
    have hb0 := Lib.hid (Below.refl w.heap.size w)
    go_enter Try.func7, Try.ntmps7
    go_upto_region 4 with (first
      | (go_at_call 28; refine (hP.out _ hb0.out).mono ?_; rintro e w1 ⟨rfl, hB1⟩; have hb1 := Lib.hid hB1; clear hB1)
      | (refine wpList_store_K rfl (.tmp 3) (.tmp 18) rfl w1.heap.size (rowA a).toArray rfl rfl zAc (Blk.new w1 zAc 51) rfl hsA.out rowA_one ?_)
      | fail)
    obtain ⟨w2, hw2⟩ : ∃ w2, (w1.alloc (.cells zAc 51)).setRow w1.heap.size (rowA a).toArray = w2 := ⟨_, rfl⟩
    have k3 := Lib.hid (show Blk w2 w1.heap.size (rowA a).toArray 51 by rw [← hw2]; exact ⟨setRow_heap _ _ _ _ _ _ (Blk.new w1 zAc 51).at_⟩)
    have hb2 := Lib.hid (show Below w.heap.size w w2 by rw [← hw2]; exact below_row (hb1.out.alloc hb1.out.size _) hb1.out.size _)
    rw [hw2]
    clear hw2
    go_upto_region 5 with (first
      | (go_at_call 29; refine (hRP.out _ hb2.out).mono ?_; rintro e w3 ⟨rfl, hB3⟩; have hb3 := Lib.hid (hb2.out.trans (hB3.mono hb2.out.size)); have k3b := Lib.hid (k3.out.to hB3); clear hB3)
      | (refine wpList_store_RK rfl (.tmp 5) (.tmp 23) rfl w3.heap.size (rowA a).toArray rfl rfl zAc (Blk.new w3 zAc 54) rfl hsA.out rowA_one ?_)
      | fail)
    obtain ⟨w4, hw4⟩ : ∃ w4, (w3.alloc (.cells zAc 54)).setRow w3.heap.size (rowA a).toArray = w4 := ⟨_, rfl⟩
    have k5 := Lib.hid (show Blk w4 w3.heap.size (rowA a).toArray 54 by rw [← hw4]; exact ⟨setRow_heap _ _ _ _ _ _ (Blk.new w3 zAc 54).at_⟩)
    have hb34 : Below w3.heap.size w3 w4 := by rw [← hw4]; exact below_row ((Below.refl _ w3).alloc (Nat.le_refl _) _) (Nat.le_refl _) _
    have k3c := Lib.hid (k3b.out.to hb34)
    have hb4 := Lib.hid (hb3.out.trans (hb34.mono hb3.out.size))
    rw [hw4]
    clear hw4 hb34
    go_upto_region 6 with (first
      | (go_at_call 30; refine (hT.out _ hb4.out).mono ?_; rintro e w5 ⟨rfl, hB5⟩; have hb5 := Lib.hid (hb4.out.trans (hB5.mono hb4.out.size)); have k3d := Lib.hid (k3c.out.to hB5); have k5b := Lib.hid (k5.out.to hB5); clear hB5)
      | (refine wpList_store_T rfl (.tmp 7) (.tmp 28) rfl w5.heap.size (rowT t).toArray rfl rfl zTc (Blk.new w5 zTc 58) rfl hsT.out rowT_one ?_)
      | fail)
    obtain ⟨w6, hw6⟩ : ∃ w6, (w5.alloc (.cells zTc 58)).setRow w5.heap.size (rowT t).toArray = w6 := ⟨_, rfl⟩
    have k7 := Lib.hid (show Blk w6 w5.heap.size (rowT t).toArray 58 by rw [← hw6]; exact ⟨setRow_heap _ _ _ _ _ _ (Blk.new w5 zTc 58).at_⟩)
    have hb56 : Below w5.heap.size w5 w6 := by rw [← hw6]; exact below_row ((Below.refl _ w5).alloc (Nat.le_refl _) _) (Nat.le_refl _) _
    have k3e := Lib.hid (k3d.out.to hb56)
    have k5c := Lib.hid (k5b.out.to hb56)
    have hb6 := Lib.hid (hb5.out.trans (hb56.mono hb5.out.size))
    rw [hw6]
    clear hw6 hb56
    go_upto_region 7 with (first
      | (go_at_call 31; refine (hRT.out _ hb6.out).mono ?_; rintro e w7 ⟨rfl, hB7⟩; have hb7 := Lib.hid (hb6.out.trans (hB7.mono hb6.out.size)); have k3f := Lib.hid (k3e.out.to hB7); have k5d := Lib.hid (k5c.out.to hB7); have k7b := Lib.hid (k7.out.to hB7); clear hB7)
      | (refine wpList_store_RT rfl (.tmp 9) (.tmp 33) rfl w7.heap.size (rowT t).toArray rfl rfl zTc (Blk.new w7 zTc 62) rfl hsT.out rowT_one ?_)
      | fail)
    obtain ⟨w8, hw8⟩ : ∃ w8, (w7.alloc (.cells zTc 62)).setRow w7.heap.size (rowT t).toArray = w8 := ⟨_, rfl⟩
    have k9 := Lib.hid (show Blk w8 w7.heap.size (rowT t).toArray 62 by rw [← hw8]; exact ⟨setRow_heap _ _ _ _ _ _ (Blk.new w7 zTc 62).at_⟩)
    have hb78 : Below w7.heap.size w7 w8 := by rw [← hw8]; exact below_row ((Below.refl _ w7).alloc (Nat.le_refl _) _) (Nat.le_refl _) _
    have k3g := Lib.hid (k3f.out.to hb78)
    have k5e := Lib.hid (k5d.out.to hb78)
    have k7c := Lib.hid (k7b.out.to hb78)
    have hb8 := Lib.hid (hb7.out.trans (hb78.mono hb7.out.size))
    rw [hw8]
    clear hw8 hb78
    have hK := Lib.hid (show ∀ W W', (fun W => Below w8.heap.size w8 W) W → Below W.heap.size W W' → (fun W => Below w8.heap.size w8 W) W' from fun W W' h1 h2 => h1.trans (h2.mono h1.size))
    have hA3 := Lib.hid (fun W (hW : Below w8.heap.size w8 W) => (k3g.out.to hW).at_)
    have hA5 := Lib.hid (fun W (hW : Below w8.heap.size w8 W) => (k5e.out.to hW).at_)
    have hA7 := Lib.hid (fun W (hW : Below w8.heap.size w8 W) => (k7c.out.to hW).at_)
    have hA9 := Lib.hid (fun W (hW : Below w8.heap.size w8 W) => (k9.out.to hW).at_)
    have v3 := Lib.hid (show (Try.prog.info? 51).map (·.size) = some (rowA a).toArray.size by rw [hsA.out]; exact info_ask)
    have v5 := Lib.hid (show (Try.prog.info? 54).map (·.size) = some (rowA a).toArray.size by rw [hsA.out]; exact info_ask43)
    have v7 := Lib.hid (show (Try.prog.info? 58).map (·.size) = some (rowT t).toArray.size by rw [hsT.out]; exact info_told)
    have v9 := Lib.hid (show (Try.prog.info? 62).map (·.size) = some (rowT t).toArray.size by rw [hsT.out]; exact info_told43)
    refine wp_region_tame (fun W => Below w8.heap.size w8 W) (by kernel_rfl) (by kernel_rfl) (Below.refl _ _).drew ?_
    repeat (first
      | (refine tameL_skip rfl ?_; simp only [Act.put, List.setIfInBounds_toArray, List.set_cons_zero, List.set_cons_succ])
      | (refine tameL_row rfl 51 (.tmp 3) rfl w1.heap.size rfl _ (rowA a).toArray _ _ (fun W hS => hA3.out W hS) Try.underlying51 rfl v3.out ?_; simp only [Act.put, List.setIfInBounds_toArray, List.set_cons_zero, List.set_cons_succ])
      | (refine tameL_row rfl 54 (.tmp 5) rfl w3.heap.size rfl _ (rowA a).toArray _ _ (fun W hS => hA5.out W hS) Try.underlying54 rfl v5.out ?_; simp only [Act.put, List.setIfInBounds_toArray, List.set_cons_zero, List.set_cons_succ])
      | (refine tameL_row rfl 58 (.tmp 7) rfl w5.heap.size rfl _ (rowT t).toArray _ _ (fun W hS => hA7.out W hS) Try.underlying58 rfl v7.out ?_; simp only [Act.put, List.setIfInBounds_toArray, List.set_cons_zero, List.set_cons_succ])
      | (refine tameL_row rfl 62 (.tmp 9) rfl w7.heap.size rfl _ (rowT t).toArray _ _ (fun W hS => hA9.out W hS) Try.underlying62 rfl v9.out ?_; simp only [Act.put, List.setIfInBounds_toArray, List.set_cons_zero, List.set_cons_succ])
      | (refine tameL_call1 (v := .agg (rowA a).toArray) rfl 32 (.tmp 35) _ rfl en_POwn rfl ?_ ?_; exact fun W hS => (hO.out W).mono fun e W' ⟨he, hb⟩ => ⟨he, hK.out W W' hS hb⟩; simp only [Act.put, List.setIfInBounds_toArray, List.set_cons_zero, List.set_cons_succ])
      | (refine tameL_call1 (v := .agg (rowT t).toArray) rfl 33 (.tmp 45) _ rfl en_PTold rfl ?_ ?_; exact fun W hS => (hTo.out W).mono fun e W' ⟨he, hb⟩ => ⟨he, hK.out W W' hS hb⟩; simp only [Act.put, List.setIfInBounds_toArray, List.set_cons_zero, List.set_cons_succ])
      | (refine tameL_call0 (v := .bool true) rfl 27 _ rfl en_PAwake ?_ ?_; exact fun W hS => (PAwake_any W).mono fun e W' ⟨he, hb⟩ => ⟨he, hK.out W W' hS hb⟩; simp only [Act.put, List.setIfInBounds_toArray, List.set_cons_zero, List.set_cons_succ])
      | (refine tameL_val (v := .bool true) rfl (fun W hS => exec_eql_same 54 (.tmp 36) (.tmp 37) rfl (rowA a).toArray rfl rfl eqt_ask43.1 eqt_ask43.2.1 eqt_ask43.2.2.1 hlA.out hnA.out) ?_; simp only [Act.put, List.setIfInBounds_toArray, List.set_cons_zero, List.set_cons_succ])
      | (refine tameL_val (v := .bool true) rfl (fun W hS => exec_eql_same 62 (.tmp 46) (.tmp 47) rfl (rowT t).toArray rfl rfl eqt_told43.1 eqt_told43.2.1 eqt_told43.2.2.1 hlT.out hnT.out) ?_; simp only [Act.put, List.setIfInBounds_toArray, List.set_cons_zero, List.set_cons_succ])
      | (refine tameL_val (v := ?_) rfl (fun W hS => ?_) ?_; rotate_left; (· (clear hS; go_simp; try with_reducible rfl)); simp only [Act.put, List.setIfInBounds_toArray, List.set_cons_zero, List.set_cons_succ]))
    refine tameL_nil fun W hS => ?_
    go_wp2
    go_ret
    exact ⟨by first | rfl | simp, hb8.out.trans (hS.mono hb8.out.size)⟩
end Go.Proofs.Ytldjecilmcnpiaa
