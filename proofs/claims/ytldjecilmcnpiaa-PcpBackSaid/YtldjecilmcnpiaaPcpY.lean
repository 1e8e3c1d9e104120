/- The law PcpBack: its walk. -/
import Derived.Test.YtldjecilmcnpiaaPcpX
set_option linter.unusedVariables false
namespace Go.Proofs.Ytldjecilmcnpiaa
open Go Go.RowKit

theorem BuildNo (a : AskP) (h : AskOk a) (hm : mayB a = false) (w : World) : Calls Try.prog 34 #[.agg (rowA a).toArray] w fun e w' => ∃ A2 c2, e = .returned (.tuple #[.slice A2 0 c2, .int .i64 1]) ∧ Below w.heap.size w w' :=
  (PcpBuild_any a h w).mono fun e w' ⟨A2, n2, c2, he, hr, hb⟩ => by
    have h1 : builtAsk a = [] := by unfold builtAsk; rw [if_neg (by rw [hm]; decide)]
    have h2 : codeAsk a = 1 := by unfold codeAsk; rw [if_neg (by rw [hm]; decide)]
    rw [h1] at hr
    rw [h2] at he
    have := hr.len
    simp at this
    subst this
    exact ⟨A2, c2, he, hb⟩
section
variable (t : ToldP) (h : AskOk t.ask) (w : World)
include h
theorem AnswerNo (hm : mayT t = false) : Calls Try.prog 36 #[.agg (rowT t).toArray] w fun e w' => ∃ A2 c2, e = .returned (.tuple #[.slice A2 0 c2, .int .i64 1]) ∧ Below w.heap.size w w' :=
  (PcpAnswer_any t h w).mono fun e w' ⟨A2, n2, c2, he, hr, hb⟩ => by
    have h1 : builtTold t = [] := by unfold builtTold; rw [if_neg (by rw [hm]; decide)]
    have h2 : codeTold t = 1 := by unfold codeTold; rw [if_neg (by rw [hm]; decide)]
    rw [h1] at hr
    rw [h2] at he
    have := hr.len
    simp at this
    subst this
    exact ⟨A2, c2, he, hb⟩
theorem AnswerYes (hm : mayT t = true) : Calls Try.prog 36 #[.agg (rowT t).toArray] w fun e w' => ∃ A2 c2, e = .returned (.tuple #[.slice A2 60 c2, .int .i64 0]) ∧ RB w' A2 60 c2 (bytesTold t) ∧ Below w.heap.size w w' :=
  (PcpAnswer_any t h w).mono fun e w' ⟨A2, n2, c2, he, hr, hb⟩ => by
    have h1 : builtTold t = bytesTold t := by unfold builtTold; rw [if_pos hm]
    have h2 : codeTold t = 0 := by unfold codeTold; rw [if_pos hm]
    rw [h1] at hr
    rw [h2] at he
    have := hr.len
    rw [told_len h] at this
    subst this
    exact ⟨A2, c2, he, hr, hb⟩
theorem ReadYes (hm : mayT t = true) (A : Option Addr) (c : Nat) (hr : RB w A 60 c (bytesTold t)) : Calls Try.prog 30 #[.slice A 60 c] w fun e w' => e = .returned (.tuple #[.agg (rowT { t with ask := { t.ask with cl := z16 } }).toArray, .int .i64 0]) ∧ Below w.heap.size w w' :=
  (PTold_any A 60 c (bytesTold t) w hr (by decide)).mono fun e w' ⟨he, hb⟩ => by
    have hc : codeP 129 (bytesTold t) = 0 := by rw [told_code h hm]; rfl
    obtain ⟨r1, r2, r3⟩ := told_read h hm
    unfold readT at he
    rw [hc, if_pos rfl, r1, r2, r3] at he
    exact ⟨he, hb⟩
theorem ParseNo (hm : mayT t = true) (A : Option Addr) (c : Nat) (hr : RB w A 60 c (bytesTold t)) : Calls Try.prog 28 #[.slice A 60 c] w fun e w' => e = .returned (.tuple #[.agg zAc, .int .i64 4]) ∧ Below w.heap.size w w' :=
  (PParse_any A 60 c (bytesTold t) w hr (by decide)).mono fun e w' ⟨he, hb⟩ => by
    have hc : codeP 1 (bytesTold t) = 4 := by rw [told_code h hm]; rfl
    unfold readA at he
    rw [hc, if_neg (by decide)] at he
    exact ⟨he, hb⟩
end
theorem rowT_setcl {t : ToldP} {s' : List Int} (h : t.ask.cl.length = 16) (h' : s'.length = 16) : splice (rowT t) 3 (u8s s') = rowT { t with ask := { t.ask with cl := s' } } := by
  have := rowA_setcl (a := t.ask) h h'
  unfold splice at this ⊢
  have e : rowT t = .int .i64 t.result :: .int .i64 t.epoch :: rowA t.ask := rfl
  rw [e, show 3 + (u8s s').length = (1 + (u8s s').length) + 1 + 1 by omega]
  rw [List.drop_succ_cons, List.drop_succ_cons, List.take_succ_cons, List.take_succ_cons, List.cons_append, List.cons_append, this]
  rfl

set_option maxRecDepth 100000 in
set_option maxHeartbeats 2000000 in
theorem PcpBack_none (t : ToldP) (w : World) (h : AskOk t.ask) (hm : mayB t.ask = false) :
    Calls Try.prog 9 #[.agg (rowT t).toArray] w fun e w' => e = .returned (.bool true) ∧ Below w.heap.size w w' := by
  have hk := Lib.hid (Blk.new w (rowT t).toArray 58)
  have hb := Lib.hid ((Below.refl _ w).alloc (Nat.le_refl _) (.cells (rowT t).toArray 58))
  have hsT := Lib.hid (rowT_size h)
  have hsA := Lib.hid (rowA_size h)
  have hmid := Lib.hid (fun W (k : Blk W w.heap.size (rowT t).toArray 58) => rowT_mid k)
  have hi := Lib.hid (show (Try.prog.info? 51).map (·.size) = some (rowA t.ask).length by rw [rowA_len h]; exact info_ask)
  have hnA := Lib.hid (rowA_nums t.ask)
  have hleA := Lib.hid (show Try.prog.cellsOf 51 ≤ (rowA t.ask).toArray.size from Nat.le_of_eq (eqt_ask.2.2.2.trans hsA.out.symm))
  have hB := Lib.hid (fun W => BuildNo t.ask h hm W)
  have hAn := Lib.hid (fun W => AnswerNo t h W (by unfold mayT; rw [hm]; rfl))
  clear h hm
  go_enter Try.func9, Try.ntmps9
  go_upto_region 7 with (first
    | (refine wpList_load_mid rfl 51 (.tmp 16) rfl w.heap.size 2 rfl (rowA t.ask) _ (hmid.out _ hk.out) Try.underlying51 rfl hi.out ?_)
    | (go_at_call 34; refine (hB.out _).mono ?_; rintro e w1 ⟨A1, c1, rfl, hB1⟩; have k1 := Lib.hid (hk.out.to hB1); have hb1 := Lib.hid (hb.out.trans (hB1.mono hb.out.size)); clear hB1)
    | fail)
  go_wp2_with (first
    | (refine wpList_load_T rfl (.tmp 1) rfl w.heap.size rfl (rowT t).toArray k1.out hsT.out ?_)
    | (go_at_call 36; refine (hAn.out _).mono ?_; rintro e w8 ⟨A8, c8, rfl, hB8⟩; have hb8 := Lib.hid (hb1.out.trans (hB8.mono hb1.out.size)); clear hB8)
    | (go_at_call 27; refine (PAwake_any _).mono ?_; rintro e w9 ⟨rfl, hB9⟩; have hb9 := Lib.hid (hb8.out.trans (hB9.mono hb8.out.size)); clear hB9)
    | fail)
  go_ret
  exact ⟨rfl, hb9.out⟩
set_option maxRecDepth 100000 in
set_option maxHeartbeats 2000000 in
theorem PcpBack_half (t : ToldP) (w : World) (h : AskOk t.ask) (hm : mayB t.ask = true) (hm2 : mayT t = false) :
    Calls Try.prog 9 #[.agg (rowT t).toArray] w fun e w' => e = .returned (.bool true) ∧ Below w.heap.size w w' := by
  have hk := Lib.hid (Blk.new w (rowT t).toArray 58)
  have hb := Lib.hid ((Below.refl _ w).alloc (Nat.le_refl _) (.cells (rowT t).toArray 58))
  have hsT := Lib.hid (rowT_size h)
  have hsA := Lib.hid (rowA_size h)
  have hmid := Lib.hid (fun W (k : Blk W w.heap.size (rowT t).toArray 58) => rowT_mid k)
  have hi := Lib.hid (show (Try.prog.info? 51).map (·.size) = some (rowA t.ask).length by rw [rowA_len h]; exact info_ask)
  have hnA := Lib.hid (rowA_nums t.ask)
  have hleA := Lib.hid (show Try.prog.cellsOf 51 ≤ (rowA t.ask).toArray.size from Nat.le_of_eq (eqt_ask.2.2.2.trans hsA.out.symm))
  have hB := Lib.hid (fun W => BuildYes t.ask h hm W)
  have hP := Lib.hid (fun W A c hr => ParseYes t.ask h hm W A c hr)
  have hR := Lib.hid (fun W A c hr => ReadNo t.ask h hm W A c hr)
  have hAn := Lib.hid (fun W => AnswerNo t h W hm2)
  clear h hm hm2
  go_enter Try.func9, Try.ntmps9
  go_upto_region 4 with (first
    | (refine wpList_load_mid rfl 51 (.tmp 16) rfl w.heap.size 2 rfl (rowA t.ask) _ (hmid.out _ hk.out) Try.underlying51 rfl hi.out ?_)
    | (go_at_call 34; refine (hB.out _).mono ?_; rintro e w1 ⟨A1, c1, rfl, hr1, hB1⟩; have k1 := Lib.hid (hk.out.to hB1); have hb1 := Lib.hid (hb.out.trans (hB1.mono hb.out.size)); replace hr1 := Lib.hid hr1; clear hB1)
    | (go_at_call 28; refine (hP.out _ _ _ hr1.out).mono ?_; rintro e w2 ⟨rfl, hB2⟩; have k2 := Lib.hid (k1.out.to hB2); have hr2 := Lib.hid (hr1.out.below hB2); have hb2 := Lib.hid (hb1.out.trans (hB2.mono hb1.out.size)); clear hB2)
    | (refine wpList_store_K rfl (.tmp 5) (.tmp 26) rfl w2.heap.size (rowA t.ask).toArray rfl rfl zAc (Blk.new w2 zAc 51) rfl hsA.out rowA_one ?_)
    | fail)
  obtain ⟨w3, hw3⟩ : ∃ w3, (w2.alloc (.cells zAc 51)).setRow w2.heap.size (rowA t.ask).toArray = w3 := ⟨_, rfl⟩
  have kq3 := Lib.hid (show Blk w3 w2.heap.size (rowA t.ask).toArray 51 by rw [← hw3]; exact ⟨setRow_heap _ _ _ _ _ _ (Blk.new w2 zAc 51).at_⟩)
  have hb23 : Below w2.heap.size w2 w3 := by rw [← hw3]; exact below_row ((Below.refl _ w2).alloc (Nat.le_refl _) _) (Nat.le_refl _) _
  have k3 := Lib.hid (k2.out.to hb23)
  have hr3 := Lib.hid (hr2.out.below hb23)
  have hb3 := Lib.hid (hb2.out.trans (hb23.mono hb2.out.size))
  rw [hw3]
  clear hw3 hb23
  replace hP := 0
  replace hB := 0
  go_upto_region 5 with (first
    | (go_at_call 30; refine (hR.out _ _ _ hr3.out).mono ?_; rintro e w4 ⟨rfl, hB4⟩; have k4 := Lib.hid (k3.out.to hB4); have kq4 := Lib.hid (kq3.out.to hB4); have hb4 := Lib.hid (hb3.out.trans (hB4.mono hb3.out.size)); clear hB4)
    | (refine wpList_store_T rfl (.tmp 7) (.tmp 31) rfl w4.heap.size zTc rfl rfl zTc (Blk.new w4 zTc 58) rfl rfl zT_one ?_)
    | fail)
  obtain ⟨w5, hw5⟩ : ∃ w5, (w4.alloc (.cells zTc 58)).setRow w4.heap.size zTc = w5 := ⟨_, rfl⟩
  have hb45 : Below w4.heap.size w4 w5 := by rw [← hw5]; exact below_row ((Below.refl _ w4).alloc (Nat.le_refl _) _) (Nat.le_refl _) _
  have k5 := Lib.hid (k4.out.to hb45)
  have kq5 := Lib.hid (kq4.out.to hb45)
  have hb5 := Lib.hid (hb4.out.trans (hb45.mono hb4.out.size))
  rw [hw5]
  clear hw5 hb45
  replace hR := 0
  go_upto_region 7 with (first
    | (refine wpList_load_K (by rfl) (.tmp 5) rfl w2.heap.size rfl (rowA t.ask).toArray kq5.out hsA.out ?_)
    | (refine BigFrame.wpList_want (by rfl) fun _ hK => wp_load_mid 51 (.tmp 37) rfl w.heap.size 2 rfl (rowA t.ask) _ (hmid.out _ k5.out) Try.underlying51 rfl hi.out (hK _ _ ?_))
    | (refine wpList_neq_same (by rfl) 51 (.tmp 36) (.tmp 38) rfl (rowA t.ask).toArray rfl rfl eqt_ask.1 eqt_ask.2.1 eqt_ask.2.2.1 hleA.out hnA.out ?_)
    | fail)
  go_wp2_with (first
    | (refine wpList_load_T rfl (.tmp 1) rfl w.heap.size rfl (rowT t).toArray k5.out hsT.out ?_)
    | (go_at_call 36; refine (hAn.out _).mono ?_; rintro e w8 ⟨A8, c8, rfl, hB8⟩; have hb8 := Lib.hid (hb5.out.trans (hB8.mono hb5.out.size)); clear hB8)
    | (go_at_call 27; refine (PAwake_any _).mono ?_; rintro e w9 ⟨rfl, hB9⟩; have hb9 := Lib.hid (hb8.out.trans (hB9.mono hb8.out.size)); clear hB9)
    | fail)
  go_ret
  exact ⟨rfl, hb9.out⟩
end Go.Proofs.Ytldjecilmcnpiaa
