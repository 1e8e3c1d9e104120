/- What is told (pcp): its cells; walk of Answer. -/
import Derived.Test.YtldjecilmcnpiaaPcpB
set_option linter.unusedVariables false
namespace Go.Proofs.Ytldjecilmcnpiaa
open Go Go.RowKit

structure ToldP where
  result : Int
  epoch : Int
  ask : AskP
def rowT (t : ToldP) : List Value := .int .i64 t.result :: .int .i64 t.epoch :: rowA t.ask
theorem rowT_size {t : ToldP} (h : AskOk t.ask) : (rowT t).toArray.size = 35 := by simp [rowT, rowA_len h]
theorem info_told : (Try.prog.info? 58).map (·.size) = some 35 := by kernel_rfl
theorem run_load_T {W : World} {B : Nat} {cs : Array Value} (h : Blk W B cs 58) (hs : cs.size = 35) : (loadVar 58 ⟨B, 0, none⟩).run Try.prog W = .ok (.agg cs) W :=
  run_loadVar_row W B 58 58 cs _ _ h.at_ Try.underlying58 rfl (by rw [info_told, hs])
theorem wpList_load_T {ops : Array Oper} {rest : List Oper} {op : Oper} {a : Act} {W : World} {Q : Exit → Act → World → Prop} (hgd : Region.wanted op (yielded ops a.tmps) = true) (x : Operand) (ho : op.op = .load 58 x)
    (g : Nat) (hx : a.eval x = .pointer (some ⟨g, 0, none⟩)) (cs : Array Value) (hk : Blk W g cs 58) (hs : cs.size = 35)
    (h : wpList Try.prog ops Q rest (a.put op.dst (.agg cs)) W) : wpList Try.prog ops Q (op :: rest) a W :=
  BigFrame.wpList_want hgd fun _ hK => by
    unfold Oper.wp execOp
    simp only [ho, hx, Instr.loadAt, Instr.sureAddr, Sem.run_bind, Sem.run_pure, Result.andThen_ok, run_load_T hk hs]
    exact hK _ _ h
theorem wpList_store_T {ops : Array Oper} {rest : List Oper} {op : Oper} {a : Act} {W : World} {Q : Exit → Act → World → Prop} (hgd : op.guard = none) (x y : Operand) (ho : op.op = .store 58 x y)
    (g : Nat) (cells : Array Value) (hx : a.eval x = .pointer (some ⟨g, 0, none⟩)) (hy : a.eval y = .agg cells) (old : Array Value) (hk : Blk W g old 58) (ho' : old.size = 35) (hs : cells.size = 35) (h1 : cells.all (·.oneCell') = true)
    (h : wpList Try.prog ops Q rest (a.put op.dst undef) (W.setRow g cells)) : wpList Try.prog ops Q (op :: rest) a W :=
  wpList_store_row hgd 58 x y ho g cells hx hy 58 old hk.at_ (by rw [info_told, hs]) (by rw [ho', hs]) h1 h
def mayTF (t : ToldP) : List (Int × Nat) := [(t.result, 1), (t.epoch, 4)]
def mayT (t : ToldP) : Bool := mayB t.ask && fitL (mayTF t)
def head1F (t : ToldP) : List (Int × Nat) := [(2, 1), (129, 1), (0, 1), (t.result, 1)]
def head2F (t : ToldP) : List (Int × Nat) := [(t.ask.life, 4), (t.epoch, 4), (0, 4), (0, 4), (0, 4)]
def bytesTold (t : ToldP) : List Int := putL (head1F t) ++ putL (head2F t) ++ tailL t.ask
def codeTold (t : ToldP) : Int := if mayT t = true then 0 else 1
def builtTold (t : ToldP) : List Int := if mayT t = true then bytesTold t else []
theorem mayTF_fits {t : ToldP} (h : fitL (mayTF t) = true) : fitsP t.result 1 ∧ fitsP t.epoch 4 := by
  unfold fitL mayTF at h
  simp only [List.all_cons, List.all_nil, Bool.and_true, Bool.and_eq_true] at h
  exact ⟨of_decide_eq_true h.1, of_decide_eq_true h.2⟩
theorem head1F_fits {t : ToldP} (h : fitL (mayTF t) = true) : ∀ p ∈ head1F t, fitsP p.1 (p.2 : Int) := by
  obtain ⟨h1, h2⟩ := mayTF_fits h
  intro p hp
  simp only [head1F, List.mem_cons, List.not_mem_nil, or_false] at hp
  rcases hp with rfl | rfl | rfl | rfl
  · exact ⟨by decide, by decide, by decide⟩
  · exact ⟨by decide, by decide, by decide⟩
  · exact ⟨by decide, by decide, by decide⟩
  · exact h1
theorem head2F_fits {t : ToldP} (h : mayB t.ask = true) (h' : fitL (mayTF t) = true) : ∀ p ∈ head2F t, fitsP p.1 (p.2 : Int) := by
  obtain ⟨h1, _⟩ := mayB_iff h
  obtain ⟨_, h2⟩ := mayTF_fits h'
  intro p hp
  simp only [head2F, List.mem_cons, List.not_mem_nil, or_false] at hp
  rcases hp with rfl | rfl | rfl | rfl | rfl
  · exact h1
  · exact h2
  · exact ⟨by decide, by decide, by decide⟩
  · exact ⟨by decide, by decide, by decide⟩
  · exact ⟨by decide, by decide, by decide⟩
theorem head1F_len (t : ToldP) : (putL (head1F t)).length = 4 := by simp [head1F, putL, digL_length]
theorem head2F_len (t : ToldP) : (putL (head2F t)).length = 20 := by simp [head2F, putL, digL_length]
theorem rowT_mid {W : World} {B : Nat} {t : ToldP} {T : TypeId} (k : Blk W B (rowT t).toArray T) : W.rangeAt B 2 (rowA t.ask) := fun j v hj => k.cell (2 + j) v (by rw [List.getElem?_toArray, show 2 + j = j + 1 + 1 by omega]; exact hj)
set_option maxRecDepth 100000 in
set_option maxHeartbeats 2000000 in
theorem PcpAnswer_any (t : ToldP) (h : AskOk t.ask) (w : World) : Calls Try.prog 36 #[.agg (rowT t).toArray] w (TwoOut w (builtTold t) (codeTold t)) := by
  have hk := Lib.hid (Blk.new w (rowT t).toArray 58)
  have hb := Lib.hid ((Below.refl _ w).alloc (Nat.le_refl _) (.cells (rowT t).toArray 58))
  have hMay := Lib.hid (fun W => May_any (rowA t.ask).toArray t.ask ⟨h, rfl⟩ W)
  have hbo := Lib.hid (show builtTold t = if (mayB t.ask && fitL (mayTF t)) = true then bytesTold t else [] from rfl)
  have hco := Lib.hid (show codeTold t = if (mayB t.ask && fitL (mayTF t)) = true then 0 else 1 from rfl)
  have hr0 := Lib.hid (show (rowT t).toArray[0]? = some (.int .i64 t.result) from rfl)
  have hr1 := Lib.hid (show (rowT t).toArray[1]? = some (.int .i64 t.epoch) from rfl)
  have hr2 := Lib.hid (show (rowT t).toArray[2]? = some (.int .i64 t.ask.life) from rfl)
  have hmid := Lib.hid (rowT_mid hk.out)
  have hi := Lib.hid (show (Try.prog.info? 51).map (·.size) = some (rowA t.ask).length by rw [rowA_len h]; exact info_ask)
  have c0 := hk.out.cell 0 _ hr0.out
  have c1 := hk.out.cell 1 _ hr1.out
  have c2 := hk.out.cell 2 _ hr2.out
  have hF1 := Lib.hid (fun (W : World) => show Calls Try.prog 82 #[.slice (some ⟨W.heap.size, 0, none⟩) 2 2] (W.alloc (.cells #[.int .i64 t.result, .int .i64 1, .int .i64 t.epoch, .int .i64 4] 116)) (fun e w' => e = .returned (.bool (fitL (mayTF t))) ∧ Below (W.alloc (.cells #[.int .i64 t.result, .int .i64 1, .int .i64 t.epoch, .int .i64 4] 116)).heap.size (W.alloc (.cells #[.int .i64 t.result, .int .i64 1, .int .i64 t.epoch, .int .i64 4] 116)) w') from FitL_any (some ⟨W.heap.size, 0, none⟩) 2 2 (mayTF t) _ (FR.at_ W 116 (mayTF t) _ rfl) (by decide))
  cases hm : mayB t.ask
  · rw [hm] at hMay hbo hco
    clear h hm
    go_enter Try.func36, Try.ntmps36
    go_wp2_with (first
      | (refine wpList_load_mid rfl 51 (.tmp 5) rfl w.heap.size 2 rfl (rowA t.ask) _ hmid.out Try.underlying51 rfl hi.out ?_)
      | (go_at_call 76; refine (hMay.out _).mono ?_; rintro e w1 ⟨rfl, hB1⟩; have hb1 := Lib.hid (hb.out.trans (hB1.mono hb.out.size)); have hk1 := Lib.hid (hk.out.to hB1); clear c0 c1 c2; have c0 := hk1.out.cell 0 _ hr0.out; have c1 := hk1.out.cell 1 _ hr1.out; have c2 := hk1.out.cell 2 _ hr2.out; clear hB1)
      | fail)
    go_ret2
    exact ⟨none, 0, 0, by rw [hco.out]; rfl, by rw [hbo.out]; exact RB.nil _, hb1.out⟩
  · cases hm2 : fitL (mayTF t)
    · rw [hm] at hMay hbo hco
      rw [hm2] at hbo hco
      simp only [hm2] at hF1
      clear h hm hm2
      go_enter Try.func36, Try.ntmps36
      go_wp2_with (first
        | (refine wpList_load_mid rfl 51 (.tmp 5) rfl w.heap.size 2 rfl (rowA t.ask) _ hmid.out Try.underlying51 rfl hi.out ?_)
        | (go_at_call 76; refine (hMay.out _).mono ?_; rintro e w1 ⟨rfl, hB1⟩; have hb1 := Lib.hid (hb.out.trans (hB1.mono hb.out.size)); have hk1 := Lib.hid (hk.out.to hB1); clear c0 c1 c2; have c0 := hk1.out.cell 0 _ hr0.out; have c1 := hk1.out.cell 1 _ hr1.out; have c2 := hk1.out.cell 2 _ hr2.out; clear hB1)
        | (go_at_call 82; refine Calls.mono (hF1.out w1) ?_; rintro e w2 ⟨rfl, hB2⟩; have hb2 := Lib.hid ((hb1.out.alloc hb1.out.size _).trans (hB2.mono (Nat.le_trans hb1.out.size (by simp)))); have hk2 := Lib.hid ((hk1.out.alloc _).to hB2); clear c0 c1 c2; have c0 := hk2.out.cell 0 _ hr0.out; have c1 := hk2.out.cell 1 _ hr1.out; have c2 := hk2.out.cell 2 _ hr2.out; clear hB2)
        | fail)
      go_ret2
      exact ⟨none, 0, 0, by rw [hco.out]; rfl, by rw [hbo.out]; exact RB.nil _, hb2.out⟩
    · have hT := Lib.hid (fun A n c bs base W ho hb hn => Tail_any (rowA t.ask).toArray t.ask ⟨h, rfl⟩ hm A n c bs base W ho hb hn)
      have hf1 := Lib.hid (head1F_fits hm2)
      have hf2 := Lib.hid (head2F_fits hm hm2)
      rw [hm] at hMay hbo hco
      rw [hm2] at hbo hco
      simp only [hm2] at hF1
      have hl1 := Lib.hid (head1F_len t)
      have hl2 := Lib.hid (head2F_len t)
      have hba := Lib.hid (show bytesTold t = putL (head1F t) ++ putL (head2F t) ++ tailL t.ask from rfl)
      have hFP := Lib.hid (fun (W : World) => show FR (W.alloc (.cells #[.int .i64 2, .int .i64 1, .int .i64 129, .int .i64 1, .int .i64 0, .int .i64 1, .int .i64 t.result, .int .i64 1] 116)) (some ⟨W.heap.size, 0, none⟩) 4 4 (head1F t) from FR.at_ W 116 (head1F t) _ rfl)
      have hFQ := Lib.hid (fun (W : World) => show FR (W.alloc (.cells #[.int .i64 t.ask.life, .int .i64 4, .int .i64 t.epoch, .int .i64 4, .int .i64 0, .int .i64 4, .int .i64 0, .int .i64 4, .int .i64 0, .int .i64 4] 116)) (some ⟨W.heap.size, 0, none⟩) 5 5 (head2F t) from FR.at_ W 116 (head2F t) _ rfl)
      clear h hm hm2
      go_enter Try.func36, Try.ntmps36
      go_wp2_with (first
        | (refine wpList_load_mid rfl 51 (.tmp 5) rfl w.heap.size 2 rfl (rowA t.ask) _ hmid.out Try.underlying51 rfl hi.out ?_)
        | (go_at_call 76; refine (hMay.out _).mono ?_; rintro e w1 ⟨rfl, hB1⟩; have hb1 := Lib.hid (hb.out.trans (hB1.mono hb.out.size)); have hk1 := Lib.hid (hk.out.to hB1); clear c0 c1 c2; have c0 := hk1.out.cell 0 _ hr0.out; have c1 := hk1.out.cell 1 _ hr1.out; have c2 := hk1.out.cell 2 _ hr2.out; clear hB1)
        | (go_at_call 82; refine Calls.mono (hF1.out w1) ?_; rintro e w2 ⟨rfl, hB2⟩; have hb2 := Lib.hid ((hb1.out.alloc hb1.out.size _).trans (hB2.mono (Nat.le_trans hb1.out.size (by simp)))); have hk2 := Lib.hid ((hk1.out.alloc _).to hB2); clear c0 c1 c2; have c0 := hk2.out.cell 0 _ hr0.out; have c1 := hk2.out.cell 1 _ hr1.out; have c2 := hk2.out.cell 2 _ hr2.out; clear hB2)
        | (go_at_call_of 77 (Value.slice none 0 0); refine Calls.mono (PutL_any none 0 0 [] (some ⟨w2.heap.size, 0, none⟩) 4 4 (head1F t) _ (RB.nil _) (hFP.out w2) (by decide) (by decide) (by decide) hf1.out) ?_; rintro e w3 ⟨A3, c3, rfl, ho3, hB3⟩; rw [hl1.out] at ho3; simp only [hl1.out]; have hb3 := Lib.hid ((hb2.out.alloc hb2.out.size _).trans (hB3.mono (Nat.le_trans hb2.out.size (by simp)))); have hk3 := Lib.hid ((hk2.out.alloc _).to hB3); have hr3 := Lib.hid ho3.rb; clear c0 c1 c2; have c0 := hk3.out.cell 0 _ hr0.out; have c1 := hk3.out.cell 1 _ hr1.out; have c2 := hk3.out.cell 2 _ hr2.out; clear hB3 ho3)
        | (go_at_call 77; refine Calls.mono (PutL_any A3 4 c3 (putL (head1F t)) (some ⟨w3.heap.size, 0, none⟩) 5 5 (head2F t) _ (hr3.out.alloc _) (hFQ.out w3) (by decide) (by decide) (by decide) hf2.out) ?_; rintro e w4 ⟨A4, c4, rfl, ho4, hB4⟩; rw [hl2.out] at ho4; simp only [hl2.out]; have hb4 := Lib.hid ((hb3.out.alloc hb3.out.size _).trans (hB4.mono (Nat.le_trans hb3.out.size (by simp)))); have hk4 := Lib.hid ((hk3.out.alloc _).to hB4); have hmid4 := Lib.hid (rowT_mid hk4.out); have hle4 := Lib.hid (Nat.le_trans (show w.heap.size ≤ w3.heap.size + 1 from Nat.le_succ_of_le hb3.out.size) (by simpa using hB4.size)); have ho4' := Lib.hid (ho4.mono (show w.heap.size ≤ _ from Nat.le_trans hb3.out.size (by simp))); clear c0 c1 c2 hB4 ho4)
        | (refine wpList_load_mid rfl 51 (.tmp 41) rfl w.heap.size 2 rfl (rowA t.ask) _ hmid4.out Try.underlying51 rfl hi.out ?_)
        | (go_at_call 78; refine Calls.mono (hT.out A4 (4 + 20) c4 _ w.heap.size w4 ho4'.out hle4.out (by decide)) ?_; rintro e w5 ⟨A5, c5, rfl, ho5, hB5⟩; have hb5 := Lib.hid (hb4.out.trans hB5); replace ho5 := Lib.hid ho5; clear hB5)
        | fail)
      go_ret2
      refine ⟨A5, _, c5, by rw [hco.out]; rfl, ?_, hb5.out⟩
      rw [hbo.out]
      have := ho5.out.rb
      exact this
end Go.Proofs.Ytldjecilmcnpiaa
