/- What is asked (pcp): its cells; walks of may, tail. -/
import Derived.Test.YtldjecilmcnpiaaPcpF
set_option linter.unusedVariables false
namespace Go.Proofs.Ytldjecilmcnpiaa
open Go Go.RowKit

structure AskP where
  life : Int
  cl : List Int
  no : List Int
  pr : Int
  port : Int
  outer : Int
  addr : Int
structure AskOk (a : AskP) : Prop where
  lc : a.cl.length = 16
  ln : a.no.length = 12
  bc : Byts a.cl
  bn : Byts a.no
def rowA (a : AskP) : List Value := .int .i64 a.life :: (u8s a.cl ++ (u8s a.no ++ [.int .i64 a.pr, .int .i64 a.port, .int .i64 a.outer, .int .i64 a.addr]))
section
variable {a : AskP} (h : AskOk a)
include h
theorem rowA_len : (rowA a).length = 33 := by simp [rowA, u8s_length, h.lc, h.ln]
theorem rowA_size : (rowA a).toArray.size = 33 := by simp [rowA, u8s_length, h.lc, h.ln]
theorem rowA_cl (j : Nat) (hj : j < 16) : (rowA a)[1 + j]? = some (.int .u8 (a.cl[j]?.getD 0)) := by
  have := h.lc
  rw [Nat.add_comm]
  show (u8s a.cl ++ _)[j]? = _
  rw [List.getElem?_append_left (by rw [u8s_length]; omega), u8s_get _ _ (by omega)]
theorem rowA_no (j : Nat) (hj : j < 12) : (rowA a)[17 + j]? = some (.int .u8 (a.no[j]?.getD 0)) := by
  have := h.lc
  have := h.ln
  rw [show 17 + j = (16 + j) + 1 by omega]
  show (u8s a.cl ++ (u8s a.no ++ _))[16 + j]? = _
  rw [List.getElem?_append_right (by rw [u8s_length]; omega), u8s_length, h.lc, Nat.add_sub_cancel_left, List.getElem?_append_left (by rw [u8s_length]; omega), u8s_get _ _ (by omega)]
theorem rowA_tail (j : Nat) : (rowA a)[29 + j]? = [Value.int .i64 a.pr, .int .i64 a.port, .int .i64 a.outer, .int .i64 a.addr][j]? := by
  rw [show 29 + j = (28 + j) + 1 by omega]
  show (u8s a.cl ++ (u8s a.no ++ _))[28 + j]? = _
  rw [List.getElem?_append_right (by rw [u8s_length, h.lc]; omega), u8s_length, h.lc, List.getElem?_append_right (by rw [u8s_length, h.ln]; omega), u8s_length, h.ln]
  congr 1
  omega
omit h in
theorem rowA_one : (rowA a).toArray.all (·.oneCell') = true := by
  rw [Array.all_eq_true']
  intro x hx
  simp only [rowA, List.mem_toArray, List.mem_cons, List.mem_append, List.not_mem_nil, or_false] at hx
  rcases hx with rfl | hx | hx | rfl | rfl | rfl | rfl
  · rfl
  · exact u8s_one _ _ hx
  · exact u8s_one _ _ hx
  · rfl
  · rfl
  · rfl
  · rfl
end
/-- The cells P are what is asked. -/
structure KA (P : Array Value) (a : AskP) : Prop where
  ok : AskOk a
  eq : P = (rowA a).toArray
theorem KA.size {P : Array Value} {a : AskP} (h : KA P a) : P.size = 33 := by rw [h.eq]; exact rowA_size h.ok
section
variable {P : Array Value} {a : AskP} (h : KA P a)
include h
theorem KA.h0 : P[0]? = some (.int .i64 a.life) := by rw [h.eq]; rfl
theorem KA.h29 : P[29]? = some (.int .i64 a.pr) := by rw [h.eq, List.getElem?_toArray]; exact rowA_tail h.ok 0
theorem KA.h30 : P[30]? = some (.int .i64 a.port) := by rw [h.eq, List.getElem?_toArray]; exact rowA_tail h.ok 1
theorem KA.h31 : P[31]? = some (.int .i64 a.outer) := by rw [h.eq, List.getElem?_toArray]; exact rowA_tail h.ok 2
theorem KA.h32 : P[32]? = some (.int .i64 a.addr) := by rw [h.eq, List.getElem?_toArray]; exact rowA_tail h.ok 3
theorem KA.hc (j : Nat) (hj : j < 16) : P[1 + j]? = some (.int .u8 (a.cl[j]?.getD 0)) := by rw [h.eq, List.getElem?_toArray]; exact rowA_cl h.ok j hj
theorem KA.hn (j : Nat) (hj : j < 12) : P[17 + j]? = some (.int .u8 (a.no[j]?.getD 0)) := by rw [h.eq, List.getElem?_toArray]; exact rowA_no h.ok j hj
theorem KA.one : P.all (·.oneCell') = true := by rw [h.eq]; exact rowA_one
theorem KA.rbc {W : World} {B off : Nat} (hB : B < W.heap.size) (hc : ∀ j v, P[j]? = some v → W.cell? ⟨B, off + j, none⟩ = some v) : RB W (some ⟨B, off + 1, none⟩) 16 16 a.cl :=
  rb_cells (off := off + 1) hB h.ok.lc (by decide) h.ok.bc (fun j hj => by rw [Nat.add_assoc]; exact hc _ _ (h.hc j hj))
theorem KA.rbn {W : World} {B off : Nat} (hB : B < W.heap.size) (hc : ∀ j v, P[j]? = some v → W.cell? ⟨B, off + j, none⟩ = some v) : RB W (some ⟨B, off + 17, none⟩) 12 12 a.no :=
  rb_cells (off := off + 17) hB h.ok.ln (by decide) h.ok.bn (fun j hj => by rw [Nat.add_assoc]; exact hc _ _ (h.hn j hj))
end
theorem info_ask : (Try.prog.info? 51).map (·.size) = some 33 := by kernel_rfl
theorem run_load_K {W : World} {B : Nat} {cs : Array Value} (h : Blk W B cs 51) (hs : cs.size = 33) : (loadVar 51 ⟨B, 0, none⟩).run Try.prog W = .ok (.agg cs) W :=
  run_loadVar_row W B 51 51 cs _ _ h.at_ Try.underlying51 rfl (by rw [info_ask, hs])
theorem wpList_load_K {ops : Array Oper} {rest : List Oper} {op : Oper} {a : Act} {W : World} {Q : Exit → Act → World → Prop} (hgd : Region.wanted op (yielded ops a.tmps) = true) (x : Operand) (ho : op.op = .load 51 x)
    (g : Nat) (hx : a.eval x = .pointer (some ⟨g, 0, none⟩)) (cs : Array Value) (hk : Blk W g cs 51) (hs : cs.size = 33)
    (h : wpList Try.prog ops Q rest (a.put op.dst (.agg cs)) W) : wpList Try.prog ops Q (op :: rest) a W :=
  BigFrame.wpList_want hgd fun _ hK => by
    unfold Oper.wp execOp
    simp only [ho, hx, Instr.loadAt, Instr.sureAddr, Sem.run_bind, Sem.run_pure, Result.andThen_ok, run_load_K hk hs]
    exact hK _ _ h
theorem wpList_store_K {ops : Array Oper} {rest : List Oper} {op : Oper} {a : Act} {W : World} {Q : Exit → Act → World → Prop} (hgd : op.guard = none) (x y : Operand) (ho : op.op = .store 51 x y)
    (g : Nat) (cells : Array Value) (hx : a.eval x = .pointer (some ⟨g, 0, none⟩)) (hy : a.eval y = .agg cells) (old : Array Value) (hk : Blk W g old 51) (ho' : old.size = 33) (hs : cells.size = 33) (h1 : cells.all (·.oneCell') = true)
    (h : wpList Try.prog ops Q rest (a.put op.dst undef) (W.setRow g cells)) : wpList Try.prog ops Q (op :: rest) a W :=
  wpList_store_row hgd 51 x y ho g cells hx hy 51 old hk.at_ (by rw [info_ask, hs]) (by rw [ho', hs]) h1 h

/-- May it be asked? -/
def mayL (a : AskP) : List (Int × Nat) := [(a.life, 4), (a.pr, 1), (a.port, 2), (a.outer, 2), (a.addr, 4)]
def mayB (a : AskP) : Bool := fitL (mayL a)
theorem mayB_iff {a : AskP} (h : mayB a = true) : fitsP a.life 4 ∧ fitsP a.pr 1 ∧ fitsP a.port 2 ∧ fitsP a.outer 2 ∧ fitsP a.addr 4 := by
  unfold mayB fitL mayL at h
  simp only [List.all_cons, List.all_nil, Bool.and_true, Bool.and_eq_true] at h
  obtain ⟨h1, h2, h3, h4, h5⟩ := h
  exact ⟨of_decide_eq_true h1, of_decide_eq_true h2, of_decide_eq_true h3, of_decide_eq_true h4, of_decide_eq_true h5⟩
set_option maxRecDepth 100000 in
set_option maxHeartbeats 1000000 in
theorem May_any (P : Array Value) (a : AskP) (h : KA P a) (w : World) : Calls Try.prog 76 #[.agg P] w fun e w' => e = .returned (.bool (mayB a)) ∧ Below w.heap.size w w' := by
  have hk := Blk.new w P 51
  have hb := Lib.hid ((Below.refl _ w).alloc (Nat.le_refl _) (.cells P 51))
  have c0 := hk.cell 0 _ h.h0
  have c29 := hk.cell 29 _ h.h29
  have c30 := hk.cell 30 _ h.h30
  have c31 := hk.cell 31 _ h.h31
  have c32 := hk.cell 32 _ h.h32
  have hF := Lib.hid (FitL_any (some ⟨w.heap.size + 1, 0, none⟩) 5 5 (mayL a) _ (FR.at_ (w.alloc (.cells P 51)) 116 (mayL a) _ (by simp)) (by decide))
  have hm := Lib.hid (show fitL (mayL a) = mayB a from rfl)
  clear hk h
  go_enter Try.func76, Try.ntmps76
  go_wp2_with (first
    | (go_at_call 82; (refine Calls.mono hF.out ?_); rintro e w1 ⟨rfl, hB1⟩)
    | fail)
  go_ret
  exact ⟨by rw [hm.out]; rfl, hb.out.trans ((((Below.refl _ _).alloc (Nat.le_refl _) _).trans (hB1.mono (by simp))).mono (by simp))⟩

/-- Two blocks are known, nothing below N is changed. -/
structure TS (B : Nat) (P : Array Value) (T : TypeId) (B' : Nat) (P' : Array Value) (T' : TypeId) (N : Nat) (W0 W : World) : Prop where
  k1 : Blk W B P T
  k2 : Blk W B' P' T'
  b : Below N W0 W
section
variable {B B' N : Nat} {P P' : Array Value} {T T' : TypeId} {W0 W W' : World}
theorem TS.to (h : TS B P T B' P' T' N W0 W) (hN : N ≤ W0.heap.size) (hb : Below W.heap.size W W') : TS B P T B' P' T' N W0 W' := ⟨h.k1.to hb, h.k2.to hb, h.b.trans (hb.mono (Nat.le_trans hN h.b.size))⟩
theorem TS.gr (h : TS B P T B' P' T' N W0 W) (hN : N ≤ W0.heap.size) {A : Option Addr} (ho : ∀ k, ownBlk A = some k → N ≤ k) (hg : W.grownBy W' (ownBlk A)) (h1 : ownBlk A ≠ some B) (h2 : ownBlk A ≠ some B') : TS B P T B' P' T' N W0 W' :=
  ⟨⟨(hg.block _ h.k1.lt (fun e => h1 e.symm)).trans h.k1.at_⟩, ⟨(hg.block _ h.k2.lt (fun e => h2 e.symm)).trans h.k2.at_⟩, h.b.grown hg (Nat.le_trans hN h.b.size) ho⟩
end
theorem blk_grown {W W' : World} {g : Nat} {P : Array Value} {T : TypeId} {A : Option Addr} (k : Blk W g P T) (hg : W.grownBy W' (ownBlk A)) (hne : ownBlk A ≠ some g) : Blk W' g P T := ⟨(hg.block _ k.lt (fun e => hne e.symm)).trans k.at_⟩
def tailF (a : AskP) : List (Int × Nat) := [(a.pr, 1), (0, 3), (a.port, 2), (a.outer, 2)]
def tailL (a : AskP) : List Int := a.no ++ putL (tailF a) ++ mapL a.addr
theorem tailL_len {a : AskP} (h : AskOk a) : (tailL a).length = 36 := by simp [tailL, tailF, putL, digL_length, (mapL_six a.addr).len, h.ln]
def TailOut (base : Nat) (w : World) (n : Nat) (xs : List Int) (e : Ending) (w' : World) : Prop := ∃ A2 c2, e = .returned (.slice A2 n c2) ∧ OB w' base A2 n c2 xs ∧ Below base w w'
theorem tail_fits {a : AskP} (h : mayB a = true) : ∀ p ∈ tailF a, fitsP p.1 (p.2 : Int) := by
  obtain ⟨h1, h2, h3, h4, h5⟩ := mayB_iff h
  intro p hp
  simp only [tailF, List.mem_cons, List.not_mem_nil, or_false] at hp
  rcases hp with rfl | rfl | rfl | rfl
  · exact h2
  · exact ⟨by decide, by decide, by decide⟩
  · exact h3
  · exact h4
set_option maxRecDepth 100000 in
set_option maxHeartbeats 2000000 in
theorem Tail_any (P : Array Value) (a : AskP) (h : KA P a) (hmay : mayB a = true) (A : Option Addr) (n c : Nat) (bs : List Int) (base : Nat) (w : World) (ho : OB w base A n c bs) (hbs : base ≤ w.heap.size) (hn : n ≤ 500) :
    Calls Try.prog 78 #[.agg P, .slice A n c] w (TailOut base w (n + 36) (bs ++ tailL a)) := by
  have hk := Blk.new w P 51
  have hb := Lib.hid ((Below.refl _ w).alloc (Nat.le_refl _) (.cells P 51))
  have c32 := hk.cell 32 _ h.h32
  have hfit := Lib.hid (tail_fits hmay)
  have hsix := Lib.hid (mapL_six a.addr)
  have hM := Lib.hid (fun W => Mapped_any a.addr W)
  have hcell := Lib.hid (fun W (k : Blk W w.heap.size P 51) => show W.cell? ⟨w.heap.size, 29, none⟩ = some (.int .i64 a.pr) ∧ W.cell? ⟨w.heap.size, 30, none⟩ = some (.int .i64 a.port) ∧ W.cell? ⟨w.heap.size, 31, none⟩ = some (.int .i64 a.outer) from ⟨k.cell 29 _ h.h29, k.cell 30 _ h.h30, k.cell 31 _ h.h31⟩)
  have hnon := Lib.hid (fun W (k : Blk W w.heap.size P 51) => h.rbn (off := 0) k.lt (fun j v hj => by rw [Nat.zero_add]; exact k.cell j v hj))
  have hno := Lib.hid (show a.no.length = 12 from h.ok.ln)
  have htl := Lib.hid (show tailL a = a.no ++ putL (tailF a) ++ mapL a.addr from rfl)
  have hfl := Lib.hid (show (putL (tailF a)).length = 8 by simp [tailF, putL, digL_length])
  replace hk := Lib.hid hk
  replace ho := Lib.hid ho
  have hA1 := Lib.hid (fun k (hk : ownBlk A = some k) => ho.out.blk hk)
  clear h hmay
  generalize mapL a.addr = M at *
  go_enter Try.func78, Try.ntmps78
  go_wp2_with (first
    | (go_at_call 26; refine (hM.out _).mono ?_; rintro e w1 ⟨rfl, hB1⟩; have hk1 := Lib.hid (hk.out.to hB1); have hb1 := Lib.hid (hb.out.trans (hB1.mono hb.out.size)); clear hB1)
    | (refine wpList_store_S6 rfl (.tmp 5) (.tmp 8) rfl w1.heap.size (cells6 M) rfl rfl z6c (Blk.new w1 z6c 44) rfl (by simp [u8s_length, hsix.out.len]) (u8s_all M) ?_)
    | fail)
  obtain ⟨W0, hW0⟩ : ∃ W0, (w1.alloc (.cells z6c 44)).setRow w1.heap.size (cells6 M) = W0 := ⟨_, rfl⟩
  have hlt := Lib.hid (show w.heap.size < w1.heap.size from hk1.out.lt)
  have k20 : Blk W0 w1.heap.size (cells6 M) 44 := by rw [← hW0]; exact ⟨setRow_heap _ _ _ _ _ _ (Blk.new w1 z6c 44).at_⟩
  have hbb : Below w1.heap.size w1 W0 := by rw [← hW0]; exact below_row ((Below.refl _ w1).alloc (Nat.le_refl _) _) (Nat.le_refl _) _
  have k10 : Blk W0 w.heap.size P 51 := hk1.out.to hbb
  have hb2 : Below w.heap.size w W0 := hb1.out.trans (hbb.mono (Nat.le_of_lt hlt.out))
  have hO := Lib.hid (ho.out.below hb2)
  have hN0 := Lib.hid (show base ≤ W0.heap.size from Nat.le_trans hbs hb2.size)
  have hT0 := Lib.hid (show TS w.heap.size P 51 w1.heap.size (cells6 M) 44 base W0 W0 from ⟨k10, k20, Below.refl _ _⟩)
  have hB2 := Lib.hid (hb2.mono hbs)
  have hwW := Lib.hid hb2.size
  have hnA := Lib.hid (show ownBlk A ≠ some w.heap.size from fun e => by have := (hA1.out _ e).2; omega)
  have hnB := Lib.hid (show ownBlk A ≠ some w1.heap.size from fun e => by have := (hA1.out _ e).2; have := hlt.out; omega)
  rw [hW0]
  have hF := Lib.hid (fun W (h : TS w.heap.size P 51 w1.heap.size (cells6 M) 44 base W0 W) => show ((W.cell? ⟨w.heap.size, 29, none⟩ = some (.int .i64 a.pr) ∧ W.cell? ⟨w.heap.size, 30, none⟩ = some (.int .i64 a.port) ∧ W.cell? ⟨w.heap.size, 31, none⟩ = some (.int .i64 a.outer)) ∧ TS w.heap.size P 51 w1.heap.size (cells6 M) 44 base W0 W) from ⟨hcell.out _ h.k1, h⟩)
  have hS0 := Lib.hid (hF.out _ (hT0.out.to hN0.out (Below.refl _ _).drew))
  have hto := Lib.hid (fun W W' (h : ((W.cell? ⟨w.heap.size, 29, none⟩ = some (.int .i64 a.pr) ∧ W.cell? ⟨w.heap.size, 30, none⟩ = some (.int .i64 a.port) ∧ W.cell? ⟨w.heap.size, 31, none⟩ = some (.int .i64 a.outer)) ∧ TS w.heap.size P 51 w1.heap.size (cells6 M) 44 base W0 W)) (hb : Below W.heap.size W W') => hF.out W' (h.2.to hN0.out hb))
  have hal := Lib.hid (fun W o (h : ((W.cell? ⟨w.heap.size, 29, none⟩ = some (.int .i64 a.pr) ∧ W.cell? ⟨w.heap.size, 30, none⟩ = some (.int .i64 a.port) ∧ W.cell? ⟨w.heap.size, 31, none⟩ = some (.int .i64 a.outer)) ∧ TS w.heap.size P 51 w1.heap.size (cells6 M) 44 base W0 W)) => hF.out _ (h.2.to hN0.out ((Below.refl _ W).alloc (Nat.le_refl _) o)))
  have hgr := Lib.hid (fun W W' (h : ((W.cell? ⟨w.heap.size, 29, none⟩ = some (.int .i64 a.pr) ∧ W.cell? ⟨w.heap.size, 30, none⟩ = some (.int .i64 a.port) ∧ W.cell? ⟨w.heap.size, 31, none⟩ = some (.int .i64 a.outer)) ∧ TS w.heap.size P 51 w1.heap.size (cells6 M) 44 base W0 W)) (hg : W.grownBy W' (ownBlk A)) => hF.out W' (h.2.gr hN0.out (fun k hk => (hA1.out k hk).1) hg hnA.out hnB.out))
  have hno2 := Lib.hid (fun W (h : ((W.cell? ⟨w.heap.size, 29, none⟩ = some (.int .i64 a.pr) ∧ W.cell? ⟨w.heap.size, 30, none⟩ = some (.int .i64 a.port) ∧ W.cell? ⟨w.heap.size, 31, none⟩ = some (.int .i64 a.outer)) ∧ TS w.heap.size P 51 w1.heap.size (cells6 M) 44 base W0 W)) => hnon.out W h.2.k1)
  have hle := Lib.hid (fun W (h : ((W.cell? ⟨w.heap.size, 29, none⟩ = some (.int .i64 a.pr) ∧ W.cell? ⟨w.heap.size, 30, none⟩ = some (.int .i64 a.port) ∧ W.cell? ⟨w.heap.size, 31, none⟩ = some (.int .i64 a.outer)) ∧ TS w.heap.size P 51 w1.heap.size (cells6 M) 44 base W0 W)) => Nat.le_trans hN0.out h.2.b.size)
  clear hW0 k20 hbb k10 hb2 c32
  replace ho := 0
  have hnL := Lib.hid (show ownBlk A ≠ some W0.heap.size from fun e => by have := (hA1.out _ e).2; have := hwW.out; omega)
  have hFA := Lib.hid (fun (W : World) => show FR (W.alloc (.cells #[.int .i64 a.pr, .int .i64 1, .int .i64 0, .int .i64 3, .int .i64 a.port, .int .i64 2, .int .i64 a.outer, .int .i64 2] 116)) (some ⟨W.heap.size, 0, none⟩) 4 4 (tailF a) from FR.at_ W 116 (tailF a) _ rfl)
  have hFB := Lib.hid (fun (W : World) (hg : ∀ (g : Nat) (P' : Array Value) (T : TypeId), Blk (W0.alloc (.cells #[.int .i64 a.pr, .int .i64 1, .int .i64 0, .int .i64 3, .int .i64 a.port, .int .i64 2, .int .i64 a.outer, .int .i64 2] 116)).drew g P' T → ownBlk A ≠ some g → Blk W g P' T) => show FR W (some ⟨W0.heap.size, 0, none⟩) 4 4 (tailF a) from FR.blk (l := tailF a) (hg _ _ _ (Blk.new W0 _ _).drew hnL.out))
  have hFC := Lib.hid (fun (W : World) (hg : ∀ (g : Nat) (P' : Array Value) (T : TypeId), Blk (W0.drew.alloc (.cells #[.int .i64 a.pr, .int .i64 1, .int .i64 0, .int .i64 3, .int .i64 a.port, .int .i64 2, .int .i64 a.outer, .int .i64 2] 116)) g P' T → ownBlk A ≠ some g → Blk W g P' T) => show FR W (some ⟨W0.heap.size, 0, none⟩) 4 4 (tailF a) from FR.blk (l := tailF a) (hg _ _ _ (Blk.new W0.drew _ _) hnL.out))
  have hl8 := Lib.hid (show n + 12 + (putL (tailF a)).length = n + 20 by rw [hfl.out])
  simp only [Act.put]
  go_region_held3 (fun W => (W.cell? ⟨w.heap.size, 29, none⟩ = some (.int .i64 a.pr) ∧ W.cell? ⟨w.heap.size, 30, none⟩ = some (.int .i64 a.port) ∧ W.cell? ⟨w.heap.size, 31, none⟩ = some (.int .i64 a.outer)) ∧ TS w.heap.size P 51 w1.heap.size (cells6 M) 44 base W0 W)
    (first | assumption | exact hS0.out | exact hal.out _ _ (by assumption))
    (first
    | ((refine step_append_bytes (A := A) (n := n) (c := c) (A' := some ⟨w.heap.size, 0 + 17, none⟩) (m := 12) (c' := 12) (base := base) (bs := bs) (ys := a.no) rfl (.tmp 9) (.tmp 11) rfl rfl rfl ?_ ?_ ?_ ?_ ?_); (first | with_reducible exact hO.out.drew | with_reducible exact (hO.out.alloc _).drew | with_reducible exact hO.out.drew.alloc _); (refine hno2.out _ ?_; assumption); omega; (refine hle.out _ ?_; assumption); intro A3 c3 w3 ho3 hg3 hr3; (have hS3 := hgr.out _ w3 ‹_› hg3); have hG3 := Lib.hid (fun (g : Nat) (P' : Array Value) (T : TypeId) k (hne : ownBlk A ≠ some g) => blk_grown (P := P') (T := T) k hg3 hne); replace ho3 := Lib.hid ho3; clear hg3 hr3)
    | (go_at_call 77; (refine Calls.mono (PutL_any A3 (n + 12) c3 (bs ++ a.no) _ 4 4 (tailF a) _ ?_ ?_ ?_ ?_ ?_ hfit.out) ?_); (first | with_reducible exact ho3.out.rb | with_reducible exact (ho3.out.alloc _).rb | with_reducible exact (ho3.out.alloc _).drew.rb); (first | with_reducible exact hFA.out w3 | with_reducible exact hFB.out _ hG3.out | with_reducible exact hFC.out _ hG3.out); omega; decide; decide; rintro e w4 ⟨A4, c4, rfl, ho4, hB4⟩; (have hS4 := hto.out _ _ (by assumption) hB4); (replace ho4 := Lib.hid (ho4.mono (hle.out _ (by assumption)))); clear hB4)
    | fail)
  all_goals
    rw [hl8.out] at ho4 ⊢
    have hM16 := Lib.hid (rb_box hS4.2.k2 hsix.out)
    have hle4 := Lib.hid (hle.out _ hS4)
    have hb4 := Lib.hid (hB2.out.trans hS4.2.b)
    clear hS3 hS4
    go_wp2_with (first
      | (at_builtin; refine wpList_append_bytes _ rfl (.tmp 25) (.tmp 26) rfl rfl rfl ho4.out hM16.out (by omega) hle4.out ?_; intro A5 c5 w5 ho5 hg5 hr5)
      | fail)
    go_ret
    exact ⟨A5, c5, by first | rfl | simp, by rw [htl.out]; simpa using ho5, hb4.out.grown hg5 hle4.out (fun k hk => (ho4.out.blk hk).1)⟩
end Go.Proofs.Ytldjecilmcnpiaa
