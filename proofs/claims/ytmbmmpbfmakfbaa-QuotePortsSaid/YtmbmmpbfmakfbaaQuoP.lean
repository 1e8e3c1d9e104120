/- What is quoted (quote): walks of open, num, ports. -/
import Derived.Test.YtmbmmpbfmakfbaaQuoA
import Derived.Test.YtmbmmpbfmakfbaaV4L
import Derived.Maps.OwnOps
import Derived.Test.YtmbmmpbfmakfbaaAppend
import Derived.Test.YtmbmmpbfmakfbaaSeq
import Derived.Test.YtmbmmpbfmakfbaaTame
import Derived.Laws.CopyOwn
import Derived.LoopN
set_option linter.unusedVariables false
namespace Go.Proofs.Ytmbmmpbfmakfbaa
open Go Go.RowKit
attribute [local go_sem] Oper.semAt_some

abbrev cellsQd (B : Option Addr) (nb cb : Nat) (p : V4P) (Ao : Option Addr) (no co : Nat) (A : Option Addr) (n c : Nat) (h : Int) : Array Value :=
  #[.slice B nb cb, .int .i64 p.tos, .int .i64 p.id, .int .i64 p.off, .int .i64 p.ttl, .int .i64 p.pr, .int .i64 p.src, .int .i64 p.dst, .bool p.df, .bool p.mf, .slice Ao no co, .slice A n c, .int .i64 h]
abbrev zeroQd : Array Value := #[.slice none 0 0, .int .i64 0, .int .i64 0, .int .i64 0, .int .i64 0, .int .i64 0, .int .i64 0, .int .i64 0, .bool false, .bool false, .slice none 0 0, .slice none 0 0, .int .i64 0]
theorem info_qd : (Try.prog.info? 57).map (·.size) = some 13 := by kernel_rfl
theorem run_load_QD {W : World} {B : Nat} {cs : Array Value} (h : Blk W B cs 57) (hs : cs.size = 13) : (loadVar 57 ⟨B, 0, none⟩).run Try.prog W = .ok (.agg cs) W :=
  run_loadVar_row W B 57 57 cs _ _ h.at_ Try.underlying57 rfl (by rw [info_qd, hs])
theorem wpList_load_QD {ops : Array Oper} {rest : List Oper} {op : Oper} {a : Act} {W : World} {Q : Exit → Act → World → Prop} (hgd : Region.wanted op (yielded ops a.tmps) = true) (x : Operand) (ho : op.op = .load 57 x)
    (g : Nat) (hx : a.eval x = .pointer (some ⟨g, 0, none⟩)) (cs : Array Value) (hk : Blk W g cs 57) (hs : cs.size = 13)
    (h : wpList Try.prog ops Q rest (a.put op.dst (.agg cs)) W) : wpList Try.prog ops Q (op :: rest) a W :=
  BigFrame.wpList_want hgd fun _ hK => by
    unfold Oper.wp execOp
    simp only [ho, hx, Instr.loadAt, Instr.sureAddr, Sem.run_bind, Sem.run_pure, Result.andThen_ok, run_load_QD hk hs]
    exact hK _ _ h
theorem wpList_store_QD {ops : Array Oper} {rest : List Oper} {op : Oper} {a : Act} {W : World} {Q : Exit → Act → World → Prop} (hgd : op.guard = none) (x y : Operand) (ho : op.op = .store 57 x y)
    (g : Nat) (cells : Array Value) (hx : a.eval x = .pointer (some ⟨g, 0, none⟩)) (hy : a.eval y = .agg cells) (old : Array Value) (hk : Blk W g old 57) (ho' : old.size = 13) (hs : cells.size = 13) (h1 : cells.all (·.oneCell') = true)
    (h : wpList Try.prog ops Q rest (a.put op.dst undef) (W.setRow g cells)) : wpList Try.prog ops Q (op :: rest) a W :=
  wpList_store_row hgd 57 x y ho g cells hx hy 57 old hk.at_ (by rw [info_qd, hs]) (by rw [ho', hs]) h1 h
theorem one_qd (B : Option Addr) (nb cb : Nat) (p : V4P) (Ao : Option Addr) (no co : Nat) (A : Option Addr) (n c : Nat) (h : Int) : (cellsQd B nb cb p Ao no co A n c h).all (·.oneCell') = true := by simp [cellsQd, Value.oneCell']
theorem built_qd (B : Option Addr) (nb cb : Nat) (p : V4P) (Ao : Option Addr) (no co : Nat) (A : Option Addr) (n c : Nat) (h : Int) : Try.prog.built 57 [(0, .slice B nb cb), (1, .agg (cells4 p Ao no co A n c)), (2, .int .i64 h)] = some (cellsQd B nb cb p Ao no co A n c h) := by kernel_rfl
theorem nbcQd {X : World} {g : Nat} {B : Option Addr} {nb cb : Nat} {p : V4P} {Ao : Option Addr} {no co : Nat} {A : Option Addr} {n c : Nat} {h : Int} (k : Blk X g (cellsQd B nb cb p Ao no co A n c h) 57) : ∀ j x, X.cell? ⟨g, j, none⟩ ≠ some (.int .u8 x) := k.nobytes (fun u hu x => by simp at hu; rcases hu with rfl | rfl | rfl | rfl | rfl | rfl | rfl | rfl | rfl | rfl | rfl | rfl | rfl <;> simp)
/-- What bytes quote, and a code. -/
def QdOut (w : World) (B : Option Addr) (nb cb : Nat) (p : V4P) (h k : Int) (e : Ending) (w' : World) : Prop :=
  ∃ Ao no co A n c, e = .returned (.tuple #[.agg (cellsQd B nb cb p Ao no co A n c h), .int .i64 k]) ∧ RB w' Ao no co p.opts ∧ RB w' A n c p.data ∧ Below w.heap.size w w'
set_option maxRecDepth 100000 in
set_option maxHeartbeats 4000000 in
theorem QOpen_bad (A : Option Addr) (n c : Nat) (bs : List Int) (w : World) (h : RB w A n c bs) (hn : n ≤ 100000) (hk : codeQo bs ≠ 0) :
    Calls Try.prog 31 #[.slice A n c] w fun e w' => e = .returned (.tuple #[.agg zeroQd, .int .i64 (codeQo bs)]) ∧ Below w.heap.size w w' := by
  obtain ⟨w0, hw0⟩ : ∃ w0, w.alloc (.cells zeroQd 57) = w0 := ⟨_, rfl⟩
  have hb := Lib.hid (show Below w.heap.size w w0 by rw [← hw0]; exact (Below.refl _ w).alloc (Nat.le_refl _) _)
  have kZ := Lib.hid (show Blk w0 w.heap.size zeroQd 57 by rw [← hw0]; exact blk_at rfl)
  have hP := fun W (hW : Below w.heap.size w W) => Quoted4_any A n c bs W (h.below hW) hn
  unfold V4Out at hP
  replace hw0 := Lib.hid hw0
  clear h
  by_cases hv : codeV4 true bs = 0
  rotate_left
  · have hQ : codeQo bs = codeV4 true bs := by unfold codeQo; rw [if_pos hv]
    rw [hQ]
    have hvn : (codeV4 true bs != 0) = true := by simpa using hv
    generalize codeV4 true bs = kk at *
    generalize readV4 true bs = p at *
    replace hP := Lib.hid hP
    clear hQ hk hv
    go_enter Try.func31, Try.ntmps31
    go_upto_region 1 with fail
    rw [hw0.out]
    go_wp2_with (first
      | (go_at_call 56; refine (hP.out _ hb.out).mono ?_; rintro e w1 ⟨Ao, no, co, A1, n1, c1, rfl, ho1, hd1, hB1⟩; have hy := hB1.alloc hB1.size (.cells (cells4 p Ao no co A1 n1 c1) 32); have hb1 := Lib.hid (hb.out.trans (hy.mono hb.out.size)); have kZ1 := Lib.hid (kZ.out.to hy); have kP1 := Blk.new w1 (cells4 p Ao no co A1 n1 c1) 32; have p2 := kP1.cell 2 (.int .i64 p.off) rfl; have p10 := kP1.cell 10 (.slice A1 n1 c1) rfl; have ro1 := Lib.hid (ho1.rb.alloc (.cells (cells4 p Ao no co A1 n1 c1) 32)); have rd1 := Lib.hid (hd1.rb.alloc (.cells (cells4 p Ao no co A1 n1 c1) 32)); have hs1 := Lib.hid hB1.size; replace kP1 := Lib.hid kP1; replace hB1 := 0; clear ho1 hd1 hy)
      | (refine wpList_store_4 rfl (.tmp 4) (.tmp 9) rfl w1.heap.size (cells4 p Ao no co A1 n1 c1) rfl rfl _ (Blk.new _ zero4c 32) rfl rfl (one4 _ _ _ _ _ _ _) ?_; rw [World.setRow_alloc_new])
      | (refine wpList_store_QD rfl (.tmp 2) (.tmp 14) rfl w.heap.size zeroQd rfl rfl _ kZ1.out rfl rfl (one_qd none 0 0 zero4 none 0 0 none 0 0 0) ?_; rw [setRow_self _ _ _ _ _ kZ1.out.at_])
      | fail)
    refine bodyPost_ret (results_ct Try.results31 rfl (run_load_QD kZ1.out rfl)) rfl ?_
    exact ⟨rfl, hb1.out⟩
  have hvn : (codeV4 true bs != 0) = false := by simpa using hv
  by_cases h1 : 0 < (readV4 true bs).off
  · have hQ : codeQo bs = 4 := by unfold codeQo; rw [if_neg (fun g => g hv), if_pos h1]
    rw [hQ]
    rw [hv] at hP
    generalize readV4 true bs = p at *
    replace hP := Lib.hid hP
    clear hQ hk hv hvn
    go_enter Try.func31, Try.ntmps31
    go_upto_region 1 with fail
    rw [hw0.out]
    go_wp2_with (first
      | (go_at_call 56; refine (hP.out _ hb.out).mono ?_; rintro e w1 ⟨Ao, no, co, A1, n1, c1, rfl, ho1, hd1, hB1⟩; have hy := hB1.alloc hB1.size (.cells (cells4 p Ao no co A1 n1 c1) 32); have hb1 := Lib.hid (hb.out.trans (hy.mono hb.out.size)); have kZ1 := Lib.hid (kZ.out.to hy); have kP1 := Blk.new w1 (cells4 p Ao no co A1 n1 c1) 32; have p2 := kP1.cell 2 (.int .i64 p.off) rfl; have p10 := kP1.cell 10 (.slice A1 n1 c1) rfl; have ro1 := Lib.hid (ho1.rb.alloc (.cells (cells4 p Ao no co A1 n1 c1) 32)); have rd1 := Lib.hid (hd1.rb.alloc (.cells (cells4 p Ao no co A1 n1 c1) 32)); have hs1 := Lib.hid hB1.size; replace kP1 := Lib.hid kP1; replace hB1 := 0; clear ho1 hd1 hy)
      | (refine wpList_store_4 rfl (.tmp 4) (.tmp 9) rfl w1.heap.size (cells4 p Ao no co A1 n1 c1) rfl rfl _ (Blk.new _ zero4c 32) rfl rfl (one4 _ _ _ _ _ _ _) ?_; rw [World.setRow_alloc_new])
      | (refine wpList_store_QD rfl (.tmp 2) (.tmp 20) rfl w.heap.size zeroQd rfl rfl _ kZ1.out rfl rfl (one_qd none 0 0 zero4 none 0 0 none 0 0 0) ?_; rw [setRow_self _ _ _ _ _ kZ1.out.at_])
      | fail)
    refine bodyPost_ret (results_ct Try.results31 rfl (run_load_QD kZ1.out rfl)) rfl ?_
    exact ⟨rfl, hb1.out⟩
  have h2 : (readV4 true bs).data.length < 8 := by
    unfold codeQo at hk
    rw [if_neg (fun g => g hv), if_neg h1] at hk
    by_cases h2 : (readV4 true bs).data.length < 8
    · exact h2
    · rw [if_neg h2] at hk; exact absurd rfl hk
  have hQ : codeQo bs = 3 := by unfold codeQo; rw [if_neg (fun g => g hv), if_neg h1, if_pos h2]
  rw [hQ]
  rw [hv] at hP
  generalize readV4 true bs = p at *
  replace hP := Lib.hid hP
  clear hQ hk hv hvn
  go_enter Try.func31, Try.ntmps31
  go_upto_region 1 with fail
  rw [hw0.out]
  go_upto_region 6 with (first
    | (go_at_call 56; refine (hP.out _ hb.out).mono ?_; rintro e w1 ⟨Ao, no, co, A1, n1, c1, rfl, ho1, hd1, hB1⟩; have hy := hB1.alloc hB1.size (.cells (cells4 p Ao no co A1 n1 c1) 32); have hb1 := Lib.hid (hb.out.trans (hy.mono hb.out.size)); have kZ1 := Lib.hid (kZ.out.to hy); have kP1 := Blk.new w1 (cells4 p Ao no co A1 n1 c1) 32; have p2 := kP1.cell 2 (.int .i64 p.off) rfl; have p10 := kP1.cell 10 (.slice A1 n1 c1) rfl; have ro1 := Lib.hid (ho1.rb.alloc (.cells (cells4 p Ao no co A1 n1 c1) 32)); have rd1 := Lib.hid (hd1.rb.alloc (.cells (cells4 p Ao no co A1 n1 c1) 32)); have hs1 := Lib.hid hB1.size; replace kP1 := Lib.hid kP1; replace hB1 := 0; clear ho1 hd1 hy)
    | (refine wpList_store_4 rfl (.tmp 4) (.tmp 9) rfl w1.heap.size (cells4 p Ao no co A1 n1 c1) rfl rfl _ (Blk.new _ zero4c 32) rfl rfl (one4 _ _ _ _ _ _ _) ?_; rw [World.setRow_alloc_new])
    | fail)
  have hn1 := rd1.out.len
  have h8 : (n1 : Int) < 8 := by omega
  clear hn1
  go_wp2_with (first
    | (refine wpList_store_QD rfl (.tmp 2) (.tmp 26) rfl w.heap.size zeroQd rfl rfl _ kZ1.out rfl rfl (one_qd none 0 0 zero4 none 0 0 none 0 0 0) ?_; rw [setRow_self _ _ _ _ _ kZ1.out.at_])
    | fail)
  refine bodyPost_ret (results_ct Try.results31 rfl (run_load_QD kZ1.out rfl)) rfl ?_
  exact ⟨rfl, hb1.out⟩
set_option maxRecDepth 100000 in
set_option maxHeartbeats 4000000 in
theorem QOpen_good (A : Option Addr) (n c : Nat) (bs : List Int) (w : World) (h : RB w A n c bs) (hn : n ≤ 100000) (hk : codeQo bs = 0) :
    Calls Try.prog 31 #[.slice A n c] w (QdOut w A n c (readV4 true bs) (hdQ bs : Int) 0) := by
  obtain ⟨w0, hw0⟩ : ∃ w0, w.alloc (.cells zeroQd 57) = w0 := ⟨_, rfl⟩
  have hb := Lib.hid (show Below w.heap.size w w0 by rw [← hw0]; exact (Below.refl _ w).alloc (Nat.le_refl _) _)
  have kZ := Lib.hid (show Blk w0 w.heap.size zeroQd 57 by rw [← hw0]; exact blk_at rfl)
  have hP := fun W (hW : Below w.heap.size w W) => Quoted4_any A n c bs W (h.below hW) hn
  unfold V4Out at hP
  replace hw0 := Lib.hid hw0
  have hlen := h.len
  have hv : codeV4 true bs = 0 := by
    unfold codeQo at hk
    by_cases h : codeV4 true bs = 0
    · exact h
    · rw [if_pos h] at hk; exact absurd hk h
  obtain ⟨h1, h2⟩ : ¬ 0 < (readV4 true bs).off ∧ ¬ (readV4 true bs).data.length < 8 := by
    unfold codeQo at hk
    rw [if_neg (fun g => g hv)] at hk
    by_cases h1 : 0 < (readV4 true bs).off
    · rw [if_pos h1] at hk; cases hk
    · rw [if_neg h1] at hk
      by_cases h2 : (readV4 true bs).data.length < 8
      · rw [if_pos h2] at hk; cases hk
      · exact ⟨h1, h2⟩
  have hol : (readV4 true bs).opts.length ≤ 100000 := by
    have e : readV4 true bs = pack4 bs := by unfold readV4; rw [if_pos hv]
    rw [e]
    show ((bs.take (hd4 bs)).drop 20).length ≤ _
    rw [List.length_drop, List.length_take]; omega
  have hhd : hdQ bs = 20 + (readV4 true bs).opts.length := rfl
  rw [hv] at hP
  generalize readV4 true bs = p at *
  generalize hdQ bs = hh at *
  replace hP := Lib.hid hP
  have hHd := Lib.hid (fun Ao no co A n c W (h1 : RB W Ao no co p.opts) => show Calls Try.prog 57 #[.agg (cells4 p Ao no co A n c)] W fun e w' => e = .returned (.int .i64 (hh : Int)) ∧ Below W.heap.size W w' from by
    have hl := h1.len
    have := Head4_any p Ao no co A n c W (by omega)
    rw [show (20 + (no : Int)) = (hh : Int) by omega] at this
    exact this)
  clear hk hv hlen hol hhd h hn
  go_enter Try.func31, Try.ntmps31
  go_upto_region 1 with fail
  rw [hw0.out]
  go_upto_region 6 with (first
    | (go_at_call 56; refine (hP.out _ hb.out).mono ?_; rintro e w1 ⟨Ao, no, co, A1, n1, c1, rfl, ho1, hd1, hB1⟩; have hy := hB1.alloc hB1.size (.cells (cells4 p Ao no co A1 n1 c1) 32); have hb1 := Lib.hid (hb.out.trans (hy.mono hb.out.size)); have kZ1 := Lib.hid (kZ.out.to hy); have kP1 := Blk.new w1 (cells4 p Ao no co A1 n1 c1) 32; have p2 := kP1.cell 2 (.int .i64 p.off) rfl; have p10 := kP1.cell 10 (.slice A1 n1 c1) rfl; have ro1 := Lib.hid (ho1.rb.alloc (.cells (cells4 p Ao no co A1 n1 c1) 32)); have rd1 := Lib.hid (hd1.rb.alloc (.cells (cells4 p Ao no co A1 n1 c1) 32)); have hs1 := Lib.hid hB1.size; replace kP1 := Lib.hid kP1; replace hB1 := 0; clear ho1 hd1 hy)
    | (refine wpList_store_4 rfl (.tmp 4) (.tmp 9) rfl w1.heap.size (cells4 p Ao no co A1 n1 c1) rfl rfl _ (Blk.new _ zero4c 32) rfl rfl (one4 _ _ _ _ _ _ _) ?_; rw [World.setRow_alloc_new])
    | fail)
  have hn1 := rd1.out.len
  have h8 : ¬ (n1 : Int) < 8 := by omega
  clear hn1 h2
  go_upto_region 8 with fail
  have hi := Lib.hid (show (Try.prog.info? 32).map (·.size) = some (cells4 p Ao no co A1 n1 c1).toList.length from info_v4)
  have hSf := Lib.hid (fun W (k : Blk W w1.heap.size (cells4 p Ao no co A1 n1 c1) 32) => show (W.rangeAt w1.heap.size 0 (cells4 p Ao no co A1 n1 c1).toList) ∧ True from ⟨rangeAt_blkQ k, trivial⟩)
  have hz1 := Lib.hid (Below.refl (w1.alloc (.cells (cells4 p Ao no co A1 n1 c1) 32)).heap.size (w1.alloc (.cells (cells4 p Ao no co A1 n1 c1) 32))).drew
  have hS1 := hSf.out _ (kP1.out.to hz1.out)
  have hltz := kZ.out.lt
  have hs1' := hs1.out
  clear p2 p10
  try simp only [Act.put]
  refine wp_region_held_drew (S := fun W => (W.rangeAt w1.heap.size 0 (cells4 p Ao no co A1 n1 c1).toList) ∧ True) (by kernel_rfl) hS1 (fun hHeld => ?_)
  refine take_h (i := 0) (v := ?_) rfl rfl (by kernel_rfl) (by kernel_rfl) (by kernel_rfl) (fun _ _ _ h => h) (Or.inl ⟨by rfl, fun W hSw => ?_⟩) (by assumption) ?_
  rotate_left
  · (clear hSw; go_simp; try with_reducible rfl)
  simp only [Act.put, List.setIfInBounds_toArray, List.set_cons_zero, List.set_cons_succ]
  refine take_h (i := 1) rfl rfl (by kernel_rfl) (by kernel_rfl) (by kernel_rfl) (fun _ _ _ h => h) (yieldsIf_load_mid (by rfl) 32 (.tmp 4) rfl _ _ rfl (cells4 p Ao no co A1 n1 c1).toList _ (fun W hW => hW.1) Try.underlying32 rfl hi.out) (by assumption) ?_
  simp only [Act.put, List.setIfInBounds_toArray, List.set_cons_zero, List.set_cons_succ]
  refine take_h (i := 2) rfl rfl (by kernel_rfl) (by kernel_rfl) (by kernel_rfl) (fun _ _ _ h => h) (yieldsIf_load_mid (by rfl) 32 (.tmp 4) rfl _ _ rfl (cells4 p Ao no co A1 n1 c1).toList _ (fun W hW => hW.1) Try.underlying32 rfl hi.out) (by assumption) ?_
  simp only [Act.put, List.setIfInBounds_toArray, List.set_cons_zero, List.set_cons_succ]
  refine step_h (i := 3) rfl rfl (by kernel_rfl) (fun K hK => ?_)
  go_simp
  refine Calls.mono (hHd.out _ _ _ _ _ _ _ (ro1.out.below hz1.out)) ?_
  rintro e w2 ⟨rfl, hB2⟩
  have hz2 := Lib.hid (hz1.out.trans (hB2.mono hz1.out.size))
  have kP2 := Lib.hid (kP1.out.to hz2.out)
  have hS2 := hSf.out _ kP2.out
  have kZ2 := Lib.hid (kZ1.out.to hz2.out)
  have ro2 := Lib.hid (ro1.out.below hz2.out)
  have rd2 := Lib.hid (rd1.out.below hz2.out)
  have hb2 := Lib.hid (hb1.out.trans (hz2.out.mono hb1.out.size))
  have kP3 := Lib.hid (kP2.out.farRow (show w1.heap.size ≠ w.heap.size by omega) (cellsQd A n c p Ao no co A1 n1 c1 (hh : Int)))
  have hS3 := hSf.out _ kP3.out
  clear hHeld hB2
  go_wp2_with fail
  refine hK.out _ _ hS2 (fun hHeld => ?_)
  clear hK K
  try simp only [Act.put, List.setIfInBounds_toArray, List.set_cons_zero, List.set_cons_succ]
  refine take_h (i := 4) rfl rfl (by kernel_rfl) (by kernel_rfl) (by kernel_rfl) (fun _ _ _ h => h) (yields_built (by rfl) 57 _ rfl ([(0, .slice A n c), (1, .agg (cells4 p Ao no co A1 n1 c1)), (2, .int .i64 (hh : Int))]) rfl _ (built_qd A n c p Ao no co A1 n1 c1 (hh : Int))) (by assumption) ?_
  simp only [Act.put, List.setIfInBounds_toArray, List.set_cons_zero, List.set_cons_succ]
  refine step_h (i := 5) rfl rfl (by kernel_rfl) (fun K hK => ?_)
  rw [if_pos (by rfl)]
  refine wp_store_row 57 (.tmp 2) (.tmp 31) rfl _ (cellsQd A n c p Ao no co A1 n1 c1 (hh : Int)) rfl rfl 57 zeroQd kZ2.out.at_ info_qd rfl (one_qd _ _ _ _ _ _ _ _ _ _ _) ?_
  refine hK.out _ _ hS3 (fun hHeld => ?_)
  clear hK K
  refine take_h (i := 6) (v := ?_) rfl rfl (by kernel_rfl) (by kernel_rfl) (by kernel_rfl) (fun _ _ _ h => h) (Or.inl ⟨by rfl, fun W hSw => ?_⟩) (by assumption) ?_
  rotate_left
  · (clear hSw; go_simp; try with_reducible rfl)
  simp only [Act.put, List.setIfInBounds_toArray, List.set_cons_zero, List.set_cons_succ]
  refine wpAnyH_done (by kernel_rfl) ?_ _
  clear hHeld hS1 hS2 hS3
  try simp only [Act.put]
  go_wp2_with fail
  refine bodyPost_ret (results_ct Try.results31 rfl (run_load_QD (Blk.mk (setRow_heap _ _ _ _ _ _ kZ2.out.at_)) rfl)) rfl ?_
  have nz := nbcQd (B := none) (nb := 0) (cb := 0) (p := zero4) (Ao := none) (no := 0) (co := 0) (A := none) (n := 0) (c := 0) (h := 0) kZ2.out
  exact ⟨Ao, no, co, A1, n1, c1, rfl, ro2.out.farRow nz _, rd2.out.farRow nz _, below_row hb2.out (Nat.le_refl _) _⟩
set_option maxRecDepth 100000 in
set_option maxHeartbeats 1000000 in
theorem QNum_any (B : Option Addr) (nb cb : Nat) (p : V4P) (Ao : Option Addr) (no co : Nat) (A : Option Addr) (n c : Nat) (h : Int) (a : Int) (w : World) (hr : RB w A n c p.data) (hn : n ≤ 100000) :
    Calls Try.prog 58 #[.agg (cellsQd B nb cb p Ao no co A n c h), .int .i64 a] w fun e w' => e = .returned (.int .i64 (getV p.data a 2).1) ∧ Below w.heap.size w w' := by
  have hb := Lib.hid ((Below.refl _ w).alloc (Nat.le_refl _) (.cells (cellsQd B nb cb p Ao no co A n c h) 57))
  have e11 := (Blk.new w (cellsQd B nb cb p Ao no co A n c h) 57).cell 11 (.slice A n c) rfl
  have hG := Lib.hid (Get_any A n c p.data a 2 (w.alloc (.cells (cellsQd B nb cb p Ao no co A n c h) 57)) (hr.alloc _) hn)
  clear hr
  go_enter Try.func58, Try.ntmps58
  go_wp2_with (first
    | (go_at_call 49; refine (hG.out).mono ?_; rintro e w' ⟨rfl, rfl⟩)
    | fail)
  go_ret
  exact ⟨rfl, hb.out⟩
end Go.Proofs.Ytmbmmpbfmakfbaa
/- What is quoted (quote): walks of ports, Ports, sumOf. -/
set_option linter.unusedVariables false
namespace Go.Proofs.Ytmbmmpbfmakfbaa
open Go Go.RowKit
attribute [local go_sem] Oper.semAt_some

set_option maxRecDepth 100000 in
set_option maxHeartbeats 4000000 in
theorem QPortsM_any (B : Option Addr) (nb cb : Nat) (p : V4P) (Ao : Option Addr) (no co : Nat) (A : Option Addr) (n c : Nat) (h : Int) (w : World) (hr : RB w A n c p.data) (hn : n ≤ 100000) (h8 : 8 ≤ n) :
    Calls Try.prog 32 #[.agg (cellsQd B nb cb p Ao no co A n c h)] w fun e w' => e = .returned (.tuple #[.agg (cellsPo (portsX p)), .int .i64 (codeX p)]) ∧ Below w.heap.size w w' := by
  obtain ⟨w0, hw0⟩ : ∃ w0, (w.alloc (.cells (cellsQd B nb cb p Ao no co A n c h) 57)).alloc (.cells (cellsPo (0, 0, 0)) 41) = w0 := ⟨_, rfl⟩
  have hb := Lib.hid (show Below w.heap.size w w0 by rw [← hw0]; exact ((Below.refl _ w).alloc (Nat.le_refl _) _).alloc (by simp) _)
  have kB := Lib.hid (show Blk w0 w.heap.size (cellsQd B nb cb p Ao no co A n c h) 57 by rw [← hw0]; exact (blk_at rfl).alloc _)
  have kZ := Lib.hid (show Blk w0 (w.heap.size + 1) (cellsPo (0, 0, 0)) 41 by rw [← hw0]; exact blk_at (by simp))
  have e5 := kB.out.cell 5 (.int .i64 p.pr) rfl
  have e11 := kB.out.cell 11 (.slice A n c) rfl
  have rd0 := Lib.hid (hr.below hb.out)
  have hlen := hr.len
  replace hw0 := Lib.hid hw0
  clear hr
  by_cases h6 : p.pr = 6 ∨ p.pr = 17
  · have hC := Lib.hid (show codeX p = 0 by unfold codeX; rw [if_pos h6])
    have hX := Lib.hid (show portsX p = (p.pr, (getV p.data 0 2).1, (getV p.data 2 2).1) by unfold portsX; rw [if_pos h6])
    obtain ⟨b6, b17, q6, q17, hbb⟩ : ∃ b6 b17 : Bool, (p.pr == 6) = b6 ∧ (p.pr == 17) = b17 ∧ (b6 = true ∨ (b6 = false ∧ b17 = true)) := by
      rcases h6 with h6 | h6
      · exact ⟨true, false, by simp [h6], by simp [h6], .inl rfl⟩
      · exact ⟨false, true, by simp [h6], by simp [h6], .inr ⟨rfl, rfl⟩⟩
    clear h6 h8 hlen
    rcases hbb with rfl | ⟨rfl, rfl⟩
    all_goals
      go_enter Try.func32, Try.ntmps32
      go_upto_region 1 with fail
      rw [hw0.out]
      go_upto_region 4 with fail
      have hF := Lib.hid (fun W (hW : Below w0.heap.size w0 W) => show W.cell? ⟨w.heap.size, 5, none⟩ = some (.int .i64 p.pr) ∧ W.rangeAt w.heap.size 0 (cellsQd B nb cb p Ao no co A n c h).toList from ⟨(kB.out.to hW).cell 5 _ rfl, rangeAt_blkQ (kB.out.to hW)⟩)
      have hi := Lib.hid (show (Try.prog.info? 57).map (·.size) = some (cellsQd B nb cb p Ao no co A n c h).toList.length from info_qd)
      have hz1 := Lib.hid (Below.refl w0.heap.size w0).drew
      have hS1 := hF.out _ hz1.out
      have hNu := Lib.hid (fun a W (hW : Below w0.heap.size w0 W) => QNum_any B nb cb p Ao no co A n c h a W (rd0.out.below hW) hn)
      clear e5 e11
      try simp only [Act.put]
      refine wp_region_held_drew (S := fun W => W.cell? ⟨w.heap.size, 5, none⟩ = some (.int .i64 p.pr) ∧ W.rangeAt w.heap.size 0 (cellsQd B nb cb p Ao no co A n c h).toList) (by kernel_rfl) hS1 (fun hHeld => ?_)
      refine take_h (i := 0) (v := ?_) rfl rfl (by kernel_rfl) (by kernel_rfl) (by kernel_rfl) (fun _ _ _ h => h) (Or.inl ⟨by rfl, fun W hSw => ?_⟩) (by assumption) ?_
      rotate_left
      · (clear hSw; go_simp; try with_reducible rfl)
      simp only [Act.put, List.setIfInBounds_toArray, List.set_cons_zero, List.set_cons_succ]
      refine take_h (i := 1) (v := ?_) rfl rfl (by kernel_rfl) (by kernel_rfl) (by kernel_rfl) (fun _ _ _ h => h) (Or.inl ⟨by rfl, fun W hSw => ?_⟩) (by assumption) ?_
      rotate_left
      · (clear hSw; go_simp; try with_reducible rfl)
      simp only [Act.put, List.setIfInBounds_toArray, List.set_cons_zero, List.set_cons_succ]
      refine take_h (i := 2) (v := ?_) rfl rfl (by kernel_rfl) (by kernel_rfl) (by kernel_rfl) (fun _ _ _ h => h) (Or.inl ⟨by rfl, fun W hSw => ?_⟩) (by assumption) ?_
      rotate_left
      · (obtain ⟨hs0, _⟩ := hSw; go_simp; try with_reducible rfl)
      simp only [Act.put, List.setIfInBounds_toArray, List.set_cons_zero, List.set_cons_succ]
      refine take_h (i := 3) rfl rfl (by kernel_rfl) (by kernel_rfl) (by kernel_rfl) (fun _ _ _ h => h) (yieldsIf_load_mid (by rfl) 57 (.tmp 1) rfl _ _ rfl (cellsQd B nb cb p Ao no co A n c h).toList _ (fun W hW => hW.2) Try.underlying57 rfl hi.out) (by assumption) ?_
      simp only [Act.put, List.setIfInBounds_toArray, List.set_cons_zero, List.set_cons_succ]
      refine take_h (i := 5) rfl rfl (by kernel_rfl) (by kernel_rfl) (by kernel_rfl) (fun _ _ _ h => h) (yieldsIf_load_mid (by rfl) 57 (.tmp 1) rfl _ _ rfl (cellsQd B nb cb p Ao no co A n c h).toList _ (fun W hW => hW.2) Try.underlying57 rfl hi.out) (by assumption) ?_
      simp only [Act.put, List.setIfInBounds_toArray, List.set_cons_zero, List.set_cons_succ]
      refine step_h (i := 4) rfl rfl (by kernel_rfl) (fun K hK => ?_)
      go_simp
      refine Calls.mono (hNu.out 0 _ hz1.out) ?_
      rintro e w2 ⟨rfl, hB⟩
      have hz2 := Lib.hid (hz1.out.trans (hB.mono hz1.out.size))
      have hS2 := hF.out _ hz2.out
      clear hHeld hB
      go_wp2_with fail
      refine hK.out _ _ hS2 (fun hHeld => ?_)
      clear hK K
      try simp only [Act.put, List.setIfInBounds_toArray, List.set_cons_zero, List.set_cons_succ]
      refine step_h (i := 6) rfl rfl (by kernel_rfl) (fun K hK => ?_)
      go_simp
      refine Calls.mono (hNu.out 2 _ hz2.out) ?_
      rintro e w3 ⟨rfl, hB⟩
      have hz3 := Lib.hid (hz2.out.trans (hB.mono hz2.out.size))
      have hS3 := hF.out _ hz3.out
      clear hHeld hB
      go_wp2_with fail
      refine hK.out _ _ hS3 (fun hHeld => ?_)
      clear hK K
      try simp only [Act.put, List.setIfInBounds_toArray, List.set_cons_zero, List.set_cons_succ]
      refine take_h (i := 7) (v := ?_) rfl rfl (by kernel_rfl) (by kernel_rfl) (by kernel_rfl) (fun _ _ _ h => h) (Or.inl ⟨by rfl, fun W hSw => ?_⟩) (by assumption) ?_
      rotate_left
      · (clear hSw; go_simp; try with_reducible rfl)
      simp only [Act.put, List.setIfInBounds_toArray, List.set_cons_zero, List.set_cons_succ]
      have kZ3 := Lib.hid (kZ.out.to hz3.out)
      have kB3 := kB.out.to hz3.out
      have kB4 := kB3.farRow (show w.heap.size ≠ w.heap.size + 1 by omega) (cellsPo (p.pr, (getV p.data 0 2).1, (getV p.data 2 2).1))
      have hS4 : (w3.setRow (w.heap.size + 1) (cellsPo (p.pr, (getV p.data 0 2).1, (getV p.data 2 2).1))).cell? ⟨w.heap.size, 5, none⟩ = some (.int .i64 p.pr) ∧ (w3.setRow (w.heap.size + 1) (cellsPo (p.pr, (getV p.data 0 2).1, (getV p.data 2 2).1))).rangeAt w.heap.size 0 (cellsQd B nb cb p Ao no co A n c h).toList := ⟨kB4.cell 5 _ rfl, rangeAt_blkQ kB4⟩
      clear kB3 kB4
      refine step_h (i := 8) rfl rfl (by kernel_rfl) (fun K hK => ?_)
      rw [if_pos (by rfl)]
      refine wp_store_row 41 (.tmp 2) (.tmp 17) rfl _ (cellsPo (p.pr, (getV p.data 0 2).1, (getV p.data 2 2).1)) rfl rfl 41 (cellsPo (0, 0, 0)) kZ3.out.at_ info_po rfl (one_po _) ?_
      refine hK.out _ _ hS4 (fun hHeld => ?_)
      clear hK K
      refine take_h (i := 9) (v := ?_) rfl rfl (by kernel_rfl) (by kernel_rfl) (by kernel_rfl) (fun _ _ _ h => h) (Or.inl ⟨by rfl, fun W hSw => ?_⟩) (by assumption) ?_
      rotate_left
      · (clear hSw; go_simp; try with_reducible rfl)
      simp only [Act.put, List.setIfInBounds_toArray, List.set_cons_zero, List.set_cons_succ]
      refine wpAnyH_done (by kernel_rfl) ?_ _
      clear hHeld hS4
      try simp only [Act.put]
      go_wp2_with fail
      refine bodyPost_ret (results_ct Try.results32 rfl (run_load_PO (Blk.mk (setRow_heap _ _ _ _ _ _ kZ3.out.at_)) rfl)) rfl ?_
      exact ⟨by rw [hX.out, hC.out]; rfl, below_row (hb.out.trans (hz3.out.mono hb.out.size)) (Nat.le_succ _) _⟩
  have h6a : ¬ p.pr = 6 := fun g => h6 (.inl g)
  have h6b : ¬ p.pr = 17 := fun g => h6 (.inr g)
  have q6 : (p.pr == 6) = false := by simpa using h6a
  have q17 : (p.pr == 17) = false := by simpa using h6b
  have hXn : codeX p = if qryX p = true then 0 else 8 := by unfold codeX; rw [if_neg h6]
  have hXp : portsX p = if qryX p = true then (1, (getV p.data 4 2).1, (getV p.data 4 2).1) else (0, 0, 0) := by unfold portsX; rw [if_neg h6]
  clear h6 h6a h6b
  by_cases h1p : p.pr = 1
  rotate_left
  · have q1 : (p.pr == 1) = false := by simpa using h1p
    have hq : qryX p = false := by unfold qryX; rw [q1]; rfl
    rw [hq] at hXn hXp
    have hC := Lib.hid hXn
    have hX := Lib.hid hXp
    clear hXn hXp hq h1p h8 hlen
    go_enter Try.func32, Try.ntmps32
    go_upto_region 1 with fail
    rw [hw0.out]
    go_wp2_with (first
      | (refine wpList_store_PO rfl (.tmp 2) (.tmp 32) rfl (w.heap.size + 1) (cellsPo (0, 0, 0)) rfl rfl _ kZ.out rfl rfl (one_po _) ?_; rw [setRow_self _ _ _ _ _ kZ.out.at_])
      | fail)
    refine bodyPost_ret (results_ct Try.results32 rfl (run_load_PO kZ.out rfl)) rfl ?_
    exact ⟨by rw [hX.out, hC.out]; rfl, hb.out⟩
  have q1 : (p.pr == 1) = true := by simpa using h1p
  have hqx : qryX p = queryI (p.data[0]?.getD 0) := by unfold qryX; rw [q1]; rfl
  obtain ⟨x0, hx0⟩ : ∃ x0, p.data[0]?.getD 0 = x0 := ⟨_, rfl⟩
  rw [hx0] at hqx
  have hQy := fun W => Query_any x0 W
  obtain ⟨b, off, rfl, hbl, hcc⟩ := rd0.out.mem (by omega)
  have c0 := hcc 0 (by omega)
  rw [Nat.add_zero, hx0] at c0
  have wx0 : IntKind.i64.wrap x0 = x0 := by
    have y0 := rd0.out.byt.get 0
    rw [hx0] at y0
    rw [IntKind.wrap_i64]; omega
  have i0 : (0 : Int) < n := by omega
  have j0 : 0 < n := by omega
  clear hcc hx0 h8 hlen h1p
  have hbl' := Lib.hid hbl
  cases hqq : queryI x0
  · rw [hqq] at hqx hQy
    rw [hqx] at hXn hXp
    have hC := Lib.hid hXn
    have hX := Lib.hid hXp
    replace hQy := Lib.hid hQy
    clear hXn hXp hqq hqx hbl
    go_enter Try.func32, Try.ntmps32
    go_upto_region 1 with fail
    rw [hw0.out]
    go_wp2_with (first
      | (go_at_call 59; refine (hQy.out _).mono ?_; rintro e w3 ⟨rfl, hB3⟩; have kZ3 := Lib.hid (kZ.out.to hB3); have hb3 := Lib.hid (hb.out.trans (hB3.mono hb.out.size)); replace hB3 := 0)
      | (refine wpList_store_PO rfl (.tmp 2) (.tmp 32) rfl (w.heap.size + 1) (cellsPo (0, 0, 0)) rfl rfl _ kZ3.out rfl rfl (one_po _) ?_; rw [setRow_self _ _ _ _ _ kZ3.out.at_])
      | fail)
    refine bodyPost_ret (results_ct Try.results32 rfl (run_load_PO kZ3.out rfl)) rfl ?_
    exact ⟨by rw [hX.out, hC.out]; rfl, hb3.out⟩
  · rw [hqq] at hqx hQy
    rw [hqx] at hXn hXp
    have hC := Lib.hid (hXn.trans (if_pos rfl))
    have hX := Lib.hid (hXp.trans (if_pos rfl))
    replace hQy := Lib.hid hQy
    clear hXn hXp hqq hqx hbl
    go_enter Try.func32, Try.ntmps32
    go_upto_region 1 with fail
    rw [hw0.out]
    go_upto_region 7 with (first
      | (go_at_call 59; refine (hQy.out _).mono ?_; rintro e w5 ⟨rfl, hB5⟩; have hz0 := Lib.hid hB5; replace hB5 := 0)
      | fail)
    have hF := Lib.hid (fun W (hW : Below w0.heap.size w0 W) => show W.cell? ⟨w.heap.size, 5, none⟩ = some (.int .i64 p.pr) ∧ W.rangeAt w.heap.size 0 (cellsQd B nb cb p Ao no co (some ⟨b, off, none⟩) n c h).toList from ⟨(kB.out.to hW).cell 5 _ rfl, rangeAt_blkQ (kB.out.to hW)⟩)
    have hi := Lib.hid (show (Try.prog.info? 57).map (·.size) = some (cellsQd B nb cb p Ao no co (some ⟨b, off, none⟩) n c h).toList.length from info_qd)
    have hz1 := Lib.hid hz0.out.drew
    have hS1 := hF.out _ hz1.out
    have hNu := Lib.hid (fun a W (hW : Below w0.heap.size w0 W) => QNum_any B nb cb p Ao no co (some ⟨b, off, none⟩) n c h a W (rd0.out.below hW) hn)
    clear e5 e11 c0
    try simp only [Act.put]
    refine wp_region_held_drew (S := fun W => W.cell? ⟨w.heap.size, 5, none⟩ = some (.int .i64 p.pr) ∧ W.rangeAt w.heap.size 0 (cellsQd B nb cb p Ao no co (some ⟨b, off, none⟩) n c h).toList) (by kernel_rfl) hS1 (fun hHeld => ?_)
    refine take_h (i := 0) rfl rfl (by kernel_rfl) (by kernel_rfl) (by kernel_rfl) (fun _ _ _ h => h) (yieldsIf_load_mid (by rfl) 57 (.tmp 1) rfl _ _ rfl (cellsQd B nb cb p Ao no co (some ⟨b, off, none⟩) n c h).toList _ (fun W hW => hW.2) Try.underlying57 rfl hi.out) (by assumption) ?_
    simp only [Act.put, List.setIfInBounds_toArray, List.set_cons_zero, List.set_cons_succ]
    refine take_h (i := 2) rfl rfl (by kernel_rfl) (by kernel_rfl) (by kernel_rfl) (fun _ _ _ h => h) (yieldsIf_load_mid (by rfl) 57 (.tmp 1) rfl _ _ rfl (cellsQd B nb cb p Ao no co (some ⟨b, off, none⟩) n c h).toList _ (fun W hW => hW.2) Try.underlying57 rfl hi.out) (by assumption) ?_
    simp only [Act.put, List.setIfInBounds_toArray, List.set_cons_zero, List.set_cons_succ]
    refine step_h (i := 1) rfl rfl (by kernel_rfl) (fun K hK => ?_)
    go_simp
    refine Calls.mono (hNu.out 4 _ hz1.out) ?_
    rintro e w2 ⟨rfl, hB⟩
    have hz2 := Lib.hid (hz1.out.trans (hB.mono hz1.out.size))
    have hS2 := hF.out _ hz2.out
    clear hHeld hB
    go_wp2_with fail
    refine hK.out _ _ hS2 (fun hHeld => ?_)
    clear hK K
    try simp only [Act.put, List.setIfInBounds_toArray, List.set_cons_zero, List.set_cons_succ]
    refine step_h (i := 3) rfl rfl (by kernel_rfl) (fun K hK => ?_)
    go_simp
    refine Calls.mono (hNu.out 4 _ hz2.out) ?_
    rintro e w3 ⟨rfl, hB⟩
    have hz3 := Lib.hid (hz2.out.trans (hB.mono hz2.out.size))
    have hS3 := hF.out _ hz3.out
    clear hHeld hB
    go_wp2_with fail
    refine hK.out _ _ hS3 (fun hHeld => ?_)
    clear hK K
    try simp only [Act.put, List.setIfInBounds_toArray, List.set_cons_zero, List.set_cons_succ]
    refine take_h (i := 4) (v := ?_) rfl rfl (by kernel_rfl) (by kernel_rfl) (by kernel_rfl) (fun _ _ _ h => h) (Or.inl ⟨by rfl, fun W hSw => ?_⟩) (by assumption) ?_
    rotate_left
    · (clear hSw; go_simp; try with_reducible rfl)
    simp only [Act.put, List.setIfInBounds_toArray, List.set_cons_zero, List.set_cons_succ]
    have kZ3 := Lib.hid (kZ.out.to hz3.out)
    have kB3 := kB.out.to hz3.out
    have kB4 := kB3.farRow (show w.heap.size ≠ w.heap.size + 1 by omega) (cellsPo (1, (getV p.data 4 2).1, (getV p.data 4 2).1))
    have hS4 : (w3.setRow (w.heap.size + 1) (cellsPo (1, (getV p.data 4 2).1, (getV p.data 4 2).1))).cell? ⟨w.heap.size, 5, none⟩ = some (.int .i64 p.pr) ∧ (w3.setRow (w.heap.size + 1) (cellsPo (1, (getV p.data 4 2).1, (getV p.data 4 2).1))).rangeAt w.heap.size 0 (cellsQd B nb cb p Ao no co (some ⟨b, off, none⟩) n c h).toList := ⟨kB4.cell 5 _ rfl, rangeAt_blkQ kB4⟩
    clear kB3 kB4
    refine step_h (i := 5) rfl rfl (by kernel_rfl) (fun K hK => ?_)
    rw [if_pos (by rfl)]
    refine wp_store_row 41 (.tmp 2) (.tmp 31) rfl _ (cellsPo (1, (getV p.data 4 2).1, (getV p.data 4 2).1)) rfl rfl 41 (cellsPo (0, 0, 0)) kZ3.out.at_ info_po rfl (one_po _) ?_
    refine hK.out _ _ hS4 (fun hHeld => ?_)
    clear hK K
    refine take_h (i := 6) (v := ?_) rfl rfl (by kernel_rfl) (by kernel_rfl) (by kernel_rfl) (fun _ _ _ h => h) (Or.inl ⟨by rfl, fun W hSw => ?_⟩) (by assumption) ?_
    rotate_left
    · (clear hSw; go_simp; try with_reducible rfl)
    simp only [Act.put, List.setIfInBounds_toArray, List.set_cons_zero, List.set_cons_succ]
    refine wpAnyH_done (by kernel_rfl) ?_ _
    clear hHeld hS4
    try simp only [Act.put]
    go_wp2_with fail
    refine bodyPost_ret (results_ct Try.results32 rfl (run_load_PO (Blk.mk (setRow_heap _ _ _ _ _ _ kZ3.out.at_)) rfl)) rfl ?_
    exact ⟨by rw [hX.out, hC.out]; rfl, below_row (hb.out.trans (hz3.out.mono hb.out.size)) (Nat.le_succ _) _⟩

set_option maxRecDepth 100000 in
set_option maxHeartbeats 4000000 in
theorem QuotePorts_any (A : Option Addr) (n c : Nat) (bs : List Int) (w : World) (h : RB w A n c bs) (hn : n ≤ 3000) :
    Calls Try.prog 13 #[.slice A n c] w (QpOut w (packQ bs) (portQ bs) (codeQ bs)) := by
  obtain ⟨w0, hw0⟩ : ∃ w0, (w.alloc (.cells zero4c 32)).alloc (.cells (cellsPo (0, 0, 0)) 41) = w0 := ⟨_, rfl⟩
  have hb := Lib.hid (show Below w.heap.size w w0 by rw [← hw0]; exact ((Below.refl _ w).alloc (Nat.le_refl _) _).alloc (by simp) _)
  have kZ := Lib.hid (show Blk w0 w.heap.size zero4c 32 by rw [← hw0]; exact (blk_at rfl).alloc _)
  have kX := Lib.hid (show Blk w0 (w.heap.size + 1) (cellsPo (0, 0, 0)) 41 by rw [← hw0]; exact blk_at (by simp))
  replace hw0 := Lib.hid hw0
  by_cases ho : codeQo bs = 0
  rotate_left
  · have hQ := Lib.hid (show codeQ bs = codeQo bs by unfold codeQ; rw [if_pos ho])
    have hO := fun W (hW : Below w.heap.size w W) => QOpen_bad A n c bs W (h.below hW) (by omega) ho
    have hon : (codeQo bs != 0) = true := by simpa using ho
    have ho' := Lib.hid ho
    generalize codeQo bs = k at *
    replace hO := Lib.hid hO
    clear h ho
    go_enter Try.func13, Try.ntmps13
    go_upto_region 1 with fail
    rw [hw0.out]
    go_wp2_with (first
      | (go_at_call 31; refine (hO.out _ hb.out).mono ?_; rintro e w1 ⟨rfl, hB1⟩; have hy := hB1.alloc hB1.size (.cells zeroQd 57); have hb1 := Lib.hid (hb.out.trans (hy.mono hb.out.size)); have kZ1 := Lib.hid (kZ.out.to hy); have kX1 := Lib.hid (kX.out.to hy); clear hy; replace hB1 := 0)
      | (refine wpList_store_QD rfl (.tmp 5) (.tmp 11) rfl w1.heap.size zeroQd rfl rfl _ (Blk.new w1 zeroQd 57) rfl rfl (one_qd none 0 0 zero4 none 0 0 none 0 0 0) ?_; rw [World.setRow_alloc_new])
      | (refine wpList_store_4 rfl (.tmp 2) (.tmp 15) rfl w.heap.size zero4c rfl rfl _ kZ1.out rfl rfl (one4 zero4 none 0 0 none 0 0) ?_; rw [setRow_self _ _ _ _ _ kZ1.out.at_])
      | (refine wpList_store_PO rfl (.tmp 3) (.tmp 16) rfl (w.heap.size + 1) (cellsPo (0, 0, 0)) rfl rfl _ kX1.out rfl rfl (one_po _) ?_; rw [setRow_self _ _ _ _ _ kX1.out.at_])
      | fail)
    refine bodyPost_ret (results_cct Try.results13 rfl rfl (run_load_4 kZ1.out rfl) (run_load_PO kX1.out rfl)) rfl ?_
    exact QpOut.no hQ.out ho'.out hb1.out
  have hQ0 : codeQ bs = codeX (readV4 true bs) := by unfold codeQ; rw [if_neg (fun g => g ho)]
  have hO := fun W (hW : Below w.heap.size w W) => QOpen_good A n c bs W (h.below hW) (by omega) ho
  have hv : codeV4 true bs = 0 := by
    unfold codeQo at ho
    by_cases h : codeV4 true bs = 0
    · exact h
    · rw [if_pos h] at ho; exact absurd ho h
  have h2 : ¬ (readV4 true bs).data.length < 8 := by
    unfold codeQo at ho
    rw [if_neg (fun g => g hv)] at ho
    by_cases h1 : 0 < (readV4 true bs).off
    · rw [if_pos h1] at ho; cases ho
    · rw [if_neg h1] at ho
      by_cases h2 : (readV4 true bs).data.length < 8
      · rw [if_pos h2] at ho; cases ho
      · exact h2
  have hdl : (readV4 true bs).data.length ≤ 100000 := by
    have e : readV4 true bs = pack4 bs := by unfold readV4; rw [if_pos hv]
    have hl := h.len
    rw [e]
    show ((bs.take (end4 bs)).drop (hd4 bs)).length ≤ _
    rw [List.length_drop, List.length_take]; omega
  unfold QdOut at hO
  obtain ⟨p, hp⟩ : ∃ p, readV4 true bs = p := ⟨_, rfl⟩
  rw [hp] at hO hQ0 h2 hdl
  have hM := fun Ao no co A1 n1 c1 W (h1 : RB W A1 n1 c1 p.data) => QPortsM_any A n c p Ao no co A1 n1 c1 (hdQ bs : Int) W h1 (by have := h1.len; omega) (by have := h1.len; omega)
  replace hp := Lib.hid hp
  generalize (hdQ bs : Int) = hh at *
  clear hv h2 hdl ho h
  by_cases hx : codeX p = 0
  rotate_left
  · have hQ := Lib.hid hQ0
    have hxn : (codeX p != 0) = true := by simpa using hx
    have hx' := Lib.hid hx
    obtain ⟨k, hk⟩ : ∃ k, codeX p = k := ⟨_, rfl⟩
    rw [hk] at hM hxn hx' hQ
    generalize portsX p = xx at *
    replace hM := Lib.hid hM
    replace hO := Lib.hid hO
    clear hQ0 hx hk
    go_enter Try.func13, Try.ntmps13
    go_upto_region 1 with fail
    rw [hw0.out]
    go_wp2_with (first
      | (go_at_call 31; refine (hO.out _ hb.out).mono ?_; rintro e w1 ⟨Ao, no, co, A1, n1, c1, rfl, ho1, hd1, hB1⟩; have hy := hB1.alloc hB1.size (.cells (cellsQd A n c p Ao no co A1 n1 c1 hh) 57); have hb1 := Lib.hid (hb.out.trans (hy.mono hb.out.size)); have kZ1 := Lib.hid (kZ.out.to hy); have kX1 := Lib.hid (kX.out.to hy); have kQ1 := Lib.hid (Blk.new w1 (cellsQd A n c p Ao no co A1 n1 c1 hh) 57); have ro1 := Lib.hid (ho1.alloc (.cells (cellsQd A n c p Ao no co A1 n1 c1 hh) 57)); have rd1 := Lib.hid (hd1.alloc (.cells (cellsQd A n c p Ao no co A1 n1 c1 hh) 57)); have hs1 := Lib.hid hB1.size; clear hy ho1 hd1; replace hB1 := 0)
      | (refine wpList_store_QD rfl (.tmp 5) (.tmp 11) rfl w1.heap.size (cellsQd A n c p Ao no co A1 n1 c1 hh) rfl rfl _ (Blk.new w1 zeroQd 57) rfl rfl (one_qd _ _ _ _ _ _ _ _ _ _ _) ?_; rw [World.setRow_alloc_new])
      | (refine wpList_load_QD rfl (.tmp 5) rfl w1.heap.size rfl _ kQ1.out rfl ?_)
      | (go_at_call 32; refine (hM.out _ _ _ _ _ _ _ rd1.out).mono ?_; rintro e w2 ⟨rfl, hB2⟩; have hy := hB2.alloc hB2.size (.cells (cellsPo xx) 41); have hb2 := Lib.hid (hb1.out.trans (hy.mono hb1.out.size)); have kZ2 := Lib.hid (kZ1.out.to hy); have kX2 := Lib.hid (kX1.out.to hy); have kQ2 := Lib.hid (kQ1.out.to hy); have ro2 := Lib.hid (ro1.out.below hy); have rd2 := Lib.hid (rd1.out.below hy); have hs2 := Lib.hid (show w1.heap.size + 1 ≤ w2.heap.size from by have := hB2.size; simpa using this); clear hy; replace hB2 := 0)
      | (refine wpList_store_4 rfl (.tmp 2) (.tmp 25) rfl w.heap.size zero4c rfl rfl _ kZ2.out rfl rfl (one4 zero4 none 0 0 none 0 0) ?_; rw [setRow_self _ _ _ _ _ kZ2.out.at_])
      | (refine wpList_store_PO rfl (.tmp 3) (.tmp 26) rfl (w.heap.size + 1) (cellsPo (0, 0, 0)) rfl rfl _ kX2.out rfl rfl (one_po _) ?_; rw [setRow_self _ _ _ _ _ kX2.out.at_])
      | fail)
    refine bodyPost_ret (results_cct Try.results13 rfl rfl (run_load_4 kZ2.out rfl) (run_load_PO kX2.out rfl)) rfl ?_
    exact QpOut.no hQ.out hx'.out hb2.out
  have hQ := Lib.hid (hQ0.trans hx)
  rw [hx] at hM
  obtain ⟨xx, hxx⟩ : ∃ xx, portsX p = xx := ⟨_, rfl⟩
  rw [hxx] at hM
  replace hxx := Lib.hid hxx
  replace hM := Lib.hid hM
  replace hO := Lib.hid hO
  clear hQ0 hx
  go_enter Try.func13, Try.ntmps13
  go_upto_region 1 with fail
  rw [hw0.out]
  go_upto_region 7 with (first
    | (go_at_call 31; refine (hO.out _ hb.out).mono ?_; rintro e w1 ⟨Ao, no, co, A1, n1, c1, rfl, ho1, hd1, hB1⟩; have hy := hB1.alloc hB1.size (.cells (cellsQd A n c p Ao no co A1 n1 c1 hh) 57); have hb1 := Lib.hid (hb.out.trans (hy.mono hb.out.size)); have kZ1 := Lib.hid (kZ.out.to hy); have kX1 := Lib.hid (kX.out.to hy); have kQ1 := Lib.hid (Blk.new w1 (cellsQd A n c p Ao no co A1 n1 c1 hh) 57); have ro1 := Lib.hid (ho1.alloc (.cells (cellsQd A n c p Ao no co A1 n1 c1 hh) 57)); have rd1 := Lib.hid (hd1.alloc (.cells (cellsQd A n c p Ao no co A1 n1 c1 hh) 57)); have hs1 := Lib.hid hB1.size; clear hy ho1 hd1; replace hB1 := 0)
    | (refine wpList_store_QD rfl (.tmp 5) (.tmp 11) rfl w1.heap.size (cellsQd A n c p Ao no co A1 n1 c1 hh) rfl rfl _ (Blk.new w1 zeroQd 57) rfl rfl (one_qd _ _ _ _ _ _ _ _ _ _ _) ?_; rw [World.setRow_alloc_new])
    | (refine wpList_load_QD rfl (.tmp 5) rfl w1.heap.size rfl _ kQ1.out rfl ?_)
    | (go_at_call 32; refine (hM.out _ _ _ _ _ _ _ rd1.out).mono ?_; rintro e w2 ⟨rfl, hB2⟩; have hy := hB2.alloc hB2.size (.cells (cellsPo xx) 41); have hb2 := Lib.hid (hb1.out.trans (hy.mono hb1.out.size)); have kZ2 := Lib.hid (kZ1.out.to hy); have kX2 := Lib.hid (kX1.out.to hy); have kQ2 := Lib.hid (kQ1.out.to hy); have ro2 := Lib.hid (ro1.out.below hy); have rd2 := Lib.hid (rd1.out.below hy); have hs2 := Lib.hid (show w1.heap.size + 1 ≤ w2.heap.size from by have := hB2.size; simpa using this); clear hy; replace hB2 := 0)
    | fail)
  obtain ⟨w3, hw3⟩ : ∃ w3, (w2.alloc (.cells (cellsPo xx) 41)).drew = w3 := ⟨_, rfl⟩
  have kQ3 := Lib.hid (show Blk w3 w1.heap.size (cellsQd A n c p Ao no co A1 n1 c1 hh) 57 by rw [← hw3]; exact kQ2.out.drew)
  have kY3 := Lib.hid (show Blk w3 w2.heap.size (cellsPo xx) 41 by rw [← hw3]; exact (Blk.new w2 _ _).drew)
  have kZ3 := Lib.hid (show Blk w3 w.heap.size zero4c 32 by rw [← hw3]; exact kZ2.out.drew)
  have kX3 := Lib.hid (show Blk w3 (w.heap.size + 1) (cellsPo (0, 0, 0)) 41 by rw [← hw3]; exact kX2.out.drew)
  have ro3 := Lib.hid (show RB w3 Ao no co p.opts by rw [← hw3]; exact ro2.out.drew)
  have rd3 := Lib.hid (show RB w3 A1 n1 c1 p.data by rw [← hw3]; exact rd2.out.drew)
  have hb3 := Lib.hid (show Below w.heap.size w w3 by rw [← hw3]; exact hb2.out.drew)
  have hltx := kX.out.lt
  have hs1' := hs1.out
  have hs2' := hs2.out
  have hSf := Lib.hid (fun W (k : Blk W w1.heap.size (cellsQd A n c p Ao no co A1 n1 c1 hh) 57) (ky : Blk W w2.heap.size (cellsPo xx) 41) => show (W.rangeAt w1.heap.size 1 (cells4 p Ao no co A1 n1 c1).toList) ∧ (W.rangeAt w2.heap.size 0 (cellsPo xx).toList) from
    ⟨fun j v hj => by
      have h1 : (cellsQd A n c p Ao no co A1 n1 c1 hh)[1 + j]? = some v := by
        have h2 : (cellsQd A n c p Ao no co A1 n1 c1 hh).toList[1 + j]? = some v := by
          have : (cellsQd A n c p Ao no co A1 n1 c1 hh).toList = .slice A n c :: ((cells4 p Ao no co A1 n1 c1).toList ++ [.int .i64 hh]) := rfl
          rw [this, Nat.add_comm, List.getElem?_cons_succ, List.getElem?_append_left (List.getElem?_eq_some_iff.1 hj).1]
          exact hj
        rw [← Array.getElem?_toList]; exact h2
      exact k.cell _ _ h1, rangeAt_blkQ ky⟩)
  have hS1 := hSf.out _ kQ3.out kY3.out
  have kQ4 := Lib.hid (kQ3.out.farRow (show w1.heap.size ≠ w.heap.size by omega) (cells4 p Ao no co A1 n1 c1))
  have kY4 := Lib.hid (kY3.out.farRow (show w2.heap.size ≠ w.heap.size by omega) (cells4 p Ao no co A1 n1 c1))
  have kX4 := Lib.hid (kX3.out.farRow (show w.heap.size + 1 ≠ w.heap.size by omega) (cells4 p Ao no co A1 n1 c1))
  have hS2 := hSf.out _ kQ4.out kY4.out
  have hS3 := hSf.out _ (kQ4.out.farRow (show w1.heap.size ≠ w.heap.size + 1 by omega) (cellsPo xx)) (kY4.out.farRow (show w2.heap.size ≠ w.heap.size + 1 by omega) (cellsPo xx))
  have hi4 := Lib.hid (show (Try.prog.info? 32).map (·.size) = some (cells4 p Ao no co A1 n1 c1).toList.length from info_v4)
  have hiP := Lib.hid (show (Try.prog.info? 41).map (·.size) = some (cellsPo xx).toList.length from info_po)
  try simp only [Act.put]
  refine wp_region_held_drew (S := fun W => (W.rangeAt w1.heap.size 1 (cells4 p Ao no co A1 n1 c1).toList) ∧ (W.rangeAt w2.heap.size 0 (cellsPo xx).toList)) (by kernel_rfl) (by rw [hw3]; exact hS1) (fun hHeld => ?_)
  rw [hw3] at hHeld ⊢
  replace hw3 := Lib.hid hw3
  clear hltx hs1' hs2'
  refine take_h (i := 0) (v := ?_) rfl rfl (by kernel_rfl) (by kernel_rfl) (by kernel_rfl) (fun _ _ _ h => h) (Or.inl ⟨by rfl, fun W hSw => ?_⟩) (by assumption) ?_
  rotate_left
  · (clear hSw; go_simp; try with_reducible rfl)
  simp only [Act.put, List.setIfInBounds_toArray, List.set_cons_zero, List.set_cons_succ]
  refine take_h (i := 1) rfl rfl (by kernel_rfl) (by kernel_rfl) (by kernel_rfl) (fun _ _ _ h => h) (yieldsIf_load_mid (by rfl) 32 (.tmp 28) rfl _ _ rfl (cells4 p Ao no co A1 n1 c1).toList _ (fun W hW => hW.1) Try.underlying32 rfl hi4.out) (by assumption) ?_
  simp only [Act.put, List.setIfInBounds_toArray, List.set_cons_zero, List.set_cons_succ]
  refine take_h (i := 2) rfl rfl (by kernel_rfl) (by kernel_rfl) (by kernel_rfl) (fun _ _ _ h => h) (yieldsIf_load_mid (by rfl) 41 (.tmp 7) rfl _ _ rfl (cellsPo xx).toList _ (fun W hW => hW.2) Try.underlying41 rfl hiP.out) (by assumption) ?_
  simp only [Act.put, List.setIfInBounds_toArray, List.set_cons_zero, List.set_cons_succ]
  refine step_h (i := 3) rfl rfl (by kernel_rfl) (fun K hK => ?_)
  rw [if_pos (by rfl)]
  refine wp_store_row 32 (.tmp 2) (.tmp 29) rfl _ (cells4 p Ao no co A1 n1 c1) rfl rfl 32 zero4c kZ3.out.at_ info_v4 rfl (one4 _ _ _ _ _ _ _) ?_
  refine hK.out _ _ hS2 (fun hHeld => ?_)
  clear hK K
  refine step_h (i := 4) rfl rfl (by kernel_rfl) (fun K hK => ?_)
  rw [if_pos (by rfl)]
  refine wp_store_row 41 (.tmp 3) (.tmp 30) rfl _ (cellsPo xx) rfl rfl 41 (cellsPo (0, 0, 0)) kX4.out.at_ info_po rfl (one_po _) ?_
  refine hK.out _ _ hS3 (fun hHeld => ?_)
  clear hK K
  refine take_h (i := 5) (v := ?_) rfl rfl (by kernel_rfl) (by kernel_rfl) (by kernel_rfl) (fun _ _ _ h => h) (Or.inl ⟨by rfl, fun W hSw => ?_⟩) (by assumption) ?_
  rotate_left
  · (clear hSw; go_simp; try with_reducible rfl)
  simp only [Act.put, List.setIfInBounds_toArray, List.set_cons_zero, List.set_cons_succ]
  refine wpAnyH_done (by kernel_rfl) ?_ _
  clear hHeld hS1 hS2 hS3
  try simp only [Act.put]
  go_wp2_with fail
  have kL1 : Blk (w3.setRow w.heap.size (cells4 p Ao no co A1 n1 c1)) w.heap.size (cells4 p Ao no co A1 n1 c1) 32 := Blk.mk (setRow_heap _ _ _ _ _ _ kZ3.out.at_)
  refine bodyPost_ret (results_cct Try.results13 rfl rfl (run_load_4 (kL1.farRow (show w.heap.size ≠ w.heap.size + 1 by omega) _) rfl) (run_load_PO (Blk.mk (setRow_heap _ _ _ _ _ _ kX4.out.at_)) rfl)) rfl ?_
  exact QpOut.yes hQ.out hp.out hxx.out kZ3.out kX3.out ro3.out rd3.out hb3.out (Nat.le_refl _)
end Go.Proofs.Ytmbmmpbfmakfbaa
/- What is quoted (quote): walk of sumOf; an entry of a map literal. -/
set_option linter.unusedVariables false
namespace Go.Proofs.Ytmbmmpbfmakfbaa
open Go Go.RowKit Go.Maps
attribute [local go_sem] Oper.semAt_some

/-- An entry of a map literal, by the kit's law of a store. -/
theorem wpList_insert_own {H : Type} {P : Program} (w : World) {ops : Array Oper} {rest : List Oper} {o : Oper} {a : Act} {Q : Exit → Act → World → Prop}
    (hg : o.guard = none) (m x v : Operand) (t : TypeId) (hop : o.op = Op.insert t m x v)
    (k e : TypeId) (K : Keyed P k) (ht : P.underlying t = some (.map k e)) (R : Value → Option (DataW H × List MemPlace)) (b n : Nat) (D : DataW H)
    (hm : a.eval m = .map (some b)) (hown : w.ownsMap P k R b n D) (hn : n < maxLen) (key val : Value) (kl : Lit) (hx : a.eval x = key) (hv : a.eval v = val) (hkey : _root_.Go.keyOf P k key = some kl)
    (d : DataW H) (ps : List MemPlace) (hval : R val = some (d, ps))
    (hK : ∀ w', w'.ownsMap P k R b (n + 1) (D.put kl d) → w.grownBy w' (some b) → wpList P ops Q rest (a.put o.dst undef) w') :
    wpList P ops Q (o :: rest) a w := by
  refine wpList_plain hg fun K' hK' => ?_
  obtain ⟨w', hrun, r1, r2⟩ := hown.update K ht hn hkey hval
  unfold Oper.wp
  simp [execOp, hop, hm, hx, hv, hrun, Result.andThen]
  exact hK' _ _ (hK w' r1 r2)
theorem law_int : Keyed Try.prog 3 := int_keyed Try.underlying3
theorem zero_int (w : World) : (zeroValue 3).run Try.prog w = .ok (.int .i64 0) w := by kernel_rfl
def sumMap : DataW Unit := (((DataW.map [] : DataW Unit).put (.int .i64 17) (.lit (.int .i64 6))).put (.int .i64 6) (.lit (.int .i64 16))).put (.int .i64 1) (.lit (.int .i64 2))
theorem sumMap_at : sumMap.atKey (.int .i64 17) (.lit (.int .i64 0)) = .lit (.int .i64 6) ∧ sumMap.atKey (.int .i64 6) (.lit (.int .i64 0)) = .lit (.int .i64 16) ∧ sumMap.atKey (.int .i64 1) (.lit (.int .i64 0)) = .lit (.int .i64 2) := ⟨by rfl, by rfl, by rfl⟩
set_option maxRecDepth 100000 in
set_option maxHeartbeats 800000 in
theorem QSumOf_any (B : Option Addr) (nb cb : Nat) (p : V4P) (Ao : Option Addr) (no co : Nat) (A : Option Addr) (n c : Nat) (h : Int) (w : World) (hr : RB w A n c p.data) (hn : n ≤ 100000) (h8 : 8 ≤ n) (hp : p.pr = 6 ∨ p.pr = 17 ∨ p.pr = 1) :
    Calls Try.prog 48 #[.agg (cellsQd B nb cb p Ao no co A n c h)] w fun e w' => e = .returned (.int .i64 (sumAtI p)) ∧ Below w.heap.size w w' := by
  obtain ⟨w0, hw0⟩ : ∃ w0, w.alloc (.cells (cellsQd B nb cb p Ao no co A n c h) 57) = w0 := ⟨_, rfl⟩
  have hb := Lib.hid (show Below w.heap.size w w0 by rw [← hw0]; exact (Below.refl _ w).alloc (Nat.le_refl _) _)
  have kB := Lib.hid (show Blk w0 w.heap.size (cellsQd B nb cb p Ao no co A n c h) 57 by rw [← hw0]; exact blk_at rfl)
  have hlen := hr.len
  have rd0 := Lib.hid (hr.below hb.out)
  have hmm := @run_makeMap Try.prog
  have ho0 := Lib.hid (World.ownsMap_made (H := Unit) w0 Try.prog 3 (plainElem Try.prog 3))
  have hy0 := Lib.hid ((Below.refl w0.heap.size w0).alloc (Nat.le_refl _) (.map #[] 0))
  replace hw0 := Lib.hid hw0
  rcases hp with hp | hp | hp
  · have hs := noSum_6 hp
    have ha : atQ p = 16 := by unfold atQ; rw [if_pos hp]
    by_cases h : p.data.length < 18
    · have hz := Lib.hid (show sumAtI p = -1 by unfold sumAtI; rw [hs, if_pos (by simpa using h)])
      have hi : (n : Int) < 18 := by omega
      clear hs ha h h8 hlen
      replace hp := Lib.hid hp
      go_enter Try.func48, Try.ntmps48
      go_upto_region 1 with fail
      rw [hw0.out]
      go_upto_region 2 with (first
        | (refine wpList_insert_own (H := Unit) _ rfl (.tmp 4) (.const (.int .i64 17)) (.const (.int .i64 6)) 92 rfl 3 3 law_int Try.underlying92 (plainElem Try.prog 3) _ 0 _ rfl ho0.out (by unfold maxLen; omega) _ _ _ rfl rfl (keyOf_int_mk Try.underlying3 (by decide)) _ [] (plainElem_int Try.underlying3 (by decide)) ?_; intro w1 hown1 hg1; have ho1 := Lib.hid hown1; have hy1 := Lib.hid (hy0.out.grown hg1 hy0.out.size (fun j hj => by cases hj; exact Nat.le_refl _)); clear hown1 hg1)
        | (refine wpList_insert_own (H := Unit) _ rfl (.tmp 4) (.const (.int .i64 6)) (.const (.int .i64 16)) 92 rfl 3 3 law_int Try.underlying92 (plainElem Try.prog 3) _ 1 _ rfl ho1.out (by unfold maxLen; omega) _ _ _ rfl rfl (keyOf_int_mk Try.underlying3 (by decide)) _ [] (plainElem_int Try.underlying3 (by decide)) ?_; intro w2 hown2 hg2; have ho2 := Lib.hid hown2; have hy2 := Lib.hid (hy1.out.grown hg2 hy1.out.size (fun j hj => by cases hj; exact Nat.le_refl _)); clear hown2 hg2)
        | (refine wpList_insert_own (H := Unit) _ rfl (.tmp 4) (.const (.int .i64 1)) (.const (.int .i64 2)) 92 rfl 3 3 law_int Try.underlying92 (plainElem Try.prog 3) _ 2 _ rfl ho2.out (by unfold maxLen; omega) _ _ _ rfl rfl (keyOf_int_mk Try.underlying3 (by decide)) _ [] (plainElem_int Try.underlying3 (by decide)) ?_; intro w3 hown3 hg3; have ho3 := Lib.hid hown3; have hy3 := Lib.hid (hy2.out.grown hg3 hy2.out.size (fun j hj => by cases hj; exact Nat.le_refl _)); have k3 := Lib.hid (kB.out.to hy3.out); have e5 := k3.out.cell 5 (.int .i64 p.pr) rfl; rw [hp.out] at e5; have e11 := k3.out.cell 11 (.slice A n c) rfl; clear hown3 hg3)
        | (at_lookup; refine wpList_lookup_own_int (H := Unit) _ rfl (.tmp 5) (.tmp 8) 92 rfl 3 3 .i64 law_int Try.underlying92 Try.underlying3 (zero_int _) _ 3 _ rfl ho3.out _ _ rfl (keyOf_int_mk Try.underlying3 (by decide)) ?_; intro cc hat hwc; have hc2 : cc = 16 := (by have h9 := (sumMap_at.2.1).symm.trans hat; injection h9 with h9; injection h9 with _ h9; exact h9.symm); subst hc2; clear hat hwc)
        | fail)
      go_wp2_with fail
      go_ret
      exact ⟨by rw [hz.out]; rfl, hb.out.trans (hy3.out.mono hb.out.size)⟩
    · have hz := Lib.hid (show sumAtI p = 16 by unfold sumAtI; rw [hs, if_neg (by simpa using h), ha]; rfl)
      have hi : ¬ (n : Int) < 18 := by omega
      clear hs ha h h8 hlen
      replace hp := Lib.hid hp
      go_enter Try.func48, Try.ntmps48
      go_upto_region 1 with fail
      rw [hw0.out]
      go_upto_region 2 with (first
        | (refine wpList_insert_own (H := Unit) _ rfl (.tmp 4) (.const (.int .i64 17)) (.const (.int .i64 6)) 92 rfl 3 3 law_int Try.underlying92 (plainElem Try.prog 3) _ 0 _ rfl ho0.out (by unfold maxLen; omega) _ _ _ rfl rfl (keyOf_int_mk Try.underlying3 (by decide)) _ [] (plainElem_int Try.underlying3 (by decide)) ?_; intro w1 hown1 hg1; have ho1 := Lib.hid hown1; have hy1 := Lib.hid (hy0.out.grown hg1 hy0.out.size (fun j hj => by cases hj; exact Nat.le_refl _)); clear hown1 hg1)
        | (refine wpList_insert_own (H := Unit) _ rfl (.tmp 4) (.const (.int .i64 6)) (.const (.int .i64 16)) 92 rfl 3 3 law_int Try.underlying92 (plainElem Try.prog 3) _ 1 _ rfl ho1.out (by unfold maxLen; omega) _ _ _ rfl rfl (keyOf_int_mk Try.underlying3 (by decide)) _ [] (plainElem_int Try.underlying3 (by decide)) ?_; intro w2 hown2 hg2; have ho2 := Lib.hid hown2; have hy2 := Lib.hid (hy1.out.grown hg2 hy1.out.size (fun j hj => by cases hj; exact Nat.le_refl _)); clear hown2 hg2)
        | (refine wpList_insert_own (H := Unit) _ rfl (.tmp 4) (.const (.int .i64 1)) (.const (.int .i64 2)) 92 rfl 3 3 law_int Try.underlying92 (plainElem Try.prog 3) _ 2 _ rfl ho2.out (by unfold maxLen; omega) _ _ _ rfl rfl (keyOf_int_mk Try.underlying3 (by decide)) _ [] (plainElem_int Try.underlying3 (by decide)) ?_; intro w3 hown3 hg3; have ho3 := Lib.hid hown3; have hy3 := Lib.hid (hy2.out.grown hg3 hy2.out.size (fun j hj => by cases hj; exact Nat.le_refl _)); have k3 := Lib.hid (kB.out.to hy3.out); have e5 := k3.out.cell 5 (.int .i64 p.pr) rfl; rw [hp.out] at e5; have e11 := k3.out.cell 11 (.slice A n c) rfl; clear hown3 hg3)
        | (at_lookup; refine wpList_lookup_own_int (H := Unit) _ rfl (.tmp 5) (.tmp 8) 92 rfl 3 3 .i64 law_int Try.underlying92 Try.underlying3 (zero_int _) _ 3 _ rfl ho3.out _ _ rfl (keyOf_int_mk Try.underlying3 (by decide)) ?_; intro cc hat hwc; have hc2 : cc = 16 := (by have h9 := (sumMap_at.2.1).symm.trans hat; injection h9 with h9; injection h9 with _ h9; exact h9.symm); subst hc2; clear hat hwc)
        | fail)
      go_wp2_with fail
      go_ret
      exact ⟨by rw [hz.out]; rfl, hb.out.trans (hy3.out.mono hb.out.size)⟩
  · have hs := noSum_17 hp (by omega)
    have ha : atQ p = 6 := by unfold atQ; rw [if_neg (by omega), if_neg (by omega)]
    have hi : ¬ (n : Int) < 8 := by omega
    cases hz0 : ((getV p.data 6 2).1 == 0)
    · have hz := Lib.hid (show sumAtI p = 6 by unfold sumAtI; rw [hs, hz0, ha]; rfl)
      clear hs ha h8 hlen
      replace hp := Lib.hid hp
      go_enter Try.func48, Try.ntmps48
      go_upto_region 1 with fail
      rw [hw0.out]
      go_upto_region 2 with (first
        | (refine wpList_insert_own (H := Unit) _ rfl (.tmp 4) (.const (.int .i64 17)) (.const (.int .i64 6)) 92 rfl 3 3 law_int Try.underlying92 (plainElem Try.prog 3) _ 0 _ rfl ho0.out (by unfold maxLen; omega) _ _ _ rfl rfl (keyOf_int_mk Try.underlying3 (by decide)) _ [] (plainElem_int Try.underlying3 (by decide)) ?_; intro w1 hown1 hg1; have ho1 := Lib.hid hown1; have hy1 := Lib.hid (hy0.out.grown hg1 hy0.out.size (fun j hj => by cases hj; exact Nat.le_refl _)); clear hown1 hg1)
        | (refine wpList_insert_own (H := Unit) _ rfl (.tmp 4) (.const (.int .i64 6)) (.const (.int .i64 16)) 92 rfl 3 3 law_int Try.underlying92 (plainElem Try.prog 3) _ 1 _ rfl ho1.out (by unfold maxLen; omega) _ _ _ rfl rfl (keyOf_int_mk Try.underlying3 (by decide)) _ [] (plainElem_int Try.underlying3 (by decide)) ?_; intro w2 hown2 hg2; have ho2 := Lib.hid hown2; have hy2 := Lib.hid (hy1.out.grown hg2 hy1.out.size (fun j hj => by cases hj; exact Nat.le_refl _)); clear hown2 hg2)
        | (refine wpList_insert_own (H := Unit) _ rfl (.tmp 4) (.const (.int .i64 1)) (.const (.int .i64 2)) 92 rfl 3 3 law_int Try.underlying92 (plainElem Try.prog 3) _ 2 _ rfl ho2.out (by unfold maxLen; omega) _ _ _ rfl rfl (keyOf_int_mk Try.underlying3 (by decide)) _ [] (plainElem_int Try.underlying3 (by decide)) ?_; intro w3 hown3 hg3; have ho3 := Lib.hid hown3; have hy3 := Lib.hid (hy2.out.grown hg3 hy2.out.size (fun j hj => by cases hj; exact Nat.le_refl _)); have k3 := Lib.hid (kB.out.to hy3.out); have e5 := k3.out.cell 5 (.int .i64 p.pr) rfl; rw [hp.out] at e5; have e11 := k3.out.cell 11 (.slice A n c) rfl; clear hown3 hg3)
        | (at_lookup; refine wpList_lookup_own_int (H := Unit) _ rfl (.tmp 5) (.tmp 8) 92 rfl 3 3 .i64 law_int Try.underlying92 Try.underlying3 (zero_int _) _ 3 _ rfl ho3.out _ _ rfl (keyOf_int_mk Try.underlying3 (by decide)) ?_; intro cc hat hwc; have hc2 : cc = 6 := (by have h9 := (sumMap_at.1).symm.trans hat; injection h9 with h9; injection h9 with _ h9; exact h9.symm); subst hc2; clear hat hwc)
        | fail)
      go_wp2_with (first
            | (refine wpList_load_QD rfl (.tmp 1) rfl w.heap.size rfl _ k3.out rfl ?_)
            | (go_at_call 58; refine (QNum_any B nb cb p Ao no co A n c h 6 _ (rd0.out.below hy3.out) hn).mono ?_; rintro e w4 ⟨rfl, hB4⟩; have hy4 := Lib.hid (hy3.out.trans (hB4.mono hy3.out.size)); replace hB4 := 0)
            | fail)
      go_ret
      exact ⟨by rw [hz.out]; rfl, hb.out.trans (hy4.out.mono hb.out.size)⟩
    · have hz := Lib.hid (show sumAtI p = -1 by unfold sumAtI; rw [hs, hz0]; rfl)
      clear hs ha h8 hlen
      replace hp := Lib.hid hp
      go_enter Try.func48, Try.ntmps48
      go_upto_region 1 with fail
      rw [hw0.out]
      go_upto_region 2 with (first
        | (refine wpList_insert_own (H := Unit) _ rfl (.tmp 4) (.const (.int .i64 17)) (.const (.int .i64 6)) 92 rfl 3 3 law_int Try.underlying92 (plainElem Try.prog 3) _ 0 _ rfl ho0.out (by unfold maxLen; omega) _ _ _ rfl rfl (keyOf_int_mk Try.underlying3 (by decide)) _ [] (plainElem_int Try.underlying3 (by decide)) ?_; intro w1 hown1 hg1; have ho1 := Lib.hid hown1; have hy1 := Lib.hid (hy0.out.grown hg1 hy0.out.size (fun j hj => by cases hj; exact Nat.le_refl _)); clear hown1 hg1)
        | (refine wpList_insert_own (H := Unit) _ rfl (.tmp 4) (.const (.int .i64 6)) (.const (.int .i64 16)) 92 rfl 3 3 law_int Try.underlying92 (plainElem Try.prog 3) _ 1 _ rfl ho1.out (by unfold maxLen; omega) _ _ _ rfl rfl (keyOf_int_mk Try.underlying3 (by decide)) _ [] (plainElem_int Try.underlying3 (by decide)) ?_; intro w2 hown2 hg2; have ho2 := Lib.hid hown2; have hy2 := Lib.hid (hy1.out.grown hg2 hy1.out.size (fun j hj => by cases hj; exact Nat.le_refl _)); clear hown2 hg2)
        | (refine wpList_insert_own (H := Unit) _ rfl (.tmp 4) (.const (.int .i64 1)) (.const (.int .i64 2)) 92 rfl 3 3 law_int Try.underlying92 (plainElem Try.prog 3) _ 2 _ rfl ho2.out (by unfold maxLen; omega) _ _ _ rfl rfl (keyOf_int_mk Try.underlying3 (by decide)) _ [] (plainElem_int Try.underlying3 (by decide)) ?_; intro w3 hown3 hg3; have ho3 := Lib.hid hown3; have hy3 := Lib.hid (hy2.out.grown hg3 hy2.out.size (fun j hj => by cases hj; exact Nat.le_refl _)); have k3 := Lib.hid (kB.out.to hy3.out); have e5 := k3.out.cell 5 (.int .i64 p.pr) rfl; rw [hp.out] at e5; have e11 := k3.out.cell 11 (.slice A n c) rfl; clear hown3 hg3)
        | (at_lookup; refine wpList_lookup_own_int (H := Unit) _ rfl (.tmp 5) (.tmp 8) 92 rfl 3 3 .i64 law_int Try.underlying92 Try.underlying3 (zero_int _) _ 3 _ rfl ho3.out _ _ rfl (keyOf_int_mk Try.underlying3 (by decide)) ?_; intro cc hat hwc; have hc2 : cc = 6 := (by have h9 := (sumMap_at.1).symm.trans hat; injection h9 with h9; injection h9 with _ h9; exact h9.symm); subst hc2; clear hat hwc)
        | fail)
      go_wp2_with (first
            | (refine wpList_load_QD rfl (.tmp 1) rfl w.heap.size rfl _ k3.out rfl ?_)
            | (go_at_call 58; refine (QNum_any B nb cb p Ao no co A n c h 6 _ (rd0.out.below hy3.out) hn).mono ?_; rintro e w4 ⟨rfl, hB4⟩; have hy4 := Lib.hid (hy3.out.trans (hB4.mono hy3.out.size)); replace hB4 := 0)
            | fail)
      go_ret
      exact ⟨by rw [hz.out]; rfl, hb.out.trans (hy4.out.mono hb.out.size)⟩
  · have hs := noSum_1 hp (by omega)
    have ha : atQ p = 2 := by unfold atQ; rw [if_neg (by omega), if_pos hp]
    have hi : ¬ (n : Int) < 4 := by omega
    have hz := Lib.hid (show sumAtI p = 2 by unfold sumAtI; rw [hs, ha]; rfl)
    clear hs ha h8 hlen
    replace hp := Lib.hid hp
    go_enter Try.func48, Try.ntmps48
    go_upto_region 1 with fail
    rw [hw0.out]
    go_upto_region 2 with (first
      | (refine wpList_insert_own (H := Unit) _ rfl (.tmp 4) (.const (.int .i64 17)) (.const (.int .i64 6)) 92 rfl 3 3 law_int Try.underlying92 (plainElem Try.prog 3) _ 0 _ rfl ho0.out (by unfold maxLen; omega) _ _ _ rfl rfl (keyOf_int_mk Try.underlying3 (by decide)) _ [] (plainElem_int Try.underlying3 (by decide)) ?_; intro w1 hown1 hg1; have ho1 := Lib.hid hown1; have hy1 := Lib.hid (hy0.out.grown hg1 hy0.out.size (fun j hj => by cases hj; exact Nat.le_refl _)); clear hown1 hg1)
      | (refine wpList_insert_own (H := Unit) _ rfl (.tmp 4) (.const (.int .i64 6)) (.const (.int .i64 16)) 92 rfl 3 3 law_int Try.underlying92 (plainElem Try.prog 3) _ 1 _ rfl ho1.out (by unfold maxLen; omega) _ _ _ rfl rfl (keyOf_int_mk Try.underlying3 (by decide)) _ [] (plainElem_int Try.underlying3 (by decide)) ?_; intro w2 hown2 hg2; have ho2 := Lib.hid hown2; have hy2 := Lib.hid (hy1.out.grown hg2 hy1.out.size (fun j hj => by cases hj; exact Nat.le_refl _)); clear hown2 hg2)
      | (refine wpList_insert_own (H := Unit) _ rfl (.tmp 4) (.const (.int .i64 1)) (.const (.int .i64 2)) 92 rfl 3 3 law_int Try.underlying92 (plainElem Try.prog 3) _ 2 _ rfl ho2.out (by unfold maxLen; omega) _ _ _ rfl rfl (keyOf_int_mk Try.underlying3 (by decide)) _ [] (plainElem_int Try.underlying3 (by decide)) ?_; intro w3 hown3 hg3; have ho3 := Lib.hid hown3; have hy3 := Lib.hid (hy2.out.grown hg3 hy2.out.size (fun j hj => by cases hj; exact Nat.le_refl _)); have k3 := Lib.hid (kB.out.to hy3.out); have e5 := k3.out.cell 5 (.int .i64 p.pr) rfl; rw [hp.out] at e5; have e11 := k3.out.cell 11 (.slice A n c) rfl; clear hown3 hg3)
      | (at_lookup; refine wpList_lookup_own_int (H := Unit) _ rfl (.tmp 5) (.tmp 8) 92 rfl 3 3 .i64 law_int Try.underlying92 Try.underlying3 (zero_int _) _ 3 _ rfl ho3.out _ _ rfl (keyOf_int_mk Try.underlying3 (by decide)) ?_; intro cc hat hwc; have hc2 : cc = 2 := (by have h9 := (sumMap_at.2.2).symm.trans hat; injection h9 with h9; injection h9 with _ h9; exact h9.symm); subst hc2; clear hat hwc)
      | fail)
    go_wp2_with fail
    go_ret
    exact ⟨by rw [hz.out]; rfl, hb.out.trans (hy3.out.mono hb.out.size)⟩
end Go.Proofs.Ytmbmmpbfmakfbaa
/- copy of bytes into a slice of the call's own, as one step of a drawn region. -/
set_option linter.unusedVariables false
namespace Go.Proofs.Ytmbmmpbfmakfbaa
open Go Go.RowKit

theorem setN_get (bs : List Int) (a : Nat) (ys : List Int) : ∀ i j, (setN bs a ys i)[j]? = if a ≤ j ∧ j < a + i ∧ j < bs.length then some (ys[j - a]?.getD 0) else bs[j]?
  | 0, j => by rw [if_neg (by omega)]; rfl
  | i + 1, j => by
    show ((setN bs a ys i).set (a + i) (ys[i]?.getD 0))[j]? = _
    rw [List.getElem?_set, setN_length, setN_get bs a ys i j]
    by_cases h : a + i = j
    · rw [if_pos h]
      by_cases hl : a + i < bs.length
      · rw [if_pos hl, if_pos (by omega), show j - a = i by omega]
      · rw [if_neg hl, if_neg (by omega), List.getElem?_eq_none (by omega)]
    · rw [if_neg h]
      by_cases h2 : a ≤ j ∧ j < a + i ∧ j < bs.length
      · rw [if_pos h2, if_pos (by omega)]
      · rw [if_neg h2, if_neg (by omega)]
theorem splice_get {α : Type} (L : List α) (a : Nat) (cs : List α) (h : a + cs.length ≤ L.length) (j : Nat) : (splice L a cs)[j]? = if a ≤ j ∧ j < a + cs.length then cs[j - a]? else L[j]? := by
  unfold splice
  by_cases h1 : j < a
  · rw [if_neg (by omega), List.getElem?_append_left (by rw [List.length_take]; omega), List.getElem?_take, if_pos h1]
  · rw [List.getElem?_append_right (by rw [List.length_take]; omega), List.length_take, Nat.min_eq_left (by omega)]
    by_cases h2 : j < a + cs.length
    · rw [if_pos (by omega), List.getElem?_append_left (by omega)]
    · rw [if_neg (by omega), List.getElem?_append_right (by omega), List.getElem?_drop]
      congr 1; omega
theorem take_splice {α : Type} (L : List α) (a n : Nat) (cs : List α) (h : a + cs.length ≤ n) (hn : n ≤ L.length) : (splice L a cs).take n = splice (L.take n) a cs := by
  apply List.ext_getElem?
  intro j
  rw [splice_get _ _ _ (by rw [List.length_take]; omega), List.getElem?_take, splice_get _ _ _ (by omega), List.getElem?_take]
  by_cases h1 : j < n
  · rw [if_pos h1, if_pos h1]
  · rw [if_neg h1, if_neg h1, if_neg (by omega)]
theorem u8s_setN {bs ys : List Int} {a : Nat} (h : a + ys.length ≤ bs.length) : u8s (setN bs a ys ys.length) = splice (u8s bs) a (u8s ys) := by
  apply List.ext_getElem?
  intro j
  rw [splice_get _ _ _ (by rw [u8s_length, u8s_length]; exact h), u8s_length]
  unfold u8s
  rw [List.getElem?_map, setN_get, List.getElem?_map, List.getElem?_map]
  by_cases h1 : a ≤ j ∧ j < a + ys.length
  · rw [if_pos ⟨h1.1, h1.2, by omega⟩, if_pos h1, List.getElem?_eq_getElem (show j - a < ys.length by omega)]; rfl
  · rw [if_neg (by omega), if_neg h1]
theorem setN_byts2 {bs ys : List Int} (h : Byts bs) (k : Byts ys) (a : Nat) : ∀ i, Byts (setN bs a ys i)
  | 0 => h
  | i + 1 => (setN_byts2 h k a i).set _ (k.get i).1 (k.get i).2
theorem grown_setRow (w : World) (g : Nat) (cs : Array Value) : w.grownBy (w.setRow g cs) (some g) :=
  ⟨rfl, rfl, rfl, by simp [World.setRow], fun k hk hne => setRow_other w g k cs (fun e => hne (by rw [e]))⟩
theorem step_copy_bytes {ops : Array Oper} {o : Oper} {a : Act} {w : World} {K : Act → World → Prop} {Q : Exit → Act → World → Prop} {E : Prop} (hgd : o.guard = none) (d s : Operand)
    (hop : o.op = .call { callee := .builtin .copy, args := #[d, s], argTypes := #[24, 24] })
    {base g n c k at_ dc : Nat} {bs ys : List Int} (ho : OB w base (some ⟨g, 0, none⟩) n c bs) {A' : Option Addr} {c' : Nat} (hd : a.eval d = .slice (some ⟨g, at_, none⟩) (n - at_) dc) (hs : a.eval s = .slice A' k c') (hr : RB w A' k c' ys)
    (hfit : at_ + k ≤ n) (hk : 0 < k)
    (h : ∀ w', OB w' base (some ⟨g, 0, none⟩) n c (setN bs at_ ys k) → w.grownBy w' (some g) → K (a.put o.dst (goInt k)) w') :
    if Region.wanted o (yielded ops a.tmps) = true then Oper.wp Try.prog o a w K Q else E := by
  have hw : Region.wanted o (yielded ops a.tmps) = true := by simp [Region.wanted, hgd]
  rw [if_pos hw]
  have hl := hr.len
  have hlb := ho.len
  obtain ⟨h1, h2⟩ := ho.own
  rcases h2 with ⟨e, _⟩ | ⟨g', cap, cur, e, hg, hh, hnc, hcm, hsz, htk⟩
  · cases e
  cases e
  obtain ⟨b, off, rfl, hbl, hc⟩ := hr.mem hk
  have hrun := run_copy_row (P := Try.prog) w 24 24 o.type 5 g at_ (n - at_) dc ⟨b, off, none⟩ k c' cur 5 (u8s ys) Try.underlying24 (by kernel_rfl) hh (by rw [u8s_length, hl]; exact (Nat.min_eq_left (by omega)).symm)
    (fun j v hv => hr.src (Below.refl _ _) j v hv) (by rw [u8s_length, hl]; omega) (u8s_one ys)
  unfold Oper.wp
  simp [execOp, hop, resolve, invoke, builtin, hd, hs, hrun, Result.andThen]
  rw [u8s_length, hl]
  refine h _ ⟨⟨by rw [u8s_length, setN_length]; omega, .inr ⟨g, c, (splice cur.toList at_ (u8s ys)).toArray, rfl, hg, ?_, hnc, hcm, ?_, ?_⟩⟩, setN_byts2 ho.byt hr.byt _ _⟩ (grown_setRow w g _)
  · have := setRow_heap w g cur (splice cur.toList at_ (u8s ys)).toArray 5 (0, 0) hh
    simpa [splice, u8s_length, hl] using this
  · rw [List.size_toArray, length_splice _ _ _ (by rw [u8s_length, hl, Array.length_toList]; omega), Array.length_toList]; exact hsz
  · rw [Nat.mul_one] at htk ⊢
    show (splice cur.toList at_ (u8s ys)).take n = _
    rw [take_splice _ _ _ _ (by rw [u8s_length, hl]; omega) (by rw [Array.length_toList]; omega), htk, ← hl, u8s_setN (by omega)]
end Go.Proofs.Ytmbmmpbfmakfbaa
/- What is quoted (quote): walks of changed, with. -/
set_option linter.unusedVariables false
namespace Go.Proofs.Ytmbmmpbfmakfbaa
open Go Go.RowKit
attribute [local go_sem] Oper.semAt_some

/-- A change: a place, bytes, and those that come in their place. -/
abbrev cellsCh (k : Int) (A : Option Addr) (n c : Nat) (A' : Option Addr) (n' c' : Nat) : Array Value := #[.int .i64 k, .slice A n c, .slice A' n' c']
theorem info_ch : (Try.prog.info? 81).map (·.size) = some 3 := by kernel_rfl
theorem run_load_CH {W : World} {B : Nat} {cs : Array Value} (h : Blk W B cs 81) (hs : cs.size = 3) : (loadVar 81 ⟨B, 0, none⟩).run Try.prog W = .ok (.agg cs) W :=
  run_loadVar_row W B 81 81 cs _ _ h.at_ Try.underlying81 rfl (by rw [info_ch, hs])
theorem wpList_load_CH {ops : Array Oper} {rest : List Oper} {op : Oper} {a : Act} {W : World} {Q : Exit → Act → World → Prop} (hgd : Region.wanted op (yielded ops a.tmps) = true) (x : Operand) (ho : op.op = .load 81 x)
    (g : Nat) (hx : a.eval x = .pointer (some ⟨g, 0, none⟩)) (cs : Array Value) (hk : Blk W g cs 81) (hs : cs.size = 3)
    (h : wpList Try.prog ops Q rest (a.put op.dst (.agg cs)) W) : wpList Try.prog ops Q (op :: rest) a W :=
  BigFrame.wpList_want hgd fun _ hK => by
    unfold Oper.wp execOp
    simp only [ho, hx, Instr.loadAt, Instr.sureAddr, Sem.run_bind, Sem.run_pure, Result.andThen_ok, run_load_CH hk hs]
    exact hK _ _ h
theorem wpList_store_CH {ops : Array Oper} {rest : List Oper} {op : Oper} {a : Act} {W : World} {Q : Exit → Act → World → Prop} (hgd : op.guard = none) (x y : Operand) (ho : op.op = .store 81 x y)
    (g : Nat) (cells : Array Value) (hx : a.eval x = .pointer (some ⟨g, 0, none⟩)) (hy : a.eval y = .agg cells) (old : Array Value) (hk : Blk W g old 81) (ho' : old.size = 3) (hs : cells.size = 3) (h1 : cells.all (·.oneCell') = true)
    (h : wpList Try.prog ops Q rest (a.put op.dst undef) (W.setRow g cells)) : wpList Try.prog ops Q (op :: rest) a W :=
  wpList_store_row hgd 81 x y ho g cells hx hy 81 old hk.at_ (by rw [info_ch, hs]) (by rw [ho', hs]) h1 h
theorem one_ch (k : Int) (A : Option Addr) (n c : Nat) (A' : Option Addr) (n' c' : Nat) : (cellsCh k A n c A' n' c').all (·.oneCell') = true := by simp [cellsCh, Value.oneCell']
def ChOut (w : World) (kk s : Nat) (old now : List Int) (e : Ending) (w' : World) : Prop :=
  ∃ A1 c1 A2 c2, e = .returned (.agg (cellsCh (kk : Int) A1 s c1 A2 s c2)) ∧ OB w' w.heap.size A1 s c1 old ∧ OB w' w.heap.size A2 s c2 now ∧ Below w.heap.size w w'
set_option maxRecDepth 100000 in
set_option maxHeartbeats 2000000 in
theorem QChanged_4 (b off n c : Nat) (bs : List Int) (kk : Nat) (x : Int) (w : World) (h : RB w (some ⟨b, off, none⟩) n c bs) (hk : kk + 4 ≤ n) (hn : n ≤ 100000) (hf : fitsP x ((4 : Nat) : Int)) :
    Calls Try.prog 46 #[.slice (some ⟨b, off, none⟩) n c, .int .i64 (kk : Int), .int .i64 x, .int .i64 4] w (ChOut w kk 4 (cutI bs kk 4) (digL x 4)) := by
  have hnc := h.nc
  have hcm := h.cm
  have hc := h.cut (a := kk) (s := 4) (c' := c - kk) (by omega) (by omega) (by omega)
  obtain ⟨w0, hw0⟩ : ∃ w0, w.alloc (.cells (cellsCh 0 none 0 0 none 0 0) 81) = w0 := ⟨_, rfl⟩
  have hb := Lib.hid (show Below w.heap.size w w0 by rw [← hw0]; exact (Below.refl _ w).alloc (Nat.le_refl _) _)
  have kZ := Lib.hid (show Blk w0 w.heap.size (cellsCh 0 none 0 0 none 0 0) 81 by rw [← hw0]; exact blk_at rfl)
  have hC := Lib.hid (fun W (hW : Below w.heap.size w W) => Clone_any (some ⟨b, off + kk, none⟩) 4 (c - kk) (cutI bs kk 4) W (hc.below hW) (by omega))
  have hP := Lib.hid (fun W => show Calls Try.prog 68 #[.slice none 0 0, .int .i64 x, .int .i64 4] W (Fresh W (0 + 4) ([] ++ digL x 4)) from Put_yes none 0 0 [] x 4 W (RB.nil W) (by omega) hf)
  obtain ⟨k2, hk2⟩ : ∃ k2, kk + 4 = k2 := ⟨_, rfl⟩
  have wk2 : IntKind.i64.wrap ((kk : Int) + 4) = (k2 : Int) := by rw [IntKind.wrap_i64]; omega
  have s2 : k2 - kk = 4 := by omega
  have l1 : kk ≤ k2 := by omega
  have l1i : (kk : Int) ≤ (k2 : Int) := by omega
  have l2 : k2 ≤ c := by omega
  have l2i : (k2 : Int) ≤ (c : Int) := by omega
  have nkk : ¬ c = kk := by omega
  have mk2 : max (k2 : Int) 0 = (k2 : Int) := by omega
  replace hw0 := Lib.hid hw0
  clear hnc hcm hc h hk hn hf hk2
  go_enter Try.func46, Try.ntmps46
  go_upto_region 1 with fail
  rw [hw0.out]
  go_wp2_with (first
    | (go_at_call 67; refine (hC.out _ hb.out).mono ?_; rintro e w1 ⟨A1, c1, rfl, ho1, hB1⟩; have hb1 := Lib.hid (hb.out.trans (hB1.mono hb.out.size)); have kZ1 := Lib.hid (kZ.out.to hB1); have ho1' := Lib.hid (ho1.mono hb.out.size); clear ho1; replace hB1 := 0)
    | (go_at_call 68; refine (hP.out _).mono ?_; rintro e w2 ⟨A2, c2, rfl, ho2, hB2⟩; rw [Nat.zero_add, List.nil_append] at ho2; have hb2 := Lib.hid (hb1.out.trans (hB2.mono hb1.out.size)); have kZ2 := Lib.hid (kZ1.out.to hB2); have hu2 := Lib.hid (ho1'.out.below hB2); have ho2' := Lib.hid (ho2.mono hb1.out.size); clear ho2; replace hB2 := 0)
    | (refine wpList_store_CH rfl (.tmp 8) (.tmp 20) rfl w.heap.size (cellsCh (kk : Int) A1 4 c1 A2 4 c2) rfl rfl _ kZ2.out rfl rfl (one_ch _ _ _ _ _ _ _) ?_)
    | fail)
  refine bodyPost_ret (results_c Try.results46 rfl (run_load_CH (Blk.mk (setRow_heap _ _ _ _ _ _ kZ2.out.at_)) rfl)) rfl ?_
  exact ⟨A1, c1, A2, c2, rfl, hu2.out.farRow kZ2.out (show 5 ≠ 81 from by decide) _, ho2'.out.farRow kZ2.out (show 5 ≠ 81 from by decide) _, below_row hb2.out (Nat.le_refl _) _⟩
set_option maxRecDepth 100000 in
set_option maxHeartbeats 2000000 in
theorem QChanged_2 (b off n c : Nat) (bs : List Int) (kk : Nat) (x : Int) (w : World) (h : RB w (some ⟨b, off, none⟩) n c bs) (hk : kk + 2 ≤ n) (hn : n ≤ 100000) (hf : fitsP x ((2 : Nat) : Int)) :
    Calls Try.prog 46 #[.slice (some ⟨b, off, none⟩) n c, .int .i64 (kk : Int), .int .i64 x, .int .i64 2] w (ChOut w kk 2 (cutI bs kk 2) (digL x 2)) := by
  have hnc := h.nc
  have hcm := h.cm
  have hc := h.cut (a := kk) (s := 2) (c' := c - kk) (by omega) (by omega) (by omega)
  obtain ⟨w0, hw0⟩ : ∃ w0, w.alloc (.cells (cellsCh 0 none 0 0 none 0 0) 81) = w0 := ⟨_, rfl⟩
  have hb := Lib.hid (show Below w.heap.size w w0 by rw [← hw0]; exact (Below.refl _ w).alloc (Nat.le_refl _) _)
  have kZ := Lib.hid (show Blk w0 w.heap.size (cellsCh 0 none 0 0 none 0 0) 81 by rw [← hw0]; exact blk_at rfl)
  have hC := Lib.hid (fun W (hW : Below w.heap.size w W) => Clone_any (some ⟨b, off + kk, none⟩) 2 (c - kk) (cutI bs kk 2) W (hc.below hW) (by omega))
  have hP := Lib.hid (fun W => show Calls Try.prog 68 #[.slice none 0 0, .int .i64 x, .int .i64 2] W (Fresh W (0 + 2) ([] ++ digL x 2)) from Put_yes none 0 0 [] x 2 W (RB.nil W) (by omega) hf)
  obtain ⟨k2, hk2⟩ : ∃ k2, kk + 2 = k2 := ⟨_, rfl⟩
  have wk2 : IntKind.i64.wrap ((kk : Int) + 2) = (k2 : Int) := by rw [IntKind.wrap_i64]; omega
  have s2 : k2 - kk = 2 := by omega
  have l1 : kk ≤ k2 := by omega
  have l1i : (kk : Int) ≤ (k2 : Int) := by omega
  have l2 : k2 ≤ c := by omega
  have l2i : (k2 : Int) ≤ (c : Int) := by omega
  have nkk : ¬ c = kk := by omega
  have mk2 : max (k2 : Int) 0 = (k2 : Int) := by omega
  replace hw0 := Lib.hid hw0
  clear hnc hcm hc h hk hn hf hk2
  go_enter Try.func46, Try.ntmps46
  go_upto_region 1 with fail
  rw [hw0.out]
  go_wp2_with (first
    | (go_at_call 67; refine (hC.out _ hb.out).mono ?_; rintro e w1 ⟨A1, c1, rfl, ho1, hB1⟩; have hb1 := Lib.hid (hb.out.trans (hB1.mono hb.out.size)); have kZ1 := Lib.hid (kZ.out.to hB1); have ho1' := Lib.hid (ho1.mono hb.out.size); clear ho1; replace hB1 := 0)
    | (go_at_call 68; refine (hP.out _).mono ?_; rintro e w2 ⟨A2, c2, rfl, ho2, hB2⟩; rw [Nat.zero_add, List.nil_append] at ho2; have hb2 := Lib.hid (hb1.out.trans (hB2.mono hb1.out.size)); have kZ2 := Lib.hid (kZ1.out.to hB2); have hu2 := Lib.hid (ho1'.out.below hB2); have ho2' := Lib.hid (ho2.mono hb1.out.size); clear ho2; replace hB2 := 0)
    | (refine wpList_store_CH rfl (.tmp 8) (.tmp 20) rfl w.heap.size (cellsCh (kk : Int) A1 2 c1 A2 2 c2) rfl rfl _ kZ2.out rfl rfl (one_ch _ _ _ _ _ _ _) ?_)
    | fail)
  refine bodyPost_ret (results_c Try.results46 rfl (run_load_CH (Blk.mk (setRow_heap _ _ _ _ _ _ kZ2.out.at_)) rfl)) rfl ?_
  exact ⟨A1, c1, A2, c2, rfl, hu2.out.farRow kZ2.out (show 5 ≠ 81 from by decide) _, ho2'.out.farRow kZ2.out (show 5 ≠ 81 from by decide) _, below_row hb2.out (Nat.le_refl _) _⟩
theorem Blk.grown {w w' : World} {B : Nat} {C : Array Value} {T : TypeId} {row : Option Nat} (h : Blk w B C T) (hg : w.grownBy w' row) (hne : row ≠ some B) : Blk w' B C T := ⟨(hg.block B h.lt (fun e => hne e.symm)).trans h.at_⟩
theorem OB.grown {w w' : World} {base : Nat} {A : Option Addr} {n c : Nat} {bs : List Int} {row : Option Nat} (h : OB w base A n c bs) (hg : w.grownBy w' row) (hne : ∀ k, ownBlk A = some k → row ≠ some k) : OB w' base A n c bs := by
  refine ⟨⟨h.own.1, ?_⟩, h.byt⟩
  rcases h.own.2 with ⟨e, hn⟩ | ⟨g, cap, cur, e, hg', hh, hr⟩
  · exact .inl ⟨e, hn⟩
  · cases e
    have hlt := (h.blk (k := g) rfl).2
    exact .inr ⟨g, c, cur, rfl, hg', (hg.block g hlt (fun e => hne g rfl e.symm)).trans hh, hr⟩
theorem ownBlk_some (g o : Nat) (s : Option Nat) : ownBlk (some ⟨g, o, s⟩) = some g := rfl
set_option maxRecDepth 100000 in
set_option maxHeartbeats 4000000 in
theorem QWith_1 (A : Option Addr) (n c : Nat) (bs : List Int) (pl : Nat) (k : Nat) (A1 : Option Addr) (s c1 : Nat) (A2 : Option Addr) (c2 : Nat) (old now : List Int) (L : Nat) (w : World) (h : RB w A n c bs) (hn : n ≤ 100000) (h1 : RB w A1 s c1 old) (h2 : RB w A2 s c2 now) (hs : 0 < s) (hks : k + s ≤ n) (hpl : pl + 2 ≤ n)
    (kL : Blk w L (cellsCh (k : Int) A1 s c1 A2 s c2) 81) :
    Calls Try.prog 47 #[.slice A n c, .int .i64 (pl : Int), .slice (some ⟨L, 0, none⟩) 1 1] w (Fresh w n (setN (setN bs k now s) pl (digL (changeI (getV bs pl 2).1 old now) 2) 2)) := by
  have hC := Lib.hid (Clone_any A n c bs w h (by omega))
  have hn0 : 0 < n := by omega
  have hL1 := Lib.hid (fun W (hW : Below w.heap.size w W) => rangeAt_blkQ (kL.to hW))
  have hO1 := Lib.hid (fun W (hW : Below w.heap.size w W) => h1.below hW)
  have hN1 := Lib.hid (fun W (hW : Below w.heap.size w W) => h2.below hW)
  have hks1 := Lib.hid hks
  have hsp1 := Lib.hid hs
  have hR := Lib.hid (fun W (hW : Below w.heap.size w W) => h.below hW)
  have hsL := Lib.hid (show 0 + s ≤ 140737488355328 by omega)
  have hcm := change_in (getV bs pl 2).1 old now
  have hset := Lib.hid (fun A2 c2 W (hr : RB W A2 n c2 (setN bs k now s)) => show Calls Try.prog 50 #[.slice A2 n c2, .int .i64 (pl : Int), .int .i64 (changeI (getV bs pl 2).1 old now), .int .i64 2] W fun e w' => ∃ A3 c3, e = .returned (.tuple #[.slice A3 n c3, .int .i64 0]) ∧ OB w' W.heap.size A3 n c3 (setN (setN bs k now s) pl (digL (changeI (getV bs pl 2).1 old now) 2) 2) ∧ Below W.heap.size W w' from
    Set_ok A2 n c2 (setN bs k now s) pl (changeI (getV bs pl 2).1 old now) 2 W hr hn (fit2 hcm.1 hcm.2) hpl)
  have hG := Lib.hid (fun W (hW : Below w.heap.size w W) => Get_any A n c bs (pl : Int) 2 W (hR.out _ hW) hn)
  have hCh := Lib.hid (fun A4 n4 c4 A5 n5 c5 W (h4 : RB W A4 n4 c4 old) (h5 : RB W A5 n5 c5 now) (g4 : n4 ≤ 100000) (g5 : n5 ≤ 100000) => Change_any A4 A5 n4 c4 n5 c5 old now (getV bs pl 2).1 W h4 h5 g4 g5)
  unfold Answers at hCh
  have hs1 : s ≤ 100000 := by omega
  have lkn : (k : Int) ≤ (n : Int) := by omega
  have lkn' : k ≤ n := by omega
  generalize changeI (getV bs pl 2).1 old now = cg at *
  go_enter Try.func47, Try.ntmps47
  go_upto_region 2 with (first
    | (go_at_call 67; refine hC.out.mono ?_; rintro e w1 ⟨A3, c3, rfl, ho3, hB3⟩; have ho3' := Lib.hid ho3; have hb1 := Lib.hid hB3; clear ho3; replace hB3 := 0)
    | fail)
  obtain ⟨g, rfl, hgw, _, _⟩ := ho3'.out.form hn0
  have ho1 := Lib.hid ho3'.out
  have nc3 := ho1.out.rb.nc
  have n3k : ¬ c3 = k := by omega
  have l3 : (k : Int) ≤ (c3 : Int) := by omega
  have l3n : (n : Int) ≤ (c3 : Int) := by omega
  clear h h1 h2 kL hks hs hpl hcm hgw
  go_upto_region 3 with fail
  go_wp2_with fail
  refine wp_loop_rounds 2 ?_
  -- round: the change's copy, and its bytes in their place. 0: index · w1: world · k A1 s c1 A2 s c2 cellsCh (k : Int) A1 s c1 A2 s c2: place, old slice, now slice, cells · 1: fact names' mark · bs: bytes till now · old old bytes now now bytes · 0 mid offset
  rw [rounds_succ]
  go_upto_region 6 with (first
    | (refine wpList_load_mid rfl 81 (.tmp 20) rfl L 0 rfl (cellsCh (k : Int) A1 s c1 A2 s c2).toList _ (hL1.out _ hb1.out) Try.underlying81 rfl info_ch ?_)
    | (refine wpList_store_CH rfl (.tmp 11) (.tmp 21) rfl w1.heap.size (cellsCh (k : Int) A1 s c1 A2 s c2) rfl rfl _ (Blk.new w1 (cellsCh 0 none 0 0 none 0 0) 81) rfl rfl (one_ch _ _ _ _ _ _ _) ?_; rw [World.setRow_alloc_new])
    | fail)
  obtain ⟨v1, hv1⟩ : ∃ v, (w1.alloc (.cells (cellsCh (k : Int) A1 s c1 A2 s c2) 81)).drew = v := ⟨_, rfl⟩
  have hgq1 := Lib.hid (show g < w1.heap.size from (ho1.out.blk rfl).2)
  have kC1 := Lib.hid (show Blk v1 w1.heap.size (cellsCh (k : Int) A1 s c1 A2 s c2) 81 by rw [← hv1]; exact (Blk.new w1 _ _).drew)
  have hoA1 := Lib.hid (show OB v1 w.heap.size (some ⟨g, 0, none⟩) n c3 bs by rw [← hv1]; exact ho1.out.below (((Below.refl _ w1).alloc (Nat.le_refl _) _).drew))
  have hbA1 := Lib.hid (show Below w.heap.size w v1 by rw [← hv1]; exact (hb1.out.alloc hb1.out.size _).drew)
  have hgr1 := Lib.hid (show Below w1.heap.size w1 v1 by rw [← hv1]; exact ((Below.refl _ w1).alloc (Nat.le_refl _) _).drew)
  have hSf1 := Lib.hid (fun W (hq : Blk W w1.heap.size (cellsCh (k : Int) A1 s c1 A2 s c2) 81) => show W.cell? ⟨w1.heap.size, 0, none⟩ = some (.int .i64 (k : Int)) ∧ W.cell? ⟨w1.heap.size, 1, none⟩ = some (.slice A1 s c1) ∧ W.cell? ⟨w1.heap.size, 2, none⟩ = some (.slice A2 s c2) from ⟨hq.cell 0 _ rfl, hq.cell 1 _ rfl, hq.cell 2 _ rfl⟩)
  have hS1 := hSf1.out _ kC1.out
  try simp only [Act.put]
  refine wp_region_held_drew (S := fun W => W.cell? ⟨w1.heap.size, 0, none⟩ = some (.int .i64 (k : Int)) ∧ W.cell? ⟨w1.heap.size, 1, none⟩ = some (.slice A1 s c1) ∧ W.cell? ⟨w1.heap.size, 2, none⟩ = some (.slice A2 s c2)) (by kernel_rfl) (by rw [hv1]; exact hS1) (fun hHeld => ?_)
  rw [hv1] at hHeld ⊢
  replace hv1 := Lib.hid hv1
  refine take_h (i := 0) (v := ?_) rfl rfl (by kernel_rfl) (by kernel_rfl) (by kernel_rfl) (fun _ _ _ h => h) (Or.inl ⟨by rfl, fun W hSw => ?_⟩) (by assumption) ?_
  rotate_left
  · (clear hSw; go_simp; try with_reducible rfl)
  simp only [Act.put, List.setIfInBounds_toArray, List.set_cons_zero, List.set_cons_succ]
  refine take_h (i := 1) (v := ?_) rfl rfl (by kernel_rfl) (by kernel_rfl) (by kernel_rfl) (fun _ _ _ h => h) (Or.inl ⟨by rfl, fun W hSw => ?_⟩) (by assumption) ?_
  rotate_left
  · (clear hSw; go_simp; try with_reducible rfl)
  simp only [Act.put, List.setIfInBounds_toArray, List.set_cons_zero, List.set_cons_succ]
  refine take_h (i := 2) (v := ?_) rfl rfl (by kernel_rfl) (by kernel_rfl) (by kernel_rfl) (fun _ _ _ h => h) (Or.inl ⟨by rfl, fun W hSw => ?_⟩) (by assumption) ?_
  rotate_left
  · (obtain ⟨hs0, hs1, hs2⟩ := hSw; go_simp; try with_reducible rfl)
  simp only [Act.put, List.setIfInBounds_toArray, List.set_cons_zero, List.set_cons_succ]
  refine take_h (i := 3) (v := ?_) rfl rfl (by kernel_rfl) (by kernel_rfl) (by kernel_rfl) (fun _ _ _ h => h) (Or.inl ⟨by rfl, fun W hSw => ?_⟩) (by assumption) ?_
  rotate_left
  · (clear hSw; go_simp; try with_reducible rfl)
  simp only [Act.put, List.setIfInBounds_toArray, List.set_cons_zero, List.set_cons_succ]
  refine take_h (i := 4) (v := ?_) rfl rfl (by kernel_rfl) (by kernel_rfl) (by kernel_rfl) (fun _ _ _ h => h) (Or.inl ⟨by rfl, fun W hSw => ?_⟩) (by assumption) ?_
  rotate_left
  · (clear hSw; go_simp; try with_reducible rfl)
  simp only [Act.put, List.setIfInBounds_toArray, List.set_cons_zero, List.set_cons_succ]
  refine take_h (i := 5) (v := ?_) rfl rfl (by kernel_rfl) (by kernel_rfl) (by kernel_rfl) (fun _ _ _ h => h) (Or.inl ⟨by rfl, fun W hSw => ?_⟩) (by assumption) ?_
  rotate_left
  · (obtain ⟨hs0, hs1, hs2⟩ := hSw; go_simp; try with_reducible rfl)
  simp only [Act.put, List.setIfInBounds_toArray, List.set_cons_zero, List.set_cons_succ]
  refine step_h (i := 6) rfl rfl (by kernel_rfl) (fun K hK => ?_)
  refine step_copy_bytes rfl (.tmp 25) (.tmp 27) rfl hoA1.out rfl rfl (hN1.out _ hbA1.out) hks1.out hsp1.out ?_
  intro u1 hou gu1
  have hoB1 := Lib.hid hou
  have kCB1 := Lib.hid (kC1.out.grown gu1 (by have := hgq1.out; rw [ne_eq, Option.some.injEq]; omega))
  have hbB1 := Lib.hid (hbA1.out.grown gu1 hbA1.out.size (fun j hj => by cases hj; exact (ho1.out.blk rfl).1))
  have hS2 := hSf1.out _ kCB1.out
  have gus1 := Lib.hid gu1.size
  clear hHeld hou
  refine hK.out _ _ hS2 (fun hHeld => ?_)
  clear hK K
  try simp only [Act.put, List.setIfInBounds_toArray, List.set_cons_zero, List.set_cons_succ]
  refine wpAnyH_done (by kernel_rfl) ?_ _
  clear hHeld hS1 hS2
  try simp only [Act.put]
  go_upto_region 7 with fail
  obtain ⟨y1, hy1⟩ : ∃ y, u1.drew = y := ⟨_, rfl⟩
  have kCD1 := Lib.hid (show Blk y1 w1.heap.size (cellsCh (k : Int) A1 s c1 A2 s c2) 81 by rw [← hy1]; exact kCB1.out.drew)
  have hoD1 := Lib.hid (show OB y1 w.heap.size (some ⟨g, 0, none⟩) n c3 _ by rw [← hy1]; exact hoB1.out.below (Below.refl _ u1).drew)
  have hbD1 := Lib.hid (show Below w.heap.size w y1 by rw [← hy1]; exact hbB1.out.drew)
  have hys1 := Lib.hid (show u1.heap.size = y1.heap.size by rw [← hy1]; rfl)
  have hS1 := hSf1.out _ kCD1.out
  try simp only [Act.put]
  refine wp_region_held_drew (S := fun W => W.cell? ⟨w1.heap.size, 0, none⟩ = some (.int .i64 (k : Int)) ∧ W.cell? ⟨w1.heap.size, 1, none⟩ = some (.slice A1 s c1) ∧ W.cell? ⟨w1.heap.size, 2, none⟩ = some (.slice A2 s c2)) (by kernel_rfl) (by rw [hy1]; exact hS1) (fun hHeld => ?_)
  rw [hy1] at hHeld ⊢
  replace hy1 := Lib.hid hy1
  refine take_h (i := 0) (v := ?_) rfl rfl (by kernel_rfl) (by kernel_rfl) (by kernel_rfl) (fun _ _ _ h => h) (Or.inl ⟨by rfl, fun W hSw => ?_⟩) (by assumption) ?_
  rotate_left
  · (clear hSw; go_simp; try with_reducible rfl)
  simp only [Act.put, List.setIfInBounds_toArray, List.set_cons_zero, List.set_cons_succ]
  refine take_h (i := 1) (v := ?_) rfl rfl (by kernel_rfl) (by kernel_rfl) (by kernel_rfl) (fun _ _ _ h => h) (Or.inl ⟨by rfl, fun W hSw => ?_⟩) (by assumption) ?_
  rotate_left
  · (clear hSw; go_simp; try with_reducible rfl)
  simp only [Act.put, List.setIfInBounds_toArray, List.set_cons_zero, List.set_cons_succ]
  refine take_h (i := 2) (v := ?_) rfl rfl (by kernel_rfl) (by kernel_rfl) (by kernel_rfl) (fun _ _ _ h => h) (Or.inl ⟨by rfl, fun W hSw => ?_⟩) (by assumption) ?_
  rotate_left
  · (obtain ⟨hs0, hs1, hs2⟩ := hSw; go_simp; try with_reducible rfl)
  simp only [Act.put, List.setIfInBounds_toArray, List.set_cons_zero, List.set_cons_succ]
  refine take_h (i := 4) (v := ?_) rfl rfl (by kernel_rfl) (by kernel_rfl) (by kernel_rfl) (fun _ _ _ h => h) (Or.inl ⟨by rfl, fun W hSw => ?_⟩) (by assumption) ?_
  rotate_left
  · (clear hSw; go_simp; try with_reducible rfl)
  simp only [Act.put, List.setIfInBounds_toArray, List.set_cons_zero, List.set_cons_succ]
  refine take_h (i := 5) (v := ?_) rfl rfl (by kernel_rfl) (by kernel_rfl) (by kernel_rfl) (fun _ _ _ h => h) (Or.inl ⟨by rfl, fun W hSw => ?_⟩) (by assumption) ?_
  rotate_left
  · (clear hSw; go_simp; try with_reducible rfl)
  simp only [Act.put, List.setIfInBounds_toArray, List.set_cons_zero, List.set_cons_succ]
  refine take_h (i := 6) (v := ?_) rfl rfl (by kernel_rfl) (by kernel_rfl) (by kernel_rfl) (fun _ _ _ h => h) (Or.inl ⟨by rfl, fun W hSw => ?_⟩) (by assumption) ?_
  rotate_left
  · (obtain ⟨hs0, hs1, hs2⟩ := hSw; go_simp; try with_reducible rfl)
  simp only [Act.put, List.setIfInBounds_toArray, List.set_cons_zero, List.set_cons_succ]
  -- the first round's appends to nil. w1: world of the round · A1 s c1 A2 s c2: old's slice, now's slice · cellsCh (k : Int) A1 s c1 A2 s c2 cells · old now old, now
  refine step_h (i := 3) rfl rfl (by kernel_rfl) (fun K hK => ?_)
  refine step_append_bytes (A := none) (n := 0) (c := 0) (base := y1.heap.size) (bs := []) (ys := old) rfl _ _ rfl rfl rfl (OB.nil _ _) (hO1.out _ hbD1.out) hsL.out (Nat.le_refl _) ?_
  intro A8 c8 z1 ho8 hg8 hr8
  rw [Nat.zero_add, List.nil_append] at ho8
  have hbE1 := Lib.hid (hbD1.out.grown hg8 hbD1.out.size (fun j hj => by cases hj))
  have kCE1 := Lib.hid (kCD1.out.grown hg8 (by simp [ownBlk]))
  have hoE1 := Lib.hid (hoD1.out.grown hg8 (fun j hj => by simp [ownBlk]))
  have hzs1 := Lib.hid hg8.size
  have h8a := Lib.hid ho8
  have hS2 := hSf1.out _ kCE1.out
  clear hHeld hg8 hr8 ho8
  refine hK.out _ _ hS2 (fun hHeld => ?_)
  clear hK K
  try simp only [Act.put, List.setIfInBounds_toArray, List.set_cons_zero, List.set_cons_succ]
  refine step_h (i := 7) rfl rfl (by kernel_rfl) (fun K hK => ?_)
  refine step_append_bytes (A := none) (n := 0) (c := 0) (base := z1.heap.size) (bs := []) (ys := now) rfl _ _ rfl rfl rfl (OB.nil _ _) (hN1.out _ hbE1.out) hsL.out (Nat.le_refl _) ?_
  intro A9 c9 z2 ho9 hg9 hr9
  rw [Nat.zero_add, List.nil_append] at ho9
  have hb2 := Lib.hid (hbE1.out.grown hg9 hbE1.out.size (fun j hj => by cases hj))
  have kCF1 := Lib.hid (kCE1.out.grown hg9 (by simp [ownBlk]))
  have ho2 := Lib.hid (hoE1.out.grown hg9 (fun j hj => by simp [ownBlk]))
  have h8b := Lib.hid (h8a.out.grown hg9 (fun j hj => by simp [ownBlk]))
  have h8lt := Lib.hid (fun j (hj : ownBlk A8 = some j) => (h8a.out.blk hj).2)
  have hzs2 := Lib.hid hg9.size
  have h9b := Lib.hid ho9
  have hS3 := hSf1.out _ kCF1.out
  clear hHeld hg9 hr9 ho9
  refine hK.out _ _ hS3 (fun hHeld => ?_)
  clear hK K
  try simp only [Act.put, List.setIfInBounds_toArray, List.set_cons_zero, List.set_cons_succ]
  refine take_h (i := 8) (v := ?_) rfl rfl (by kernel_rfl) (by kernel_rfl) (by kernel_rfl) (fun _ _ _ h => h) (Or.inl ⟨by rfl, fun W hSw => ?_⟩) (by assumption) ?_
  rotate_left
  · (clear hSw; go_simp; try with_reducible rfl)
  simp only [Act.put, List.setIfInBounds_toArray, List.set_cons_zero, List.set_cons_succ]
  refine take_h (i := 9) (v := ?_) rfl rfl (by kernel_rfl) (by kernel_rfl) (by kernel_rfl) (fun _ _ _ h => h) (Or.inl ⟨by rfl, fun W hSw => ?_⟩) (by assumption) ?_
  rotate_left
  · (clear hSw; go_simp; try with_reducible rfl)
  simp only [Act.put, List.setIfInBounds_toArray, List.set_cons_zero, List.set_cons_succ]
  refine wpAnyH_done (by kernel_rfl) ?_ _
  clear hHeld hS1 hS2 hS3
  try simp only [Act.put]
  go_wp2_with fail
  rw [rounds_succ]
  go_wp2_with (first
    | (go_at_call 49; refine (hG.out _ hb2.out).mono ?_; rintro e w' ⟨rfl, rfl⟩)
    | (go_at_call 69; refine (hCh.out _ _ _ _ _ _ _ h8b.out.rb h9b.out.rb hs1 hs1).mono ?_; rintro e w5 ⟨rfl, hB5⟩; have hb5 := Lib.hid (hb2.out.trans (hB5.mono hb2.out.size)); have hr5 := Lib.hid (ho2.out.rb.below hB5); replace hB5 := 0)
    | (go_at_call 50; refine (hset.out _ _ _ hr5.out).mono ?_; rintro e w6 ⟨A6, c6, rfl, hr6, hB6⟩; have hb6 := Lib.hid (hb5.out.trans (hB6.mono hb5.out.size)); have hr6' := Lib.hid (hr6.mono hb5.out.size); replace hB6 := 0; clear hr6)
    | fail)
  go_ret
  exact ⟨A6, c6, rfl, hr6'.out, hb6.out⟩
set_option maxRecDepth 100000 in
set_option maxHeartbeats 4000000 in
theorem QWith_2 (A : Option Addr) (n c : Nat) (bs : List Int) (pl : Nat) (k : Nat) (A1 : Option Addr) (s c1 : Nat) (A2 : Option Addr) (c2 : Nat) (old now : List Int) (kp : Nat) (B1 : Option Addr) (t d1 : Nat) (B2 : Option Addr) (d2 : Nat) (oldp nowp : List Int) (L : Nat) (w : World) (h : RB w A n c bs) (hn : n ≤ 100000)
    (h1 : RB w A1 s c1 old) (h2 : RB w A2 s c2 now) (hs : 0 < s) (hks : k + s ≤ n) (q1 : RB w B1 t d1 oldp) (q2 : RB w B2 t d2 nowp) (ht : 0 < t) (hkt : kp + t ≤ n) (hpl : pl + 2 ≤ n) (hst : s + t ≤ 100000)
    (kL : Blk w L #[.int .i64 (k : Int), .slice A1 s c1, .slice A2 s c2, .int .i64 (kp : Int), .slice B1 t d1, .slice B2 t d2] 81) :
    Calls Try.prog 47 #[.slice A n c, .int .i64 (pl : Int), .slice (some ⟨L, 0, none⟩) 2 2] w (Fresh w n (setN (setN (setN bs k now s) kp nowp t) pl (digL (changeI (getV bs pl 2).1 (old ++ oldp) (now ++ nowp)) 2) 2)) := by
  have hC := Lib.hid (Clone_any A n c bs w h (by omega))
  have hn0 : 0 < n := by omega
  have hL1 := Lib.hid (fun W (hW : Below w.heap.size w W) => show W.rangeAt L 0 (cellsCh (k : Int) A1 s c1 A2 s c2).toList from fun j v hj => by
    have hj3 : j < 3 := by have := (List.getElem?_eq_some_iff.1 hj).1; simpa using this
    refine (kL.to hW).cell (0 + j) v ?_
    rw [Nat.zero_add]
    rcases (show j = 0 ∨ j = 1 ∨ j = 2 by omega) with rfl | rfl | rfl <;> exact hj)
  have hL2 := Lib.hid (fun W (hW : Below w.heap.size w W) => show W.rangeAt L 3 (cellsCh (kp : Int) B1 t d1 B2 t d2).toList from fun j v hj => by
    have hj3 : j < 3 := by have := (List.getElem?_eq_some_iff.1 hj).1; simpa using this
    refine (kL.to hW).cell (3 + j) v ?_
    rcases (show j = 0 ∨ j = 1 ∨ j = 2 by omega) with rfl | rfl | rfl <;> exact hj)
  have hO1 := Lib.hid (fun W (hW : Below w.heap.size w W) => h1.below hW)
  have hN1 := Lib.hid (fun W (hW : Below w.heap.size w W) => h2.below hW)
  have hO2 := Lib.hid (fun W (hW : Below w.heap.size w W) => q1.below hW)
  have hN2 := Lib.hid (fun W (hW : Below w.heap.size w W) => q2.below hW)
  have hks1 := Lib.hid hks
  have hsp1 := Lib.hid hs
  have hks2 := Lib.hid hkt
  have hsp2 := Lib.hid ht
  have hR := Lib.hid (fun W (hW : Below w.heap.size w W) => h.below hW)
  have hsL := Lib.hid (show 0 + s ≤ 140737488355328 by omega)
  have hsL2 := Lib.hid (show s + t ≤ 140737488355328 by omega)
  have hcm := change_in (getV bs pl 2).1 (old ++ oldp) (now ++ nowp)
  have hset := Lib.hid (fun A2 c2 W (hr : RB W A2 n c2 (setN (setN bs k now s) kp nowp t)) => show Calls Try.prog 50 #[.slice A2 n c2, .int .i64 (pl : Int), .int .i64 (changeI (getV bs pl 2).1 (old ++ oldp) (now ++ nowp)), .int .i64 2] W fun e w' => ∃ A3 c3, e = .returned (.tuple #[.slice A3 n c3, .int .i64 0]) ∧ OB w' W.heap.size A3 n c3 (setN (setN (setN bs k now s) kp nowp t) pl (digL (changeI (getV bs pl 2).1 (old ++ oldp) (now ++ nowp)) 2) 2) ∧ Below W.heap.size W w' from
    Set_ok A2 n c2 (setN (setN bs k now s) kp nowp t) pl (changeI (getV bs pl 2).1 (old ++ oldp) (now ++ nowp)) 2 W hr hn (fit2 hcm.1 hcm.2) hpl)
  have hG := Lib.hid (fun W (hW : Below w.heap.size w W) => Get_any A n c bs (pl : Int) 2 W (hR.out _ hW) hn)
  have hCh := Lib.hid (fun A4 n4 c4 A5 n5 c5 W (h4 : RB W A4 n4 c4 (old ++ oldp)) (h5 : RB W A5 n5 c5 (now ++ nowp)) (g4 : n4 ≤ 100000) (g5 : n5 ≤ 100000) => Change_any A4 A5 n4 c4 n5 c5 (old ++ oldp) (now ++ nowp) (getV bs pl 2).1 W h4 h5 g4 g5)
  unfold Answers at hCh
  have lkn : (k : Int) ≤ (n : Int) := by omega
  have lkn' : k ≤ n := by omega
  have lpn : (kp : Int) ≤ (n : Int) := by omega
  have lpn' : kp ≤ n := by omega
  generalize changeI (getV bs pl 2).1 (old ++ oldp) (now ++ nowp) = cg at *
  go_enter Try.func47, Try.ntmps47
  go_upto_region 2 with (first
    | (go_at_call 67; refine hC.out.mono ?_; rintro e w1 ⟨A3, c3, rfl, ho3, hB3⟩; have ho3' := Lib.hid ho3; have hb1 := Lib.hid hB3; clear ho3; replace hB3 := 0)
    | fail)
  obtain ⟨g, rfl, hgw, _, _⟩ := ho3'.out.form hn0
  have ho1 := Lib.hid ho3'.out
  have nc3 := ho1.out.rb.nc
  have n3k : ¬ c3 = k := by omega
  have l3 : (k : Int) ≤ (c3 : Int) := by omega
  have n3p : ¬ c3 = kp := by omega
  have l3p : (kp : Int) ≤ (c3 : Int) := by omega
  have l3n : (n : Int) ≤ (c3 : Int) := by omega
  clear h h1 h2 q1 q2 kL hks hs ht hkt hpl hcm hgw
  go_upto_region 3 with fail
  go_wp2_with fail
  refine wp_loop_rounds 3 ?_
  -- round: the change's copy, and its bytes in their place. 0: index · w1: world · k A1 s c1 A2 s c2 cellsCh (k : Int) A1 s c1 A2 s c2: place, old slice, now slice, cells · 1: fact names' mark · bs: bytes till now · old old bytes now now bytes · 0 mid offset
  rw [rounds_succ]
  go_upto_region 6 with (first
    | (refine wpList_load_mid rfl 81 (.tmp 20) rfl L 0 rfl (cellsCh (k : Int) A1 s c1 A2 s c2).toList _ (hL1.out _ hb1.out) Try.underlying81 rfl info_ch ?_)
    | (refine wpList_store_CH rfl (.tmp 11) (.tmp 21) rfl w1.heap.size (cellsCh (k : Int) A1 s c1 A2 s c2) rfl rfl _ (Blk.new w1 (cellsCh 0 none 0 0 none 0 0) 81) rfl rfl (one_ch _ _ _ _ _ _ _) ?_; rw [World.setRow_alloc_new])
    | fail)
  obtain ⟨v1, hv1⟩ : ∃ v, (w1.alloc (.cells (cellsCh (k : Int) A1 s c1 A2 s c2) 81)).drew = v := ⟨_, rfl⟩
  have hgq1 := Lib.hid (show g < w1.heap.size from (ho1.out.blk rfl).2)
  have kC1 := Lib.hid (show Blk v1 w1.heap.size (cellsCh (k : Int) A1 s c1 A2 s c2) 81 by rw [← hv1]; exact (Blk.new w1 _ _).drew)
  have hoA1 := Lib.hid (show OB v1 w.heap.size (some ⟨g, 0, none⟩) n c3 bs by rw [← hv1]; exact ho1.out.below (((Below.refl _ w1).alloc (Nat.le_refl _) _).drew))
  have hbA1 := Lib.hid (show Below w.heap.size w v1 by rw [← hv1]; exact (hb1.out.alloc hb1.out.size _).drew)
  have hgr1 := Lib.hid (show Below w1.heap.size w1 v1 by rw [← hv1]; exact ((Below.refl _ w1).alloc (Nat.le_refl _) _).drew)
  have hSf1 := Lib.hid (fun W (hq : Blk W w1.heap.size (cellsCh (k : Int) A1 s c1 A2 s c2) 81) => show W.cell? ⟨w1.heap.size, 0, none⟩ = some (.int .i64 (k : Int)) ∧ W.cell? ⟨w1.heap.size, 1, none⟩ = some (.slice A1 s c1) ∧ W.cell? ⟨w1.heap.size, 2, none⟩ = some (.slice A2 s c2) from ⟨hq.cell 0 _ rfl, hq.cell 1 _ rfl, hq.cell 2 _ rfl⟩)
  have hS1 := hSf1.out _ kC1.out
  try simp only [Act.put]
  refine wp_region_held_drew (S := fun W => W.cell? ⟨w1.heap.size, 0, none⟩ = some (.int .i64 (k : Int)) ∧ W.cell? ⟨w1.heap.size, 1, none⟩ = some (.slice A1 s c1) ∧ W.cell? ⟨w1.heap.size, 2, none⟩ = some (.slice A2 s c2)) (by kernel_rfl) (by rw [hv1]; exact hS1) (fun hHeld => ?_)
  rw [hv1] at hHeld ⊢
  replace hv1 := Lib.hid hv1
  refine take_h (i := 0) (v := ?_) rfl rfl (by kernel_rfl) (by kernel_rfl) (by kernel_rfl) (fun _ _ _ h => h) (Or.inl ⟨by rfl, fun W hSw => ?_⟩) (by assumption) ?_
  rotate_left
  · (clear hSw; go_simp; try with_reducible rfl)
  simp only [Act.put, List.setIfInBounds_toArray, List.set_cons_zero, List.set_cons_succ]
  refine take_h (i := 1) (v := ?_) rfl rfl (by kernel_rfl) (by kernel_rfl) (by kernel_rfl) (fun _ _ _ h => h) (Or.inl ⟨by rfl, fun W hSw => ?_⟩) (by assumption) ?_
  rotate_left
  · (clear hSw; go_simp; try with_reducible rfl)
  simp only [Act.put, List.setIfInBounds_toArray, List.set_cons_zero, List.set_cons_succ]
  refine take_h (i := 2) (v := ?_) rfl rfl (by kernel_rfl) (by kernel_rfl) (by kernel_rfl) (fun _ _ _ h => h) (Or.inl ⟨by rfl, fun W hSw => ?_⟩) (by assumption) ?_
  rotate_left
  · (obtain ⟨hs0, hs1, hs2⟩ := hSw; go_simp; try with_reducible rfl)
  simp only [Act.put, List.setIfInBounds_toArray, List.set_cons_zero, List.set_cons_succ]
  refine take_h (i := 3) (v := ?_) rfl rfl (by kernel_rfl) (by kernel_rfl) (by kernel_rfl) (fun _ _ _ h => h) (Or.inl ⟨by rfl, fun W hSw => ?_⟩) (by assumption) ?_
  rotate_left
  · (clear hSw; go_simp; try with_reducible rfl)
  simp only [Act.put, List.setIfInBounds_toArray, List.set_cons_zero, List.set_cons_succ]
  refine take_h (i := 4) (v := ?_) rfl rfl (by kernel_rfl) (by kernel_rfl) (by kernel_rfl) (fun _ _ _ h => h) (Or.inl ⟨by rfl, fun W hSw => ?_⟩) (by assumption) ?_
  rotate_left
  · (clear hSw; go_simp; try with_reducible rfl)
  simp only [Act.put, List.setIfInBounds_toArray, List.set_cons_zero, List.set_cons_succ]
  refine take_h (i := 5) (v := ?_) rfl rfl (by kernel_rfl) (by kernel_rfl) (by kernel_rfl) (fun _ _ _ h => h) (Or.inl ⟨by rfl, fun W hSw => ?_⟩) (by assumption) ?_
  rotate_left
  · (obtain ⟨hs0, hs1, hs2⟩ := hSw; go_simp; try with_reducible rfl)
  simp only [Act.put, List.setIfInBounds_toArray, List.set_cons_zero, List.set_cons_succ]
  refine step_h (i := 6) rfl rfl (by kernel_rfl) (fun K hK => ?_)
  refine step_copy_bytes rfl (.tmp 25) (.tmp 27) rfl hoA1.out rfl rfl (hN1.out _ hbA1.out) hks1.out hsp1.out ?_
  intro u1 hou gu1
  have hoB1 := Lib.hid hou
  have kCB1 := Lib.hid (kC1.out.grown gu1 (by have := hgq1.out; rw [ne_eq, Option.some.injEq]; omega))
  have hbB1 := Lib.hid (hbA1.out.grown gu1 hbA1.out.size (fun j hj => by cases hj; exact (ho1.out.blk rfl).1))
  have hS2 := hSf1.out _ kCB1.out
  have gus1 := Lib.hid gu1.size
  clear hHeld hou
  refine hK.out _ _ hS2 (fun hHeld => ?_)
  clear hK K
  try simp only [Act.put, List.setIfInBounds_toArray, List.set_cons_zero, List.set_cons_succ]
  refine wpAnyH_done (by kernel_rfl) ?_ _
  clear hHeld hS1 hS2
  try simp only [Act.put]
  go_upto_region 7 with fail
  obtain ⟨y1, hy1⟩ : ∃ y, u1.drew = y := ⟨_, rfl⟩
  have kCD1 := Lib.hid (show Blk y1 w1.heap.size (cellsCh (k : Int) A1 s c1 A2 s c2) 81 by rw [← hy1]; exact kCB1.out.drew)
  have hoD1 := Lib.hid (show OB y1 w.heap.size (some ⟨g, 0, none⟩) n c3 _ by rw [← hy1]; exact hoB1.out.below (Below.refl _ u1).drew)
  have hbD1 := Lib.hid (show Below w.heap.size w y1 by rw [← hy1]; exact hbB1.out.drew)
  have hys1 := Lib.hid (show u1.heap.size = y1.heap.size by rw [← hy1]; rfl)
  have hS1 := hSf1.out _ kCD1.out
  try simp only [Act.put]
  refine wp_region_held_drew (S := fun W => W.cell? ⟨w1.heap.size, 0, none⟩ = some (.int .i64 (k : Int)) ∧ W.cell? ⟨w1.heap.size, 1, none⟩ = some (.slice A1 s c1) ∧ W.cell? ⟨w1.heap.size, 2, none⟩ = some (.slice A2 s c2)) (by kernel_rfl) (by rw [hy1]; exact hS1) (fun hHeld => ?_)
  rw [hy1] at hHeld ⊢
  replace hy1 := Lib.hid hy1
  refine take_h (i := 0) (v := ?_) rfl rfl (by kernel_rfl) (by kernel_rfl) (by kernel_rfl) (fun _ _ _ h => h) (Or.inl ⟨by rfl, fun W hSw => ?_⟩) (by assumption) ?_
  rotate_left
  · (clear hSw; go_simp; try with_reducible rfl)
  simp only [Act.put, List.setIfInBounds_toArray, List.set_cons_zero, List.set_cons_succ]
  refine take_h (i := 1) (v := ?_) rfl rfl (by kernel_rfl) (by kernel_rfl) (by kernel_rfl) (fun _ _ _ h => h) (Or.inl ⟨by rfl, fun W hSw => ?_⟩) (by assumption) ?_
  rotate_left
  · (clear hSw; go_simp; try with_reducible rfl)
  simp only [Act.put, List.setIfInBounds_toArray, List.set_cons_zero, List.set_cons_succ]
  refine take_h (i := 2) (v := ?_) rfl rfl (by kernel_rfl) (by kernel_rfl) (by kernel_rfl) (fun _ _ _ h => h) (Or.inl ⟨by rfl, fun W hSw => ?_⟩) (by assumption) ?_
  rotate_left
  · (obtain ⟨hs0, hs1, hs2⟩ := hSw; go_simp; try with_reducible rfl)
  simp only [Act.put, List.setIfInBounds_toArray, List.set_cons_zero, List.set_cons_succ]
  refine take_h (i := 4) (v := ?_) rfl rfl (by kernel_rfl) (by kernel_rfl) (by kernel_rfl) (fun _ _ _ h => h) (Or.inl ⟨by rfl, fun W hSw => ?_⟩) (by assumption) ?_
  rotate_left
  · (clear hSw; go_simp; try with_reducible rfl)
  simp only [Act.put, List.setIfInBounds_toArray, List.set_cons_zero, List.set_cons_succ]
  refine take_h (i := 5) (v := ?_) rfl rfl (by kernel_rfl) (by kernel_rfl) (by kernel_rfl) (fun _ _ _ h => h) (Or.inl ⟨by rfl, fun W hSw => ?_⟩) (by assumption) ?_
  rotate_left
  · (clear hSw; go_simp; try with_reducible rfl)
  simp only [Act.put, List.setIfInBounds_toArray, List.set_cons_zero, List.set_cons_succ]
  refine take_h (i := 6) (v := ?_) rfl rfl (by kernel_rfl) (by kernel_rfl) (by kernel_rfl) (fun _ _ _ h => h) (Or.inl ⟨by rfl, fun W hSw => ?_⟩) (by assumption) ?_
  rotate_left
  · (obtain ⟨hs0, hs1, hs2⟩ := hSw; go_simp; try with_reducible rfl)
  simp only [Act.put, List.setIfInBounds_toArray, List.set_cons_zero, List.set_cons_succ]
  -- the first round's appends to nil. w1: world of the round · A1 s c1 A2 s c2: old's slice, now's slice · cellsCh (k : Int) A1 s c1 A2 s c2 cells · old now old, now
  refine step_h (i := 3) rfl rfl (by kernel_rfl) (fun K hK => ?_)
  refine step_append_bytes (A := none) (n := 0) (c := 0) (base := y1.heap.size) (bs := []) (ys := old) rfl _ _ rfl rfl rfl (OB.nil _ _) (hO1.out _ hbD1.out) hsL.out (Nat.le_refl _) ?_
  intro A8 c8 z1 ho8 hg8 hr8
  rw [Nat.zero_add, List.nil_append] at ho8
  have hbE1 := Lib.hid (hbD1.out.grown hg8 hbD1.out.size (fun j hj => by cases hj))
  have kCE1 := Lib.hid (kCD1.out.grown hg8 (by simp [ownBlk]))
  have hoE1 := Lib.hid (hoD1.out.grown hg8 (fun j hj => by simp [ownBlk]))
  have hzs1 := Lib.hid hg8.size
  have h8a := Lib.hid ho8
  have hS2 := hSf1.out _ kCE1.out
  clear hHeld hg8 hr8 ho8
  refine hK.out _ _ hS2 (fun hHeld => ?_)
  clear hK K
  try simp only [Act.put, List.setIfInBounds_toArray, List.set_cons_zero, List.set_cons_succ]
  refine step_h (i := 7) rfl rfl (by kernel_rfl) (fun K hK => ?_)
  refine step_append_bytes (A := none) (n := 0) (c := 0) (base := z1.heap.size) (bs := []) (ys := now) rfl _ _ rfl rfl rfl (OB.nil _ _) (hN1.out _ hbE1.out) hsL.out (Nat.le_refl _) ?_
  intro A9 c9 z2 ho9 hg9 hr9
  rw [Nat.zero_add, List.nil_append] at ho9
  have hb2 := Lib.hid (hbE1.out.grown hg9 hbE1.out.size (fun j hj => by cases hj))
  have kCF1 := Lib.hid (kCE1.out.grown hg9 (by simp [ownBlk]))
  have ho2 := Lib.hid (hoE1.out.grown hg9 (fun j hj => by simp [ownBlk]))
  have h8b := Lib.hid (h8a.out.grown hg9 (fun j hj => by simp [ownBlk]))
  have h8lt := Lib.hid (fun j (hj : ownBlk A8 = some j) => (h8a.out.blk hj).2)
  have hzs2 := Lib.hid hg9.size
  have h9b := Lib.hid ho9
  have hS3 := hSf1.out _ kCF1.out
  clear hHeld hg9 hr9 ho9
  refine hK.out _ _ hS3 (fun hHeld => ?_)
  clear hK K
  try simp only [Act.put, List.setIfInBounds_toArray, List.set_cons_zero, List.set_cons_succ]
  refine take_h (i := 8) (v := ?_) rfl rfl (by kernel_rfl) (by kernel_rfl) (by kernel_rfl) (fun _ _ _ h => h) (Or.inl ⟨by rfl, fun W hSw => ?_⟩) (by assumption) ?_
  rotate_left
  · (clear hSw; go_simp; try with_reducible rfl)
  simp only [Act.put, List.setIfInBounds_toArray, List.set_cons_zero, List.set_cons_succ]
  refine take_h (i := 9) (v := ?_) rfl rfl (by kernel_rfl) (by kernel_rfl) (by kernel_rfl) (fun _ _ _ h => h) (Or.inl ⟨by rfl, fun W hSw => ?_⟩) (by assumption) ?_
  rotate_left
  · (clear hSw; go_simp; try with_reducible rfl)
  simp only [Act.put, List.setIfInBounds_toArray, List.set_cons_zero, List.set_cons_succ]
  refine wpAnyH_done (by kernel_rfl) ?_ _
  clear hHeld hS1 hS2 hS3
  try simp only [Act.put]
  go_wp2_with fail
  have sz1 := hgr1.out.size
  have sz2 := gus1.out
  have sz3 := hys1.out
  have hg8 := Lib.hid (fun j (hj : ownBlk A8 = some j) => show g < j from by have := (h8a.out.blk hj).1; omega)
  have hg9 := Lib.hid (fun j (hj : ownBlk A9 = some j) => show z1.heap.size ≤ j ∧ j < z2.heap.size from h9b.out.blk hj)
  have hgz1 := Lib.hid (show g < z1.heap.size from by have := hzs1.out; omega)
  have h8w := Lib.hid (fun j (hj : ownBlk A8 = some j) => show w.heap.size ≤ j from by have := (h8a.out.blk hj).1; have := hb1.out.size; omega)
  clear sz1 sz2 sz3
  -- round: the change's copy, and its bytes in their place. 1: index · z2: world · kp B1 t d1 B2 t d2 cellsCh (kp : Int) B1 t d1 B2 t d2: place, old slice, now slice, cells · 2: fact names' mark · (setN bs k now s): bytes till now · oldp old bytes nowp now bytes · 3 mid offset
  rw [rounds_succ]
  go_upto_region 6 with (first
    | (refine wpList_load_mid rfl 81 (.tmp 20) rfl L 3 rfl (cellsCh (kp : Int) B1 t d1 B2 t d2).toList _ (hL2.out _ hb2.out) Try.underlying81 rfl info_ch ?_)
    | (refine wpList_store_CH rfl (.tmp 11) (.tmp 21) rfl z2.heap.size (cellsCh (kp : Int) B1 t d1 B2 t d2) rfl rfl _ (Blk.new z2 (cellsCh 0 none 0 0 none 0 0) 81) rfl rfl (one_ch _ _ _ _ _ _ _) ?_; rw [World.setRow_alloc_new])
    | fail)
  obtain ⟨v2, hv2⟩ : ∃ v, (z2.alloc (.cells (cellsCh (kp : Int) B1 t d1 B2 t d2) 81)).drew = v := ⟨_, rfl⟩
  have hgq2 := Lib.hid (show g < z2.heap.size from (ho2.out.blk rfl).2)
  have kC2 := Lib.hid (show Blk v2 z2.heap.size (cellsCh (kp : Int) B1 t d1 B2 t d2) 81 by rw [← hv2]; exact (Blk.new z2 _ _).drew)
  have hoA2 := Lib.hid (show OB v2 w.heap.size (some ⟨g, 0, none⟩) n c3 (setN bs k now s) by rw [← hv2]; exact ho2.out.below (((Below.refl _ z2).alloc (Nat.le_refl _) _).drew))
  have hbA2 := Lib.hid (show Below w.heap.size w v2 by rw [← hv2]; exact (hb2.out.alloc hb2.out.size _).drew)
  have hgr2 := Lib.hid (show Below z2.heap.size z2 v2 by rw [← hv2]; exact ((Below.refl _ z2).alloc (Nat.le_refl _) _).drew)
  have hSf2 := Lib.hid (fun W (hq : Blk W z2.heap.size (cellsCh (kp : Int) B1 t d1 B2 t d2) 81) => show W.cell? ⟨z2.heap.size, 0, none⟩ = some (.int .i64 (kp : Int)) ∧ W.cell? ⟨z2.heap.size, 1, none⟩ = some (.slice B1 t d1) ∧ W.cell? ⟨z2.heap.size, 2, none⟩ = some (.slice B2 t d2) from ⟨hq.cell 0 _ rfl, hq.cell 1 _ rfl, hq.cell 2 _ rfl⟩)
  have hS1 := hSf2.out _ kC2.out
  try simp only [Act.put]
  refine wp_region_held_drew (S := fun W => W.cell? ⟨z2.heap.size, 0, none⟩ = some (.int .i64 (kp : Int)) ∧ W.cell? ⟨z2.heap.size, 1, none⟩ = some (.slice B1 t d1) ∧ W.cell? ⟨z2.heap.size, 2, none⟩ = some (.slice B2 t d2)) (by kernel_rfl) (by rw [hv2]; exact hS1) (fun hHeld => ?_)
  rw [hv2] at hHeld ⊢
  replace hv2 := Lib.hid hv2
  refine take_h (i := 0) (v := ?_) rfl rfl (by kernel_rfl) (by kernel_rfl) (by kernel_rfl) (fun _ _ _ h => h) (Or.inl ⟨by rfl, fun W hSw => ?_⟩) (by assumption) ?_
  rotate_left
  · (clear hSw; go_simp; try with_reducible rfl)
  simp only [Act.put, List.setIfInBounds_toArray, List.set_cons_zero, List.set_cons_succ]
  refine take_h (i := 1) (v := ?_) rfl rfl (by kernel_rfl) (by kernel_rfl) (by kernel_rfl) (fun _ _ _ h => h) (Or.inl ⟨by rfl, fun W hSw => ?_⟩) (by assumption) ?_
  rotate_left
  · (clear hSw; go_simp; try with_reducible rfl)
  simp only [Act.put, List.setIfInBounds_toArray, List.set_cons_zero, List.set_cons_succ]
  refine take_h (i := 2) (v := ?_) rfl rfl (by kernel_rfl) (by kernel_rfl) (by kernel_rfl) (fun _ _ _ h => h) (Or.inl ⟨by rfl, fun W hSw => ?_⟩) (by assumption) ?_
  rotate_left
  · (obtain ⟨hs0, hs1, hs2⟩ := hSw; go_simp; try with_reducible rfl)
  simp only [Act.put, List.setIfInBounds_toArray, List.set_cons_zero, List.set_cons_succ]
  refine take_h (i := 3) (v := ?_) rfl rfl (by kernel_rfl) (by kernel_rfl) (by kernel_rfl) (fun _ _ _ h => h) (Or.inl ⟨by rfl, fun W hSw => ?_⟩) (by assumption) ?_
  rotate_left
  · (clear hSw; go_simp; try with_reducible rfl)
  simp only [Act.put, List.setIfInBounds_toArray, List.set_cons_zero, List.set_cons_succ]
  refine take_h (i := 4) (v := ?_) rfl rfl (by kernel_rfl) (by kernel_rfl) (by kernel_rfl) (fun _ _ _ h => h) (Or.inl ⟨by rfl, fun W hSw => ?_⟩) (by assumption) ?_
  rotate_left
  · (clear hSw; go_simp; try with_reducible rfl)
  simp only [Act.put, List.setIfInBounds_toArray, List.set_cons_zero, List.set_cons_succ]
  refine take_h (i := 5) (v := ?_) rfl rfl (by kernel_rfl) (by kernel_rfl) (by kernel_rfl) (fun _ _ _ h => h) (Or.inl ⟨by rfl, fun W hSw => ?_⟩) (by assumption) ?_
  rotate_left
  · (obtain ⟨hs0, hs1, hs2⟩ := hSw; go_simp; try with_reducible rfl)
  simp only [Act.put, List.setIfInBounds_toArray, List.set_cons_zero, List.set_cons_succ]
  refine step_h (i := 6) rfl rfl (by kernel_rfl) (fun K hK => ?_)
  refine step_copy_bytes rfl (.tmp 25) (.tmp 27) rfl hoA2.out rfl rfl (hN2.out _ hbA2.out) hks2.out hsp2.out ?_
  intro u2 hou gu2
  have hoB2 := Lib.hid hou
  have kCB2 := Lib.hid (kC2.out.grown gu2 (by have := hgq2.out; rw [ne_eq, Option.some.injEq]; omega))
  have hbB2 := Lib.hid (hbA2.out.grown gu2 hbA2.out.size (fun j hj => by cases hj; exact (ho2.out.blk rfl).1))
  have hS2 := hSf2.out _ kCB2.out
  have gus2 := Lib.hid gu2.size
  clear hHeld hou
  refine hK.out _ _ hS2 (fun hHeld => ?_)
  clear hK K
  try simp only [Act.put, List.setIfInBounds_toArray, List.set_cons_zero, List.set_cons_succ]
  refine wpAnyH_done (by kernel_rfl) ?_ _
  clear hHeld hS1 hS2
  try simp only [Act.put]
  go_upto_region 7 with fail
  obtain ⟨y2, hy2⟩ : ∃ y, u2.drew = y := ⟨_, rfl⟩
  have kCD2 := Lib.hid (show Blk y2 z2.heap.size (cellsCh (kp : Int) B1 t d1 B2 t d2) 81 by rw [← hy2]; exact kCB2.out.drew)
  have hoD2 := Lib.hid (show OB y2 w.heap.size (some ⟨g, 0, none⟩) n c3 _ by rw [← hy2]; exact hoB2.out.below (Below.refl _ u2).drew)
  have hbD2 := Lib.hid (show Below w.heap.size w y2 by rw [← hy2]; exact hbB2.out.drew)
  have hys2 := Lib.hid (show u2.heap.size = y2.heap.size by rw [← hy2]; rfl)
  have hS1 := hSf2.out _ kCD2.out
  try simp only [Act.put]
  refine wp_region_held_drew (S := fun W => W.cell? ⟨z2.heap.size, 0, none⟩ = some (.int .i64 (kp : Int)) ∧ W.cell? ⟨z2.heap.size, 1, none⟩ = some (.slice B1 t d1) ∧ W.cell? ⟨z2.heap.size, 2, none⟩ = some (.slice B2 t d2)) (by kernel_rfl) (by rw [hy2]; exact hS1) (fun hHeld => ?_)
  rw [hy2] at hHeld ⊢
  replace hy2 := Lib.hid hy2
  refine take_h (i := 0) (v := ?_) rfl rfl (by kernel_rfl) (by kernel_rfl) (by kernel_rfl) (fun _ _ _ h => h) (Or.inl ⟨by rfl, fun W hSw => ?_⟩) (by assumption) ?_
  rotate_left
  · (clear hSw; go_simp; try with_reducible rfl)
  simp only [Act.put, List.setIfInBounds_toArray, List.set_cons_zero, List.set_cons_succ]
  refine take_h (i := 1) (v := ?_) rfl rfl (by kernel_rfl) (by kernel_rfl) (by kernel_rfl) (fun _ _ _ h => h) (Or.inl ⟨by rfl, fun W hSw => ?_⟩) (by assumption) ?_
  rotate_left
  · (clear hSw; go_simp; try with_reducible rfl)
  simp only [Act.put, List.setIfInBounds_toArray, List.set_cons_zero, List.set_cons_succ]
  refine take_h (i := 2) (v := ?_) rfl rfl (by kernel_rfl) (by kernel_rfl) (by kernel_rfl) (fun _ _ _ h => h) (Or.inl ⟨by rfl, fun W hSw => ?_⟩) (by assumption) ?_
  rotate_left
  · (obtain ⟨hs0, hs1, hs2⟩ := hSw; go_simp; try with_reducible rfl)
  simp only [Act.put, List.setIfInBounds_toArray, List.set_cons_zero, List.set_cons_succ]
  refine take_h (i := 4) (v := ?_) rfl rfl (by kernel_rfl) (by kernel_rfl) (by kernel_rfl) (fun _ _ _ h => h) (Or.inl ⟨by rfl, fun W hSw => ?_⟩) (by assumption) ?_
  rotate_left
  · (clear hSw; go_simp; try with_reducible rfl)
  simp only [Act.put, List.setIfInBounds_toArray, List.set_cons_zero, List.set_cons_succ]
  refine take_h (i := 5) (v := ?_) rfl rfl (by kernel_rfl) (by kernel_rfl) (by kernel_rfl) (fun _ _ _ h => h) (Or.inl ⟨by rfl, fun W hSw => ?_⟩) (by assumption) ?_
  rotate_left
  · (clear hSw; go_simp; try with_reducible rfl)
  simp only [Act.put, List.setIfInBounds_toArray, List.set_cons_zero, List.set_cons_succ]
  refine take_h (i := 6) (v := ?_) rfl rfl (by kernel_rfl) (by kernel_rfl) (by kernel_rfl) (fun _ _ _ h => h) (Or.inl ⟨by rfl, fun W hSw => ?_⟩) (by assumption) ?_
  rotate_left
  · (obtain ⟨hs0, hs1, hs2⟩ := hSw; go_simp; try with_reducible rfl)
  simp only [Act.put, List.setIfInBounds_toArray, List.set_cons_zero, List.set_cons_succ]
  have h8c := Lib.hid ((h8b.out.below hgr2.out).grown gu2 (fun j hj e => by have := hg8.out j hj; rw [Option.some.injEq] at e; omega))
  have h9c := Lib.hid ((h9b.out.below hgr2.out).grown gu2 (fun j hj e => by have := (hg9.out j hj).1; have := hgz1.out; rw [Option.some.injEq] at e; omega))
  have h8d := Lib.hid (show OB y2 y1.heap.size A8 s c8 old by have := h8c.out.below (Below.refl _ u2).drew; rw [hy2.out] at this; exact this)
  have h9d := Lib.hid (show OB y2 z1.heap.size A9 s c9 now by have := h9c.out.below (Below.refl _ u2).drew; rw [hy2.out] at this; exact this)
  have sy2 := Lib.hid (show z2.heap.size ≤ y2.heap.size from by have := hgr2.out.size; have := gus2.out; have := hys2.out; omega)
  have sy1 := Lib.hid (show y1.heap.size ≤ y2.heap.size from by have := hzs1.out; have := hzs2.out; have := sy2.out; omega)
  refine step_h (i := 3) rfl rfl (by kernel_rfl) (fun K hK => ?_)
  refine step_append_bytes (A := A8) (n := s) (c := c8) (base := y1.heap.size) (bs := old) (ys := oldp) rfl _ _ rfl rfl rfl h8d.out (hO2.out _ hbD2.out) hsL2.out sy1.out ?_
  intro A8' c8' z3 ho8 hg8' hr8
  have hbE2 := Lib.hid (hbD2.out.grown hg8' hbD2.out.size (fun j hj => h8w.out j hj))
  have kCE2 := Lib.hid (kCD2.out.grown hg8' (fun e => by have := h8lt.out _ e; have := hzs2.out; omega))
  have hoE2 := Lib.hid (hoD2.out.grown hg8' (fun j hj e => by have := hg8.out _ e; rw [ownBlk_some, Option.some.injEq] at hj; omega))
  have h9e := Lib.hid (h9d.out.grown hg8' (fun j hj e => by have := h8lt.out _ e; have := (hg9.out j hj).1; omega))
  have sz3 := Lib.hid hg8'.size
  have ho8' := Lib.hid ho8
  have hr8' := Lib.hid hr8
  have hS2 := hSf2.out _ kCE2.out
  clear hHeld hg8' ho8 hr8
  refine hK.out _ _ hS2 (fun hHeld => ?_)
  clear hK K
  try simp only [Act.put, List.setIfInBounds_toArray, List.set_cons_zero, List.set_cons_succ]
  refine step_h (i := 7) rfl rfl (by kernel_rfl) (fun K hK => ?_)
  refine step_append_bytes (A := A9) (n := s) (c := c9) (base := z1.heap.size) (bs := now) (ys := nowp) rfl _ _ rfl rfl rfl h9e.out (hN2.out _ hbE2.out) hsL2.out (show z1.heap.size ≤ z3.heap.size from by have := sz3.out; have := sy2.out; have := hzs2.out; omega) ?_
  intro A9' c9' z4 ho9 hg9' hr9
  have hb4 := Lib.hid (hbE2.out.grown hg9' hbE2.out.size (fun j hj => by have := (hg9.out j hj).1; have := hbE1.out.size; omega))
  have kCF2 := Lib.hid (kCE2.out.grown hg9' (fun e => by have := (hg9.out _ e).2; omega))
  have ho4 := Lib.hid (hoE2.out.grown hg9' (fun j hj e => by have := (hg9.out _ e).1; have := hgz1.out; rw [ownBlk_some, Option.some.injEq] at hj; omega))
  have h8f := Lib.hid (ho8'.out.grown hg9' (fun j hj e => by
    have h9j := hg9.out _ e
    rcases hr8'.out with e8 | e8
    · rw [e8] at hj; have := h8lt.out _ hj; omega
    · rw [e8, Option.some.injEq] at hj; have := sy2.out; omega))
  have h9f := Lib.hid ho9
  have hS3 := hSf2.out _ kCF2.out
  clear hHeld hg9' ho9 hr9
  refine hK.out _ _ hS3 (fun hHeld => ?_)
  clear hK K
  try simp only [Act.put, List.setIfInBounds_toArray, List.set_cons_zero, List.set_cons_succ]
  refine take_h (i := 8) (v := ?_) rfl rfl (by kernel_rfl) (by kernel_rfl) (by kernel_rfl) (fun _ _ _ h => h) (Or.inl ⟨by rfl, fun W hSw => ?_⟩) (by assumption) ?_
  rotate_left
  · (clear hSw; go_simp; try with_reducible rfl)
  simp only [Act.put, List.setIfInBounds_toArray, List.set_cons_zero, List.set_cons_succ]
  refine take_h (i := 9) (v := ?_) rfl rfl (by kernel_rfl) (by kernel_rfl) (by kernel_rfl) (fun _ _ _ h => h) (Or.inl ⟨by rfl, fun W hSw => ?_⟩) (by assumption) ?_
  rotate_left
  · (clear hSw; go_simp; try with_reducible rfl)
  simp only [Act.put, List.setIfInBounds_toArray, List.set_cons_zero, List.set_cons_succ]
  refine wpAnyH_done (by kernel_rfl) ?_ _
  clear hHeld hS1 hS2 hS3
  try simp only [Act.put]
  go_wp2_with fail
  rw [rounds_succ]
  go_wp2_with (first
    | (go_at_call 49; refine (hG.out _ hb4.out).mono ?_; rintro e w' ⟨rfl, rfl⟩)
    | (go_at_call 69; refine (hCh.out _ _ _ _ _ _ _ h8f.out.rb h9f.out.rb hst hst).mono ?_; rintro e w5 ⟨rfl, hB5⟩; have hb5 := Lib.hid (hb4.out.trans (hB5.mono hb4.out.size)); have hr5 := Lib.hid (ho4.out.rb.below hB5); replace hB5 := 0)
    | (go_at_call 50; refine (hset.out _ _ _ hr5.out).mono ?_; rintro e w6 ⟨A6, c6, rfl, hr6, hB6⟩; have hb6 := Lib.hid (hb5.out.trans (hB6.mono hb5.out.size)); have hr6' := Lib.hid (hr6.mono hb5.out.size); replace hB6 := 0; clear hr6)
    | fail)
  go_ret
  exact ⟨A6, c6, rfl, hr6'.out, hb6.out⟩
end Go.Proofs.Ytmbmmpbfmakfbaa
/- Bytes in the place of others: laws of lists. No program in sight. -/
set_option linter.unusedVariables false
namespace Go.Proofs.Ytmbmmpbfmakfbaa
open Go Go.RowKit

theorem setN_far {bs ys : List Int} {a s j : Nat} (h : j < a ∨ a + s ≤ j) : (setN bs a ys s)[j]? = bs[j]? := by rw [setN_get, if_neg (by omega)]
theorem setN_at {bs ys : List Int} {a s j : Nat} (h : a ≤ j) (h2 : j < a + s) (hl : j < bs.length) : (setN bs a ys s)[j]? = some (ys[j - a]?.getD 0) := by rw [setN_get, if_pos ⟨h, h2, hl⟩]
theorem getV_far {bs ys : List Int} {a s i : Nat} (h : i + 2 ≤ a ∨ a + s ≤ i) (hl : i + 2 ≤ bs.length) : (getV (setN bs a ys s) (i : Int) 2).1 = (getV bs (i : Int) 2).1 := by
  rw [getV2_mid (by rw [setN_length]; exact hl), getV2_mid hl, setN_far (by omega), setN_far (by omega)]
theorem getV_at {bs : List Int} {a : Nat} {v : Int} (hl : a + 2 ≤ bs.length) (h0 : 0 ≤ v) (h1 : v < 65536) : (getV (setN bs a (digL v 2) 2) (a : Int) 2).1 = v := by
  rw [getV2_mid (by rw [setN_length]; exact hl), setN_at (Nat.le_refl _) (by omega) (by omega), setN_at (by omega) (by omega) (by omega), digL2, Nat.sub_self, show a + 1 - a = 1 by omega]
  show v / 256 % 256 * 256 + v % 256 = v
  omega
theorem setN_over (bs ys zs : List Int) (a s : Nat) : setN (setN bs a ys s) a zs s = setN bs a zs s := by
  apply List.ext_getElem?
  intro j
  rw [setN_get, setN_length, setN_get, setN_get]
  by_cases h : a ≤ j ∧ j < a + s ∧ j < bs.length
  · rw [if_pos h, if_pos h]
  · rw [if_neg h, if_neg h, if_neg h]
theorem setN_again {bs ys zs : List Int} {a b s t : Nat} (h : b + t ≤ a) : setN (setN (setN bs a ys s) b zs t) a ys s = setN (setN bs a ys s) b zs t := by
  apply List.ext_getElem?
  intro j
  rw [setN_get, setN_length, setN_length]
  by_cases h1 : a ≤ j ∧ j < a + s ∧ j < bs.length
  · rw [if_pos h1, setN_far (by omega), setN_at h1.1 h1.2.1 h1.2.2]
  · rw [if_neg h1]
/-- What the program reckons is what the document says. -/
theorem ends_sum {bs : List Int} (hb : Byts bs) (hk : codeQ bs = 0) (hn : noSum (readV4 true bs) = false) {wh : Nat} (a : Int) (hw : wh + 4 ≤ 20) : (getV (out1Q bs wh a) ((hdQ bs + atQ (readV4 true bs) : Nat) : Int) 2).1 = (getV (readV4 true bs).data (atQ (readV4 true bs)) 2).1 := by
  obtain ⟨h1, h2, h3, h4, h5, h6, h7, h8, h9, h10, h11⟩ := quo_ok hb hk
  have ha := noSum_no hn
  have hh : 20 ≤ hdQ bs := by unfold hdQ; omega
  rw [getV_data hb hk ha]
  unfold out1Q
  rw [getV_far (by omega) (by rw [setN_length]; omega), getV_far (by omega) (by omega)]
theorem ends_again (bs : List Int) {wh : Nat} (a : Int) (hw : 12 ≤ wh) : setN (out1Q bs wh a) wh (digL a 4) 4 = out1Q bs wh a := by
  unfold out1Q
  rw [setN_again (by omega)]
end Go.Proofs.Ytmbmmpbfmakfbaa
