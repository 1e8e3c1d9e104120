/- Captures (pcap): records, numbers put one behind the other, the head. -/
import Derived.Test.YtbbdkfadcafpfaaQuads
import Derived.Test.YtbbdkfadcafpfaaMid
import Derived.Test.YtbbdkfadcafpfaaPut
import Derived.Test.YtbbdkfadcafpfaaRefPut
set_option linter.unusedVariables false
namespace Go.Proofs.Ytbbdkfadcafpfaa
open Go Go.RowKit

theorem info_rec : (Try.prog.info? 67).map (·.size) = some 4 := by kernel_rfl
theorem info_rrec : (Try.prog.info? 90).map (·.size) = some 4 := by kernel_rfl
theorem info_recz : (Try.prog.info? 67).map (fun i => (i.zero, i.size, i.bytes)) = some (some (.agg zeroQc), 4, 48) := by kernel_rfl
theorem info_rrecz : (Try.prog.info? 90).map (fun i => (i.zero, i.size, i.bytes)) = some (some (.agg zeroQc), 4, 48) := by kernel_rfl
theorem run_load_R {W : World} {B : Nat} {cs : Array Value} (h : Blk W B cs 67) (hs : cs.size = 4) : (loadVar 67 ⟨B, 0, none⟩).run Try.prog W = .ok (.agg cs) W :=
  run_loadVar_row W B 67 67 cs _ _ h.at_ Try.underlying67 rfl (by rw [info_rec, hs])
theorem wpList_load_R {ops : Array Oper} {rest : List Oper} {op : Oper} {a : Act} {W : World} {Q : Exit → Act → World → Prop} (hgd : Region.wanted op (yielded ops a.tmps) = true) (x : Operand) (ho : op.op = .load 67 x)
    (g : Nat) (hx : a.eval x = .pointer (some ⟨g, 0, none⟩)) (cs : Array Value) (hk : Blk W g cs 67) (hs : cs.size = 4)
    (h : wpList Try.prog ops Q rest (a.put op.dst (.agg cs)) W) : wpList Try.prog ops Q (op :: rest) a W :=
  BigFrame.wpList_want hgd fun _ hK => by
    unfold Oper.wp execOp
    simp only [ho, hx, Instr.loadAt, Instr.sureAddr, Sem.run_bind, Sem.run_pure, Result.andThen_ok, run_load_R hk hs]
    exact hK _ _ h
theorem wpList_store_R {ops : Array Oper} {rest : List Oper} {op : Oper} {a : Act} {W : World} {Q : Exit → Act → World → Prop} (hgd : op.guard = none) (x y : Operand) (ho : op.op = .store 67 x y)
    (g : Nat) (cells : Array Value) (hx : a.eval x = .pointer (some ⟨g, 0, none⟩)) (hy : a.eval y = .agg cells) (old : Array Value) (hk : Blk W g old 67) (ho' : old.size = 4) (hs : cells.size = 4) (h1 : cells.all (·.oneCell') = true)
    (h : wpList Try.prog ops Q rest (a.put op.dst undef) (W.setRow g cells)) : wpList Try.prog ops Q (op :: rest) a W :=
  wpList_store_row hgd 67 x y ho g cells hx hy 67 old hk.at_ (by rw [info_rec, hs]) (by rw [ho', hs]) h1 h
theorem run_load_S {W : World} {B : Nat} {cs : Array Value} (h : Blk W B cs 90) (hs : cs.size = 4) : (loadVar 90 ⟨B, 0, none⟩).run Try.prog W = .ok (.agg cs) W :=
  run_loadVar_row W B 90 90 cs _ _ h.at_ Try.underlying90 rfl (by rw [info_rrec, hs])
theorem wpList_load_S {ops : Array Oper} {rest : List Oper} {op : Oper} {a : Act} {W : World} {Q : Exit → Act → World → Prop} (hgd : Region.wanted op (yielded ops a.tmps) = true) (x : Operand) (ho : op.op = .load 90 x)
    (g : Nat) (hx : a.eval x = .pointer (some ⟨g, 0, none⟩)) (cs : Array Value) (hk : Blk W g cs 90) (hs : cs.size = 4)
    (h : wpList Try.prog ops Q rest (a.put op.dst (.agg cs)) W) : wpList Try.prog ops Q (op :: rest) a W :=
  BigFrame.wpList_want hgd fun _ hK => by
    unfold Oper.wp execOp
    simp only [ho, hx, Instr.loadAt, Instr.sureAddr, Sem.run_bind, Sem.run_pure, Result.andThen_ok, run_load_S hk hs]
    exact hK _ _ h
theorem wpList_store_S {ops : Array Oper} {rest : List Oper} {op : Oper} {a : Act} {W : World} {Q : Exit → Act → World → Prop} (hgd : op.guard = none) (x y : Operand) (ho : op.op = .store 90 x y)
    (g : Nat) (cells : Array Value) (hx : a.eval x = .pointer (some ⟨g, 0, none⟩)) (hy : a.eval y = .agg cells) (old : Array Value) (hk : Blk W g old 90) (ho' : old.size = 4) (hs : cells.size = 4) (h1 : cells.all (·.oneCell') = true)
    (h : wpList Try.prog ops Q rest (a.put op.dst undef) (W.setRow g cells)) : wpList Try.prog ops Q (op :: rest) a W :=
  wpList_store_row hgd 90 x y ho g cells hx hy 90 old hk.at_ (by rw [info_rrec, hs]) (by rw [ho', hs]) h1 h

/-- Numbers with their sizes, cell by cell; the first k of them as bytes. -/
def fldsP (zs : List (Int × Nat)) : Array Value := (zs.flatMap fun z => [.int .i64 z.1, .int .i64 (z.2 : Int)]).toArray
theorem fldsP_cell {zs : List (Int × Nat)} {k : Nat} (hk : k < zs.length) : (fldsP zs)[k * 2]? = some (.int .i64 (zs[k]?.getD (0, 0)).1) ∧ (fldsP zs)[k * 2 + 1]? = some (.int .i64 ((zs[k]?.getD (0, 0)).2 : Int)) := by
  unfold fldsP
  induction zs generalizing k with
  | nil => simp at hk
  | cons z zs ih =>
    cases k with
    | zero => simp
    | succ k =>
      have := ih (k := k) (by simpa using hk)
      simp only [List.getElem?_toArray, List.flatMap_cons, List.cons_append, List.nil_append, List.getElem?_cons_succ] at this ⊢
      rw [show (k + 1) * 2 = k * 2 + 1 + 1 by omega]
      simpa using this
def preP (zs : List (Int × Nat)) (k : Nat) : List Int := ((zs.take k).map fun z => digL z.1 z.2).flatten
theorem preP_succ (zs : List (Int × Nat)) (k : Nat) (hk : k < zs.length) : preP zs (k + 1) = preP zs k ++ digL (zs[k]?.getD (0, 0)).1 (zs[k]?.getD (0, 0)).2 := by
  unfold preP
  rw [List.take_add_one, List.getElem?_eq_getElem hk]
  simp only [Option.toList_some, List.map_append, List.map_cons, List.map_nil, List.flatten_append, List.flatten_cons, List.flatten_nil, List.append_nil, Option.getD_some]
def fitP (zs : List (Int × Nat)) : Prop := ∀ z ∈ zs, fitsP z.1 (z.2 : Int)
theorem fitP_at {zs : List (Int × Nat)} (h : fitP zs) {k : Nat} (hk : k < zs.length) : fitsP (zs[k]?.getD (0, 0)).1 ((zs[k]?.getD (0, 0)).2 : Int) := by
  rw [List.getElem?_eq_getElem hk]; exact h _ (List.getElem_mem hk)
theorem preP_le {zs : List (Int × Nat)} (h : fitP zs) : ∀ k, k ≤ zs.length → (preP zs k).length ≤ 4 * k := by
  intro k
  induction k with
  | zero => intro _; exact Nat.le_refl _
  | succ k ih =>
    intro hk
    have h1 := fitP_at h (k := k) (by omega)
    rw [preP_succ zs k (by omega), List.length_append, digL_length]
    have := ih (by omega)
    have := h1.1
    omega

set_option maxRecDepth 100000 in
set_option maxHeartbeats 1000000 in
theorem PPut_any (A : Option Addr) (n c B m : Nat) (bs : List Int) (zs : List (Int × Nat)) (w : World) (h : RB w A n c bs) (hm : zs.length = m) (hm0 : 0 < m) (hm1 : m ≤ 100) (hz : Blk w B (fldsP zs) 89) (hf : fitP zs) (hn : n ≤ 90000) :
    Calls Try.prog 62 #[.slice A n c, .slice (some ⟨B, 0, none⟩) m m] w (Fresh w (n + (preP zs m).length) (bs ++ preP zs m)) := by
  have hbt := Lib.hid (Below.refl w.heap.size w)
  have hc0 := Lib.hid (fun k (hk : k < m) => fldsP_cell (zs := zs) (k := k) (by omega))
  have hys := Lib.hid (fun k (hk : k < m) => fitP_at hf (k := k) (by omega))
  have hsu := Lib.hid (fun k (hk : k < m) => preP_succ zs k (by omega))
  have hle := Lib.hid (fun k (hk : k ≤ m) => preP_le hf k (by omega))
  have hr0 := Lib.hid h
  have hzb := Lib.hid hz
  clear hm h hz hf
  go_enter Try.func62, Try.ntmps62
  go_wp2
  go_loopw [0, 6, 9] (fun v x i wr => ∃ (k : Nat) (A3 : Option Addr) (c3 : Nat), k ≤ m ∧ i = .int .i64 k ∧ v = .slice A3 (n + (preP zs k).length) c3 ∧ RB wr A3 (n + (preP zs k).length) c3 (bs ++ preP zs k) ∧ (0 < k → OB wr w.heap.size A3 (n + (preP zs k).length) c3 (bs ++ preP zs k)) ∧ Below w.heap.size w wr) (fun _ _ i _ => m - (intOf i).toNat)
  case atStart => exact ⟨0, A, c, by omega, rfl, rfl, by have := hr0.out; simpa [preP] using this, fun h => absurd h (by omega), hbt.out⟩
  case round =>
    obtain ⟨k, A3, c3, hk, rfl, rfl, hr3, ho3, hB3⟩ := hrel
    have hl3 := hle.out k hk
    by_cases hlt : k < m
    · obtain ⟨g0, g1⟩ := hc0.out k hlt
      have hF3 := hzb.out.below hB3 hzb.out.lt
      have c0 := hF3.cell _ _ g0
      have c1 := hF3.cell _ _ g1
      have hy := Lib.hid (hys.out k hlt)
      have hs := hsu.out k hlt
      have hsl : (preP zs (k + 1)).length = (preP zs k).length + (zs[k]?.getD (0, 0)).2 := by rw [hs, List.length_append, digL_length]
      generalize (zs[k]?.getD (0, 0)).1 = z at *
      generalize (zs[k]?.getD (0, 0)).2 = s at *
      replace hs := Lib.hid hs
      replace hsl := Lib.hid hsl
      generalize hL : (preP zs k).length = L at *
      replace hL := Lib.hid hL
      replace hr3 := Lib.hid hr3
      replace hB3 := Lib.hid hB3
      replace ho3 := 0
      clear hF3 g0 g1
      go_wp2_with (first
        | (go_at_call 49; refine (Put_yes A3 (n + L) c3 (bs ++ preP zs k) z s _ (hr3.out.alloc _) (by omega) hy.out).mono ?_; rintro e w4 ⟨A4, c4, rfl, ho4, hB4⟩)
        | fail)
      go_roundw
      case rel =>
        have q1 := hB3.out.alloc hB3.out.size (.cells #[.int .i64 z, .int .i64 (s : Int)] 89)
        have ho5 : OB w4 w.heap.size A4 (n + (preP zs (k + 1)).length) c4 (bs ++ preP zs (k + 1)) := by
          rw [hsl.out, hs.out, ← List.append_assoc, ← Nat.add_assoc]
          exact ho4.mono q1.size
        exact ⟨k + 1, A4, c4, by omega, by go_num, by rw [hsl.out, Nat.add_assoc], ho5.rb, fun _ => ho5, q1.trans (hB4.mono q1.size)⟩
      case measure => simp [intOf]; omega
    · obtain rfl : k = m := by omega
      have ho4 := Lib.hid (ho3 hm0)
      replace ho3 := 0
      replace hr3 := 0
      go_wp2
      go_ret
      exact ⟨A3, c3, rfl, ho4.out, hB3⟩

/-- What a capture begins with. -/
def headZ : List (Int × Nat) := [(2712847316, 4), (2, 2), (4, 2), (0, 4), (0, 4), (65535, 4), (101, 4)]
def headP : List Int := preP headZ 7
theorem headZ_fit : fitP headZ := by
  intro z hz
  simp [headZ] at hz
  rcases hz with rfl | rfl | rfl | rfl | rfl | rfl <;> exact ⟨by decide, by decide, by decide⟩
theorem headP_len : headP.length = 24 := by decide
theorem headP_byts : Byts headP := by
  intro x hx
  simp only [headP, preP, List.mem_flatten, List.mem_map] at hx
  obtain ⟨l, ⟨z, _, rfl⟩, hx⟩ := hx
  exact digL_byts _ _ x hx

set_option maxRecDepth 100000 in
set_option maxHeartbeats 1000000 in
theorem PHead_any (w : World) : Calls Try.prog 60 #[] w (Fresh w 24 headP) := by
  have hb0 := Lib.hid ((Below.refl _ w).alloc (Nat.le_refl _) (.cells (fldsP headZ) 89))
  have hk0 := Lib.hid (Blk.new w (fldsP headZ) 89)
  have hP := Lib.hid (PPut_any none 0 0 w.heap.size 7 [] headZ (w.alloc (.cells (fldsP headZ) 89)) (RB.nil _) rfl (by omega) (by omega) hk0.out headZ_fit (by omega))
  have hl := Lib.hid headP_len
  go_enter Try.func60, Try.ntmps60
  go_wp2_with (first
    | (go_at_call 62; refine (hP.out).mono ?_; rintro e w1 ⟨A1, c1, rfl, ho1, hB1⟩)
    | fail)
  go_ret
  have hl2 : (preP headZ 7).length = 24 := hl.out
  refine ⟨A1, c1, ?_, ?_, hb0.out.trans (hB1.mono hb0.out.size)⟩
  · rw [hl2]; first | rfl | simp
  · have := ho1.mono (show w.heap.size ≤ (w.alloc (.cells (fldsP headZ) 89)).heap.size from hb0.out.size)
    rw [hl2, List.nil_append] at this
    exact this

set_option maxRecDepth 100000 in
set_option maxHeartbeats 1000000 in
theorem RefPHead_any (w : World) : Calls Try.prog 63 #[] w (Fresh w 24 headP) := by
  have h1 := Lib.hid (RefPut_yes none 0 0 [] 2712847316 4 w (RB.nil _) (by omega) (by decide))
  have hbt := Lib.hid (Below.refl w.heap.size w)
  have hl := Lib.hid (show headP = [] ++ digL 2712847316 4 ++ digL 2 2 ++ digL 4 2 ++ digL 0 4 ++ digL 0 4 ++ digL 65535 4 ++ digL 101 4 from by decide)
  go_enter Try.func63, Try.ntmps63
  go_wp2_with fail
  refine (h1.out).mono ?_; rintro e w1 ⟨A1, c1, rfl, ho1, hB1⟩
  have b1 := Lib.hid hB1
  replace ho1 := Lib.hid ho1.rb
  go_wp2_with fail
  refine (RefPut_yes _ _ _ _ _ _ _ ho1.out (by omega) (by decide)).mono ?_
  rintro e w2 ⟨A2, c2, rfl, ho2, hB2⟩
  have b2 := Lib.hid (b1.out.trans (hB2.mono b1.out.size))
  have ob2 := Lib.hid ho2
  replace ho2 := Lib.hid ho2.rb
  clear hB2
  go_wp2_with fail
  refine (RefPut_yes _ _ _ _ _ _ _ ho2.out (by omega) (by decide)).mono ?_
  rintro e w3 ⟨A3, c3, rfl, ho3, hB3⟩
  have b3 := Lib.hid (b2.out.trans (hB3.mono b2.out.size))
  have ob3 := Lib.hid ho3
  replace ho3 := Lib.hid ho3.rb
  clear hB3
  go_wp2_with fail
  refine (RefPut_yes _ _ _ _ _ _ _ ho3.out (by omega) (by decide)).mono ?_
  rintro e w4 ⟨A4, c4, rfl, ho4, hB4⟩
  have b4 := Lib.hid (b3.out.trans (hB4.mono b3.out.size))
  have ob4 := Lib.hid ho4
  replace ho4 := Lib.hid ho4.rb
  clear hB4
  go_wp2_with fail
  refine (RefPut_yes _ _ _ _ _ _ _ ho4.out (by omega) (by decide)).mono ?_
  rintro e w5 ⟨A5, c5, rfl, ho5, hB5⟩
  have b5 := Lib.hid (b4.out.trans (hB5.mono b4.out.size))
  have ob5 := Lib.hid ho5
  replace ho5 := Lib.hid ho5.rb
  clear hB5
  go_wp2_with fail
  refine (RefPut_yes _ _ _ _ _ _ _ ho5.out (by omega) (by decide)).mono ?_
  rintro e w6 ⟨A6, c6, rfl, ho6, hB6⟩
  have b6 := Lib.hid (b5.out.trans (hB6.mono b5.out.size))
  have ob6 := Lib.hid ho6
  replace ho6 := Lib.hid ho6.rb
  clear hB6
  go_wp2_with fail
  refine (RefPut_yes _ _ _ _ _ _ _ ho6.out (by omega) (by decide)).mono ?_
  rintro e w7 ⟨A7, c7, rfl, ho7, hB7⟩
  have b7 := Lib.hid (b6.out.trans (hB7.mono b6.out.size))
  have ob7 := Lib.hid ho7
  replace ho7 := Lib.hid ho7.rb
  clear hB7
  go_wp2
  go_ret
  rw [hl.out]
  exact ⟨A7, c7, by first | rfl | simp, ob7.out.mono b6.out.size, b7.out⟩
end Go.Proofs.Ytbbdkfadcafpfaa
