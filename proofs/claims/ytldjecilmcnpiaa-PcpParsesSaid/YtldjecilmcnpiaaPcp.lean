/- Addresses of IPv4 as ones of IPv6 (pcp): walks of prefix, Mapped, Plain. -/
import Derived.Test.YtldjecilmcnpiaaPcpE
import Derived.Test.YtldjecilmcnpiaaSixB
import Derived.Test.YtldjecilmcnpiaaEqArr
import Derived.Test.YtldjecilmcnpiaaMake
import Derived.Test.YtldjecilmcnpiaaPut
import Derived.Test.YtldjecilmcnpiaaGet
import Derived.Test.YtldjecilmcnpiaaHeld
set_option linter.unusedVariables false
namespace Go.Proofs.Ytldjecilmcnpiaa
open Go Go.RowKit

theorem run_load_S6 {W : World} {B : Nat} {cs : Array Value} (h : Blk W B cs 44) (hs : cs.size = 16) : (loadVar 44 ⟨B, 0, none⟩).run Try.prog W = .ok (.agg cs) W :=
  run_loadVar_row W B 44 44 cs _ _ h.at_ Try.underlying44 rfl (by rw [info_six, hs])
theorem wpList_load_S6 {ops : Array Oper} {rest : List Oper} {op : Oper} {a : Act} {W : World} {Q : Exit → Act → World → Prop} (hgd : Region.wanted op (yielded ops a.tmps) = true) (x : Operand) (ho : op.op = .load 44 x)
    (g : Nat) (hx : a.eval x = .pointer (some ⟨g, 0, none⟩)) (cs : Array Value) (hk : Blk W g cs 44) (hs : cs.size = 16)
    (h : wpList Try.prog ops Q rest (a.put op.dst (.agg cs)) W) : wpList Try.prog ops Q (op :: rest) a W :=
  BigFrame.wpList_want hgd fun _ hK => by
    unfold Oper.wp execOp
    simp only [ho, hx, Instr.loadAt, Instr.sureAddr, Sem.run_bind, Sem.run_pure, Result.andThen_ok, run_load_S6 hk hs]
    exact hK _ _ h
theorem wpList_store_S6 {ops : Array Oper} {rest : List Oper} {op : Oper} {a : Act} {W : World} {Q : Exit → Act → World → Prop} (hgd : op.guard = none) (x y : Operand) (ho : op.op = .store 44 x y)
    (g : Nat) (cells : Array Value) (hx : a.eval x = .pointer (some ⟨g, 0, none⟩)) (hy : a.eval y = .agg cells) (old : Array Value) (hk : Blk W g old 44) (ho' : old.size = 16) (hs : cells.size = 16) (h1 : cells.all (·.oneCell') = true)
    (h : wpList Try.prog ops Q rest (a.put op.dst undef) (W.setRow g cells)) : wpList Try.prog ops Q (op :: rest) a W :=
  wpList_store_row hgd 44 x y ho g cells hx hy 44 old hk.at_ (by rw [info_six, hs]) (by rw [ho', hs]) h1 h
abbrev z6c : Array Value := #[.int .u8 0, .int .u8 0, .int .u8 0, .int .u8 0, .int .u8 0, .int .u8 0, .int .u8 0, .int .u8 0, .int .u8 0, .int .u8 0, .int .u8 0, .int .u8 0, .int .u8 0, .int .u8 0, .int .u8 0, .int .u8 0]
abbrev p6c : Array Value := #[.int .u8 0, .int .u8 0, .int .u8 0, .int .u8 0, .int .u8 0, .int .u8 0, .int .u8 0, .int .u8 0, .int .u8 0, .int .u8 0, .int .u8 255, .int .u8 255, .int .u8 0, .int .u8 0, .int .u8 0, .int .u8 0]
def pre12 : List Int := [0, 0, 0, 0, 0, 0, 0, 0, 0, 0, 255, 255]
def pre16 : List Int := [0, 0, 0, 0, 0, 0, 0, 0, 0, 0, 255, 255, 0, 0, 0, 0]
/-- An address of IPv4 as one of IPv6. -/
def mapL (a : Int) : List Int := pre12 ++ digL (a % 4294967296) 4
theorem mapL_six (a : Int) : Six (mapL a) := ⟨by simp [mapL, digL_length, pre12], Byts.append (fun x hx => by simp [pre12] at hx; rcases hx with rfl | rfl <;> constructor <;> omega) (digL_byts _ _)⟩
theorem cells_pre16 : cells6 pre16 = p6c := rfl
theorem u8s_all (bs : List Int) : (cells6 bs).all (·.oneCell') = true := by
  rw [Array.all_eq_true']
  intro x hx
  exact u8s_one bs x (by simpa using hx)
set_option maxRecDepth 100000 in
set_option maxHeartbeats 1000000 in
theorem Prefix_any (w : World) : Calls Try.prog 69 #[] w fun e w' => e = .returned (.agg p6c) ∧ Below w.heap.size w w' := by
  go_enter Try.func69, Try.ntmps69
  go_wp2
  exact bodyPost_ret (results_c Try.results69 rfl (run_load_S6 (Blk.new w p6c 44) rfl)) rfl ⟨rfl, (Below.refl _ w).alloc (Nat.le_refl _) _⟩
theorem and_mask32 (a : Int) : bits .and .i64 a 4294967295 = a % 4294967296 := by
  have h := bits_mask_any 32 (by decide) a
  have e1 : ((2 : Int) ^ 32 - 1) = 4294967295 := by decide
  have e2 : ((2 : Int) ^ 32) = 4294967296 := by decide
  rw [e1, e2] at h
  exact h
/-- The block B is sixteen bytes whose first twelve are known; nothing below it is changed. -/
def MapS (B : Nat) (W0 W : World) : Prop := (∃ cur : List Value, cur.length = 16 ∧ cur.take 12 = u8s pre12 ∧ Blk W B cur.toArray 44) ∧ Below B W0 W
theorem MapS.to {B : Nat} {W0 W W' : World} (h : MapS B W0 W) (hb : Below W.heap.size W W') : MapS B W0 W' := by
  obtain ⟨⟨cur, h1, h2, h3⟩, h4⟩ := h
  exact ⟨⟨cur, h1, h2, h3.to hb⟩, h4.trans (hb.mono (Nat.le_of_lt h3.lt))⟩
theorem mapL_splice' (a : Int) (cur : List Value) (h1 : cur.length = 16) (h2 : cur.take 12 = u8s pre12) : splice cur 12 (u8s (digL (a % 4294967296) 4)) = u8s (mapL a) := by
  unfold splice mapL
  rw [u8s_append, u8s_length, digL_length, List.drop_of_length_le (by omega), List.append_nil, h2]
set_option maxRecDepth 100000 in
set_option maxHeartbeats 1000000 in
theorem Mapped_any (a : Int) (w : World) : Calls Try.prog 26 #[.int .i64 a] w fun e w' => e = .returned (.agg (cells6 (mapL a))) ∧ Below w.heap.size w w' := by
  have hand := and_mask32 a
  have hsp := Lib.hid (mapL_splice' a)
  have hfit := Lib.hid (show fitsP (a % 4294967296) ((4 : Nat) : Int) from ⟨by omega, by omega, by show _ < (256 : Int) ^ 4; omega⟩)
  have hsix := Lib.hid (mapL_six a)
  have hs12 : (u8s (mapL a)).take 12 = u8s pre12 := by unfold mapL; rw [u8s_append]; exact List.take_left' rfl
  generalize mapL a = s at *
  have hz := Lib.hid (Blk.new w z6c 44)
  have hb := Lib.hid ((Below.refl _ w).alloc (Nat.le_refl _) (.cells z6c 44))
  generalize a % 4294967296 = m at *
  go_enter Try.func26, Try.ntmps26
  go_wp2_with (first
    | (go_at_call 69; refine (Prefix_any _).mono ?_; rintro e w1 ⟨rfl, hB1⟩; have hz1 := Lib.hid (hz.out.to hB1); have hb1 := Lib.hid (hb.out.trans (hB1.mono hb.out.size)); clear hB1)
    | fail)
  obtain ⟨W0, hW0⟩ : ∃ W0, w1.alloc (.cells p6c 44) = W0 := ⟨_, rfl⟩
  have k0 := Lib.hid (show Blk W0 w1.heap.size p6c 44 by rw [← hW0]; exact Blk.new w1 p6c 44)
  have hz0 := Lib.hid (show Blk W0 w.heap.size z6c 44 by rw [← hW0]; exact hz1.out.alloc _)
  have hb2 := Lib.hid (show Below w.heap.size w W0 by rw [← hW0]; exact hb1.out.alloc hb1.out.size _)
  have hlt := Lib.hid (show w.heap.size < w1.heap.size from hz1.out.lt)
  have hlt0 := Lib.hid (show w1.heap.size ≤ W0.heap.size from Nat.le_of_lt k0.out.lt)
  rw [hW0]
  replace hW0 := 0
  replace hz := 0
  replace hz1 := 0
  have hln := Lib.hid (show (u8s (digL m 4)).length = Nat.min (0 + 4) 4 by rw [u8s_length, digL_length]; rfl)
  have hft := Lib.hid (fun (cur : List Value) (h1 : cur.length = 16) => show 12 + (u8s (digL m 4)).length ≤ cur.length by rw [u8s_length, digL_length, h1]; decide)
  have hM0 := Lib.hid (show MapS w1.heap.size W0 W0.drew from ⟨⟨u8s pre16, rfl, rfl, k0.out.drew⟩, (Below.refl _ _).drew⟩)
  have hfin := Lib.hid (fun (W3 : World) (h : W3.heap[w1.heap.size]? = some (.cells (u8s s).toArray 44 (0, 0))) (hb : Below w1.heap.size W0 W3) => show MapS w1.heap.size W0 W3 from ⟨⟨u8s s, by rw [u8s_length, hsix.out.len], hs12, ⟨h⟩⟩, hb⟩)
  replace k0 := 0
  go_region_held3 (fun W => MapS w1.heap.size W0 W)
    (first | assumption | exact hM0.out)
    (first
    | (go_at_call 72; refine (Put_yes none 0 0 [] _ 4 _ (RB.nil _) (by omega) hfit.out).mono ?_; rintro e W2 ⟨A2, c2, rfl, ho2, hB2⟩; obtain ⟨b2, off2, rfl, hl2, _⟩ := ho2.rb.mem (by omega); have hsr := Lib.hid (fun W (hW : Below W2.heap.size W2 W) j v hv => ho2.rb.src hW j v hv); have hS2 := MapS.to (by assumption) hB2; replace ho2 := 0; clear hB2)
    | (obtain ⟨⟨cur, h1, h2, h3⟩, h4⟩ := hS2; refine step_copy_splice rfl (.tmp 5) (.tmp 8) 22 22 rfl 5 Try.underlying22 (by kernel_rfl) (some ⟨w1.heap.size, 12, none⟩) (some ⟨b2, off2, none⟩) 4 4 (0 + 4) c2 rfl rfl w1.heap.size 12 cur 44 h3.at_ (u8s (digL m 4)) hln.out (fun _ => ⟨rfl, _, rfl, fun j v hv => hsr.out _ (Below.refl _ _) j v hv⟩) (hft.out cur h1) (u8s_one _) w1.heap.size W0 h4 (Nat.le_refl _) ?_; intro W3 k3 hB3; have hk3 := k3.out; rw [hsp.out cur h1 h2] at hk3; have hS3 : MapS w1.heap.size W0 W3 := hfin.out W3 hk3 hB3; replace hk3 := Lib.hid hk3; replace hB3 := Lib.hid hB3)
    | fail)
  have k4 : Blk W3 w1.heap.size (cells6 s) 44 := ⟨hk3.out⟩
  have hz4 := Lib.hid (show Blk W3 w.heap.size z6c 44 from hz0.out.below hB3.out hlt.out)
  have hb4 := Lib.hid (hb2.out.trans (hB3.out.mono (Nat.le_of_lt hlt.out)))
  replace k4 := Lib.hid k4
  have hs6 := Lib.hid (show (cells6 s).size = 16 by simp [u8s_length, hsix.out.len])
  go_wp2_with (first
    | (refine wpList_load_S6 rfl (.tmp 3) rfl w1.heap.size rfl (cells6 s) k4.out hs6.out ?_)
    | (refine wpList_store_S6 rfl (.tmp 2) (.tmp 10) rfl w.heap.size (cells6 s) rfl rfl z6c hz4.out rfl hs6.out (u8s_all s) ?_)
    | fail)
  exact bodyPost_ret (results_c Try.results26 rfl (run_load_S6 ⟨setRow_heap _ _ _ _ _ _ hz4.out.at_⟩ hs6.out)) rfl ⟨rfl, below_row hb4.out (Nat.le_refl _) _⟩

/-- The address of IPv4 of one of IPv6. -/
def plainV (s : List Int) : Int × Bool := if s.take 12 = pre12 then ((getV s 12 4).1, true) else (0, false)
theorem en_EqualB (args : Array Value) (w : World) : (callFunc 70 args).run Try.prog w = .ok (.enter 70 args) w := enters Try.func70 (by kernel_rfl) (by kernel_rfl) args w
set_option maxRecDepth 100000 in
set_option maxHeartbeats 1000000 in
theorem Plain_any (s : List Int) (hs : Six s) (w : World) : Calls Try.prog 25 #[.agg (cells6 s)] w fun e w' => e = .returned (.tuple #[.int .i64 (plainV s).1, .bool (plainV s).2]) ∧ Below w.heap.size w w' := by
  have hk := Lib.hid (Blk.new w (cells6 s) 44)
  have hb := Lib.hid ((Below.refl _ w).alloc (Nat.le_refl _) (.cells (cells6 s) 44))
  have hpl := Lib.hid (show plainV s = if (s.take 12 == pre12) = true then ((getV s 12 4).1, true) else (0, false) by unfold plainV; simp)
  have hE := Lib.hid (fun W (k1 : Blk W w.heap.size (cells6 s) 44) B (k2 : Blk W B p6c 44) => EqualB_any (some ⟨w.heap.size, 0, none⟩) (some ⟨B, 0, none⟩) 12 16 12 16 (s.take 12) pre12 W ((rb_box k1 hs).first_ (by decide)) ((rb_box (s := pre16) k2 ⟨rfl, fun x hx => by simp [pre16] at hx; omega⟩).first_ (by decide)) (by decide) (by decide))
  have hG := Lib.hid (fun W (k1 : Blk W w.heap.size (cells6 s) 44) => Get_any (some ⟨w.heap.size, 0, none⟩) 16 16 s 12 4 W (rb_box k1 hs) (by decide))
  have hg2 : (getV s 12 4).2 = 0 := by unfold getV; rw [hs.len, if_neg (by omega), if_neg (by omega)]
  generalize getV s 12 4 = g at *
  obtain ⟨gn, ge⟩ := g
  dsimp only at hg2
  subst hg2
  generalize (s.take 12 == pre12) = q at *
  go_enter Try.func25, Try.ntmps25
  go_wp2_with (first
    | (go_at_call 69; refine (Prefix_any _).mono ?_; rintro e w1 ⟨rfl, hB1⟩; have hk1 := Lib.hid (hk.out.to hB1); have hb1 := Lib.hid (hb.out.trans (hB1.mono hb.out.size)); clear hB1)
    | fail)
  obtain ⟨W0, hW0⟩ : ∃ W0, w1.alloc (.cells p6c 44) = W0 := ⟨_, rfl⟩
  have k0 := Lib.hid (show Blk W0 w1.heap.size p6c 44 by rw [← hW0]; exact Blk.new w1 p6c 44)
  have hk0 := Lib.hid (show Blk W0 w.heap.size (cells6 s) 44 by rw [← hW0]; exact hk1.out.alloc _)
  have hb2 := Lib.hid (show Below w.heap.size w W0 by rw [← hW0]; exact hb1.out.alloc hb1.out.size _)
  rw [hW0]
  replace hW0 := 0
  replace hk := 0
  replace hk1 := 0
  have hC1 := Lib.hid (show ∀ W, (fun W => Below W0.heap.size W0 W) W → True ∧ True ∧ True from fun _ _ => ⟨trivial, trivial, trivial⟩)
  have hK := Lib.hid (show ∀ W W', (fun W => Below W0.heap.size W0 W) W → Below W.heap.size W W' → (fun W => Below W0.heap.size W0 W) W' from fun W W' h1 h2 => h1.trans (h2.mono h1.size))
  refine wp_region_tame (fun W => Below W0.heap.size W0 W) (by kernel_rfl) (by kernel_rfl) (Below.refl _ _).drew ?_
  repeat (first
    | (refine tameL_skip rfl ?_; simp only [Act.put, List.setIfInBounds_toArray, List.set_cons_zero, List.set_cons_succ])
    | (refine tameL_call2 (v := .bool q) rfl 70 (.tmp 8) (.tmp 9) _ rfl en_EqualB rfl rfl ?_ ?_; exact fun W hS => (hE.out W (hk0.out.to hS) w1.heap.size (k0.out.to hS)).mono fun e W' ⟨he, hb⟩ => ⟨he, hK.out W W' hS hb⟩; simp only [Act.put, List.setIfInBounds_toArray, List.set_cons_zero, List.set_cons_succ])
    | (refine tameL_val (v := ?_) rfl (fun W hS => ?_) ?_; rotate_left; (· (obtain ⟨g0, g1, g2⟩ := hC1.out W hS; clear hS; go_simp; try with_reducible rfl)); simp only [Act.put, List.setIfInBounds_toArray, List.set_cons_zero, List.set_cons_succ]))
  refine tameL_nil fun W hS => ?_
  have hk5 := Lib.hid (hk0.out.to hS)
  have hb5 := Lib.hid (hb2.out.trans (hS.mono hb2.out.size))
  clear hS
  cases q
  · go_wp2
    go_ret2
    exact ⟨by rw [hpl.out]; rfl, hb5.out⟩
  · go_wp2_with (first
      | (go_at_call 71; refine (hG.out _ hk5.out).mono ?_; rintro e w' ⟨rfl, rfl⟩)
      | fail)
    go_ret2
    exact ⟨by rw [hpl.out]; rfl, hb5.out⟩
end Go.Proofs.Ytldjecilmcnpiaa
