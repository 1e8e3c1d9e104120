/- What bytes ask (the reference of pcp): walk of read. -/
import Derived.Test.YtldjecilmcnpiaaPcpV
import Derived.Test.YtldjecilmcnpiaaPcpJ
import Derived.Deep.DeepCutAuto
set_option linter.unusedVariables false
namespace Go.Proofs.Ytldjecilmcnpiaa
open Go Go.RowKit

/-- The first i bytes of a list, and zeros up to m. -/
def part (l : List Int) (i m : Nat) : List Int := l.take i ++ List.replicate (m - i) 0
theorem part_len {l : List Int} {i m : Nat} (h : l.length = m) (hi : i ≤ m) : (part l i m).length = m := by simp [part, h]; omega
theorem part_zero (l : List Int) (m : Nat) : part l 0 m = List.replicate m 0 := by simp [part]
theorem part_all {l : List Int} {m : Nat} (h : l.length = m) : part l m m = l := by simp [part, ← h]
theorem part_set {l : List Int} {i m : Nat} (h : l.length = m) (hi : i < m) : (part l i m).set i (l[i]?.getD 0) = part l (i + 1) m := by
  unfold part
  have hl : (l.take i).length = i := by rw [List.length_take]; omega
  rw [List.set_append, if_neg (by omega), hl, Nat.sub_self, show m - i = (m - (i + 1)) + 1 by omega, List.replicate_succ, List.set_cons_zero, List.take_add_one, List.getElem?_eq_getElem (by omega)]
  simp only [Option.getD_some, Option.toList, List.append_assoc, List.cons_append, List.nil_append]
theorem u8s_set (l : List Int) (i : Nat) (x : Int) : (u8s l).set i (.int .u8 x) = u8s (l.set i x) := by simp [u8s, List.map_set]
theorem rowA_cset {a : AskP} {i : Nat} {x : Int} (h : i < a.cl.length) : (rowA a).set (1 + i) (.int .u8 x) = rowA { a with cl := a.cl.set i x } := by
  unfold rowA
  rw [Nat.add_comm 1 i, List.set_cons_succ, List.set_append, if_pos (by rw [u8s_length]; exact h), u8s_set]
theorem rowA_nset {a : AskP} {i : Nat} {x : Int} (hc : a.cl.length = 16) (h : i < a.no.length) : (rowA a).set (17 + i) (.int .u8 x) = rowA { a with no := a.no.set i x } := by
  unfold rowA
  rw [show 17 + i = (16 + i) + 1 by omega, List.set_cons_succ, List.set_append, if_neg (by rw [u8s_length]; omega), u8s_length, hc, Nat.add_sub_cancel_left, List.set_append, if_pos (by rw [u8s_length]; exact h), u8s_set]
theorem rowA_tset {a : AskP} (hc : a.cl.length = 16) (hn : a.no.length = 12) (j : Nat) (v : Value) : (rowA a).set (29 + j) v = .int .i64 a.life :: (u8s a.cl ++ (u8s a.no ++ [Value.int .i64 a.pr, .int .i64 a.port, .int .i64 a.outer, .int .i64 a.addr].set j v)) := by
  unfold rowA
  rw [show 29 + j = (16 + (12 + j)) + 1 by omega, List.set_cons_succ, List.set_append, if_neg (by rw [u8s_length]; omega), u8s_length, hc, Nat.add_sub_cancel_left, List.set_append, if_neg (by rw [u8s_length]; omega), u8s_length, hn, Nat.add_sub_cancel_left]
theorem getV_one {bs : List Int} {k : Nat} (h : k < bs.length) : (getV bs (k : Int) 1).1 = bs[k]?.getD 0 := by
  unfold getV
  rw [if_neg (by omega), if_neg (by omega)]
  show beNum (cutI bs (k : Int).toNat 1) = _
  unfold cutI
  rw [Int.toNat_natCast, List.drop_eq_getElem_cons h, List.getElem?_eq_getElem h, List.take_succ_cons, List.take_zero]
  simp only [beNum, List.foldl_cons, List.foldl_nil, Option.getD_some]
  omega
set_option maxRecDepth 100000 in
set_option maxHeartbeats 1000000 in
theorem RRead_short (A : Option Addr) (n c : Nat) (bs : List Int) (kind : Int) (w : World) (h : RB w A n c bs) (hn : n < 60) :
    Calls Try.prog 74 #[.slice A n c, .int .u8 kind] w (AskOut w (readA kind bs) (codeP kind bs)) := by
  have hk := Lib.hid (show codeP kind bs = 3 by unfold codeP; rw [if_pos (by rw [h.len]; exact hn)])
  have hz := Lib.hid (Blk.new w zAc 54)
  have hb := Lib.hid ((Below.refl _ w).alloc (Nat.le_refl _) (.cells zAc 54))
  clear h
  have hni : (n : Int) < 60 := by omega
  go_enter Try.func74, Try.ntmps74
  go_wp2_with (first
    | (refine wpList_store_RK rfl (.tmp 4) (.tmp 15) rfl w.heap.size zAc rfl rfl zAc hz.out rfl rfl zA_one ?_)
    | fail)
  exact bodyPost_ret (results_ct Try.results74 rfl (run_load_RK ⟨setRow_heap _ _ _ zAc _ _ hz.out.at_⟩ rfl)) rfl (AskOut.bad hk.out (by decide) (below_row hb.out (Nat.le_refl _) _))
set_option maxRecDepth 100000 in
set_option maxHeartbeats 1000000 in
theorem RRead_long (A : Option Addr) (n c : Nat) (bs : List Int) (kind : Int) (w : World) (h : RB w A n c bs) (hn : 60 < n) (hn2 : n ≤ 100000) :
    Calls Try.prog 74 #[.slice A n c, .int .u8 kind] w (AskOut w (readA kind bs) (codeP kind bs)) := by
  have hk := Lib.hid (show codeP kind bs = 6 by unfold codeP; rw [if_neg (by rw [h.len]; omega), if_pos (by rw [h.len]; exact hn)])
  have hz := Lib.hid (Blk.new w zAc 54)
  have hb := Lib.hid ((Below.refl _ w).alloc (Nat.le_refl _) (.cells zAc 54))
  clear h
  have hni : (60 : Int) < n := by omega
  have hni2 : ¬ (n : Int) < 60 := by omega
  go_enter Try.func74, Try.ntmps74
  go_wp2_with (first
    | (refine wpList_store_RK rfl (.tmp 4) (.tmp 19) rfl w.heap.size zAc rfl rfl zAc hz.out rfl rfl zA_one ?_)
    | fail)
  exact bodyPost_ret (results_ct Try.results74 rfl (run_load_RK ⟨setRow_heap _ _ _ zAc _ _ hz.out.at_⟩ rfl)) rfl (AskOut.bad hk.out (by decide) (below_row hb.out (Nat.le_refl _) _))
end Go.Proofs.Ytldjecilmcnpiaa
