/- What bytes ask (pcp): walk of read. -/
import Derived.Test.YtldjecilmcnpiaaPcpB
import Derived.StillTailTactics
set_option linter.unusedVariables false
namespace Go.Proofs.Ytldjecilmcnpiaa
open Go Go.RowKit

def z12 : List Int := List.replicate 12 0
def zeroA : AskP := ⟨0, z16, z12, 0, 0, 0, 0⟩
abbrev zAc : Array Value := #[.int .i64 0, .int .u8 0, .int .u8 0, .int .u8 0, .int .u8 0, .int .u8 0, .int .u8 0, .int .u8 0, .int .u8 0, .int .u8 0, .int .u8 0, .int .u8 0, .int .u8 0, .int .u8 0, .int .u8 0, .int .u8 0, .int .u8 0, .int .u8 0, .int .u8 0, .int .u8 0, .int .u8 0, .int .u8 0, .int .u8 0, .int .u8 0, .int .u8 0, .int .u8 0, .int .u8 0, .int .u8 0, .int .u8 0, .int .i64 0, .int .i64 0, .int .i64 0, .int .i64 0]
theorem zA_row : (rowA zeroA).toArray = zAc := rfl
theorem zA_one : zAc.all (·.oneCell') = true := rowA_one (a := zeroA)
theorem z12_byts : Byts z12 := fun x hx => by
  have := List.eq_of_mem_replicate hx
  subst this
  constructor <;> omega
theorem zeroA_ok : AskOk zeroA := ⟨rfl, rfl, z16_byts, z12_byts⟩
theorem rowA_setcl {a : AskP} {s' : List Int} (h : a.cl.length = 16) (h' : s'.length = 16) : splice (rowA a) 1 (u8s s') = rowA { a with cl := s' } := by
  have hl : (u8s s').length = 16 := by rw [u8s_length, h']
  have hl2 : (u8s a.cl).length = 16 := by rw [u8s_length, h]
  unfold splice rowA
  rw [hl]
  rw [show (1 + 16 : Nat) = 16 + 1 from rfl, List.take_succ_cons, List.take_zero, List.drop_succ_cons]
  generalize u8s a.cl = L at *
  rw [List.drop_append_of_le_length (by omega), List.drop_of_length_le (by omega), List.nil_append]
  rfl
theorem rowA_setno {a : AskP} {s' : List Int} (h : a.cl.length = 16) (hn : a.no.length = 12) (h' : s'.length = 12) : splice (rowA a) 17 (u8s s') = rowA { a with no := s' } := by
  have hl : (u8s s').length = 12 := by rw [u8s_length, h']
  have hl2 : (u8s a.no).length = 12 := by rw [u8s_length, hn]
  have e : ∀ n : List Int, rowA { a with no := n } = (.int .i64 a.life :: u8s a.cl) ++ (u8s n ++ [.int .i64 a.pr, .int .i64 a.port, .int .i64 a.outer, .int .i64 a.addr]) := fun n => by simp [rowA]
  have ea : rowA a = rowA { a with no := a.no } := rfl
  have hA : (.int .i64 a.life :: u8s a.cl : List Value).length = 17 := by simp [u8s_length, h]
  rw [ea, e, e]
  generalize (.int .i64 a.life :: u8s a.cl : List Value) = L at *
  generalize u8s a.no = N at *
  unfold splice
  rw [hl, List.take_left' hA, show 17 + 12 = L.length + 12 by omega, List.drop_append, List.drop_of_length_le (by omega), List.nil_append, Nat.add_sub_cancel_left, List.drop_append_of_le_length (by omega), List.drop_of_length_le (by omega), List.nil_append]

/-- What bytes ask, if they are of a kind. -/
def codeP (kind : Int) (bs : List Int) : Int :=
  if bs.length < 60 then 3 else if 60 < bs.length then 6 else if bs[0]?.getD 0 ≠ 2 ∨ bs[1]?.getD 0 ≠ kind then 4 else if (plainV (bs.drop 44)).2 = false then 4 else 0
def parsedA (bs : List Int) : AskP := ⟨(getV bs 4 4).1, (bs.drop 8).take 16, (bs.drop 24).take 12, (getV bs 36 1).1, (getV bs 40 2).1, (getV bs 42 2).1, (plainV (bs.drop 44)).1⟩
def readA (kind : Int) (bs : List Int) : AskP := if codeP kind bs = 0 then parsedA bs else zeroA
theorem parsedA_ok {bs : List Int} (h : Byts bs) (hl : bs.length = 60) : AskOk (parsedA bs) :=
  ⟨by simp [parsedA]; omega, by simp [parsedA]; omega, (Byts.take (fun x hx => h x (List.mem_of_mem_drop hx)) 16), (Byts.take (fun x hx => h x (List.mem_of_mem_drop hx)) 12)⟩
theorem readA_ok {kind : Int} {bs : List Int} (h : Byts bs) : AskOk (readA kind bs) := by
  unfold readA
  split
  · rename_i hc
    refine parsedA_ok h ?_
    unfold codeP at hc
    by_cases h1 : bs.length < 60
    · rw [if_pos h1] at hc; simp at hc
    · rw [if_neg h1] at hc
      by_cases h2 : 60 < bs.length
      · rw [if_pos h2] at hc; simp at hc
      · omega
  · exact zeroA_ok
def AskOut (w : World) (a : AskP) (e0 : Int) (e : Ending) (w' : World) : Prop := e = .returned (.tuple #[.agg (rowA a).toArray, .int .i64 e0]) ∧ Below w.heap.size w w'
theorem AskOut.bad {w w' : World} {kind : Int} {bs : List Int} {k : Int} (hk : codeP kind bs = k) (h0 : k ≠ 0) (hb : Below w.heap.size w w') : AskOut w (readA kind bs) (codeP kind bs) (.returned (.tuple #[.agg zAc, .int .i64 k])) w' := by
  unfold readA
  rw [hk, if_neg h0]
  exact ⟨rfl, hb⟩
set_option maxHeartbeats 1000000 in
theorem PNum_any (A : Option Addr) (n c : Nat) (bs : List Int) (a s : Int) (B : Nat) (w : World) (hc : w.cell? ⟨B, 0, none⟩ = some (.slice A n c)) (h : RB w A n c bs) (hn : n ≤ 100000) :
    Calls Try.prog 106 #[.int .i64 a, .int .i64 s, .pointer (some ⟨B, 0, none⟩)] w fun e w' => e = .returned (.int .i64 (getV bs a s).1) ∧ w = w' := by
  have hG := Lib.hid (Get_any A n c bs a s w h hn)
  clear h
  go_enter Try.func106, Try.ntmps106
  go_wp2_with (first
    | (go_at_call 71; refine (hG.out).mono ?_; rintro e w' ⟨rfl, rfl⟩)
    | fail)
  go_ret
  exact ⟨rfl, rfl⟩
set_option maxRecDepth 100000 in
set_option maxHeartbeats 1000000 in
theorem PRead_short (A : Option Addr) (n c : Nat) (bs : List Int) (kind : Int) (w : World) (h : RB w A n c bs) (hn : n < 60) :
    Calls Try.prog 73 #[.slice A n c, .int .u8 kind] w (AskOut w (readA kind bs) (codeP kind bs)) := by
  have hk := Lib.hid (show codeP kind bs = 3 by unfold codeP; rw [if_pos (by rw [h.len]; exact hn)])
  clear h
  have hni : (n : Int) < 60 := by omega
  obtain ⟨W0, hW0⟩ : ∃ W0, (w.alloc (.cells #[.slice A n c] 22)).alloc (.cells zAc 51) = W0 := ⟨_, rfl⟩
  have hz0 : Blk W0 (w.heap.size + 1) zAc 51 := by
    rw [← hW0]
    have := Blk.new (w.alloc (.cells #[.slice A n c] 22)) zAc 51
    rwa [World.size_alloc] at this
  have kb0 : Blk W0 w.heap.size #[.slice A n c] 22 := by rw [← hW0]; exact (Blk.new w _ _).alloc _
  have hB0 : Below w.heap.size w W0 := by rw [← hW0]; exact ((Below.refl _ w).alloc (Nat.le_refl _) _).alloc (by simp) _
  replace hW0 := Lib.hid hW0
  have hz1 := hz0
  have hb1 := hB0
  rw [← hW0.out] at hz1 hb1
  replace hz1 := Lib.hid hz1
  replace hb1 := Lib.hid hb1
  clear hz0 kb0 hB0
  replace hW0 := 0
  go_enter Try.func73, Try.ntmps73
  go_wp2_with (first
    | (refine wpList_store_K rfl (.tmp 4) (.tmp 15) rfl (w.heap.size + 1) zAc rfl rfl zAc hz1.out rfl rfl zA_one ?_)
    | fail)
  exact bodyPost_ret (results_ct Try.results73 rfl (run_load_K ⟨setRow_heap _ _ _ zAc _ _ hz1.out.at_⟩ rfl)) rfl (AskOut.bad hk.out (by decide) (below_row hb1.out (Nat.le_succ _) _))
set_option maxRecDepth 100000 in
set_option maxHeartbeats 1000000 in
theorem PRead_long (A : Option Addr) (n c : Nat) (bs : List Int) (kind : Int) (w : World) (h : RB w A n c bs) (hn : 60 < n) (hn2 : n ≤ 100000) :
    Calls Try.prog 73 #[.slice A n c, .int .u8 kind] w (AskOut w (readA kind bs) (codeP kind bs)) := by
  have hk := Lib.hid (show codeP kind bs = 6 by unfold codeP; rw [if_neg (by rw [h.len]; omega), if_pos (by rw [h.len]; exact hn)])
  clear h
  have hni : (60 : Int) < n := by omega
  have hni2 : ¬ (n : Int) < 60 := by omega
  obtain ⟨W0, hW0⟩ : ∃ W0, (w.alloc (.cells #[.slice A n c] 22)).alloc (.cells zAc 51) = W0 := ⟨_, rfl⟩
  have hz0 : Blk W0 (w.heap.size + 1) zAc 51 := by
    rw [← hW0]
    have := Blk.new (w.alloc (.cells #[.slice A n c] 22)) zAc 51
    rwa [World.size_alloc] at this
  have kb0 : Blk W0 w.heap.size #[.slice A n c] 22 := by rw [← hW0]; exact (Blk.new w _ _).alloc _
  have hB0 : Below w.heap.size w W0 := by rw [← hW0]; exact ((Below.refl _ w).alloc (Nat.le_refl _) _).alloc (by simp) _
  replace hW0 := Lib.hid hW0
  have hz1 := hz0
  have hb1 := hB0
  rw [← hW0.out] at hz1 hb1
  replace hz1 := Lib.hid hz1
  replace hb1 := Lib.hid hb1
  clear hz0 kb0 hB0
  replace hW0 := 0
  go_enter Try.func73, Try.ntmps73
  go_wp2_with (first
    | (refine wpList_store_K rfl (.tmp 4) (.tmp 20) rfl (w.heap.size + 1) zAc rfl rfl zAc hz1.out rfl rfl zA_one ?_)
    | fail)
  exact bodyPost_ret (results_ct Try.results73 rfl (run_load_K ⟨setRow_heap _ _ _ zAc _ _ hz1.out.at_⟩ rfl)) rfl (AskOut.bad hk.out (by decide) (below_row hb1.out (Nat.le_succ _) _))
set_option maxRecDepth 100000 in
set_option maxHeartbeats 1000000 in
theorem PRead_form0 (A : Option Addr) (c : Nat) (bs : List Int) (kind : Int) (w : World) (h : RB w A 60 c bs) (hx : bs[0]?.getD 0 ≠ 2) :
    Calls Try.prog 73 #[.slice A 60 c, .int .u8 kind] w (AskOut w (readA kind bs) (codeP kind bs)) := by
  have hl := h.len
  obtain ⟨b, off, rfl, hbl, hc⟩ := h.mem (by omega)
  have hnc := h.nc
  have hk := Lib.hid (show codeP kind bs = 4 by unfold codeP; rw [if_neg (by omega), if_neg (by omega), if_pos (.inl hx)])
  have g0 := hc 0 (by omega)
  have g1 := hc 1 (by omega)
  rw [Nat.add_zero] at g0
  clear h hc hl
  generalize bs[0]?.getD 0 = x at *
  generalize bs[1]?.getD 0 = y at *
  generalize hA : (some (⟨b, off, none⟩ : Addr)) = A at *
  obtain ⟨W0, hW0⟩ : ∃ W0, (w.alloc (.cells #[.slice A 60 c] 22)).alloc (.cells zAc 51) = W0 := ⟨_, rfl⟩
  have hz0 : Blk W0 (w.heap.size + 1) zAc 51 := by
    rw [← hW0]
    have := Blk.new (w.alloc (.cells #[.slice A 60 c] 22)) zAc 51
    rwa [World.size_alloc] at this
  have kb0 : Blk W0 w.heap.size #[.slice A 60 c] 22 := by rw [← hW0]; exact (Blk.new w _ _).alloc _
  have hB0 : Below w.heap.size w W0 := by rw [← hW0]; exact ((Below.refl _ w).alloc (Nat.le_refl _) _).alloc (by simp) _
  replace hW0 := Lib.hid hW0
  have hz1 := hz0
  have hb1 := hB0
  have g0' := (hB0.cell (p := ⟨b, off, none⟩) hbl).trans g0
  have g1' := (hB0.cell (p := ⟨b, off + 1, none⟩) hbl).trans g1
  rw [← hW0.out] at hz1 hb1 g0' g1'
  replace hz1 := Lib.hid hz1
  replace hb1 := Lib.hid hb1
  clear hz0 kb0 hB0 g0 g1
  replace hW0 := 0
  subst hA
  try subst hx
  have hxb : (x != 2) = true := by simpa using hx
  go_enter Try.func73, Try.ntmps73
  go_wp2_with (first
    | (refine wpList_store_K rfl (.tmp 4) (.tmp 31) rfl (w.heap.size + 1) zAc rfl rfl zAc hz1.out rfl rfl zA_one ?_)
    | fail)
  exact bodyPost_ret (results_ct Try.results73 rfl (run_load_K ⟨setRow_heap _ _ _ zAc _ _ hz1.out.at_⟩ rfl)) rfl (AskOut.bad hk.out (by decide) (below_row hb1.out (Nat.le_succ _) _))
set_option maxRecDepth 100000 in
set_option maxHeartbeats 1000000 in
theorem PRead_form1 (A : Option Addr) (c : Nat) (bs : List Int) (kind : Int) (w : World) (h : RB w A 60 c bs) (hx : bs[0]?.getD 0 = 2) (hy : bs[1]?.getD 0 ≠ kind) :
    Calls Try.prog 73 #[.slice A 60 c, .int .u8 kind] w (AskOut w (readA kind bs) (codeP kind bs)) := by
  have hl := h.len
  obtain ⟨b, off, rfl, hbl, hc⟩ := h.mem (by omega)
  have hnc := h.nc
  have hk := Lib.hid (show codeP kind bs = 4 by unfold codeP; rw [if_neg (by omega), if_neg (by omega), if_pos (.inr hy)])
  have g0 := hc 0 (by omega)
  have g1 := hc 1 (by omega)
  rw [Nat.add_zero] at g0
  clear h hc hl
  generalize bs[0]?.getD 0 = x at *
  generalize bs[1]?.getD 0 = y at *
  generalize hA : (some (⟨b, off, none⟩ : Addr)) = A at *
  obtain ⟨W0, hW0⟩ : ∃ W0, (w.alloc (.cells #[.slice A 60 c] 22)).alloc (.cells zAc 51) = W0 := ⟨_, rfl⟩
  have hz0 : Blk W0 (w.heap.size + 1) zAc 51 := by
    rw [← hW0]
    have := Blk.new (w.alloc (.cells #[.slice A 60 c] 22)) zAc 51
    rwa [World.size_alloc] at this
  have kb0 : Blk W0 w.heap.size #[.slice A 60 c] 22 := by rw [← hW0]; exact (Blk.new w _ _).alloc _
  have hB0 : Below w.heap.size w W0 := by rw [← hW0]; exact ((Below.refl _ w).alloc (Nat.le_refl _) _).alloc (by simp) _
  replace hW0 := Lib.hid hW0
  have hz1 := hz0
  have hb1 := hB0
  have g0' := (hB0.cell (p := ⟨b, off, none⟩) hbl).trans g0
  have g1' := (hB0.cell (p := ⟨b, off + 1, none⟩) hbl).trans g1
  rw [← hW0.out] at hz1 hb1 g0' g1'
  replace hz1 := Lib.hid hz1
  replace hb1 := Lib.hid hb1
  clear hz0 kb0 hB0 g0 g1
  replace hW0 := 0
  subst hA
  try subst hx
  have hyb : (y != kind) = true := by simpa using hy
  go_enter Try.func73, Try.ntmps73
  go_wp2_with (first
    | (refine wpList_store_K rfl (.tmp 4) (.tmp 31) rfl (w.heap.size + 1) zAc rfl rfl zAc hz1.out rfl rfl zA_one ?_)
    | fail)
  exact bodyPost_ret (results_ct Try.results73 rfl (run_load_K ⟨setRow_heap _ _ _ zAc _ _ hz1.out.at_⟩ rfl)) rfl (AskOut.bad hk.out (by decide) (below_row hb1.out (Nat.le_succ _) _))
end Go.Proofs.Ytldjecilmcnpiaa
