/- Packets of IPv4: v4.Quoted, v4.Parse. -/
import Derived.Test.YtmbmmpbfmakfbaaV4K
import Derived.Test.YtmbmmpbfmakfbaaSeq
import Derived.Laws.CopyRow
set_option linter.unusedVariables false
namespace Go.Proofs.Ytmbmmpbfmakfbaa
open Go Go.RowKit

theorem readV4_ok {q : Bool} {bs : List Int} (h : codeV4 q bs = 0) : readV4 q bs = pack4 bs := if_pos h
theorem readV4_bad {q : Bool} {bs : List Int} (h : codeV4 q bs ≠ 0) : readV4 q bs = zero4 := if_neg h
theorem V4Out.no {w w' : World} {q : Bool} {bs : List Int} {k : Int} (hk : codeV4 q bs = k) (h0 : k ≠ 0) (hb : Below w.heap.size w w') : V4Out w (readV4 q bs) (codeV4 q bs) (.returned (.tuple #[.agg zero4c, .int .i64 k])) w' := by
  rw [readV4_bad (by rw [hk]; exact h0), hk]
  exact V4Out.bad hb
/-- A store of a whole variable into a result's cell, behind which a slice of bytes of the call's own stays. -/
theorem V4Out.yes {w w' : World} {q : Bool} {bs : List Int} {B : Nat} {old : Array Value} {Ao : Option Addr} {no co : Nat} {A : Option Addr} {n c : Nat} (hk : codeV4 q bs = 0) (kz : Blk w' B old 32) (hB : w.heap.size ≤ B) (ho : OB w' w.heap.size Ao no co (pack4 bs).opts) (hd : OB w' w.heap.size A n c (pack4 bs).data) (hb : Below w.heap.size w w') :
    V4Out w (readV4 q bs) (codeV4 q bs) (.returned (.tuple #[.agg (cells4 (pack4 bs) Ao no co A n c), .int .i64 0])) (w'.setRow B (cells4 (pack4 bs) Ao no co A n c)) := by
  rw [readV4_ok hk, hk]
  exact ⟨Ao, no, co, A, n, c, rfl, ho.farRow kz (show 5 ≠ 32 from by decide) _, hd.farRow kz (show 5 ≠ 32 from by decide) _, below_setRow hb hB _⟩
set_option maxRecDepth 100000 in
set_option maxHeartbeats 2000000 in
theorem Quoted4_any (A : Option Addr) (n c : Nat) (bs : List Int) (w : World) (hr : RB w A n c bs) (hn : n ≤ 100000) :
    Calls Try.prog 56 #[.slice A n c] w (V4Out w (readV4 true bs) (codeV4 true bs)) := by
  have hb0 := Lib.hid ((Below.refl _ w).alloc (Nat.le_refl _) (.cells zero4c 32))
  have kZ := Lib.hid (Blk.new w zero4c 32)
  have hO := fun W (hW : Below w.heap.size w W) => Open4_any A n c bs true W (hr.below hW) hn
  unfold OpenOut OpenOutK at hO
  have hcv : codeV4 true bs = codeO true bs := by unfold codeV4; split <;> simp_all
  by_cases hk : codeO true bs = 0
  · have hP := Lib.hid (fun W (hW : Below w.heap.size w W) => Packet4_any A n c true bs W (hr.below hW) hn hk)
    have hcz := Lib.hid (hcv.trans hk)
    rw [hk, if_pos rfl] at hO
    replace hO := Lib.hid hO
    obtain ⟨pk, hpk⟩ : ∃ pk, pack4 bs = pk := ⟨_, rfl⟩
    have hfin := Lib.hid (fun w' B old Ao no co A n c => @V4Out.yes w w' true bs B old Ao no co A n c hcz.out)
    rw [hpk] at hP hfin
    clear hr hk hcv hpk
    go_enter Try.func56, Try.ntmps56
    go_wp2_with (first
      | (refine wpList_store_RD rfl (.tmp 4) (.tmp 9) rfl w1.heap.size (cellsO A n c (hd4 bs) (sz4 bs)) rfl rfl _ (Blk.new _ (cellsO none 0 0 0 0) 100) rfl rfl (one_rd _ _ _ _ _) ?_; rw [World.setRow_alloc_new])
      | (refine wpList_load_RD rfl (.tmp 4) rfl w1.heap.size rfl _ k2.out rfl ?_)
      | (refine wpList_store_4 rfl (.tmp 2) (.tmp 16) rfl w.heap.size (cells4 pk Ao no co A' m c') rfl rfl _ kZ3.out rfl rfl (one4 _ _ _ _ _ _ _) ?_)
      | (go_at_call 76; refine (hO.out _ hb0.out).mono ?_; rintro e w1 ⟨rfl, hB1⟩; have hb1 := hb0.out.trans (hB1.mono hb0.out.size); have hb2 := Lib.hid (hb1.alloc hb1.size (.cells (cellsO A n c (hd4 bs) (sz4 bs)) 100)); have k2 := Lib.hid (Blk.new w1 (cellsO A n c (hd4 bs) (sz4 bs)) 100); have kZ2 := Lib.hid ((kZ.out.to hB1).alloc (.cells (cellsO A n c (hd4 bs) (sz4 bs)) 100)); clear hb1; replace hB1 := 0)
      | (go_at_call 77; refine (hP.out _ hb2.out).mono ?_; rintro e w3 ⟨Ao, no, co, A', m, c', rfl, ho3, hd3, hB3⟩; have hz2 := hb2.out.size; have hb3 := Lib.hid (hb2.out.trans (hB3.mono hz2)); have kZ3 := Lib.hid (kZ2.out.to hB3); replace ho3 := Lib.hid (ho3.mono hz2); replace hd3 := Lib.hid (hd3.mono hz2); replace hB3 := 0; clear hz2)
      | fail)
    refine bodyPost_ret (results_ct Try.results56 rfl (run_load_4 (Blk.mk (setRow_heap _ _ _ _ _ _ kZ3.out.at_)) rfl)) rfl ?_
    exact hfin.out _ _ _ _ _ _ _ _ _ kZ3.out (Nat.le_refl _) ho3.out hd3.out hb3.out
  · have hkn : (codeO true bs != 0) = true := by simpa using hk
    rw [if_neg hk] at hO
    obtain ⟨k, hke⟩ : ∃ k, codeO true bs = k := ⟨_, rfl⟩
    have hno := Lib.hid (fun w' hb => @V4Out.no w w' true bs k (hcv.trans hke) (by rw [← hke]; exact hk) hb)
    rw [hke] at hO hkn
    replace hO := Lib.hid hO
    clear hr hk hcv hke
    go_enter Try.func56, Try.ntmps56
    go_wp2_with (first
      | (refine wpList_store_RD rfl (.tmp 4) (.tmp 9) rfl w1.heap.size (cellsO none 0 0 0 0) rfl rfl _ (Blk.new _ (cellsO none 0 0 0 0) 100) rfl rfl (one_rd _ _ _ _ _) ?_; rw [World.setRow_alloc_new])
      | (refine wpList_store_4 rfl (.tmp 2) (.tmp 13) rfl w.heap.size zero4c rfl rfl _ kZ2.out rfl rfl (one4 zero4 none 0 0 none 0 0) ?_; rw [setRow_self _ _ _ _ _ kZ2.out.at_])
      | (go_at_call 76; refine (hO.out _ hb0.out).mono ?_; rintro e w1 ⟨rfl, hB1⟩; have hb1 := hb0.out.trans (hB1.mono hb0.out.size); have hb2 := Lib.hid (hb1.alloc hb1.size (.cells (cellsO none 0 0 0 0) 100)); have kZ2 := Lib.hid ((kZ.out.to hB1).alloc (.cells (cellsO none 0 0 0 0) 100)); clear hb1; replace hB1 := 0)
      | fail)
    refine bodyPost_ret (results_ct Try.results56 rfl (run_load_4 kZ2.out rfl)) rfl ?_
    exact hno.out _ hb2.out
end Go.Proofs.Ytmbmmpbfmakfbaa
