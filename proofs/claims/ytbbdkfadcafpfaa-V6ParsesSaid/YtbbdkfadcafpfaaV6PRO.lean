/- Packets of IPv6 (the reference): walks of read, Parse, Quoted. -/
import Derived.Test.YtbbdkfadcafpfaaV6PRA
import Derived.Test.YtbbdkfadcafpfaaV6PRB
import Derived.Test.YtbbdkfadcafpfaaV6PRC
set_option linter.unusedVariables false
namespace Go.Proofs.Ytbbdkfadcafpfaa
open Go Go.RowKit

theorem RefV6Read_ok (A : Option Addr) (n c : Nat) (bs : List Int) (q : Bool) (w : World) (h : RB w A n c bs) (hn : n ≤ 100000) (hok : codeV6 q bs = 0) :
    Calls Try.prog 58 #[.slice A n c, .bool q] w (V6Out w (readV6 q bs) (codeV6 q bs)) := by
  by_cases hlong : (n : Int) - 40 < (getV bs 4 2).1
  · exact RefV6Read_a A n c bs q w h hn hok hlong
  · cases hq : q
    · exact RefV6Read_b A n c bs false w h hn (by rw [← hq]; exact hok) hlong rfl
    · exact RefV6Read_c A n c bs true w h hn (by rw [← hq]; exact hok) hlong rfl

theorem RefV6Read_any (A : Option Addr) (n c : Nat) (bs : List Int) (q : Bool) (w : World) (h : RB w A n c bs) (hn : n ≤ 100000) :
    Calls Try.prog 58 #[.slice A n c, .bool q] w (V6Out w (readV6 q bs) (codeV6 q bs)) := by
  by_cases hok : codeV6 q bs = 0
  · exact RefV6Read_ok A n c bs q w h hn hok
  · exact RefV6Read_bad A n c bs q w h hn hok
set_option maxRecDepth 100000 in
set_option maxHeartbeats 1000000 in
theorem RefV6Parse_any (A : Option Addr) (n c : Nat) (bs : List Int) (w : World) (h : RB w A n c bs) (hn : n ≤ 100000) :
    Calls Try.prog 28 #[.slice A n c] w (V6Out w (readV6 false bs) (codeV6 false bs)) := by
  have hb0 := Lib.hid ((Below.refl _ w).alloc (Nat.le_refl _) (.cells zeroVc 26))
  have hz0 := Lib.hid (Blk.new w zeroVc 26)
  have hR := fun W (hW : Below w.heap.size w W) => RefV6Read_any A n c bs false W (h.below hW) hn
  unfold V6Out at hR
  replace hR := Lib.hid hR
  clear h
  generalize readV6 false bs = p at *
  generalize codeV6 false bs = k at *
  go_enter Try.func28, Try.ntmps28
  go_wp2_with (first
    | (go_at_call 58; refine (hR.out _ hb0.out).mono ?_; rintro e w1 ⟨P, A1, m, c1, rfl, hV, ho, hb1⟩; have z1 := Lib.hid (hz0.out.to hb1); have b1 := Lib.hid (hb0.out.trans (hb1.mono hb0.out.size)); have hz0s := hb0.out.size; replace ho := Lib.hid (ho.mono hz0s); replace hV := Lib.hid hV; have one1 := Lib.hid hV.out.one; replace hb1 := 0; clear hz0s)
    | (refine wpList_store_V rfl (.tmp 2) (.tmp 6) rfl w.heap.size P rfl rfl _ z1.out rfl hV.out.size one1.out ?_)
    | fail)
  refine bodyPost_ret (results_ct Try.results28 rfl (run_load_V ⟨setRow_heap _ _ _ _ _ _ z1.out.at_⟩ hV.out.size)) rfl ?_
  exact ⟨P, A1, m, c1, rfl, hV.out, ho.out.stay (StayT.row z1.out _) (show 5 ≠ 26 from by decide), below_row b1.out (Nat.le_refl _) _⟩
set_option maxRecDepth 100000 in
set_option maxHeartbeats 1000000 in
theorem RefV6Quoted_any (A : Option Addr) (n c : Nat) (bs : List Int) (w : World) (h : RB w A n c bs) (hn : n ≤ 100000) :
    Calls Try.prog 30 #[.slice A n c] w (V6Out w (readV6 true bs) (codeV6 true bs)) := by
  have hb0 := Lib.hid ((Below.refl _ w).alloc (Nat.le_refl _) (.cells zeroVc 26))
  have hz0 := Lib.hid (Blk.new w zeroVc 26)
  have hR := fun W (hW : Below w.heap.size w W) => RefV6Read_any A n c bs true W (h.below hW) hn
  unfold V6Out at hR
  replace hR := Lib.hid hR
  clear h
  generalize readV6 true bs = p at *
  generalize codeV6 true bs = k at *
  go_enter Try.func30, Try.ntmps30
  go_wp2_with (first
    | (go_at_call 58; refine (hR.out _ hb0.out).mono ?_; rintro e w1 ⟨P, A1, m, c1, rfl, hV, ho, hb1⟩; have z1 := Lib.hid (hz0.out.to hb1); have b1 := Lib.hid (hb0.out.trans (hb1.mono hb0.out.size)); have hz0s := hb0.out.size; replace ho := Lib.hid (ho.mono hz0s); replace hV := Lib.hid hV; have one1 := Lib.hid hV.out.one; replace hb1 := 0; clear hz0s)
    | (refine wpList_store_V rfl (.tmp 2) (.tmp 6) rfl w.heap.size P rfl rfl _ z1.out rfl hV.out.size one1.out ?_)
    | fail)
  refine bodyPost_ret (results_ct Try.results30 rfl (run_load_V ⟨setRow_heap _ _ _ _ _ _ z1.out.at_⟩ hV.out.size)) rfl ?_
  exact ⟨P, A1, m, c1, rfl, hV.out, ho.out.stay (StayT.row z1.out _) (show 5 ≠ 26 from by decide), below_row b1.out (Nat.le_refl _) _⟩
end Go.Proofs.Ytbbdkfadcafpfaa
