/- The law V6Parses: its walk. -/
import Derived.Test.YtbbdkfadcafpfaaV6PRO
import Derived.Test.YtbbdkfadcafpfaaV6BuildsW
import Derived.Test.YtbbdkfadcafpfaaZero6
set_option linter.unusedVariables false
namespace Go.Proofs.Ytbbdkfadcafpfaa
open Go Go.RowKit

theorem sameV_refl (p : V6P) : sameV p p = true := by simp [sameV]
set_option maxRecDepth 100000 in
set_option maxHeartbeats 4000000 in
theorem V6Parses_walk (A : Option Addr) (n c : Nat) (bs : List Int) (w : World) (h : RB w A n c bs) :
    Calls Try.prog 5 #[.slice A n c] w fun e w' => e = .returned (.bool true) ∧ Below w.heap.size w w' := by
  by_cases hbig : 3000 < n
  · have hbi : (3000 : Int) < n := by omega
    clear h
    go_enter Try.func5, Try.ntmps5
    go_wp2_with (first
      | (go_at_call 13; refine (awake06 _).mono ?_; rintro e W1 ⟨rfl, hB⟩; replace hB := Lib.hid hB)
      | fail)
    go_ret
    exact ⟨by first | rfl | simp, hB.out⟩
  · have hbi : ¬ (3000 : Int) < n := by omega
    have hP := fun W (hW : Below w.heap.size w W) => V6Parse_any A n c bs W (h.below hW) (by omega)
    have hRP := fun W (hW : Below w.heap.size w W) => RefV6Parse_any A n c bs W (h.below hW) (by omega)
    have hQ := fun W (hW : Below w.heap.size w W) => V6Quoted_any A n c bs W (h.below hW) (by omega)
    have hRQ := fun W (hW : Below w.heap.size w W) => RefV6Quoted_any A n c bs W (h.below hW) (by omega)
    unfold V6Out at hP hRP hQ hRQ
    generalize readV6 false bs = p at *
    generalize codeV6 false bs = ep at *
    generalize readV6 true bs = q at *
    generalize codeV6 true bs = eq at *
    replace hP := Lib.hid hP
    replace hRP := Lib.hid hRP
    replace hQ := Lib.hid hQ
    replace hRQ := Lib.hid hRQ
    have hbt := Lib.hid (Below.refl w.heap.size w)
    clear h hbig
    have hSame := Lib.hid (fun P P' p A A' n c n' c' W h h' hr hr' => by have := RefV6Same_any P P' p p A A' n c n' c' W h h' hr hr'; rw [sameV_refl] at this; exact this)
    go_enter Try.func5, Try.ntmps5
    go_wp2_with (first
      | (go_at_call 27; refine (hP.out _ hbt.out).mono ?_; rintro e w1 ⟨P1, A1, n1, c1, rfl, hV1, ho1, hB1⟩; have hb1 := Lib.hid hB1; have o1 := Lib.hid ho1.rb; replace hV1 := Lib.hid hV1; replace ho1 := 0; replace hB1 := 0)
      | (refine wpList_store_V rfl (.tmp 3) (.tmp 18) rfl w1.heap.size P1 rfl rfl _ (Blk.new w1 zeroVx 26) rfl hV1.out.size hV1.out.one ?_; have hbe : Below w1.heap.size w1 ((w1.alloc (.cells zeroVx 26)).setRow w1.heap.size P1) := below_row ((Below.refl _ w1).alloc (Nat.le_refl _) _) (Nat.le_refl _) _; have k1 : Blk ((w1.alloc (.cells zeroVx 26)).setRow w1.heap.size P1) w1.heap.size P1 26 := ⟨setRow_heap _ _ _ _ _ _ (Blk.new w1 zeroVx 26).at_⟩; generalize (w1.alloc (.cells zeroVx 26)).setRow w1.heap.size P1 = u1 at *; (have b1 := Lib.hid (hb1.out.trans (hbe.mono hb1.out.size)); replace o1 := Lib.hid (o1.out.below hbe)); replace hbe := 0; replace k1 := Lib.hid k1)
      | (go_at_call 28; refine (hRP.out _ b1.out).mono ?_; rintro e w2 ⟨P2, A2, n2, c2, rfl, hV2, ho2, hB2⟩; have hb2 := Lib.hid (b1.out.trans (hB2.mono b1.out.size)); have o2 := Lib.hid ho2.rb; replace hV2 := Lib.hid hV2; replace o1 := Lib.hid (o1.out.below hB2); replace k1 := Lib.hid (k1.out.to hB2); replace ho2 := 0; replace hB2 := 0)
      | (refine wpList_store_V rfl (.tmp 5) (.tmp 23) rfl w2.heap.size P2 rfl rfl _ (Blk.new w2 zeroVx 26) rfl hV2.out.size hV2.out.one ?_; have hbe : Below w2.heap.size w2 ((w2.alloc (.cells zeroVx 26)).setRow w2.heap.size P2) := below_row ((Below.refl _ w2).alloc (Nat.le_refl _) _) (Nat.le_refl _) _; have k2 : Blk ((w2.alloc (.cells zeroVx 26)).setRow w2.heap.size P2) w2.heap.size P2 26 := ⟨setRow_heap _ _ _ _ _ _ (Blk.new w2 zeroVx 26).at_⟩; generalize (w2.alloc (.cells zeroVx 26)).setRow w2.heap.size P2 = u2 at *; (have b2 := Lib.hid (hb2.out.trans (hbe.mono hb2.out.size)); replace o1 := Lib.hid (o1.out.below hbe); replace o2 := Lib.hid (o2.out.below hbe); replace k1 := Lib.hid (k1.out.to hbe)); replace hbe := 0; replace k2 := Lib.hid k2)
      | (go_at_call 29; refine (hQ.out _ b2.out).mono ?_; rintro e w3 ⟨P3, A3, n3, c3, rfl, hV3, ho3, hB3⟩; have hb3 := Lib.hid (b2.out.trans (hB3.mono b2.out.size)); have o3 := Lib.hid ho3.rb; replace hV3 := Lib.hid hV3; replace o1 := Lib.hid (o1.out.below hB3); replace o2 := Lib.hid (o2.out.below hB3); replace k1 := Lib.hid (k1.out.to hB3); replace k2 := Lib.hid (k2.out.to hB3); replace ho3 := 0; replace hB3 := 0)
      | (refine wpList_store_V rfl (.tmp 7) (.tmp 28) rfl w3.heap.size P3 rfl rfl _ (Blk.new w3 zeroVx 26) rfl hV3.out.size hV3.out.one ?_; have hbe : Below w3.heap.size w3 ((w3.alloc (.cells zeroVx 26)).setRow w3.heap.size P3) := below_row ((Below.refl _ w3).alloc (Nat.le_refl _) _) (Nat.le_refl _) _; have k3 : Blk ((w3.alloc (.cells zeroVx 26)).setRow w3.heap.size P3) w3.heap.size P3 26 := ⟨setRow_heap _ _ _ _ _ _ (Blk.new w3 zeroVx 26).at_⟩; generalize (w3.alloc (.cells zeroVx 26)).setRow w3.heap.size P3 = u3 at *; (have b3 := Lib.hid (hb3.out.trans (hbe.mono hb3.out.size)); replace o1 := Lib.hid (o1.out.below hbe); replace o2 := Lib.hid (o2.out.below hbe); replace o3 := Lib.hid (o3.out.below hbe); replace k1 := Lib.hid (k1.out.to hbe); replace k2 := Lib.hid (k2.out.to hbe)); replace hbe := 0; replace k3 := Lib.hid k3)
      | (go_at_call 30; refine (hRQ.out _ b3.out).mono ?_; rintro e w4 ⟨P4, A4, n4, c4, rfl, hV4, ho4, hB4⟩; have hb4 := Lib.hid (b3.out.trans (hB4.mono b3.out.size)); have o4 := Lib.hid ho4.rb; replace hV4 := Lib.hid hV4; replace o1 := Lib.hid (o1.out.below hB4); replace o2 := Lib.hid (o2.out.below hB4); replace o3 := Lib.hid (o3.out.below hB4); replace k1 := Lib.hid (k1.out.to hB4); replace k2 := Lib.hid (k2.out.to hB4); replace k3 := Lib.hid (k3.out.to hB4); replace ho4 := 0; replace hB4 := 0)
      | (refine wpList_store_V rfl (.tmp 9) (.tmp 33) rfl w4.heap.size P4 rfl rfl _ (Blk.new w4 zeroVx 26) rfl hV4.out.size hV4.out.one ?_; have hbe : Below w4.heap.size w4 ((w4.alloc (.cells zeroVx 26)).setRow w4.heap.size P4) := below_row ((Below.refl _ w4).alloc (Nat.le_refl _) _) (Nat.le_refl _) _; have k4 : Blk ((w4.alloc (.cells zeroVx 26)).setRow w4.heap.size P4) w4.heap.size P4 26 := ⟨setRow_heap _ _ _ _ _ _ (Blk.new w4 zeroVx 26).at_⟩; generalize (w4.alloc (.cells zeroVx 26)).setRow w4.heap.size P4 = u4 at *; (have b4 := Lib.hid (hb4.out.trans (hbe.mono hb4.out.size)); replace o1 := Lib.hid (o1.out.below hbe); replace o2 := Lib.hid (o2.out.below hbe); replace o3 := Lib.hid (o3.out.below hbe); replace o4 := Lib.hid (o4.out.below hbe); replace k1 := Lib.hid (k1.out.to hbe); replace k2 := Lib.hid (k2.out.to hbe); replace k3 := Lib.hid (k3.out.to hbe)); replace hbe := 0; replace k4 := Lib.hid k4)
      | (refine wpList_load_V rfl (.tmp 3) rfl w1.heap.size rfl P1 k1.out hV1.out.size ?_)
      | (refine wpList_load_V rfl (.tmp 5) rfl w2.heap.size rfl P2 k2.out hV2.out.size ?_)
      | (refine wpList_load_V rfl (.tmp 7) rfl w3.heap.size rfl P3 k3.out hV3.out.size ?_)
      | (refine wpList_load_V rfl (.tmp 9) rfl w4.heap.size rfl P4 k4.out hV4.out.size ?_)
      | (go_at_call_of 22 (Value.agg P1); refine (hSame.out P1 P2 p A1 A2 n1 c1 n2 c2 _ hV1.out hV2.out o1.out o2.out).mono ?_; rintro e w5 ⟨rfl, hB5⟩; have b5 := Lib.hid (b4.out.trans (hB5.mono b4.out.size)); replace o3 := Lib.hid (o3.out.below hB5); replace o4 := Lib.hid (o4.out.below hB5); replace k3 := Lib.hid (k3.out.to hB5); replace k4 := Lib.hid (k4.out.to hB5); replace hB5 := 0)
      | (go_at_call 22; refine (hSame.out P3 P4 q A3 A4 n3 c3 n4 c4 _ hV3.out hV4.out o3.out o4.out).mono ?_; rintro e w6 ⟨rfl, hB6⟩; have b6 := Lib.hid (b5.out.trans (hB6.mono b5.out.size)); replace hB6 := 0)
      | (go_at_call 13; refine (awake06 _).mono ?_; rintro e w7 ⟨rfl, hB7⟩; have b7 := Lib.hid (b6.out.trans (hB7.mono b6.out.size)); replace hB7 := 0)
      | fail)
    go_ret
    exact ⟨by first | rfl | simp, b7.out⟩
end Go.Proofs.Ytbbdkfadcafpfaa
