/- The law Cut4Glues: its walk. -/
import Derived.Test.YtipigcpenmcaoaaCut4I
import Derived.Test.YtipigcpenmcaoaaCut4T
import Derived.Test.YtipigcpenmcaoaaReadV4
set_option linter.unusedVariables false
namespace Go.Proofs.Ytipigcpenmcaoaa
open Go Go.RowKit
attribute [local go_sem] Oper.semAt_some

theorem flat_le (l : List V4P) (h : ∀ x ∈ l, x.data.length ≤ 2000) : (l.flatMap (·.data)).length ≤ l.length * 2000 := by
  induction l with
  | nil => simp
  | cons x l ih =>
    have h1 := h x (List.mem_cons_self ..)
    have h2 := ih fun y hy => h y (List.mem_cons_of_mem _ hy)
    rw [List.flatMap_cons, List.length_append, List.length_cons]; omega
set_option maxRecDepth 100000 in
set_option maxHeartbeats 4000000 in
theorem Cut4Glues_walk (A : Option Addr) (n c : Nat) (qs : List kV4.β) (w : World) (hL : LR kV4 w A n c qs) :
    Calls Try.prog 4 #[.slice A n c] w fun e w' => e = .returned (.bool true) ∧ Below w.heap.size w w' := by
  obtain ⟨l, hq⟩ : ∃ l, qs.map (·.p) = l := ⟨_, rfl⟩
  have hln := Lib.hid (lr4_len hL hq)
  by_cases h40 : 40 < n
  · have d1 : decide ((40 : Int) < n) = true := decide_eq_true (by omega)
    clear hL hq
    go_enter Try.func4, Try.ntmps4
    go_wp2_with (first
      | (go_at_call 13; refine (awake13 _).mono ?_; rintro e w1 ⟨rfl, hB1⟩)
      | fail)
    go_ret
    exact ⟨by first | rfl | simp, hB1⟩
  have d1 : decide ((40 : Int) < n) = false := decide_eq_false (by omega)
  go_enter Try.func4, Try.ntmps4
  go_wp2_with fail
  go_loopw [15] (fun v wr => ∃ k : Nat, k ≤ n ∧ v = .int .i64 k ∧ (∀ j x, j < k → l[j]? = some x → x.opts.length ≤ 200 ∧ x.data.length ≤ 2000) ∧ Below w.heap.size w wr) (fun v _ => n - (intOf v).toNat)
  case atStart => exact ⟨0, Nat.zero_le _, rfl, fun j x hj => absurd hj (by omega), Below.refl _ _⟩
  case round =>
    obtain ⟨k, hk, rfl, hsm, hbr⟩ := hrel
    by_cases hlt : k < n
    · obtain ⟨x, b, off, ao, no, co, a, m, d, hx, rfl, hbl, hr1, ho1, hd1⟩ := lr4_ex hL hq hlt
      have hol := ho1.len
      have hdl := hd1.len
      have hM1 := Lib.hid (rangeAt_below hr1 hbr hbl)
      have hf1 := Lib.hid (show (Try.prog.info? 24).map (·.size) = some (cells4 x ao no co a m d).size from info_v4)
      have hnc := hL.nc
      have hlti : (k : Int) < (n : Int) := by omega
      have hge : decide ((n : Int) ≤ (k : Int)) = false := by simp; omega
      have hbe := Lib.hid (hbr.alloc hbr.size (.cells (cells4 x ao no co a m d) 24))
      have kX := Blk.new wr (cells4 x ao no co a m d) 24
      have x9 := kX.cell 9 (.slice ao no co) rfl
      have x10 := kX.cell 10 (.slice a m d) rfl
      replace hx := Lib.hid hx
      replace hsm := Lib.hid hsm
      replace hbr := 0
      replace hr1 := 0
      replace ho1 := 0
      replace hd1 := 0
      clear kX
      by_cases h2 : 2000 < m
      · have d2 : decide ((2000 : Int) < m) = true := decide_eq_true (by omega)
        clear hol hdl
        go_wp2_with (first
          | (refine wpList_load_at rfl 24 (.tmp 17) rfl b (off + k * 11) rfl (cells4 x ao no co a m d) _ hM1.out Try.underlying24 rfl hf1.out ?_)
          | (refine wpList_store_4 rfl (.tmp 4) (.tmp 18) rfl wr.heap.size (cells4 x ao no co a m d) rfl rfl _ (Blk.new _ zero4c 24) rfl rfl (one4 _ _ _ _ _ _ _) ?_; rw [World.setRow_alloc_new])
          | (go_at_call 13; refine (awake13 _).mono ?_; rintro e w1 ⟨rfl, hB1⟩)
          | fail)
        go_ret
        exact ⟨by first | rfl | simp, hbe.out.trans (hB1.mono hbe.out.size)⟩
      have d2 : decide ((2000 : Int) < m) = false := decide_eq_false (by omega)
      by_cases h3 : 200 < no
      · have d3 : decide ((200 : Int) < no) = true := decide_eq_true (by omega)
        clear hol hdl
        go_wp2_with (first
          | (refine wpList_load_at rfl 24 (.tmp 17) rfl b (off + k * 11) rfl (cells4 x ao no co a m d) _ hM1.out Try.underlying24 rfl hf1.out ?_)
          | (refine wpList_store_4 rfl (.tmp 4) (.tmp 18) rfl wr.heap.size (cells4 x ao no co a m d) rfl rfl _ (Blk.new _ zero4c 24) rfl rfl (one4 _ _ _ _ _ _ _) ?_; rw [World.setRow_alloc_new])
          | (go_at_call 13; refine (awake13 _).mono ?_; rintro e w1 ⟨rfl, hB1⟩)
          | fail)
        go_ret
        exact ⟨by first | rfl | simp, hbe.out.trans (hB1.mono hbe.out.size)⟩
      have d3 : decide ((200 : Int) < no) = false := decide_eq_false (by omega)
      have hnx := Lib.hid (show x.opts.length ≤ 200 ∧ x.data.length ≤ 2000 by omega)
      clear hol hdl
      go_wp2_with (first
        | (refine wpList_load_at rfl 24 (.tmp 17) rfl b (off + k * 11) rfl (cells4 x ao no co a m d) _ hM1.out Try.underlying24 rfl hf1.out ?_)
        | (refine wpList_store_4 rfl (.tmp 4) (.tmp 18) rfl wr.heap.size (cells4 x ao no co a m d) rfl rfl _ (Blk.new _ zero4c 24) rfl rfl (one4 _ _ _ _ _ _ _) ?_; rw [World.setRow_alloc_new])
        | fail)
      go_roundw
      case rel =>
        refine ⟨k + 1, by omega, by go_num, fun j y hj hy => ?_, hbe.out⟩
        by_cases hjk : j < k
        · exact hsm.out j y hjk hy
        · obtain rfl : j = k := by omega
          obtain rfl : x = y := Option.some.inj (hx.out.symm.trans hy)
          exact hnx.out
      case measure => simp [intOf]; omega
    · obtain rfl : n = k := by omega
      have hall : ∀ x ∈ l, x.opts.length ≤ 200 ∧ x.data.length ≤ 2000 := fun x hx => by
        obtain ⟨j, hj⟩ := List.getElem?_of_mem hx
        exact hsm j x (by have := (List.getElem?_eq_some_iff.1 hj).1; rw [hln.out] at this; exact this) hj
      have hfl := flat_le l (fun x hx => (hall x hx).2)
      rw [hln.out] at hfl
      have hG := Lib.hid (fun W (hW : Below w.heap.size w W) => Glue4_any A n c qs l W (hL.below hW) hq (by omega) (fun x hx => ⟨by have := (hall x hx).1; omega, by have := (hall x hx).2; omega⟩) (by omega))
      have hRG := Lib.hid (fun W (hW : Below w.heap.size w W) => RefGlue4_any A n c qs l W (hL.below hW) hq (by omega) (fun x hx => ⟨by have := (hall x hx).1; omega, by have := (hall x hx).2; omega⟩) (by omega))
      unfold GlueOut at hG hRG
      obtain ⟨V, hV⟩ : ∃ V, glueV l = V := ⟨_, rfl⟩
      obtain ⟨K, hK⟩ : ∃ K, glueK l = K := ⟨_, rfl⟩
      rw [hV, hK] at hG hRG
      replace hbr := Lib.hid hbr
      clear hL hq hsm hall hfl hV hK
      go_wp2_with (first
        | (refine wpList_store_4 rfl (.tmp 5) (.tmp 34) rfl w1.heap.size (cells4 V A1 n1 c1 A2 n2 c2) rfl rfl _ (Blk.new _ zero4c 24) rfl rfl (one4 _ _ _ _ _ _ _) ?_; rw [World.setRow_alloc_new])
        | (refine wpList_store_4 rfl (.tmp 7) (.tmp 39) rfl w2.heap.size (cells4 V A3 n1 c3 A4 n2 c4) rfl rfl _ (Blk.new _ zero4c 24) rfl rfl (one4 _ _ _ _ _ _ _) ?_; rw [World.setRow_alloc_new])
        | (refine wpList_load_4 (by rfl) (.tmp 5) rfl w1.heap.size rfl _ k3.out rfl ?_)
        | (refine wpList_load_4 (by rfl) (.tmp 7) rfl w2.heap.size rfl _ k4.out rfl ?_)
        | (go_at_call 20; refine (hG.out _ hbr.out).mono ?_; rintro e w1 ⟨A1, n1, c1, A2, n2, c2, rfl, ho1, hd1, hB1⟩; have hb1 := hbr.out.trans (hB1.mono hbr.out.size); have k2 := Lib.hid (Blk.new w1 (cells4 V A1 n1 c1 A2 n2 c2) 24); have hb2 := Lib.hid (hb1.alloc hb1.size (.cells (cells4 V A1 n1 c1 A2 n2 c2) 24)); have ho2 := Lib.hid (ho1.alloc (.cells (cells4 V A1 n1 c1 A2 n2 c2) 24)); have hd2 := Lib.hid (hd1.alloc (.cells (cells4 V A1 n1 c1 A2 n2 c2) 24)); clear ho1 hd1 hB1 hb1)
        | (go_at_call 21; refine (hRG.out _ hb2.out).mono ?_; rintro e w2 ⟨A3, n3, c3, A4, n4, c4, rfl, ho3, hd3, hB2⟩; obtain rfl : n1 = n3 := (ho2.out.len.symm.trans ho3.len); obtain rfl : n2 = n4 := (hd2.out.len.symm.trans hd3.len); have hb3 := hb2.out.trans (hB2.mono hb2.out.size); have k4 := Lib.hid (Blk.new w2 (cells4 V A3 n1 c3 A4 n2 c4) 24); have k3 := Lib.hid ((k2.out.to hB2).alloc (.cells (cells4 V A3 n1 c3 A4 n2 c4) 24)); have hb4 := Lib.hid (hb3.alloc hb3.size (.cells (cells4 V A3 n1 c3 A4 n2 c4) 24)); have ho4 := Lib.hid (ho3.alloc (.cells (cells4 V A3 n1 c3 A4 n2 c4) 24)); have hd4 := Lib.hid (hd3.alloc (.cells (cells4 V A3 n1 c3 A4 n2 c4) 24)); have ho5 := Lib.hid ((ho2.out.below hB2).alloc (.cells (cells4 V A3 n1 c3 A4 n2 c4) 24)); have hd5 := Lib.hid ((hd2.out.below hB2).alloc (.cells (cells4 V A3 n1 c3 A4 n2 c4) 24)); clear ho3 hd3 hB2 hb3)
        | (go_at_call 22; refine (RefSame4_same V A1 n1 c1 A2 n2 c2 A3 c3 A4 c4 _ ho5.out hd5.out ho4.out hd4.out).mono ?_; rintro e w6 ⟨rfl, hB6⟩; have hb6 := Lib.hid (hb4.out.trans (hB6.mono hb4.out.size)); replace hB6 := 0)
        | (go_at_call 13; refine (awake13 _).mono ?_; rintro e w7 ⟨rfl, hB7⟩)
        | fail)
      go_ret
      exact ⟨by first | rfl | simp, hb6.out.trans (hB7.mono hb6.out.size)⟩
end Go.Proofs.Ytipigcpenmcaoaa
