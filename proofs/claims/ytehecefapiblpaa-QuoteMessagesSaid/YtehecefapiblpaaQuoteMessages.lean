/- The statement QuoteMessagesSaid: for every input the law QuoteMessages returns true, and each argument reads behind the call as it read before. No condition. -/
import Derived.Test.YtehecefapiblpaaQuoE
import Derived.Test.YtehecefapiblpaaReadV4
import Derived.Test.YtehecefapiblpaaReadI
set_option linter.unusedVariables false
namespace Go.Proofs.Ytehecefapiblpaa
open Go Go.RowKit
attribute [local go_sem] Oper.semAt_some

set_option maxRecDepth 100000 in
set_option maxHeartbeats 4000000 in
theorem QuoteMessage_any (m : IcmpP) (fr : Bool) (a x : Int) (A : Option Addr) (n c : Nat) (w : World) (h : RB w A n c m.data) (hn : n ≤ 3000) :
    Calls Try.prog 22 #[.agg (cellsI m A n c), .bool fr, .int .i64 a, .int .i64 x] w (IcmpTwo w (msgQ m fr a x) (mayQ m.data a x)) := by
  obtain ⟨w0, hw0⟩ : ∃ w0, (w.alloc (.cells (cellsI m A n c) 49)).alloc (.cells zeroIc 49) = w0 := ⟨_, rfl⟩
  have hb := Lib.hid (show Below w.heap.size w w0 by rw [← hw0]; exact ((Below.refl _ w).alloc (Nat.le_refl _) _).alloc (by simp) _)
  have kB := Lib.hid (show Blk w0 w.heap.size (cellsI m A n c) 49 by rw [← hw0]; exact (blk_at rfl).alloc _)
  have kZ := Lib.hid (show Blk w0 (w.heap.size + 1) zeroIc 49 by rw [← hw0]; exact blk_at (by simp))
  have e3 := kB.out.cell 3 (.slice A n c) rfl
  replace hw0 := Lib.hid hw0
  have hT := fun W (hW : Below w.heap.size w W) => QuoteTo_any a x A n c m.data W (h.below hW) hn
  have hF := fun W (hW : Below w.heap.size w W) => QuoteFrom_any a x A n c m.data W (h.below hW) hn
  unfold TwoOut at hT hF
  clear h
  by_cases hk : mayQ m.data a x = 0
  rotate_left
  · have hq := Lib.hid (msgQ_no (fr := fr) hk)
    have hkn : (mayQ m.data a x != 0) = true := by simpa using hk
    generalize mayQ m.data a x = k at *
    generalize toQ m.data a x = tq at *
    generalize fromQ m.data a x = fq at *
    replace hT := Lib.hid hT
    replace hF := Lib.hid hF
    clear hk
    rw [hq.out]
    cases fr
    all_goals
      go_enter Try.func22, Try.ntmps22
      go_upto_region 1 with fail
      rw [hw0.out]
      go_wp2_with (first
        | (go_at_call 12; refine (hT.out _ hb.out).mono ?_; rintro e w2 ⟨A1, n1, c1, rfl, ho1, hB1⟩; have hb2 := Lib.hid (hb.out.trans (hB1.mono hb.out.size)); have kZ2 := Lib.hid (kZ.out.to hB1); clear ho1; replace hB1 := 0)
        | (go_at_call 11; refine (hF.out _ hb.out).mono ?_; rintro e w2 ⟨A1, n1, c1, rfl, ho1, hB1⟩; have hb2 := Lib.hid (hb.out.trans (hB1.mono hb.out.size)); have kZ2 := Lib.hid (kZ.out.to hB1); clear ho1; replace hB1 := 0)
        | (refine wpList_store_IC rfl (.tmp 8) (.tmp 25) rfl (w.heap.size + 1) zeroIc rfl rfl _ kZ2.out rfl rfl (one_I zeroI none 0 0) ?_; rw [setRow_self _ _ _ _ _ kZ2.out.at_])
        | fail)
      refine bodyPost_ret (results_ct Try.results22 rfl (run_load_IC kZ2.out rfl)) rfl ?_
      exact ⟨none, 0, 0, rfl, RB.nil _, hb2.out⟩
  have hq := Lib.hid (show msgQ m fr a x = { m with data := if fr = true then fromQ m.data a x else toQ m.data a x } by unfold msgQ; rw [if_pos hk])
  rw [hq.out]
  rw [hk] at hT hF ⊢
  generalize toQ m.data a x = tq at *
  generalize fromQ m.data a x = fq at *
  replace hT := Lib.hid hT
  replace hF := Lib.hid hF
  clear hk hq
  cases fr
  · obtain ⟨q, hq⟩ : ∃ q : IcmpP, ({ m with data := if false = true then fq else tq } : IcmpP) = q := ⟨_, rfl⟩
    rw [hq]
    have hqd := Lib.hid (show q.data = tq by rw [← hq]; rfl)
    have hqc := Lib.hid (show ∀ A n c, cellsI q A n c = cellsI m A n c by rw [← hq]; intros; rfl)
    clear hq
    go_enter Try.func22, Try.ntmps22
    go_upto_region 1 with fail
    rw [hw0.out]
    go_upto_region 7 with (first
      | (go_at_call 12; refine (hT.out _ hb.out).mono ?_; rintro e w2 ⟨A2, n2, c2, rfl, ho2, hB2⟩; have hb2 := Lib.hid (hb.out.trans (hB2.mono hb.out.size)); have kZ2 := Lib.hid (kZ.out.to hB2); have kB2 := Lib.hid (kB.out.to hB2); clear e3; have ro2 := Lib.hid ho2; clear ho2; replace hB2 := 0)
      | fail)
    have x3 := kB2.out.cell 3 (.slice A n c) rfl
    have v3 := kB2.out.frz 3
    have kB3 := Lib.hid (show Blk (w2.setCell ⟨w.heap.size, 3, none⟩ (.slice A2 n2 c2)) w.heap.size (cellsI m A2 n2 c2) 49 by simpa using kB2.out.set 3 (.slice A2 n2 c2))
    have kZ3 := Lib.hid (kZ2.out.far (B' := w.heap.size) (by omega) 3 (.slice A2 n2 c2))
    have ro3 := Lib.hid (ro2.out.farN (nbcI kB2.out) 3 (.slice A2 n2 c2))
    have hb3 := Lib.hid (hb2.out.setCell (p := ⟨w.heap.size, 3, none⟩) (Nat.le_refl _) (.slice A2 n2 c2))
    try simp only [Act.put]
    go_upto_region 8 with fail
    obtain ⟨w3, hw3⟩ : ∃ w3, w2.setCell ⟨w.heap.size, 3, none⟩ (.slice A2 n2 c2) = w3 := ⟨_, rfl⟩
    rw [hw3] at kB3 kZ3 ro3 hb3 ⊢
    replace hw3 := Lib.hid hw3
    clear x3 v3
    try simp only [Act.put]
    go_wp2_with (first
      | (refine wpList_load_IC rfl (.tmp 4) rfl w.heap.size rfl _ kB3.out rfl ?_)
      | (refine wpList_store_IC rfl (.tmp 8) (.tmp 29) rfl (w.heap.size + 1) (cellsI m A2 n2 c2) rfl rfl _ kZ3.out rfl rfl (one_I _ _ _ _) ?_)
      | fail)
    refine bodyPost_ret (results_ct Try.results22 rfl (run_load_IC (Blk.mk (setRow_heap _ _ _ _ _ _ kZ3.out.at_)) rfl)) rfl ?_
    exact ⟨A2, n2, c2, by rw [hqc.out]; rfl, by rw [hqd.out]; exact ro3.out.farRow (nbcI (m := zeroI) kZ3.out) _, below_row hb3.out (Nat.le_succ _) _⟩
  · obtain ⟨q, hq⟩ : ∃ q : IcmpP, ({ m with data := if true = true then fq else tq } : IcmpP) = q := ⟨_, rfl⟩
    rw [hq]
    have hqd := Lib.hid (show q.data = fq by rw [← hq]; rfl)
    have hqc := Lib.hid (show ∀ A n c, cellsI q A n c = cellsI m A n c by rw [← hq]; intros; rfl)
    clear hq
    go_enter Try.func22, Try.ntmps22
    go_upto_region 1 with fail
    rw [hw0.out]
    go_upto_region 7 with (first
      | (go_at_call 11; refine (hF.out _ hb.out).mono ?_; rintro e w2 ⟨A2, n2, c2, rfl, ho2, hB2⟩; have hb2 := Lib.hid (hb.out.trans (hB2.mono hb.out.size)); have kZ2 := Lib.hid (kZ.out.to hB2); have kB2 := Lib.hid (kB.out.to hB2); clear e3; have ro2 := Lib.hid ho2; clear ho2; replace hB2 := 0)
      | fail)
    have x3 := kB2.out.cell 3 (.slice A n c) rfl
    have v3 := kB2.out.frz 3
    have kB3 := Lib.hid (show Blk (w2.setCell ⟨w.heap.size, 3, none⟩ (.slice A2 n2 c2)) w.heap.size (cellsI m A2 n2 c2) 49 by simpa using kB2.out.set 3 (.slice A2 n2 c2))
    have kZ3 := Lib.hid (kZ2.out.far (B' := w.heap.size) (by omega) 3 (.slice A2 n2 c2))
    have ro3 := Lib.hid (ro2.out.farN (nbcI kB2.out) 3 (.slice A2 n2 c2))
    have hb3 := Lib.hid (hb2.out.setCell (p := ⟨w.heap.size, 3, none⟩) (Nat.le_refl _) (.slice A2 n2 c2))
    try simp only [Act.put]
    go_upto_region 8 with fail
    obtain ⟨w3, hw3⟩ : ∃ w3, w2.setCell ⟨w.heap.size, 3, none⟩ (.slice A2 n2 c2) = w3 := ⟨_, rfl⟩
    rw [hw3] at kB3 kZ3 ro3 hb3 ⊢
    replace hw3 := Lib.hid hw3
    clear x3 v3
    try simp only [Act.put]
    go_wp2_with (first
      | (refine wpList_load_IC rfl (.tmp 4) rfl w.heap.size rfl _ kB3.out rfl ?_)
      | (refine wpList_store_IC rfl (.tmp 8) (.tmp 29) rfl (w.heap.size + 1) (cellsI m A2 n2 c2) rfl rfl _ kZ3.out rfl rfl (one_I _ _ _ _) ?_)
      | fail)
    refine bodyPost_ret (results_ct Try.results22 rfl (run_load_IC (Blk.mk (setRow_heap _ _ _ _ _ _ kZ3.out.at_)) rfl)) rfl ?_
    exact ⟨A2, n2, c2, by rw [hqc.out]; rfl, by rw [hqd.out]; exact ro3.out.farRow (nbcI (m := zeroI) kZ3.out) _, below_row hb3.out (Nat.le_succ _) _⟩
end Go.Proofs.Ytehecefapiblpaa
namespace Go.Proofs.Ytehecefapiblpaa
open Go Go.RowKit
attribute [local go_sem] Oper.semAt_some

set_option maxRecDepth 100000 in
set_option maxHeartbeats 4000000 in
theorem QuoteMessages_walk (m : IcmpP) (A : Option Addr) (n c : Nat) (fr : Bool) (addr port : Int) (w : World) (h : RB w A n c m.data) (hx0 : -9223372036854775808 ≤ addr) (hx1 : addr ≤ 9223372036854775807) (hy0 : -9223372036854775808 ≤ port) (hy1 : port ≤ 9223372036854775807) :
    Calls Try.prog 6 #[.agg (cellsI m A n c), .bool fr, .int .i64 addr, .int .i64 port] w fun e w' => e = .returned (.bool true) ∧ Below w.heap.size w w' := by
  clear hx0 hx1 hy0 hy1
  obtain ⟨w0, hw0⟩ : ∃ w0, w.alloc (.cells (cellsI m A n c) 49) = w0 := ⟨_, rfl⟩
  have hb0 := Lib.hid (show Below w.heap.size w w0 by rw [← hw0]; exact (Below.refl _ w).alloc (Nat.le_refl _) _)
  have kB0 := Lib.hid (show Blk w0 w.heap.size (cellsI m A n c) 49 by rw [← hw0]; exact blk_at rfl)
  have e3 := kB0.out.cell 3 (.slice A n c) rfl
  replace hw0 := Lib.hid hw0
  by_cases c1 : 2000 < n
  · have c1i : (2000 : Int) < n := by omega
    clear h
    go_enter Try.func6, Try.ntmps6
    go_upto_region 1 with fail
    rw [hw0.out]
    go_wp2_with (first
      | (go_at_call 9; refine (awake26 _).mono ?_; rintro e W1 ⟨rfl, hB⟩; have hbE := Lib.hid (hb0.out.trans (hB.mono hb0.out.size)); replace hB := 0)
      | fail)
    go_ret
    exact ⟨by first | rfl | simp, hbE.out⟩
  have c1i : ¬ (2000 : Int) < n := by omega
  have hM := fun W (hW : Below w.heap.size w W) => QuoteMessage_any m fr addr port A n c W (h.below hW) (by omega)
  have hR := fun W (hW : Below w.heap.size w W) => RefMessage_any m fr addr port A n c W (h.below hW) (by omega)
  unfold IcmpTwo at hM hR
  generalize msgQ m fr addr port = q at *
  generalize mayQ m.data addr port = k at *
  have hsm := Lib.hid (show sameI q q = true by simp [sameI])
  replace hM := Lib.hid hM
  replace hR := Lib.hid hR
  clear h c1
  go_enter Try.func6, Try.ntmps6
  go_upto_region 1 with fail
  rw [hw0.out]
  go_wp2_with (first
    | (refine wpList_load_IC rfl (.tmp 4) rfl w.heap.size rfl _ kB0.out rfl ?_)
    | (refine wpList_load_IC rfl (.tmp 4) rfl w.heap.size rfl _ kB1.out rfl ?_)
    | (go_at_call 22; refine (hM.out _ hb0.out).mono ?_; rintro e w1 ⟨A1, n1, c1, rfl, ho, hB⟩; have hy := hB.alloc hB.size (.cells (cellsI q A1 n1 c1) 49); have hb1 := Lib.hid (hb0.out.trans (hy.mono hb0.out.size)); have kB1 := Lib.hid (kB0.out.to hy); have r1 := Lib.hid (ho.alloc (.cells (cellsI q A1 n1 c1) 49)); have k1 := Lib.hid (Blk.new w1 (cellsI q A1 n1 c1) 49); clear ho hB e3; replace hy := 0)
    | (refine wpList_store_IC rfl (.tmp 9) (.tmp 24) rfl w1.heap.size (cellsI q A1 n1 c1) rfl rfl _ (Blk.new w1 zeroIc 49) rfl rfl (one_I _ _ _ _) ?_; rw [World.setRow_alloc_new])
    | (go_at_call 23; refine (hR.out _ hb1.out).mono ?_; rintro e w2 ⟨A2, n2, c2, rfl, ho, hB⟩; have hy := hB.alloc hB.size (.cells (cellsI q A2 n2 c2) 49); have hb2 := Lib.hid (hb1.out.trans (hy.mono hb1.out.size)); have r2 := Lib.hid (r1.out.below hy); have k2 := Lib.hid (k1.out.to hy); have s2 := Lib.hid (ho.alloc (.cells (cellsI q A2 n2 c2) 49)); have j2 := Lib.hid (Blk.new w2 (cellsI q A2 n2 c2) 49); clear ho hB; replace hy := 0)
    | (refine wpList_store_IC rfl (.tmp 11) (.tmp 32) rfl w2.heap.size (cellsI q A2 n2 c2) rfl rfl _ (Blk.new w2 zeroIc 49) rfl rfl (one_I _ _ _ _) ?_; rw [World.setRow_alloc_new])
    | (refine wpList_load_IC rfl (.tmp 9) rfl w1.heap.size rfl _ k2.out rfl ?_)
    | (refine wpList_load_IC rfl (.tmp 11) rfl w2.heap.size rfl _ j2.out rfl ?_)
    | (go_at_call 24; refine (RefIcmpSame_any q q A1 A2 n1 c1 n2 c2 _ r2.out s2.out).mono ?_; rintro e w3 ⟨rfl, hB3⟩; rw [hsm.out]; have hbT := Lib.hid (hb2.out.trans (hB3.mono hb2.out.size)); replace hB3 := 0)
    | (go_at_call 9; refine (awake26 _).mono ?_; rintro e W1 ⟨rfl, hB⟩; have hbE := Lib.hid (hbT.out.trans (hB.mono hbT.out.size)); replace hB := 0)
    | fail)
  go_ret
  exact ⟨by first | rfl | simp, hbE.out⟩
end Go.Proofs.Ytehecefapiblpaa
set_option linter.unusedVariables false
namespace Go.Proofs.Ytehecefapiblpaa
open Go.ChangeShapes Go.WideShapes Go.ChangeAt Go.RowKit Go.Deep

set_option maxRecDepth 100000 in
set_option maxHeartbeats 2000000 in
theorem QuoteMessages_lifted (os : Os) (started : os.Started) (H : Type) (enc : TypeId × Value → H) :
    ReturnsInHanded {} Try.checked os 6 .any (Rows.quoteMessagesSpec.pre6 enc Try.prog Try.f6 Rows.quoteMessagesRow.domain false) (Rows.quoteMessagesSpec.post enc Try.prog Try.f6 false true false false) := by
  refine returnsInHanded_of_change (C := Try.checked) own_knob started (by kernel_rfl) Try.func6
    (ChangeSpec.witness6 (enc := enc) (C := Try.checked) false ⟨#[], #[.agg #[.int .i64 0, .int .i64 0, .int .i64 0, .slice none 0 0], .bool false, .int .i64 0, .int .i64 0], []⟩ 8 (by kernel_rfl) (by kernel_rfl) (by kernel_rfl) (by kernel_rfl)) ?_
  intro W base args ds gs before hval0 hW hcnd _
  have hval : ∀ (j : Nat) t v, Try.f6.params[j]? = some t → args[j]? = some v → Value.okWide Try.prog W .any base t v := hval0
  have hW' := hW
  obtain ⟨p, q, hA0, hV, rfl, hfz, hnd⟩ := hW
  have hA : DataW.TrodAll enc Try.prog W 0 (fun _ => true) true Try.f6.params.toList args.toList ds p := hA0
  rw [Try.params6] at hA hval
  obtain ⟨v0, vs0, d0, ds0, p0, q0, hargs, rfl, rfl, h0, r0⟩ := trodAll_cons hA
  obtain ⟨v1, vs1, d1, ds1, p1, q1, rfl, rfl, rfl, h1, r1⟩ := trodAll_cons r0
  obtain ⟨v2, vs2, d2, ds2, p2, q2, rfl, rfl, rfl, h2, r2⟩ := trodAll_cons r1
  obtain ⟨v3, vs3, d3, ds3, p3, q3, rfl, rfl, rfl, h3, r3⟩ := trodAll_cons r2
  obtain ⟨rfl, rfl, rfl⟩ := trodAll_nil r3
  obtain rfl : args = #[v0, v1, v2, v3] := by cases args; simp_all
  obtain ⟨rfl, rfl⟩ := trodVars_none hV
  clear hA0 hval0
  have hlt0 : ∀ x ∈ p0, x.block < W.heap.size := fun x hx => hW'.lt x (by simp [hx])
  have h0k := h0
  have hlt1 : ∀ x ∈ p1, x.block < W.heap.size := fun x hx => hW'.lt x (by simp [hx])
  have h1k := h1
  have hlt2 : ∀ x ∈ p2, x.block < W.heap.size := fun x hx => hW'.lt x (by simp [hx])
  have h2k := h2
  have hlt3 : ∀ x ∈ p3, x.block < W.heap.size := fun x hx => hW'.lt x (by simp [hx])
  have h3k := h3
  obtain ⟨mv0, Av0, nv0, cv0, rfl, hr0⟩ := icmp_of (hval 0 49 v0 rfl rfl) h0
  obtain ⟨a1, rfl, rfl, rfl⟩ := open_bool Try.underlying4 (hval 1 4 v1 rfl rfl) h1
  obtain ⟨a2, rfl, rfl, rfl, w2⟩ := open_int Try.underlying3 (hval 2 3 v2 rfl rfl) h2
  have b2 := bounds_i64 w2
  obtain ⟨a3, rfl, rfl, rfl, w3⟩ := open_int Try.underlying3 (hval 3 3 v3 rfl rfl) h3
  have b3 := bounds_i64 w3
  refine (QuoteMessages_walk mv0 Av0 nv0 cv0 a1 a2 a3 W hr0 b2.1 b2.2 b3.1 b3.2).mono fun e W' ⟨he, hb⟩ => ?_
  subst he
  refine ⟨_, rfl, _, _, _, [], _, [], hW', trodAll_mk1 (shut_bool Try.underlying4 true), (trodAll_cons_mk (Below.trod laid_out (by kernel_rfl) (of_decide_eq_true (by kernel_rfl)) h0k hb hlt0) (trodAll_cons_mk (Below.trod laid_out (by kernel_rfl) (of_decide_eq_true (by kernel_rfl)) h1k hb hlt1) (trodAll_cons_mk (Below.trod laid_out (by kernel_rfl) (of_decide_eq_true (by kernel_rfl)) h2k hb hlt2) (trodAll_cons_mk (Below.trod laid_out (by kernel_rfl) (of_decide_eq_true (by kernel_rfl)) h3k hb hlt3) trodAll_mk0)))), rfl, hb.frame _, fun h => by cases h⟩

/-- The statement. -/
theorem QuoteMessages_holds : Rows.QuoteMessagesSaid :=
  OpenClaim.holds_of_wide 6 Try.f6 rfl rfl rfl rfl rfl rfl rfl ⟨rfl, rfl, rfl, rfl, rfl⟩ rfl rfl rfl rfl rfl (by kernel_rfl) Try.func6 (by kernel_rfl)
    (of_decide_eq_true (by kernel_rfl)) (by unfold Func.isWrapper; rw [if_neg (of_decide_eq_false (by kernel_rfl))]; exact ⟨rfl, rfl⟩)
    (fun os started H enc _ => QuoteMessages_lifted os started H enc)
#print axioms QuoteMessages_holds
end Go.Proofs.Ytehecefapiblpaa
