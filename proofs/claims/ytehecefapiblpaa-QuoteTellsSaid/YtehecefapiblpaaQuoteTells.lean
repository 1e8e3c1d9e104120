/- The statement QuoteTellsSaid: for every input the law QuoteTells returns true, and each argument reads behind the call as it read before. No condition. -/
import Derived.Test.YtehecefapiblpaaQuoE
import Derived.Test.YtehecefapiblpaaReadV4
set_option linter.unusedVariables false
namespace Go.Proofs.Ytehecefapiblpaa
open Go Go.RowKit
attribute [local go_sem] Oper.semAt_some

/-- A packet in a slot, of which bytes are known. -/
def V4Inn (q : V4P) : Value → World → Prop := fun u W => ∃ Ao no co A n c, u = .agg (cells4 q Ao no co A n c) ∧ RB W Ao no co q.opts ∧ RB W A n c q.data
theorem Same4_inn {q : V4P} {vx vy : Value} {w : World} (hx : V4Inn q vx w) (hy : V4Inn q vy w) : Calls Try.prog 21 #[vx, vy] w fun e w' => e = .returned (.bool true) ∧ Below w.heap.size w w' := by
  obtain ⟨Ao, no, co, A, n, c, rfl, h1, h2⟩ := hx
  obtain ⟨Ao', no', co', A', n', c', rfl, h3, h4⟩ := hy
  obtain rfl : no = no' := h1.len.symm.trans h3.len
  obtain rfl : n = n' := h2.len.symm.trans h4.len
  exact RefSame4_same q Ao no co A n c Ao' co' A' c' w h1 h2 h3 h4
theorem portsIn (w2 : World) (C X : Array Value) : Below w2.heap.size w2 ((((w2.alloc (.cells zero4c 32)).alloc (.cells (cellsPo (0, 0, 0)) 41)).setRow w2.heap.size C).setRow (w2.heap.size + 1) X) ∧
    Blk ((((w2.alloc (.cells zero4c 32)).alloc (.cells (cellsPo (0, 0, 0)) 41)).setRow w2.heap.size C).setRow (w2.heap.size + 1) X) w2.heap.size C 32 ∧
    Blk ((((w2.alloc (.cells zero4c 32)).alloc (.cells (cellsPo (0, 0, 0)) 41)).setRow w2.heap.size C).setRow (w2.heap.size + 1) X) (w2.heap.size + 1) X 41 := by
  have h1 := (Below.refl w2.heap.size w2).alloc (Nat.le_refl _) (.cells zero4c 32)
  have hz := h1.alloc h1.size (.cells (cellsPo (0, 0, 0)) 41)
  have kz := (Blk.new w2 zero4c 32).alloc (.cells (cellsPo (0, 0, 0)) 41)
  have kx := (blk_at (show (w2.alloc (.cells zero4c 32)).heap.size = w2.heap.size + 1 by simp) : Blk _ _ (cellsPo (0, 0, 0)) 41).farRow (show w2.heap.size + 1 ≠ w2.heap.size by omega) C
  exact ⟨below_row (below_row hz (Nat.le_refl _) C) (Nat.le_succ _) X, (Blk.mk (setRow_heap _ _ _ C _ _ kz.at_)).farRow (show w2.heap.size ≠ w2.heap.size + 1 by omega) X, Blk.mk (setRow_heap _ _ _ X _ _ kx.at_)⟩
set_option maxRecDepth 100000 in
set_option maxHeartbeats 4000000 in
theorem QuoteTells_walk (A : Option Addr) (n c : Nat) (bs : List Int) (addr port : Int) (w : World) (h : RB w A n c bs) (hx0 : -9223372036854775808 ≤ addr) (hx1 : addr ≤ 9223372036854775807) (hy0 : -9223372036854775808 ≤ port) (hy1 : port ≤ 9223372036854775807) :
    Calls Try.prog 5 #[.slice A n c, .int .i64 addr, .int .i64 port] w fun e w' => e = .returned (.bool true) ∧ Below w.heap.size w w' := by
  clear hx0 hx1 hy0 hy1
  have hb := Lib.hid (Below.refl w.heap.size w)
  by_cases c1 : 2000 < n
  · have c1i : (2000 : Int) < n := by omega
    clear h
    go_enter Try.func5, Try.ntmps5
    go_wp2_with (first
      | (go_at_call 9; refine (awake26 _).mono ?_; rintro e W1 ⟨rfl, hB⟩; have hbE := Lib.hid hB; replace hB := 0)
      | fail)
    go_ret
    exact ⟨by first | rfl | simp, hbE.out⟩
  have c1i : ¬ (2000 : Int) < n := by omega
  have hC := Lib.hid (BClone_any A n c bs w h (by omega))
  have hO := fun W (hW : Below w.heap.size w W) => QuotePorts_any A n c bs W (h.below hW) (by omega)
  have hRO := fun W (hW : Below w.heap.size w W) => RefQPorts_any A n c bs W (h.below hW) (by omega)
  have hF := fun W (hW : Below w.heap.size w W) => QuoteFrom_any addr port A n c bs W (h.below hW) (by omega)
  have hRF := fun W (hW : Below w.heap.size w W) => RefQFrom_any addr port A n c bs W (h.below hW) (by omega)
  have hT := fun W (hW : Below w.heap.size w W) => QuoteTo_any addr port A n c bs W (h.below hW) (by omega)
  have hRT := fun W (hW : Below w.heap.size w W) => RefQTo_any addr port A n c bs W (h.below hW) (by omega)
  unfold QpOut at hO hRO
  unfold TwoOut at hF hRF hT hRT
  generalize packQ bs = p at *
  generalize portQ bs = xx at *
  generalize codeQ bs = kk at *
  generalize fromQ bs addr port = q at *
  generalize toQ bs addr port = r at *
  generalize mayQ bs addr port = km at *
  have hR := Lib.hid (fun W (hW : Below w.heap.size w W) => h.below hW)
  replace hO := Lib.hid hO
  replace hRO := Lib.hid hRO
  replace hF := Lib.hid hF
  replace hRF := Lib.hid hRF
  replace hT := Lib.hid hT
  replace hRT := Lib.hid hRT
  clear h c1
  go_enter Try.func5, Try.ntmps5
  go_upto_region 5 with (first
    | (go_at_call 17; refine hC.out.mono ?_; rintro e w1 ⟨A0, c0, rfl, ho0, hB⟩; have hb1 := Lib.hid hB; have cl1 := Lib.hid ho0.rb; clear ho0; replace hB := 0)
    | (go_at_call 15; refine (hO.out _ hb1.out).mono ?_; rintro e w2 ⟨Ao, no, co, A1, n1, c1, rfl, ho, hd, hB⟩; have hb2 := Lib.hid (hb1.out.trans (hB.mono hb1.out.size)); have cl2 := Lib.hid (cl1.out.below hB); have po2 := Lib.hid ho; have pd2 := Lib.hid hd; clear ho hd; replace hB := 0; have kzw2 := Lib.hid ((Blk.new w2 zero4c 32).alloc (.cells (cellsPo (0, 0, 0)) 41)); have kxw2 := Lib.hid ((blk_at (show (w2.alloc (.cells zero4c 32)).heap.size = w2.heap.size + 1 by simp) : Blk _ _ (cellsPo (0, 0, 0)) 41).farRow (show w2.heap.size + 1 ≠ w2.heap.size by omega) (cells4 p Ao no co A1 n1 c1)))
    | (refine wpList_store_4 rfl (.tmp 8) (.tmp 31) rfl w2.heap.size (cells4 p Ao no co A1 n1 c1) rfl rfl _ kzw2.out rfl rfl (one4 _ _ _ _ _ _ _) ?_)
    | (refine wpList_store_PO rfl (.tmp 9) (.tmp 32) rfl (w2.heap.size + 1) (cellsPo xx) rfl rfl _ kxw2.out rfl rfl (one_po _) ?_)
    | fail)
  obtain ⟨hy, kp, kx⟩ := portsIn w2 (cells4 p Ao no co A1 n1 c1) (cellsPo xx)
  obtain ⟨w3, hw3⟩ : ∃ w3, ((((w2.alloc (.cells zero4c 32)).alloc (.cells (cellsPo (0, 0, 0)) 41)).setRow w2.heap.size (cells4 p Ao no co A1 n1 c1)).setRow (w2.heap.size + 1) (cellsPo xx)) = w3 := ⟨_, rfl⟩
  rw [hw3] at hy kp kx ⊢
  replace hw3 := 0
  have hb3 := Lib.hid (hb2.out.trans (hy.mono hb2.out.size))
  have cl3 := Lib.hid (cl2.out.below hy)
  have po3 := Lib.hid (po2.out.below hy)
  have pd3 := Lib.hid (pd2.out.below hy)
  have kp3 := Lib.hid kp
  have kx3 := Lib.hid kx
  clear hy kp kx
  try simp only [Act.put]
  go_upto_region 6 with (first
    | (go_at_call 18; refine (hRO.out _ hb3.out).mono ?_; rintro e w4 ⟨Bo, mo, do_, B1, m1, d1, rfl, ho, hd, hB⟩; have hb4 := Lib.hid (hb3.out.trans (hB.mono hb3.out.size)); have cl4 := Lib.hid (cl3.out.below hB); have po4 := Lib.hid (po3.out.below hB); have pd4 := Lib.hid (pd3.out.below hB); have kp4 := Lib.hid (kp3.out.to hB); have kx4 := Lib.hid (kx3.out.to hB); have qo4 := Lib.hid ho; have qd4 := Lib.hid hd; clear ho hd; replace hB := 0; have kzw4 := Lib.hid ((Blk.new w4 zero4c 32).alloc (.cells (cellsPo (0, 0, 0)) 41)); have kxw4 := Lib.hid ((blk_at (show (w4.alloc (.cells zero4c 32)).heap.size = w4.heap.size + 1 by simp) : Blk _ _ (cellsPo (0, 0, 0)) 41).farRow (show w4.heap.size + 1 ≠ w4.heap.size by omega) (cells4 p Bo mo do_ B1 m1 d1)))
    | (refine wpList_store_4 rfl (.tmp 11) (.tmp 37) rfl w4.heap.size (cells4 p Bo mo do_ B1 m1 d1) rfl rfl _ kzw4.out rfl rfl (one4 _ _ _ _ _ _ _) ?_)
    | (refine wpList_store_PO rfl (.tmp 12) (.tmp 38) rfl (w4.heap.size + 1) (cellsPo xx) rfl rfl _ kxw4.out rfl rfl (one_po _) ?_)
    | fail)
  obtain ⟨hy, kp, kx⟩ := portsIn w4 (cells4 p Bo mo do_ B1 m1 d1) (cellsPo xx)
  obtain ⟨w5, hw5⟩ : ∃ w5, ((((w4.alloc (.cells zero4c 32)).alloc (.cells (cellsPo (0, 0, 0)) 41)).setRow w4.heap.size (cells4 p Bo mo do_ B1 m1 d1)).setRow (w4.heap.size + 1) (cellsPo xx)) = w5 := ⟨_, rfl⟩
  rw [hw5] at hy kp kx ⊢
  replace hw5 := 0
  have hb5 := Lib.hid (hb4.out.trans (hy.mono hb4.out.size))
  have hbw := Lib.hid (fun W (hW : Below w5.heap.size w5 W) => hb5.out.trans (hW.mono hb5.out.size))
  have clw := Lib.hid (fun W (hW : Below w5.heap.size w5 W) => (cl4.out.below hy).below hW)
  have pow := Lib.hid (fun W (hW : Below w5.heap.size w5 W) => (po4.out.below hy).below hW)
  have pdw := Lib.hid (fun W (hW : Below w5.heap.size w5 W) => (pd4.out.below hy).below hW)
  have qow := Lib.hid (fun W (hW : Below w5.heap.size w5 W) => (qo4.out.below hy).below hW)
  have qdw := Lib.hid (fun W (hW : Below w5.heap.size w5 W) => (qd4.out.below hy).below hW)
  have kpw := Lib.hid (fun W (hW : Below w5.heap.size w5 W) => (kp4.out.to hy).to hW)
  have kxw := Lib.hid (fun W (hW : Below w5.heap.size w5 W) => (kx4.out.to hy).to hW)
  have krw := Lib.hid (fun W (hW : Below w5.heap.size w5 W) => kp.to hW)
  have kyw := Lib.hid (fun W (hW : Below w5.heap.size w5 W) => kx.to hW)
  have hz5 := Lib.hid (Below.refl w5.heap.size w5)
  clear hy kp kx
  try simp only [Act.put]
  go_wp2_with (first
    | (go_at_call 11; refine (hF.out _ (hbw.out _ hz5.out)).mono ?_; rintro e w6 ⟨C1, e1, f1, rfl, hr, hB⟩; have hz6 := Lib.hid (hz5.out.trans hB); have cq6 := Lib.hid hr; clear hr; replace hB := 0)
    | (go_at_call 19; refine (hRF.out _ (hbw.out _ hz6.out)).mono ?_; rintro e w7 ⟨C2, e2, f2, rfl, hr, hB⟩; have hz7 := Lib.hid (hz6.out.trans (hB.mono hz6.out.size)); have cq7 := Lib.hid (cq6.out.below hB); have cr7 := Lib.hid hr; clear hr; replace hB := 0)
    | (go_at_call 12; refine (hT.out _ (hbw.out _ hz7.out)).mono ?_; rintro e w8 ⟨C3, e3, f3, rfl, hr, hB⟩; have hz8 := Lib.hid (hz7.out.trans (hB.mono hz7.out.size)); have cq8 := Lib.hid (cq7.out.below hB); have cr8 := Lib.hid (cr7.out.below hB); have cs8 := Lib.hid hr; clear hr; replace hB := 0)
    | (go_at_call 20; refine (hRT.out _ (hbw.out _ hz8.out)).mono ?_; rintro e w9 ⟨C4, e4, f4, rfl, hr, hB⟩; have hz9 := Lib.hid (hz8.out.trans (hB.mono hz8.out.size)); have cq9 := Lib.hid (cq8.out.below hB); have cr9 := Lib.hid (cr8.out.below hB); have cs9 := Lib.hid (cs8.out.below hB); have ct9 := Lib.hid hr; clear hr; replace hB := 0)
    | (refine wpList_load_PO rfl (.tmp 9) rfl (w2.heap.size + 1) rfl _ (kxw.out _ hz9.out) rfl ?_)
    | (refine wpList_load_PO rfl (.tmp 12) rfl (w4.heap.size + 1) rfl _ (kyw.out _ hz9.out) rfl ?_)
    | (refine wpList_load_4 rfl (.tmp 8) rfl w2.heap.size rfl _ (kpw.out _ hz9.out) rfl ?_)
    | (refine wpList_load_4 rfl (.tmp 11) rfl w4.heap.size rfl _ (krw.out _ hz9.out) rfl ?_)
    | (go_at_call 21; refine (Same4_inn (q := p) ⟨Ao, no, co, A1, n1, c1, rfl, pow.out _ hz9.out, pdw.out _ hz9.out⟩ ⟨Bo, mo, do_, B1, m1, d1, rfl, qow.out _ hz9.out, qdw.out _ hz9.out⟩).mono ?_; rintro e w10 ⟨rfl, hB⟩; have hzA := Lib.hid (hz9.out.trans (hB.mono hz9.out.size)); have cqA := Lib.hid (cq9.out.below hB); have crA := Lib.hid (cr9.out.below hB); have csA := Lib.hid (cs9.out.below hB); have ctA := Lib.hid (ct9.out.below hB); replace hB := 0)
    | (go_at_call_of 16 (Value.slice C1 e1 f1); refine (Equal_same _ _ _ _ _ _ _ _ cqA.out crA.out).mono ?_; rintro e w' ⟨rfl, rfl⟩)
    | (go_at_call_of 16 (Value.slice C3 e3 f3); refine (Equal_same _ _ _ _ _ _ _ _ csA.out ctA.out).mono ?_; rintro e w' ⟨rfl, rfl⟩)
    | (go_at_call_of 16 (Value.slice A0 n c0); refine (Equal_same _ _ _ _ _ _ _ _ (hR.out _ (hbw.out _ hzA.out)) (clw.out _ hzA.out)).mono ?_; rintro e w' ⟨rfl, rfl⟩)
    | (go_at_call 9; refine (awake26 _).mono ?_; rintro e W1 ⟨rfl, hB⟩; have hbE := Lib.hid ((hbw.out _ hzA.out).trans (hB.mono (hbw.out _ hzA.out).size)); replace hB := 0)
    | fail)
  go_ret
  exact ⟨by first | rfl | simp, hbE.out⟩
end Go.Proofs.Ytehecefapiblpaa
set_option linter.unusedVariables false
namespace Go.Proofs.Ytehecefapiblpaa
open Go.ChangeShapes Go.WideShapes Go.ChangeAt Go.RowKit Go.Deep

set_option maxRecDepth 100000 in
set_option maxHeartbeats 2000000 in
theorem QuoteTells_lifted (os : Os) (started : os.Started) (H : Type) (enc : TypeId × Value → H) :
    ReturnsInHanded {} Try.checked os 5 .any (Rows.quoteTellsSpec.pre6 enc Try.prog Try.f5 Rows.quoteTellsRow.domain false) (Rows.quoteTellsSpec.post enc Try.prog Try.f5 false true false false) := by
  refine returnsInHanded_of_change (C := Try.checked) own_knob started (by kernel_rfl) Try.func5
    (ChangeSpec.witness6 (enc := enc) (C := Try.checked) false ⟨#[], #[.slice none 0 0, .int .i64 0, .int .i64 0], []⟩ 8 (by kernel_rfl) (by kernel_rfl) (by kernel_rfl) (by kernel_rfl)) ?_
  intro W base args ds gs before hval0 hW hcnd _
  have hval : ∀ (j : Nat) t v, Try.f5.params[j]? = some t → args[j]? = some v → Value.okWide Try.prog W .any base t v := hval0
  have hW' := hW
  obtain ⟨p, q, hA0, hV, rfl, hfz, hnd⟩ := hW
  have hA : DataW.TrodAll enc Try.prog W 0 (fun _ => true) true Try.f5.params.toList args.toList ds p := hA0
  rw [Try.params5] at hA hval
  obtain ⟨v0, vs0, d0, ds0, p0, q0, hargs, rfl, rfl, h0, r0⟩ := trodAll_cons hA
  obtain ⟨v1, vs1, d1, ds1, p1, q1, rfl, rfl, rfl, h1, r1⟩ := trodAll_cons r0
  obtain ⟨v2, vs2, d2, ds2, p2, q2, rfl, rfl, rfl, h2, r2⟩ := trodAll_cons r1
  obtain ⟨rfl, rfl, rfl⟩ := trodAll_nil r2
  obtain rfl : args = #[v0, v1, v2] := by cases args; simp_all
  obtain ⟨rfl, rfl⟩ := trodVars_none hV
  clear hA0 hval0
  have hlt0 : ∀ x ∈ p0, x.block < W.heap.size := fun x hx => hW'.lt x (by simp [hx])
  have h0k := h0
  have hlt1 : ∀ x ∈ p1, x.block < W.heap.size := fun x hx => hW'.lt x (by simp [hx])
  have h1k := h1
  have hlt2 : ∀ x ∈ p2, x.block < W.heap.size := fun x hx => hW'.lt x (by simp [hx])
  have h2k := h2
  obtain ⟨A0, n0, c0, bs0, rfl, hr0⟩ := rb_of (hval 0 24 v0 rfl rfl) h0
  obtain ⟨a1, rfl, rfl, rfl, w1⟩ := open_int Try.underlying3 (hval 1 3 v1 rfl rfl) h1
  have b1 := bounds_i64 w1
  obtain ⟨a2, rfl, rfl, rfl, w2⟩ := open_int Try.underlying3 (hval 2 3 v2 rfl rfl) h2
  have b2 := bounds_i64 w2
  refine (QuoteTells_walk A0 n0 c0 bs0 a1 a2 W hr0 b1.1 b1.2 b2.1 b2.2).mono fun e W' ⟨he, hb⟩ => ?_
  subst he
  refine ⟨_, rfl, _, _, _, [], _, [], hW', trodAll_mk1 (shut_bool Try.underlying4 true), (trodAll_cons_mk (Below.trod laid_out (by kernel_rfl) (of_decide_eq_true (by kernel_rfl)) h0k hb hlt0) (trodAll_cons_mk (Below.trod laid_out (by kernel_rfl) (of_decide_eq_true (by kernel_rfl)) h1k hb hlt1) (trodAll_cons_mk (Below.trod laid_out (by kernel_rfl) (of_decide_eq_true (by kernel_rfl)) h2k hb hlt2) trodAll_mk0))), rfl, hb.frame _, fun h => by cases h⟩

/-- The statement. -/
theorem QuoteTells_holds : Rows.QuoteTellsSaid :=
  OpenClaim.holds_of_wide 5 Try.f5 rfl rfl rfl rfl rfl rfl rfl ⟨rfl, rfl, rfl, rfl, rfl⟩ rfl rfl rfl rfl rfl (by kernel_rfl) Try.func5 (by kernel_rfl)
    (of_decide_eq_true (by kernel_rfl)) (by unfold Func.isWrapper; rw [if_neg (of_decide_eq_false (by kernel_rfl))]; exact ⟨rfl, rfl⟩)
    (fun os started H enc _ => QuoteTells_lifted os started H enc)
#print axioms QuoteTells_holds
end Go.Proofs.Ytehecefapiblpaa
