/- Segments (the reference): walks of bytes, Build. -/
import Derived.Test.YtehecefapiblpaaGreatConcat
import Derived.Test.YtehecefapiblpaaGreatSeq
set_option linter.unusedVariables false
namespace Go.Proofs.YtehecefapiblpaaGreat
open Go.RowKit

section
variable {P : Program} {ops : Array Oper} {Q : Exit → Act → World → Prop} {S : World → Prop} {N : Nat} {ds : List Deferred} {o : Oper} {rest : List Oper} {V : Array Value} {E : Env}
/-- Any operation whose slot is known by a relation. -/
theorem looseL_op8 {d : Tmp} (p : Rl) (hg : (gslots ops o).all (fun t => (look E t).isNone) = true) (hw : Region.wanted o (yielded ops V) = true) (hd : o.dst = some d) (hst : StableR p)
    (hx : ∀ (a : Act) w, S w → (∀ t ∈ o.looksAt ops, Rt V E t (a.tmps.getD t undef) w) → YldR P S p w ((execOp a.eval o).run P w)) (h : looseL P ops Q S N ds rest V ((d, p) :: E)) : looseL P ops Q S N ds (o :: rest) V E :=
  .inr ⟨d, p, hd, hst, fun a w hS hk => .inl ⟨(wanted_agree hg hk).trans hw, hx a w hS hk⟩, h⟩
end
/-- Bytes in a slot. -/
def Byt8 (bs : List Int) : Rl := fun u W => ∃ A n c, u = .slice A n c ∧ RB W A n c bs
theorem Byt8.stable (bs : List Int) : StableR (Byt8 bs) := fun u w w' ⟨A, n, c, h1, h2⟩ hb => ⟨A, n, c, h1, h2.below hb⟩
/-- Bytes twice, in a slot. -/
def Two8 (bs cs : List Int) : Rl := fun u W => ∃ A n c, u = .slice A n c ∧ RBB W A n c [bs, cs]
theorem Two8.stable (bs cs : List Int) : StableR (Two8 bs cs) := fun u w w' ⟨A, n, c, h1, h2⟩ hb => ⟨A, n, c, h1, h2.below hb⟩

theorem lit2t (w : World) (x y : Int) (hx : 0 ≤ x ∧ x < 256) (hy : 0 ≤ y ∧ y < 256) : RB (w.alloc (.cells #[.int .u8 x, .int .u8 y] 5)) (some ⟨w.heap.size, 0, none⟩) 2 2 [x, y] := by
  have := RB.lit w 5 [x, y] (Byts.two hx.1 hx.2 hy.1 hy.2) (by simp)
  simpa [u8s] using this
theorem digL_one (x : Int) (h0 : 0 ≤ x) (h1 : x < 256) : digL x 1 = [x] := by simp [digL, List.range_succ]; omega
theorem fitsP_1 {x : Int} (h : fitsP x ((1 : Nat) : Int)) : 0 ≤ x ∧ x < 256 := ⟨h.2.1, by have := h.2.2; simpa using this⟩

set_option maxRecDepth 100000 in
set_option maxHeartbeats 4000000 in
theorem RefTcpBytes_any (m : TcpP) (s : Int) (Ao : Option Addr) (no co : Nat) (A : Option Addr) (n c : Nat) (w : World) (hro : RB w Ao no co m.opts) (hrd : RB w A n c m.data) (hok : checkT m no n = 0) (hs0 : 0 ≤ s) (hs1 : s ≤ 65535) :
    Calls Tryz.prog 79 #[.agg (cellsT m Ao no co A n c), .int .i64 s] w (Fresh w (20 + no + n) (bytesT m s)) := by
  obtain ⟨⟨hn1, hn2, hr0, hr1⟩, hfit, htot⟩ := checkT_ok hok
  have hq : (20 + (no : Int)).tdiv 4 = (20 + (no : Int)) / 4 := Int.tdiv_eq_ediv_of_nonneg (by omega)
  unfold fitT zsT at hfit
  simp only [List.mem_cons, List.not_mem_nil, or_false, forall_eq_or_imp, forall_eq] at hfit
  obtain ⟨f0, f1, f2, f3, f4, f5, f6, f7, f8⟩ := hfit
  have b4 := fitsP_1 f4
  have b5 := fitsP_1 f5
  have hw4 : IntKind.u8.wrap ((20 + (no : Int)) / 4 * 16 + m.r) = (20 + (no : Int)) / 4 * 16 + m.r := by rw [IntKind.wrap_u8]; omega
  have hw5 : IntKind.u8.wrap m.f = m.f := by rw [IntKind.wrap_u8]; omega
  have hw40 : IntKind.i64.wrap ((20 + (no : Int)) / 4 * 16 + m.r) = (20 + (no : Int)) / 4 * 16 + m.r := by rw [IntKind.wrap_i64]; omega
  have hby := show bytesT m s = digL m.s 2 ++ digL m.d 2 ++ digL m.q 4 ++ digL m.a 4 ++ digL ((20 + (no : Int)) / 4 * 16 + m.r) 1 ++ digL m.f 1 ++ digL m.w 2 ++ digL s 2 ++ digL m.u 2 ++ m.opts ++ m.data by unfold bytesT; rw [hro.len]
  rw [digL_one _ b4.1 b4.2, digL_one _ b5.1 b5.2] at hby
  replace hby := Lib.hid hby
  generalize hx4 : (20 + (no : Int)) / 4 * 16 + m.r = x4 at *
  replace hx4 := Lib.hid hx4
  replace f0 := Lib.hid f0
  replace f1 := Lib.hid f1
  replace f2 := Lib.hid f2
  replace f3 := Lib.hid f3
  replace f6 := Lib.hid f6
  replace f8 := Lib.hid f8
  have fs := Lib.hid (fit2 hs0 (by omega))
  have hvb := Blk.new w (cellsT m Ao no co A n c) 57
  have hb0 := (Below.refl _ w).alloc (Nat.le_refl _) (.cells (cellsT m Ao no co A n c) 57)
  have hD := Lib.hid (fun W (hW : Below w.heap.size w W) => And.intro (hro.below hW) (hrd.below hW))
  have hT := Lib.hid (fun W (hW : Below (w.alloc (.cells (cellsT m Ao no co A n c) 57)).heap.size (w.alloc (.cells (cellsT m Ao no co A n c) 57)) W) => hb0.trans (hW.mono hb0.size))
  have hV := Lib.hid (fun W (hW : Below (w.alloc (.cells (cellsT m Ao no co A n c) 57)).heap.size (w.alloc (.cells (cellsT m Ao no co A n c) 57)) W) => hvb.to hW)
  have hsz0 := Lib.hid hb0.size
  have hlt0 := hvb.lt
  clear hro hrd hok f4 f5 f7 hvb hb0
  go_enter Tryz.func79, Tryz.ntmps79
  go_wp2
  generalize hw0 : w.alloc (.cells (cellsT m Ao no co A n c) 57) = w0 at *
  replace hw0 := Lib.hid hw0
  have hF1 := Lib.hid (show ∀ W, Below w0.heap.size w0 W → (W.cell? ⟨w.heap.size, 0, none⟩ = some (.int .i64 m.s) ∧ W.cell? ⟨w.heap.size, 1, none⟩ = some (.int .i64 m.d)) from fun W hW => ⟨(hV.out W hW).cell 0 _ rfl, (hV.out W hW).cell 1 _ rfl⟩)
  have hF2 := Lib.hid (show ∀ W, Below w0.heap.size w0 W → (W.cell? ⟨w.heap.size, 2, none⟩ = some (.int .i64 m.q) ∧ W.cell? ⟨w.heap.size, 3, none⟩ = some (.int .i64 m.a)) from fun W hW => ⟨(hV.out W hW).cell 2 _ rfl, (hV.out W hW).cell 3 _ rfl⟩)
  have hF4 := Lib.hid (show ∀ W, Below w0.heap.size w0 W → (W.cell? ⟨w.heap.size, 6, none⟩ = some (.int .i64 m.w) ∧ W.cell? ⟨w.heap.size, 7, none⟩ = some (.int .i64 m.u)) from fun W hW => ⟨(hV.out W hW).cell 6 _ rfl, (hV.out W hW).cell 7 _ rfl⟩)
  have hF5 := Lib.hid (show ∀ W, Below w0.heap.size w0 W → (W.cell? ⟨w.heap.size, 8, none⟩ = some (.slice Ao no co) ∧ W.cell? ⟨w.heap.size, 9, none⟩ = some (.slice A n c)) from fun W hW => ⟨(hV.out W hW).cell 8 _ rfl, (hV.out W hW).cell 9 _ rfl⟩)
  go_region_held3 (fun W => (W.cell? ⟨w.heap.size, 0, none⟩ = some (.int .i64 m.s) ∧ W.cell? ⟨w.heap.size, 1, none⟩ = some (.int .i64 m.d)) ∧ Below w0.heap.size w0 W)
    (first | assumption | exact held0 hF1.out)
    (first
    | (go_at_call_of 75 (Value.slice none 0 0); refine Calls.mono (RefPut_yes none 0 0 [] m.s 2 _ (RB.nil _) (by omega) f0.out) ?_; rintro e w1 ⟨A1, c1, rfl, ho1, hB1⟩; have hS1 := heldTo hF1.out (held0 hF1.out) hB1; have hr1 := Lib.hid ho1.rb; replace ho1 := 0; replace hB1 := 0)
    | (go_at_call_of 75 (Value.slice A1 2 c1); refine Calls.mono (RefPut_yes A1 _ c1 _ m.d 2 _ hr1.out (by omega) f1.out) ?_; rintro e w2 ⟨A2, c2, rfl, ho2, hB2⟩; have hS2 := heldTo hF1.out hS1 hB2; have hr2 := Lib.hid ho2.rb; replace hB2 := 0; replace ho2 := 0)
    | fail)
  have hb2 := hS2.2
  clear hS1 hS2
  replace hr1 := 0
  go_wp2_with fail
  go_region_held3 (fun W => (W.cell? ⟨w.heap.size, 2, none⟩ = some (.int .i64 m.q) ∧ W.cell? ⟨w.heap.size, 3, none⟩ = some (.int .i64 m.a)) ∧ Below w0.heap.size w0 W)
    (first | assumption | exact heldIf hF2.out hb2.drew)
    (first
    | (go_at_call_of 75 (Value.slice A2 4 c2); refine Calls.mono (RefPut_yes A2 _ c2 _ m.q 4 _ (hr2.out.below (Below.refl _ _).drew) (by omega) f2.out) ?_; rintro e w3 ⟨A3, c3, rfl, ho3, hB3⟩; have hS3 := heldTo hF2.out (heldIf hF2.out hb2.drew) hB3; have hr3 := Lib.hid ho3.rb; replace ho3 := 0; replace hB3 := 0)
    | (go_at_call_of 75 (Value.slice A3 8 c3); refine Calls.mono (RefPut_yes A3 _ c3 _ m.a 4 _ hr3.out (by omega) f3.out) ?_; rintro e w4 ⟨A4, c4, rfl, ho4, hB4⟩; have hS4 := heldTo hF2.out hS3 hB4; replace ho4 := ho4.mono hS3.2.size; replace hB4 := 0)
    | fail)
  have hb4 := hS4.2
  clear hS3 hS4 hb2
  replace hr2 := 0
  replace hr3 := 0
  have hv4 := hV.out _ hb4
  have z8 := hv4.cell 8 _ rfl
  have z4 := hv4.cell 4 _ rfl
  have z5 := hv4.cell 5 _ rfl
  have hb4l := hb4.alloc hb4.size (.cells #[.int .u8 x4, .int .u8 m.f] 5)
  have hlit := Lib.hid (lit2t w4 x4 m.f b4 b5)
  have ho4l := ho4.alloc (.cells #[.int .u8 x4, .int .u8 m.f] 5)
  have hsz4 := hb4l.size
  replace hb4l := Lib.hid hb4l
  replace ho4l := Lib.hid ho4l
  clear ho4 hv4
  have hx4' := hx4.out
  go_wp2_with (first
    | (at_builtin; refine wpList_append_bytes _ rfl (.tmp 19) (.tmp 33) rfl rfl rfl ho4l.out hlit.out (by omega) hsz4 ?_; intro A5 c5 w5 ho5 hg5 _; have hb5 := hb4l.out.grown hg5 hb4l.out.size (fun k hk => (ho4l.out.blk hk).1); clear hg5)
    | fail)
  have hr5 := Lib.hid ho5.rb
  clear z8 z4 z5 ho5 hb4
  replace ho4l := 0
  replace hlit := 0
  go_region_held3 (fun W => (W.cell? ⟨w.heap.size, 6, none⟩ = some (.int .i64 m.w) ∧ W.cell? ⟨w.heap.size, 7, none⟩ = some (.int .i64 m.u)) ∧ Below w0.heap.size w0 W)
    (first | assumption | exact heldIf hF4.out hb5.drew)
    (first
    | (go_at_call_of 75 (Value.slice A5 14 c5); refine Calls.mono (RefPut_yes A5 14 c5 _ m.w 2 _ (hr5.out.below (Below.refl _ _).drew) (by omega) f6.out) ?_; rintro e w6 ⟨A6, c6, rfl, ho6, hB6⟩; have hS6 := heldTo hF4.out (heldIf hF4.out hb5.drew) hB6; have hr6 := Lib.hid ho6.rb; replace ho6 := 0; replace hB6 := 0)
    | (go_at_call_of 75 (Value.slice A6 16 c6); refine Calls.mono (RefPut_yes A6 16 c6 _ s 2 _ hr6.out (by omega) fs.out) ?_; rintro e w7 ⟨A7, c7, rfl, ho7, hB7⟩; have hS7 := heldTo hF4.out hS6 hB7; have hr7 := Lib.hid ho7.rb; replace ho7 := 0; replace hB7 := 0)
    | (go_at_call_of 75 (Value.slice A7 18 c7); refine Calls.mono (RefPut_yes A7 18 c7 _ m.u 2 _ hr7.out (by omega) f8.out) ?_; rintro e w8 ⟨A8, c8, rfl, ho8, hB8⟩; have hS8 := heldTo hF4.out hS7 hB8; replace ho8 := (ho8.mono hS7.2.size).drew; replace hB8 := 0)
    | fail)
  have hb8 := hS8.2
  clear hS6 hS7 hS8 hb5
  replace hr5 := 0
  replace hr6 := 0
  replace hr7 := 0
  go_wp2_with fail
  have hb8d := Lib.hid hb8.drew
  have ho8h := Lib.hid ho8
  clear ho8
  go_region_held3 (fun W => (W.cell? ⟨w.heap.size, 8, none⟩ = some (.slice Ao no co) ∧ W.cell? ⟨w.heap.size, 9, none⟩ = some (.slice A n c)) ∧ Below w0.heap.size w0 W)
    (first | assumption | exact heldIf hF5.out hb8d.out)
    (first
    | (refine step_append_bytes (A := A8) (n := 20) (c := c8) (A' := Ao) (m := no) (c' := co) rfl (.tmp 44) (.tmp 46) rfl rfl rfl ho8h.out (hD.out _ (hT.out _ hb8d.out)).1 (by omega) hb8d.out.size ?_; intro A9 c9 w9 ho9 hg9 _; have hS9 := heldGr hF5.out (heldIf hF5.out hb8d.out) ho8h.out hg9; clear hg9)
    | (refine step_append_bytes (A := A9) (n := 20 + no) (c := c9) (A' := A) (m := n) (c' := c) rfl (.tmp 47) (.tmp 49) rfl rfl rfl ho9 (hD.out _ (hT.out _ hS9.2)).2 (by omega) hS9.2.size ?_; intro A10 c10 w10 ho10 hg10 _; have hS10 := heldGr hF5.out hS9 ho9 hg10; clear hg10)
    | fail)
  go_wp2
  go_ret
  exact ⟨A10, c10, by simp, by rw [hby.out]; simpa using ho10.mono hsz0.out, hT.out _ hS10.2⟩

theorem en_RefTcpBytes (args : Array Value) (w : World) : (callFunc 79 args).run Tryz.prog w = .ok (.enter 79 args) w := enters Tryz.func79 (by kernel_rfl) (by kernel_rfl) args w
theorem en_T8Pseudo (args : Array Value) (w : World) : (callFunc 50 args).run Tryz.prog w = .ok (.enter 50 args) w := enters Tryz.func50 (by kernel_rfl) (by kernel_rfl) args w
theorem en_T8Of (args : Array Value) (w : World) : (callFunc 60 args).run Tryz.prog w = .ok (.enter 60 args) w := enters Tryz.func60 (by kernel_rfl) (by kernel_rfl) args w

set_option maxRecDepth 100000 in
set_option maxHeartbeats 4000000 in
theorem RefTcpBuild_any (src dst : Int) (m : TcpP) (Ao : Option Addr) (no co : Nat) (A : Option Addr) (n c : Nat) (w : World) (hro : RB w Ao no co m.opts) (hrd : RB w A n c m.data) (hn : n ≤ 1000000000) :
    Calls Tryz.prog 55 #[.int .i64 src, .int .i64 dst, .agg (cellsT m Ao no co A n c)] w (TwoOut w (builtT? src dst m no n) (checkT m no n)) := by
  have hck := fun W => RefTcpCheck_any m Ao no co A n c W hn
  have hb0 := Lib.hid ((Below.refl _ w).alloc (Nat.le_refl _) (.cells (cellsT m Ao no co A n c) 57))
  have hk0 := Lib.hid (Blk.new w (cellsT m Ao no co A n c) 57)
  by_cases hok : checkT m no n = 0
  · have e : builtT? src dst m no n = bytesT m (sumT src dst m) := by unfold builtT?; rw [if_pos hok]; rfl
    rw [e]
    have hBy := Lib.hid (fun s W (hW : Below w.heap.size w W) (h0 : 0 ≤ s) (h1 : s ≤ 65535) => RefTcpBytes_any m s Ao no co A n c W (hro.below hW) (hrd.below hW) hok h0 h1)
    obtain ⟨⟨hn1, hn2, hr0, hr1⟩, hfit, htot⟩ := checkT_ok hok
    rw [hok]
    rw [hok] at hck
    have hblen := show (bytesT m 0).length = 20 + no + n by rw [bytesT_length, hro.len, hrd.len]
    have hsm := show sumT src dst m = 65535 - foldI (totalI [pseudoB src dst 6 (20 + (no : Int) + n), bytesT m 0]) by unfold sumT; rw [hblen]; rfl
    have hsb := Lib.hid (sumT_bd src dst m)
    have hsmall := Lib.hid (small_two (pseudoB_byts src dst 6 (20 + (no : Int) + n)) (by rw [pseudoB_length]; omega) (bytesT_byts (s := 0) hro.byt hrd.byt) (by rw [hblen]; omega))
    have hOf := Lib.hid (fun A c W h => by have := RefOf_any A 2 c [pseudoB src dst 6 (20 + (no : Int) + n), bytesT m 0] W h hsmall.out; rw [← hsm] at this; exact this)
    have hP := Lib.hid (fun W => RefPseudo_any src dst 6 (20 + (no : Int) + n) W)
    generalize sumT src dst m = sm at *
    replace hsm := 0
    replace hblen := 0
    have hi := Lib.hid (show (Tryz.prog.info? 57).map (·.size) = some (cellsT m Ao no co A n c).size by kernel_rfl)
    clear hro hrd hok hfit e
    go_enter Tryz.func55, Tryz.ntmps55
    go_wp2_with (first
      | (refine wpList_load_row rfl 57 (.tmp 5) rfl w.heap.size rfl _ (cellsT m Ao no co A n c) _ _ hk1.out.at_ Tryz.underlying57 rfl hi.out ?_)
      | (go_at_call 78; refine (hck _).mono ?_; rintro e w1 ⟨rfl, hB1⟩; have hk1 := Lib.hid (hk0.out.to hB1); have hBt1 := Lib.hid (hb0.out.trans (hB1.mono hb0.out.size)); replace hB1 := 0)
      | (go_at_call_of 79 (Value.int IntKind.i64 (0 : Int)); refine (hBy.out 0 _ hBt1.out (by omega) (by omega)).mono ?_; rintro e w2 ⟨A2, c2, rfl, ho2, hB2⟩)
      | fail)
    have hr2 := ho2.rb
    have hBt2 := hBt1.out.trans (hB2.mono hBt1.out.size)
    have p1 := hk1.out.to hB2
    have hK : ∀ W W', (Blk W w.heap.size (cellsT m Ao no co A n c) 57 ∧ RB W A2 (20 + no + n) c2 (bytesT m 0) ∧ Below w.heap.size w W) → Below W.heap.size W W' →
        (Blk W' w.heap.size (cellsT m Ao no co A n c) 57 ∧ RB W' A2 (20 + no + n) c2 (bytesT m 0) ∧ Below w.heap.size w W') := fun W W' ⟨a1, a4, a5⟩ hW =>
      ⟨a1.to hW, a4.below hW, a5.trans (hW.mono a5.size)⟩
    have hS0 := hK w2 w2.drew ⟨p1, hr2, hBt2⟩ (Below.refl _ _).drew
    replace hK := Lib.hid hK
    clear p1 hBt2 ho2 hB2 hck hr2
    refine wp_region_loose (fun W => Blk W w.heap.size (cellsT m Ao no co A n c) 57 ∧ RB W A2 (20 + no + n) c2 (bytesT m 0) ∧ Below w.heap.size w W) (by kernel_rfl) (by kernel_rfl) (by kernel_rfl) hS0 ?_
    repeat (first
      | (refine looseL_skip (by rfl) (by rfl) rfl ?_; simp only [putV, List.setIfInBounds_toArray, List.set_cons_zero, List.set_cons_succ])
      | (refine looseL_row (by rfl) (by rfl) (by rfl) rfl 57 (.tmp 5) rfl w.heap.size rfl _ (cellsT m Ao no co A n c) _ _ (fun W hS => hS.1.at_) Tryz.underlying57 rfl hi.out ?_; simp only [putV, List.setIfInBounds_toArray, List.set_cons_zero, List.set_cons_succ])
      | (refine looseL_call4E (d := 22) (Byt8 (pseudoB src dst 6 (20 + (no : Int) + n))) (by rfl) rfl 50 (.tmp 18) (.tmp 19) (.const (.int .i64 6)) (.tmp 21) _ rfl en_T8Pseudo rfl (Byt8.stable _) ?_ ?_; (intro vx vy vz vu W hS hx hy hz hu; cases hx; cases hy; cases hz; cases hu; exact (hP.out W).mono fun e W' ⟨A9, c9, he, ho, hb⟩ => ⟨⟨_, he, A9, _, c9, rfl, ho.rb⟩, hK.out W W' hS hb, hb⟩))
      | (refine looseL_op8 (d := 24) (Two8 (pseudoB src dst 6 (20 + (no : Int) + n)) (bytesT m 0)) (by rfl) rfl rfl (Two8.stable _ _) ?_ ?_; (intro a W hS hk; obtain ⟨A9, n9, c9, h9, r9⟩ := (show Byt8 _ _ _ from hk 22 (by simp [Oper.looksAt, Op.operands])); have h8 := (show a.tmps.getD 23 undef = _ from hk 23 (by simp [Oper.looksAt, Op.operands])); have hy := rbb_two r9 hS.2.1; have hz := hK.out W _ hS ((Below.refl _ W).alloc (Nat.le_refl _) (.cells #[.slice A9 n9 c9, .slice A2 (20 + no + n) c2] 22)); have g9 : a.tmps[22]?.getD undef = .slice A9 n9 c9 := (by simpa using h9); have g8 : a.tmps[23]?.getD undef = .slice A2 (20 + no + n) c2 := (by simpa using h8); unfold execOp; simp [go_sem, g9, g8, Act.eval, YldR]; exact ⟨⟨_, _, _, rfl, hy⟩, hz, (Below.refl _ W).alloc (Nat.le_refl _) _⟩))
      | (refine looseL_call1 (v := .int .i64 sm) (by rfl) rfl 60 (.tmp 24) _ rfl en_T8Of (by rfl) ?_ ?_; (intro vx W hS hx; obtain ⟨A9, n9, c9, rfl, r9⟩ := hx; have e9 : n9 = 2 := (by have := r9.len; simp at this; omega); subst e9; exact (hOf.out _ _ W r9).mono fun e W' ⟨he, hb⟩ => ⟨he, hK.out W W' hS hb, hb⟩); simp only [putV, List.setIfInBounds_toArray, List.set_cons_zero, List.set_cons_succ])
      | (refine looseL_call2E (d := 26) (Byt8 (bytesT m sm)) (by rfl) rfl 79 (.tmp 17) (.tmp 25) _ rfl en_RefTcpBytes rfl (Byt8.stable _) ?_ ?_; (intro vx vy W hS hx hy; cases hx; cases hy; exact (hBy.out sm W hS.2.2 hsb.out.1 hsb.out.2).mono fun e W' ⟨A9, c9, he, ho, hb⟩ => ⟨⟨_, he, A9, _, c9, rfl, ho.rb⟩, hK.out W W' hS hb, hb⟩))
      | (refine looseL_op8 (d := 6) (Byt8 (bytesT m sm)) (by rfl) rfl rfl (Byt8.stable _) ?_ ?_; (intro a W hS hk; obtain ⟨A9, n9, c9, h9, r9⟩ := (show Byt8 _ _ _ from hk 26 (by simp [Oper.looksAt, Op.operands])); have g9 : a.tmps[26]?.getD undef = .slice A9 n9 c9 := (by simpa using h9); unfold execOp; simp [go_sem, g9, Act.eval, YldR]; exact ⟨⟨_, _, _, rfl, r9⟩, hS, Below.refl _ W⟩))
      | (refine looseL_val (v := ?_) (by rfl) (by rfl) (by rfl) rfl (fun W hS => ?_) ?_; rotate_left; (· (clear hS; go_simp; try with_reducible rfl)); simp only [putV, List.setIfInBounds_toArray, List.set_cons_zero, List.set_cons_succ]))
    refine looseL_nil fun a W hS hsz hds hR => ?_
    obtain ⟨A6, n6, c6, h6, r6⟩ : Byt8 (bytesT m sm) (a.tmps.getD 6 undef) W := hR 6 (by simp)
    have h7 : a.tmps.getD 7 undef = .int .i64 0 := hR 7 (by simp)
    obtain ⟨T, D⟩ := a
    have hD : D = [] := hds
    subst hD
    have h62 : T[6]?.getD undef = .slice A6 n6 c6 := by simpa using h6
    have h72 : T[7]?.getD undef = .int .i64 0 := by simpa using h7
    clear hR hsz hds
    go_wp2
    exact bodyPost_ret (v := .tuple #[.slice A6 n6 c6, .int .i64 0]) (by simp [results, Tryz.results55, go_sem, h62, h72]) rfl ⟨_, _, _, rfl, r6, hS.2.2⟩
  · unfold builtT?
    rw [if_neg hok]
    have hc := checkT_code m no n
    generalize checkT m no n = e0 at *
    clear hro hrd
    go_enter Tryz.func55, Tryz.ntmps55
    rcases hc with rfl | rfl | rfl
    · exact absurd rfl hok
    all_goals
      clear hok
      go_wp2_with (go_at_call 78; refine (hck _).mono ?_; rintro e w1 ⟨rfl, hB1⟩)
      go_ret2
      exact ⟨none, 0, 0, rfl, RB.nil _, hb0.out.trans (hB1.mono (by simp))⟩
end Go.Proofs.YtehecefapiblpaaGreat
