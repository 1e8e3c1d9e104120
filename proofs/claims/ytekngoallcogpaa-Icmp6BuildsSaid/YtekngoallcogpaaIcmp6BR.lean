/- Messages of ICMP, of IPv6 (the reference): walk of Build. -/
import Derived.Test.YtekngoallcogpaaIcmp6B
import Derived.Test.YtekngoallcogpaaHeld
import Derived.Test.YtekngoallcogpaaLoose
set_option linter.unusedVariables false
namespace Go.Proofs.Ytekngoallcogpaa
open Go.RowKit

section
variable {P : Program} {ops : Array Oper} {Q : Exit → Act → World → Prop} {S : World → Prop} {N : Nat} {ds : List Deferred} {o : Oper} {rest : List Oper} {V : Array Value} {E : Env}
/-- Any operation whose slot is known by a relation. -/
theorem looseL_op {d : Tmp} (p : Rl) (hg : (gslots ops o).all (fun t => (look E t).isNone) = true) (hw : Region.wanted o (yielded ops V) = true) (hd : o.dst = some d) (hst : StableR p)
    (hx : ∀ (a : Act) w, S w → (∀ t ∈ o.looksAt ops, Rt V E t (a.tmps.getD t undef) w) → YldR P S p w ((execOp a.eval o).run P w)) (h : looseL P ops Q S N ds rest V ((d, p) :: E)) : looseL P ops Q S N ds (o :: rest) V E :=
  .inr ⟨d, p, hd, hst, fun a w hS hk => .inl ⟨(wanted_agree hg hk).trans hw, hx a w hS hk⟩, h⟩
end

theorem en_RPseudo6 (args : Array Value) (w : World) : (callFunc 46 args).run Try.prog w = .ok (.enter 46 args) w := enters Try.func46 (by kernel_rfl) (by kernel_rfl) args w
theorem en_E6Of (args : Array Value) (w : World) : (callFunc 55 args).run Try.prog w = .ok (.enter 55 args) w := enters Try.func55 (by kernel_rfl) (by kernel_rfl) args w
theorem info_icmp6 : (Try.prog.info? 24).map (·.size) = some 4 := by kernel_rfl
/-- Bytes in a slot. -/
def Byt6 (bs : List Int) : Rl := fun u W => ∃ A n c, u = .slice A n c ∧ RB W A n c bs
theorem Byt6.stable (bs : List Int) : StableR (Byt6 bs) := fun u w w' ⟨A, n, c, h1, h2⟩ hb => ⟨A, n, c, h1, h2.below hb⟩
/-- Bytes twice, in a slot. -/
def TwoR (bs cs : List Int) : Rl := fun u W => ∃ A n c, u = .slice A n c ∧ RBB W A n c [bs, cs]
theorem TwoR.stable (bs cs : List Int) : StableR (TwoR bs cs) := fun u w w' ⟨A, n, c, h1, h2⟩ hb => ⟨A, n, c, h1, h2.below hb⟩

theorem Blk.range {W : World} {B : Nat} {P : List Value} {T : TypeId} (h : Blk W B P.toArray T) : W.rangeAt B 0 P := fun j v hv => by
  rw [Nat.zero_add]; exact h.cell j v (by simpa using hv)
theorem info_six6l {s : List Int} (hs : Six s) : (Try.prog.info? 52).map (·.size) = some (u8s s).length := by
  have := info_six6 hs
  simpa [cells6] using this

set_option maxRecDepth 100000 in
set_option maxHeartbeats 4000000 in
theorem RefBuild6_any (s d : List Int) (m : IcmpP) (A : Option Addr) (n c : Nat) (w : World) (hs : Six s) (hd : Six d) (h : RB w A n c m.data) :
    Calls Try.prog 44 #[.agg (cells6 s), .agg (cells6 d), .agg (cellsI m A n c)] w (TwoOut w (built6? s d m n) (checkI m n)) := by
  have hb0 := Lib.hid ((((Below.refl _ w).alloc (Nat.le_refl _) (.cells (cells6 s) 52)).alloc (by simp) (.cells (cells6 d) 52)).alloc (by simp; omega) (.cells (cellsI m A n c) 24))
  have k1 := Lib.hid (((Blk.new w (cells6 s) 52).alloc (.cells (cells6 d) 52)).alloc (.cells (cellsI m A n c) 24))
  have k2 := (Blk.new (w.alloc (.cells (cells6 s) 52)) (cells6 d) 52).alloc (.cells (cellsI m A n c) 24)
  have k3 := Blk.new ((w.alloc (.cells (cells6 s) 52)).alloc (.cells (cells6 d) 52)) (cellsI m A n c) 24
  rw [World.size_alloc] at k2
  rw [World.size_alloc, World.size_alloc] at k3
  replace k2 := Lib.hid k2
  replace k3 := Lib.hid k3
  have hck := RefIcmpCheck_any m A n c
  by_cases hok : checkI m n = 0
  · unfold built6?
    rw [if_pos hok]
    have hBy := Lib.hid (fun x W (hW : Below w.heap.size w W) (h0 : 0 ≤ x) (h1 : x ≤ 65535) => RefIcmpBytes_any m x A n c W (h.below hW) hok h0 h1)
    obtain ⟨ht, hcd, hr, hn⟩ := checkI_ok hok
    rw [hok]
    rw [hok] at hck
    have hlen := Lib.hid (show (bytesI m 0).length = 8 + n by rw [bytesI_length, h.len])
    have hbz := Lib.hid (bytesI_byts (s := 0) ht hcd h.byt)
    have hsb := Lib.hid (sum6_bd s d m)
    have hsm := show sum6 s d m = 65535 - foldI (totalI [pseudo6 s d 58 (8 + (n : Int)), bytesI m 0]) by unfold sum6 own6; rw [hlen.out, Int.natCast_add]; rfl
    have hsmall := Lib.hid (small_two (pseudo6_byts hs hd 58 (8 + (n : Int))) (by rw [pseudo6_length hs hd]; omega) hbz.out (by have := hlen.out; omega))
    have hOf := Lib.hid (fun A c W h => by have := RefOf_any A 2 c [pseudo6 s d 58 (8 + (n : Int)), bytesI m 0] W h hsmall.out; rw [← hsm] at this; exact this)
    have hP := Lib.hid (fun W => show Calls _ _ #[.agg (u8s s).toArray, .agg (u8s d).toArray, _, _] W _ from RefPseudo6_any s d 58 (8 + (n : Int)) W hs hd)
    have hb6 := show built6 s d m = bytesI m (sum6 s d m) from rfl
    rw [hb6]
    generalize sum6 s d m = sm at *
    replace hb6 := 0
    replace hsm := 0
    clear hok h
    go_enter Try.func44, Try.ntmps44
    go_wp2_with (first
      | (go_at_call 18; refine (hck _).mono ?_; rintro e w1 ⟨rfl, hB1⟩; have hBt1 := Lib.hid (hb0.out.trans (hB1.mono (by simp; omega))); have q1 := Lib.hid (k1.out.below hB1 (by simp; omega)); have q2 := Lib.hid (k2.out.below hB1 (by simp)); have q3 := k3.out.below hB1 (by simp); obtain ⟨⟨z0, z1, z2, z3⟩, _⟩ := q3.z4; replace q3 := Lib.hid q3; replace hB1 := 0)
      | (go_at_call 54; refine (hBy.out 0 _ hBt1.out (by omega) (by omega)).mono ?_; rintro e w2 ⟨A2, c2, rfl, ho2, hB2⟩)
      | fail)
    clear z0 z1 z2 z3
    have hr2 := ho2.rb
    have hBt2 := hBt1.out.trans (hB2.mono hBt1.out.size)
    have p1 := q1.out.below hB2 q1.out.lt
    have p2 := q2.out.below hB2 q2.out.lt
    have p3 := q3.out.below hB2 q3.out.lt
    have hK : ∀ W W', (Blk W w.heap.size (cells6 s) 52 ∧ Blk W (w.heap.size + 1) (cells6 d) 52 ∧ Blk W (w.heap.size + 1 + 1) (cellsI m A n c) 24 ∧ RB W A2 (8 + n) c2 (bytesI m 0) ∧ Below w.heap.size w W) → Below W.heap.size W W' →
        (Blk W' w.heap.size (cells6 s) 52 ∧ Blk W' (w.heap.size + 1) (cells6 d) 52 ∧ Blk W' (w.heap.size + 1 + 1) (cellsI m A n c) 24 ∧ RB W' A2 (8 + n) c2 (bytesI m 0) ∧ Below w.heap.size w W') := fun W W' ⟨a1, a2, a3, a4, a5⟩ hW =>
      ⟨a1.to hW, a2.to hW, a3.to hW, a4.below hW, a5.trans (hW.mono a5.size)⟩
    have hS0 := hK w2 w2.drew ⟨p1, p2, p3, hr2, hBt2⟩ (Below.refl _ _).drew
    replace hK := Lib.hid hK
    have i1 := Lib.hid (info_six6 hs)
    have i2 := Lib.hid (info_six6 hd)
    have i3 := Lib.hid info_icmp6
    clear p1 p2 p3 q1 q2 q3 k1 k2 k3 hBt1 hBt2 ho2 hB2 hb0 hck hr2
    refine wp_region_loose (fun W => Blk W w.heap.size (cells6 s) 52 ∧ Blk W (w.heap.size + 1) (cells6 d) 52 ∧ Blk W (w.heap.size + 1 + 1) (cellsI m A n c) 24 ∧ RB W A2 (8 + n) c2 (bytesI m 0) ∧ Below w.heap.size w W) (by kernel_rfl) (by kernel_rfl) (by kernel_rfl) hS0 ?_
    repeat (first
      | (refine looseL_skip (by rfl) (by rfl) rfl ?_; simp only [putV, List.setIfInBounds_toArray, List.set_cons_zero, List.set_cons_succ])
      | (refine looseL_row (by rfl) (by rfl) (by rfl) rfl 24 (.tmp 5) rfl (w.heap.size + 1 + 1) rfl _ (cellsI m A n c) _ _ (fun W hS => hS.2.2.1.at_) Try.underlying24 rfl i3.out ?_; simp only [putV, List.setIfInBounds_toArray, List.set_cons_zero, List.set_cons_succ])
      | (refine looseL_row (by rfl) (by rfl) (by rfl) rfl 52 (.tmp 3) rfl w.heap.size rfl _ (cells6 s) _ _ (fun W hS => hS.1.at_) Try.underlying52 rfl i1.out ?_; simp only [putV, List.setIfInBounds_toArray, List.set_cons_zero, List.set_cons_succ])
      | (refine looseL_row (by rfl) (by rfl) (by rfl) rfl 52 (.tmp 4) rfl (w.heap.size + 1) rfl _ (cells6 d) _ _ (fun W hS => hS.2.1.at_) Try.underlying52 rfl i2.out ?_; simp only [putV, List.setIfInBounds_toArray, List.set_cons_zero, List.set_cons_succ])
      | (refine looseL_call4E (d := 22) (Byt6 (pseudo6 s d 58 (8 + (n : Int)))) (by rfl) rfl 46 (.tmp 18) (.tmp 19) (.const (.int .i64 58)) (.tmp 21) _ rfl en_RPseudo6 rfl (Byt6.stable _) ?_ ?_; (intro vx vy vz vu W hS hx hy hz hu; cases hx; cases hy; cases hz; cases hu; exact (hP.out W).mono fun e W' ⟨A9, c9, he, ho, hb⟩ => ⟨⟨_, he, A9, _, c9, rfl, ho.rb⟩, hK.out W W' hS hb, hb⟩))
      | (refine looseL_op (d := 24) (TwoR (pseudo6 s d 58 (8 + (n : Int))) (bytesI m 0)) (by rfl) rfl rfl (TwoR.stable _ _) ?_ ?_; (intro a W hS hk; obtain ⟨A9, n9, c9, h9, r9⟩ := (show Byt6 _ _ _ from hk 22 (by simp [Oper.looksAt, Op.operands])); have h8 := (show a.tmps.getD 23 undef = _ from hk 23 (by simp [Oper.looksAt, Op.operands])); have hy := rbb_two r9 hS.2.2.2.1; have hz := hK.out W _ hS ((Below.refl _ W).alloc (Nat.le_refl _) (.cells #[.slice A9 n9 c9, .slice A2 (8 + n) c2] 22)); have g9 : a.tmps[22]?.getD undef = .slice A9 n9 c9 := (by simpa using h9); have g8 : a.tmps[23]?.getD undef = .slice A2 (8 + n) c2 := (by simpa using h8); unfold execOp; simp [go_sem, g9, g8, Act.eval, YldR]; exact ⟨⟨_, _, _, rfl, hy⟩, hz, (Below.refl _ W).alloc (Nat.le_refl _) _⟩))
      | (refine looseL_call1 (v := .int .i64 sm) (by rfl) rfl 55 (.tmp 24) _ rfl en_E6Of (by rfl) ?_ ?_; (intro vx W hS hx; obtain ⟨A9, n9, c9, rfl, r9⟩ := hx; have e9 : n9 = 2 := (by have := r9.len; simp at this; omega); subst e9; exact (hOf.out _ _ W r9).mono fun e W' ⟨he, hb⟩ => ⟨he, hK.out W W' hS hb, hb⟩); simp only [putV, List.setIfInBounds_toArray, List.set_cons_zero, List.set_cons_succ])
      | (refine looseL_call2E (d := 26) (Byt6 (bytesI m sm)) (by rfl) rfl 54 (.tmp 17) (.tmp 25) _ rfl en_RefIcmpBytes rfl (Byt6.stable _) ?_ ?_; (intro vx vy W hS hx hy; cases hx; cases hy; exact (hBy.out sm W hS.2.2.2.2 hsb.out.1 hsb.out.2).mono fun e W' ⟨A9, c9, he, ho, hb⟩ => ⟨⟨_, he, A9, _, c9, rfl, ho.rb⟩, hK.out W W' hS hb, hb⟩))
      | (refine looseL_op (d := 6) (Byt6 (bytesI m sm)) (by rfl) rfl rfl (Byt6.stable _) ?_ ?_; (intro a W hS hk; obtain ⟨A9, n9, c9, h9, r9⟩ := (show Byt6 _ _ _ from hk 26 (by simp [Oper.looksAt, Op.operands])); have g9 : a.tmps[26]?.getD undef = .slice A9 n9 c9 := (by simpa using h9); unfold execOp; simp [go_sem, g9, Act.eval, YldR]; exact ⟨⟨_, _, _, rfl, r9⟩, hS, Below.refl _ W⟩))
      | (refine looseL_val (v := ?_) (by rfl) (by rfl) (by rfl) rfl (fun W hS => ?_) ?_; rotate_left; (· (clear hS; go_simp; try with_reducible rfl)); simp only [putV, List.setIfInBounds_toArray, List.set_cons_zero, List.set_cons_succ]))
    refine looseL_nil fun a W hS hsz hds hR => ?_
    obtain ⟨A6, n6, c6, h6, r6⟩ : Byt6 (bytesI m sm) (a.tmps.getD 6 undef) W := hR 6 (by simp)
    have h7 : a.tmps.getD 7 undef = .int .i64 0 := hR 7 (by simp)
    obtain ⟨T, D⟩ := a
    have hD : D = [] := hds
    subst hD
    have h62 : T[6]?.getD undef = .slice A6 n6 c6 := by simpa using h6
    have h72 : T[7]?.getD undef = .int .i64 0 := by simpa using h7
    clear hR hsz hds
    go_wp2
    exact bodyPost_ret (v := .tuple #[.slice A6 n6 c6, .int .i64 0]) (by simp [results, Try.results44, go_sem, h62, h72]) rfl ⟨_, _, _, rfl, r6, hS.2.2.2.2⟩
  · unfold built6?
    rw [if_neg hok]
    have hc := checkI_code m n
    generalize checkI m n = e0 at *
    go_enter Try.func44, Try.ntmps44
    rcases hc with rfl | rfl | rfl
    · exact absurd rfl hok
    all_goals
      clear hok
      go_wp2_with (go_at_call 18; refine (hck _).mono ?_; rintro e w1 ⟨rfl, hB1⟩)
      go_ret2
      exact ⟨none, 0, 0, rfl, RB.nil _, hb0.out.trans (hB1.mono (by simp; omega))⟩
end Go.Proofs.Ytekngoallcogpaa
