/- Fragments of IPv4 (cut4): what they are; the iterator that makes them. -/
import Derived.Test.YtipigcpenmcaoaaCut4C
import Derived.Test.YtipigcpenmcaoaaCut4A
import Derived.Test.YtipigcpenmcaoaaAppend
import Derived.Test.YtipigcpenmcaoaaHand
import Derived.Deep.Cut
set_option linter.unusedVariables false
namespace Go.Proofs.Ytipigcpenmcaoaa
open Go Go.RowKit
attribute [local go_sem] Oper.semAt_some

/-- The fragment that begins with the bytes left. -/
def frag1 (mtu : Int) (more : Bool) (q : V4P) (left : List Int) : V4P :=
  { q with mf := more || decide (fit4 (20 + q.opts.length) left.length mtu < left.length), data := left.take (fit4 (20 + q.opts.length) left.length mtu) }
def fragsF (mtu : Int) (more : Bool) (others : List Int) : Nat → V4P → List Int → List V4P
  | 0, _, _ => []
  | f + 1, q, left =>
    if fit4 (20 + q.opts.length) left.length mtu = left.length then [frag1 mtu more q left]
    else frag1 mtu more q left :: fragsF mtu more others f { frag1 mtu more q left with off := q.off + fit4 (20 + q.opts.length) left.length mtu, opts := others } (left.drop (fit4 (20 + q.opts.length) left.length mtu))
def frags4 (p : V4P) (mtu : Int) : List V4P := fragsF mtu p.mf (copiedV p.opts) (p.data.length + 1) p p.data
theorem fit4_le {head left : Nat} {mtu : Int} (h1 : head ≤ 60) (h3 : 68 ≤ mtu) : fit4 head left mtu ≤ left ∧ (fit4 head left mtu ≠ left → 8 ≤ fit4 head left mtu) := by
  unfold fit4
  split <;> omega
theorem optsF_len (bs : List Int) : ∀ (f a : Nat), a ≤ bs.length → (optsOf bs (placesF bs f a)).length + a ≤ bs.length
  | 0, a, h => by simpa [placesF, optsOf] using h
  | f + 1, a, h => by
    have hl := optL_le bs a
    have h1 : (optAt bs a).length ≤ optL bs a := by unfold optAt; split; simp; omega; simp
    have hs : placesF bs (f + 1) a = if optL bs a = 0 then [] else if bs[a]?.getD 0 = 0 then [a] else a :: placesF bs f (a + optL bs a) := rfl
    rw [hs]
    split
    · simpa [optsOf] using h
    · have hlt : a + optL bs a ≤ bs.length := by
        rcases hl with hl | hl
        · omega
        · exact hl.1
      split
      · simp only [optsOf, List.flatMap_cons, List.flatMap_nil, List.append_nil]; omega
      · have := optsF_len bs f (a + optL bs a) hlt
        simp only [optsOf, List.flatMap_cons, List.length_append] at this ⊢; omega
theorem copied_len {bs : List Int} (h : bs.length ≤ 40) : (copiedV bs).length ≤ 40 := by
  have h1 := pad4_len (optsOf bs (places bs))
  have h2 := optsF_len bs (bs.length + 1) 0 (Nat.zero_le _)
  unfold copiedV
  unfold places at *
  omega
theorem fragsF_ne (mtu : Int) (more : Bool) (others : List Int) (f : Nat) (q : V4P) (left : List Int) : 0 < (fragsF mtu more others (f + 1) q left).length := by
  unfold fragsF; split <;> simp
theorem fragsF_len (mtu : Int) (more : Bool) (others : List Int) (h3 : 68 ≤ mtu) (ho : others.length ≤ 40) : ∀ (f : Nat) (q : V4P) (left : List Int), q.opts.length ≤ 40 → (fragsF mtu more others f q left).length ≤ left.length + 1
  | 0, _, _, _ => by simp [fragsF]
  | f + 1, q, left, h => by
    have hf := fit4_le (head := 20 + q.opts.length) (left := left.length) (by omega) h3
    unfold fragsF
    split
    · simp
    · have := fragsF_len mtu more others h3 ho f { frag1 mtu more q left with off := q.off + fit4 (20 + q.opts.length) left.length mtu, opts := others } (left.drop (fit4 (20 + q.opts.length) left.length mtu)) ho
      rw [List.length_drop] at this
      rw [List.length_cons]; omega

theorem boxed_farC {W : World} {B B' t : Nat} {v : Value} (h : Boxed W B t v) (hB : B ≠ B') (j : Nat) (u : Value) : Boxed (W.setCell ⟨B', j, none⟩ u) B t v := (Below.heap_setCell W ⟨B', j, none⟩ u B hB).trans h
theorem Fw.below {gp : Nat} {A B C : World} (h : Fw gp A B) (hb : Below B.heap.size B C) : Fw gp A C := ⟨h.1.trans (KeepX.of_below hb h.1.size), h.2⟩
theorem Fw.set {gp : Nat} {A B : World} (h : Fw gp A B) (i : Nat) (v : Value) : Fw gp A (B.setCell ⟨gp, i, none⟩ v) := ⟨h.1.setCell (p := ⟨gp, i, none⟩) (.inl rfl) v, h.2⟩
theorem Fw.refl {gp : Nat} {A : World} (h : ∀ j x, A.cell? ⟨gp, j, none⟩ ≠ some (.int .u8 x)) : Fw gp A A := ⟨KeepX.refl _ _ _, h⟩
theorem RB.kx {own : Nat → Prop} {X Y : World} {a : Option Addr} {n c : Nat} {bs : List Int} (hk : KeepX own X.heap.size X Y) (h : RB X a n c bs) (ho : ∀ k, ownBlk a = some k → ¬ own k) : RB Y a n c bs :=
  ⟨h.len, h.nc, h.cm, h.byt, h.niln, fun hn => by
    obtain ⟨b, off, rfl, hlt, hc⟩ := h.mem hn
    exact ⟨b, off, rfl, by have := hk.size; omega, fun j hj => (hk.cell (p := ⟨b, off + j, none⟩) hlt (ho b rfl)).trans (hc j hj)⟩⟩
theorem RB.blk_lt {X : World} {a : Option Addr} {n c : Nat} {bs : List Int} (h : RB X a n c bs) {k : Nat} (hk : ownBlk a = some k) (hn : 0 < n) : k < X.heap.size := by
  obtain ⟨b, off, rfl, hlt, _⟩ := h.mem hn
  cases hk
  exact hlt
/-- What holds at the head of the iterator's loop. -/
def FrInv (gp gm : Nat) (mtu : Int) (own : Nat → Prop) (N : Nat) (more : Bool) (Ao : Option Addr) (mo ko : Nat) (others : List Int) (J : Nat → (Nat → Prop) → World → Prop) (fs : List V4P) (vl : Value) (wr : World) : Prop :=
  ∃ (f : Nat) (q : V4P) (left : List Int) (pre : List V4P) (F : Nat → Prop) (W0 : World) (Al : Option Addr) (nl cl : Nat) (ao : Option Addr) (no co : Nat) (a2 : Option Addr) (n2 c2 : Nat),
    vl = .slice Al nl cl ∧ fs = pre ++ fragsF mtu more others (f + 1) q left ∧ nl ≤ f ∧ Boxed wr gm 3 (.int .i64 mtu) ∧ Blk wr gp (cells4 q ao no co a2 n2 c2) 24 ∧ RB wr Al nl cl left ∧ nl ≤ 65535 ∧
    (0 < nl → ∀ k, ownBlk Al = some k → k < N ∧ ¬ own k ∧ k ≠ gp) ∧ RB wr Ao mo ko others ∧ (∀ k, ownBlk Ao = some k → N ≤ k ∧ ¬ F k ∧ k < wr.heap.size) ∧ RB wr ao no co q.opts ∧ no ≤ 40 ∧ (∀ k, ownBlk ao = some k → W0.heap.size ≤ k) ∧
    J pre.length F W0 ∧ Fw gp W0 wr ∧ 0 ≤ q.off ∧ q.off + nl ≤ 131070

set_option maxRecDepth 100000 in
set_option maxHeartbeats 4000000 in
theorem Frag_seq (gp gm : Nat) (p : V4P) (mtu : Int) (ao : Option Addr) (no co : Nat) (a : Option Addr) (n c : Nat) (own : Nat → Prop) (w : World) (hp : Blk w gp (cells4 p ao no co a n c) 24) (hm : Boxed w gm 3 (.int .i64 mtu)) (hro : RB w ao no co p.opts) (hr : RB w a n c p.data)
    (h1 : 68 ≤ mtu) (h2 : mtu ≤ 65535) (hno : no ≤ 40) (hn : n ≤ 65535) (hpm : gp ≠ gm) (ho1 : ¬ own gp) (ho2 : ¬ own gm) (ho3 : 0 < n → ∀ k, ownBlk a = some k → k < w.heap.size ∧ ¬ own k ∧ k ≠ gp) (ho4 : ∀ k, own k → k < w.heap.size) (hto : 0 ≤ p.off) (hto2 : p.off ≤ 65535) :
    SeqRelW Try.prog 101 #[.pointer (some ⟨gp, 0, none⟩), .pointer (some ⟨gm, 0, none⟩)] (frags4 p mtu).length (YieldF (frags4 p mtu)) own gp w := by
  obtain ⟨fs, hfs⟩ : ∃ fs, frags4 p mtu = fs := ⟨_, rfl⟩
  rw [hfs]
  have hfs2 := Lib.hid (hfs.symm.trans (show frags4 p mtu = [] ++ fragsF mtu p.mf (copiedV p.opts) (p.data.length + 1) p p.data from rfl))
  clear hfs
  intro l J Jx F0 W hW hJF hY h0
  have hgp := hp.lt
  have hgm := hm.lt
  have kp := hp.to hW
  have bm := Boxed.below hm hW
  have ro := hro.below hW
  have rr := hr.below hW
  have hws := hW.size
  have hF0 := hJF _ _ _ h0
  have hlo := hro.len
  have hlr := hr.len
  have hCo := Lib.hid (fun X (hX : RB X ao no co p.opts) => Copied_any ao no co p.opts X hX (by omega))
  have hCl := Lib.hid (fun X (hX : RB X ao no co p.opts) => Clone_any ao no co p.opts X hX (by omega))
  have e10 := kp.cell 10 (.slice a n c) rfl
  have e8 := kp.cell 8 (.bool p.mf) rfl
  have hS0 := Lib.hid (show W.drew.cell? ⟨gp, 10, none⟩ = some (.slice a n c) ∧ W.drew.cell? ⟨gp, 8, none⟩ = some (.bool p.mf) from ⟨e10, e8⟩)
  have kd := Lib.hid kp.drew
  replace hY := Lib.hid hY
  replace hJF := Lib.hid hJF
  replace h0 := Lib.hid h0
  clear hp hm hro hr hW e10 e8
  refine callsIn_of_wp Try.func101 rfl trivial ?_ rfl
  simp only [Try.ntmps101, List.size_toArray, List.length_cons, List.length_nil, Nat.reduceAdd, Nat.reduceSub, Array.replicate_succ, Array.replicate_zero, List.push_toArray, List.append_toArray, List.nil_append, List.cons_append]
  refine wpIn_wide.2 ?_
  go_wp2
  refine wp_region_held_drew (S := fun X => X.cell? ⟨gp, 10, none⟩ = some (.slice a n c) ∧ X.cell? ⟨gp, 8, none⟩ = some (.bool p.mf)) (by kernel_rfl) hS0.out (fun hHeld => ?_)
  refine take_h (i := 0) (v := ?_) rfl rfl (by kernel_rfl) (by kernel_rfl) (by kernel_rfl) (fun _ _ _ h => h) (Or.inl ⟨by rfl, fun W hSw => ?_⟩) (by assumption) ?_
  rotate_left
  · (clear hSw; go_simp; try with_reducible rfl)
  simp only [Act.put, List.setIfInBounds_toArray, List.set_cons_zero, List.set_cons_succ]
  refine take_h (i := 1) (v := ?_) rfl rfl (by kernel_rfl) (by kernel_rfl) (by kernel_rfl) (fun _ _ _ h => h) (Or.inl ⟨by rfl, fun W hSw => ?_⟩) (by assumption) ?_
  rotate_left
  · (obtain ⟨hs0, _⟩ := hSw; go_simp; try with_reducible rfl)
  simp only [Act.put, List.setIfInBounds_toArray, List.set_cons_zero, List.set_cons_succ]
  refine take_h (i := 2) (v := ?_) rfl rfl (by kernel_rfl) (by kernel_rfl) (by kernel_rfl) (fun _ _ _ h => h) (Or.inl ⟨by rfl, fun W hSw => ?_⟩) (by assumption) ?_
  rotate_left
  · (clear hSw; go_simp; try with_reducible rfl)
  simp only [Act.put, List.setIfInBounds_toArray, List.set_cons_zero, List.set_cons_succ]
  refine take_h (i := 3) (v := ?_) rfl rfl (by kernel_rfl) (by kernel_rfl) (by kernel_rfl) (fun _ _ _ h => h) (Or.inl ⟨by rfl, fun W hSw => ?_⟩) (by assumption) ?_
  rotate_left
  · (obtain ⟨hs0, hs1⟩ := hSw; go_simp; try with_reducible rfl)
  simp only [Act.put, List.setIfInBounds_toArray, List.set_cons_zero, List.set_cons_succ]
  refine take_h (i := 4) (v := ?_) rfl rfl (by kernel_rfl) (by kernel_rfl) (by kernel_rfl) (fun _ _ _ h => h) (Or.inl ⟨by rfl, fun W hSw => ?_⟩) (by assumption) ?_
  rotate_left
  · (clear hSw; go_simp; try with_reducible rfl)
  simp only [Act.put, List.setIfInBounds_toArray, List.set_cons_zero, List.set_cons_succ]
  refine take_h (i := 5) (v := ?_) rfl rfl (by kernel_rfl) (by kernel_rfl) (by kernel_rfl) (fun _ _ _ h => h) (Or.inl ⟨by rfl, fun W hSw => ?_⟩) (by assumption) ?_
  rotate_left
  · (clear hSw; go_simp; try with_reducible rfl)
  simp only [Act.put, List.setIfInBounds_toArray, List.set_cons_zero, List.set_cons_succ]
  refine wpAnyH_done (by kernel_rfl) ?_ _
  clear hHeld hS0
  obtain ⟨Wd, hWd⟩ : ∃ Wd, W.drew = Wd := ⟨_, rfl⟩
  have hBd : Below W.heap.size W Wd := by rw [← hWd]; exact (Below.refl _ W).drew
  have kpd : Blk Wd gp (cells4 p ao no co a n c) 24 := hWd ▸ kd.out
  have rod := Lib.hid (ro.below hBd)
  rw [hWd]
  have e9 := kpd.cell 9 (.slice ao no co) rfl
  replace hBd := Lib.hid hBd
  replace kpd := Lib.hid kpd
  replace kp := Lib.hid kp
  replace bm := Lib.hid bm
  replace rr := Lib.hid rr
  replace kd := 0
  clear hWd ro
  go_wp2_with (first
    | (go_at_call 18; refine (hCo.out _ rod.out).mono ?_; rintro e w1 ⟨A1, n1, c1, rfl, ho1', hB1⟩; have k1 := kpd.out.to hB1; have e91 := k1.cell 9 (.slice ao no co) rfl; have ro1 := Lib.hid (rod.out.below hB1); replace k1 := Lib.hid k1; replace ho1' := Lib.hid ho1'; have hb1 := Lib.hid (hBd.out.trans (hB1.mono hBd.out.size)); replace hB1 := 0; replace kpd := 0; clear e9)
    | (go_at_call 53; refine (hCl.out _ ro1.out).mono ?_; rintro e w2 ⟨A2, c2, rfl, ho2', hB2⟩; have k2 := k1.out.to hB2; have e92 := k2.cell 9 (.slice ao no co) rfl; have f92 := k2.frz 9; have oo2 := ho1'.out.below hB2; have hb2 := hb1.out.trans (hB2.mono hb1.out.size); have hn2 := ho1'.out.rb.len; have hbn := hb1.out.size; clear e91)
    | fail)
  have nb : ∀ (X : World) (q : V4P) (x1 : Option Addr) (x2 x3 : Nat) (y1 : Option Addr) (y2 y3 : Nat), Blk X gp (cells4 q x1 x2 x3 y1 y2 y3) 24 → ∀ j x, X.cell? ⟨gp, j, none⟩ ≠ some (.int .u8 x) := fun X q x1 x2 x3 y1 y2 y3 h => h.nobytes (fun u hu x => by simp at hu; rcases hu with rfl | rfl | rfl | rfl | rfl | rfl | rfl | rfl | rfl | rfl | rfl <;> simp)
  have nb2 := nb _ _ _ _ _ _ _ _ k2
  have nbW := nb _ _ _ _ _ _ _ _ kp.out
  have k3 : Blk (w2.setCell ⟨gp, 9, none⟩ (.slice A2 no c2)) gp (cells4 p A2 no c2 a n c) 24 := by simpa using k2.set 9 (.slice A2 no c2)
  have bm3 := boxed_farC (Boxed.below bm.out hb2) (B' := gp) (fun e => hpm e.symm) 9 (.slice A2 no c2)
  have rr3 := (rr.out.below hb2).farN nb2 9 (.slice A2 no c2)
  have oo3 := oo2.rb.farN nb2 9 (.slice A2 no c2)
  have ro3 := ho2'.rb.farN nb2 9 (.slice A2 no c2)
  have fw3 : Fw gp W (w2.setCell ⟨gp, 9, none⟩ (.slice A2 no c2)) := ⟨(KeepX.of_below (own := fun k => k = gp) hb2 (Nat.le_refl _)).setCell (p := ⟨gp, 9, none⟩) (.inl rfl) _, nbW⟩
  have hFo : ∀ k, ownBlk A1 = some k → w.heap.size ≤ k ∧ ¬ F0 k ∧ k < (w2.setCell ⟨gp, 9, none⟩ (.slice A2 no c2)).heap.size := fun k hk => by have h1 := ho1'.out.blk hk; have h2 := hBd.out.size; have h3 := hB2.size; exact ⟨by omega, fun h => by have := (hF0 k h).2; omega, by simp; omega⟩
  have hFa : ∀ k, ownBlk A2 = some k → W.heap.size ≤ k := fun k hk => by have h1 := (ho2'.blk hk).1; omega
  have hinv : FrInv gp gm mtu own w.heap.size p.mf A1 n1 c1 (copiedV p.opts) J fs (.slice a n c) (w2.setCell ⟨gp, 9, none⟩ (.slice A2 no c2)) :=
    ⟨p.data.length, p, p.data, [], F0, W, a, n, c, A2, no, c2, a, n, c, rfl, hfs2.out, by omega, bm3, k3, rr3, hn, ho3, oo3, hFo, ro3, hno, hFa, h0.out, fw3, hto, by omega⟩
  have hcl := copied_len (bs := p.opts) (by omega)
  obtain ⟨others, hot⟩ : ∃ o, copiedV p.opts = o := ⟨_, rfl⟩
  obtain ⟨more, hmo⟩ : ∃ b, p.mf = b := ⟨_, rfl⟩
  rw [hot, hmo] at hinv
  rw [hmo]
  rw [hot] at hcl hn2
  obtain ⟨w3, hw3⟩ : ∃ w3, w2.setCell ⟨gp, 9, none⟩ (.slice A2 no c2) = w3 := ⟨_, rfl⟩
  rw [hw3] at hinv ⊢
  replace hCl := Lib.hid (fun X A m k l (h : RB X A m k l) (hm : m ≤ 100000) => Clone_any A m k l X h (by omega))
  clear hw3 hot hmo hfs2 hFa hFo fw3 ro3 oo3 rr3 bm3 k3 nbW nb2 e92 f92 oo2 hb2 ho2' k2 hF0 hlo hlr kp bm rr rod hCo hBd ho1' hb1 ro1 k1 h0
  go_loopw [4, 7] (fun vl _ wr => FrInv gp gm mtu own w.heap.size more A1 n1 c1 others J fs vl wr) (fun vl _ _ => match vl with | .slice _ n _ => n | _ => 0)
  case atStart => exact hinv
  case round =>
    clear hinv
    obtain ⟨f, q, left, pre, F, W0, Al, nl, cl, ao, no', co', a2, n2, c2', rfl, hfs, hf, bm4, k4, rl, hnl, hAl, rA, hAo, ro4, hno4, hao, hJ, hfw, hq0, hq1⟩ := hrel
    have hll := rl.len
    have hol := ro4.len
    have hfit := fit4_le (head := 20 + no') (left := nl) (mtu := mtu) (by omega) h1
    have hS0 := Lib.hid (show wr.drew.cell? ⟨gm, 0, none⟩ = some (.int .i64 mtu) ∧ wr.drew.rangeAt gp 0 (cells4 q ao no' co' a2 n2 c2').toList ∧ Below wr.heap.size wr wr.drew from ⟨bm4.cell, fun j v hj => by rw [Nat.zero_add]; exact k4.cell j v (by rw [← Array.getElem?_toList]; exact hj), (Below.refl _ _).drew⟩)
    have hHd := Lib.hid (fun X => Head4_any q ao no' co' a2 n2 c2' X (by omega))
    have hFt := Lib.hid (fun X => Fit4_any (20 + no') nl mtu X (by omega) (by omega) h1 h2)
    have hto := Lib.hid (fun X X' (h : X.cell? ⟨gm, 0, none⟩ = some (.int .i64 mtu) ∧ X.rangeAt gp 0 (cells4 q ao no' co' a2 n2 c2').toList ∧ Below wr.heap.size wr X) (hb : Below X.heap.size X X') => show X'.cell? ⟨gm, 0, none⟩ = some (.int .i64 mtu) ∧ X'.rangeAt gp 0 (cells4 q ao no' co' a2 n2 c2').toList ∧ Below wr.heap.size wr X' from
      have hb' := h.2.2.trans (hb.mono h.2.2.size)
      ⟨(Boxed.below bm4 hb').cell, fun j v hj => by rw [Nat.zero_add]; exact (k4.to hb').cell j v (by rw [← Array.getElem?_toList]; exact hj), hb'⟩)
    have hi := Lib.hid (show (Try.prog.info? 24).map (·.size) = some (cells4 q ao no' co' a2 n2 c2').toList.length from info_v4)
    go_wp2
    refine wp_region_held_drew (S := fun X => X.cell? ⟨gm, 0, none⟩ = some (.int .i64 mtu) ∧ X.rangeAt gp 0 (cells4 q ao no' co' a2 n2 c2').toList ∧ Below wr.heap.size wr X) (by kernel_rfl) hS0.out (fun hHeld => ?_)
    refine take_h (i := 0) rfl rfl (by kernel_rfl) (by kernel_rfl) (by kernel_rfl) (fun _ _ _ h => h) (yieldsIf_load_mid (by rfl) 24 (.tmp 1) rfl _ _ rfl (cells4 q ao no' co' a2 n2 c2').toList _ (fun X hX => hX.2.1) Try.underlying24 rfl hi.out) (by assumption) ?_
    simp only [Act.put, List.setIfInBounds_toArray, List.set_cons_zero, List.set_cons_succ]
    refine take_h (i := 2) (v := ?_) rfl rfl (by kernel_rfl) (by kernel_rfl) (by kernel_rfl) (fun _ _ _ h => h) (Or.inl ⟨by rfl, fun W hSw => ?_⟩) (by assumption) ?_
    rotate_left
    · (clear hSw; go_simp; try with_reducible rfl)
    simp only [Act.put, List.setIfInBounds_toArray, List.set_cons_zero, List.set_cons_succ]
    refine take_h (i := 3) (v := ?_) rfl rfl (by kernel_rfl) (by kernel_rfl) (by kernel_rfl) (fun _ _ _ h => h) (Or.inl ⟨by rfl, fun W hSw => ?_⟩) (by assumption) ?_
    rotate_left
    · (clear hSw; go_simp; try with_reducible rfl)
    simp only [Act.put, List.setIfInBounds_toArray, List.set_cons_zero, List.set_cons_succ]
    refine take_h (i := 4) (v := ?_) rfl rfl (by kernel_rfl) (by kernel_rfl) (by kernel_rfl) (fun _ _ _ h => h) (Or.inl ⟨by rfl, fun W hSw => ?_⟩) (by assumption) ?_
    rotate_left
    · (obtain ⟨hs0, _⟩ := hSw; go_simp; try with_reducible rfl)
    simp only [Act.put, List.setIfInBounds_toArray, List.set_cons_zero, List.set_cons_succ]
    refine step_h (i := 1) rfl rfl (by kernel_rfl) (fun K hK => ?_)
    go_simp
    refine Calls.mono (hHd.out _) ?_
    rintro e w4 ⟨rfl, hB4⟩
    have hS4 := hto.out _ w4 hHeld hB4
    clear hB4
    go_wp2_with fail
    refine hK.out _ _ hS4 (fun hHeld => ?_)
    clear hK K
    try simp only [Act.put, List.setIfInBounds_toArray, List.set_cons_zero, List.set_cons_succ]
    refine step_h (i := 5) rfl rfl (by kernel_rfl) (fun K hK => ?_)
    go_simp
    refine Calls.mono (hFt.out _) ?_
    rintro e w5 ⟨rfl, rfl⟩
    go_wp2_with fail
    refine hK.out _ _ hS4 (fun hHeld => ?_)
    clear hK K
    try simp only [Act.put, List.setIfInBounds_toArray, List.set_cons_zero, List.set_cons_succ]
    refine take_h (i := 6) (v := ?_) rfl rfl (by kernel_rfl) (by kernel_rfl) (by kernel_rfl) (fun _ _ _ h => h) (Or.inl ⟨by rfl, fun W hSw => ?_⟩) (by assumption) ?_
    rotate_left
    · (clear hSw; go_simp; try with_reducible rfl)
    simp only [Act.put, List.setIfInBounds_toArray, List.set_cons_zero, List.set_cons_succ]
    refine wpAnyH_done (by kernel_rfl) ?_ _
    obtain ⟨m, hmf⟩ : ∃ m, fit4 (20 + no') nl mtu = m := ⟨_, rfl⟩
    rw [hmf] at hfit ⊢
    have hb4 := hS4.2.2
    have hz4 := hb4.size
    have k44 := Lib.hid (k4.to hb4)
    have bm44 := Lib.hid (Boxed.below bm4 hb4)
    have rl4 := Lib.hid (rl.below hb4)
    have rA4 := Lib.hid (rA.below hb4)
    have ro44 := Lib.hid (ro4.below hb4)
    have fw4 := Lib.hid (hfw.below hb4)
    have rf4 := Lib.hid (rl4.out.first_ (show m ≤ nl from hfit.1))
    have hFR : frag1 mtu more q left = { q with mf := more || decide (m < nl), data := left.take m } := by unfold frag1; rw [hol, hll, hmf]
    have hnc := rl.nc
    have hcm := rl.cm
    unfold maxLen at hcm
    have hml : left.take m = left.take m := rfl
    have hmn := hfit.1
    have hmi : (m : Int) ≤ cl := by omega
    have hmi2 : (m : Int) ≤ nl := by omega
    replace hfw := 0
    replace bm4 := 0
    replace k4 := 0
    replace rl := 0
    replace rA := 0
    replace ro4 := 0
    replace hFt := 0
    replace hHd := 0
    replace hto := 0
    replace hS0 := 0
    replace hmf := Lib.hid hmf
    clear hHeld hS4 hb4 hml
    rw [show fragsF mtu more others (f + 1) q left = if m = nl then [frag1 mtu more q left] else frag1 mtu more q left :: fragsF mtu more others f { frag1 mtu more q left with off := q.off + m, opts := others } (left.drop m) by rw [← hmf.out, ← hol, ← hll]; rfl, hFR] at hfs
    by_cases hmn2 : m = nl
    · rw [if_pos hmn2] at hfs
      have hdec : decide (m < nl) = false := decide_eq_false (by omega)
      rw [hdec] at hfs
      have hlt := Lib.hid (show pre.length < fs.length by rw [hfs]; simp)
      have hme := Lib.hid (show fs.length = pre.length + 1 by rw [hfs]; simp)
      have hel := Lib.hid (show fs[pre.length]? = some { q with mf := more || false, data := left.take m } by rw [hfs, List.getElem?_append_right (Nat.le_refl _)]; simp)
      clear hfs hFR
      replace hmn2 := Lib.hid hmn2
      cases more
      · rw [Bool.false_or] at hel
        go_upto_region 5 with (first
          | (go_at_call 53; refine (hCl.out _ _ _ _ _ rf4.out (by omega)).mono ?_; rintro e w6 ⟨A5, c5, rfl, ho5, hB6⟩; have k6 := k44.out.to hB6; have c10 := k6.cell 10 _ rfl; have f10 := k6.frz 10; have c8 := (k6.set 10 (.slice A5 m c5)).cell 8 (.bool q.mf) rfl; have f8 := (k6.set 10 (.slice A5 m c5)).frz 8)
          | fail)
        obtain ⟨w7, hw7⟩ : ∃ w7, (w6.setCell ⟨gp, 10, none⟩ (.slice A5 m c5)).setCell ⟨gp, 8, none⟩ (.bool (false)) = w7 := ⟨_, rfl⟩
        obtain ⟨x, hx⟩ : ∃ x : V4P, { q with mf := (false), data := left.take m } = x := ⟨_, rfl⟩
        have k7 : Blk w7 gp (cells4 x ao no' co' A5 m c5) 24 := by rw [← hw7, ← hx]; simpa using (k6.set 10 (.slice A5 m c5)).set 8 (.bool (false))
        have nb6 := nb _ _ _ _ _ _ _ _ k6
        have nb6' := nb _ { q with data := left.take m } _ _ _ _ _ _ (show Blk (w6.setCell ⟨gp, 10, none⟩ (.slice A5 m c5)) gp (cells4 { q with data := left.take m } ao no' co' A5 m c5) 24 by simpa using k6.set 10 (.slice A5 m c5))
        have rl7 := ((rl4.out.below hB6).farN nb6 10 (.slice A5 m c5)).farN nb6' 8 (.bool (false))
        have rA7 := ((rA4.out.below hB6).farN nb6 10 (.slice A5 m c5)).farN nb6' 8 (.bool (false))
        have ro7 := ((ro44.out.below hB6).farN nb6 10 (.slice A5 m c5)).farN nb6' 8 (.bool (false))
        have r57 := (ho5.rb.farN nb6 10 (.slice A5 m c5)).farN nb6' 8 (.bool (false))
        have bm7 := boxed_farC (boxed_farC (Boxed.below bm44.out hB6) (B' := gp) (fun e => hpm e.symm) 10 (.slice A5 m c5)) (B' := gp) (fun e => hpm e.symm) 8 (.bool (false))
        have fw7 := ((fw4.out.below hB6).set 10 (.slice A5 m c5)).set 8 (.bool (false))
        have hfr5 : ∀ k, ownBlk A5 = some k → W0.heap.size ≤ k := fun k hk => by have h1 := (ho5.blk hk).1; have h2 := fw4.out.1.size; omega
        rw [hw7] at rl7 rA7 ro7 r57 bm7 fw7 ⊢
        obtain ⟨fn, tmps, assign, body, hy, hR⟩ := hY.out pre.length F #[.agg (cells4 x ao no' co' A5 m c5)] W0 w7 hlt.out hJ fw7 ⟨⟨x, ao, no', co', A5, m, c5⟩, hx ▸ hel.out, rfl, fun s hs => by
          rcases List.mem_cons.1 hs with rfl | hs
          · exact ⟨by rw [← hx]; exact ro7, fun _ k hk => hao k hk⟩
          · rw [List.mem_singleton.1 hs]; exact ⟨by rw [← hx]; exact r57, fun _ k hk => hfr5 k hk⟩⟩
        have hsz7 : wr.heap.size ≤ w7.heap.size := by rw [← hw7]; have := hB6.size; simp; omega
        have g0 := k7.cell 0 _ rfl
        have g1 := k7.cell 1 _ rfl
        have g2 := k7.cell 2 _ rfl
        have g3 := k7.cell 3 _ rfl
        have g4 := k7.cell 4 _ rfl
        have g5 := k7.cell 5 _ rfl
        have g6 := k7.cell 6 _ rfl
        have g7 := k7.cell 7 _ rfl
        have g8 := k7.cell 8 _ rfl
        have g9 := k7.cell 9 _ rfl
        have g10 := k7.cell 10 _ rfl
        replace k7 := Lib.hid k7
        replace rl7 := Lib.hid rl7
        replace rA7 := Lib.hid rA7
        replace bm7 := Lib.hid bm7
        replace hx := Lib.hid hx
        clear c10 f10 c8 f8 k6 nb6 nb6' ro7 r57 fw7 hfr5 hw7 ho5 hB6
        refine (wpIn_wide (n := 0)).1 ?_
        gi_wp2
        refine ⟨rfl, hR.mono ?_⟩
        rintro e W3 (⟨rfl, ⟨F', hJ4, hF'⟩, hk4⟩ | ⟨rfl, hJx4⟩)
        rotate_left
        · clear hR hy
          gi_wp2
          go_wp2
          exact bodyPost_ret (v := .tuple #[]) (by simp [results, Try.results101, go_sem]) rfl ⟨⟨_, rfl⟩, .inr ⟨_, hlt.out, hJx4⟩⟩
        have hFgp : ¬ (own gp ∨ F gp) := by rintro (h | h); exact ho1 h; have := (hJF.out _ _ _ hJ gp h).1; omega
        have k73 : Blk W3 gp (cells4 x ao no' co' A5 m c5) 24 := ⟨(hk4.keep gp k7.out.lt hFgp).trans k7.out.at_⟩
        clear hR hy g0 g1 g2 g3 g4 g5 g6 g7 g8 g9 g10
        have hdn : ((m : Int) == (nl : Int)) = true := by have := hmn2.out; exact beq_iff_eq.2 (by omega)
        have fin := Lib.hid (show (∃ F W0, J fs.length F W0 ∧ Fw gp W0 W3) from ⟨F', W3, by rw [hme.out]; exact hJ4, Fw.refl (nb _ _ _ _ _ _ _ _ k73)⟩)
        clear hk4 hJ4
        gi_wp2
        go_wp2
        exact bodyPost_ret (v := .tuple #[]) (by simp [results, Try.results101, go_sem]) rfl ⟨⟨_, rfl⟩, .inl fin.out⟩
      · rw [Bool.true_or] at hel
        go_upto_region 5 with (first
          | (go_at_call 53; refine (hCl.out _ _ _ _ _ rf4.out (by omega)).mono ?_; rintro e w6 ⟨A5, c5, rfl, ho5, hB6⟩; have k6 := k44.out.to hB6; have c10 := k6.cell 10 _ rfl; have f10 := k6.frz 10; have c8 := (k6.set 10 (.slice A5 m c5)).cell 8 (.bool q.mf) rfl; have f8 := (k6.set 10 (.slice A5 m c5)).frz 8)
          | fail)
        obtain ⟨w7, hw7⟩ : ∃ w7, (w6.setCell ⟨gp, 10, none⟩ (.slice A5 m c5)).setCell ⟨gp, 8, none⟩ (.bool (true)) = w7 := ⟨_, rfl⟩
        obtain ⟨x, hx⟩ : ∃ x : V4P, { q with mf := (true), data := left.take m } = x := ⟨_, rfl⟩
        have k7 : Blk w7 gp (cells4 x ao no' co' A5 m c5) 24 := by rw [← hw7, ← hx]; simpa using (k6.set 10 (.slice A5 m c5)).set 8 (.bool (true))
        have nb6 := nb _ _ _ _ _ _ _ _ k6
        have nb6' := nb _ { q with data := left.take m } _ _ _ _ _ _ (show Blk (w6.setCell ⟨gp, 10, none⟩ (.slice A5 m c5)) gp (cells4 { q with data := left.take m } ao no' co' A5 m c5) 24 by simpa using k6.set 10 (.slice A5 m c5))
        have rl7 := ((rl4.out.below hB6).farN nb6 10 (.slice A5 m c5)).farN nb6' 8 (.bool (true))
        have rA7 := ((rA4.out.below hB6).farN nb6 10 (.slice A5 m c5)).farN nb6' 8 (.bool (true))
        have ro7 := ((ro44.out.below hB6).farN nb6 10 (.slice A5 m c5)).farN nb6' 8 (.bool (true))
        have r57 := (ho5.rb.farN nb6 10 (.slice A5 m c5)).farN nb6' 8 (.bool (true))
        have bm7 := boxed_farC (boxed_farC (Boxed.below bm44.out hB6) (B' := gp) (fun e => hpm e.symm) 10 (.slice A5 m c5)) (B' := gp) (fun e => hpm e.symm) 8 (.bool (true))
        have fw7 := ((fw4.out.below hB6).set 10 (.slice A5 m c5)).set 8 (.bool (true))
        have hfr5 : ∀ k, ownBlk A5 = some k → W0.heap.size ≤ k := fun k hk => by have h1 := (ho5.blk hk).1; have h2 := fw4.out.1.size; omega
        rw [hw7] at rl7 rA7 ro7 r57 bm7 fw7 ⊢
        obtain ⟨fn, tmps, assign, body, hy, hR⟩ := hY.out pre.length F #[.agg (cells4 x ao no' co' A5 m c5)] W0 w7 hlt.out hJ fw7 ⟨⟨x, ao, no', co', A5, m, c5⟩, hx ▸ hel.out, rfl, fun s hs => by
          rcases List.mem_cons.1 hs with rfl | hs
          · exact ⟨by rw [← hx]; exact ro7, fun _ k hk => hao k hk⟩
          · rw [List.mem_singleton.1 hs]; exact ⟨by rw [← hx]; exact r57, fun _ k hk => hfr5 k hk⟩⟩
        have hsz7 : wr.heap.size ≤ w7.heap.size := by rw [← hw7]; have := hB6.size; simp; omega
        have g0 := k7.cell 0 _ rfl
        have g1 := k7.cell 1 _ rfl
        have g2 := k7.cell 2 _ rfl
        have g3 := k7.cell 3 _ rfl
        have g4 := k7.cell 4 _ rfl
        have g5 := k7.cell 5 _ rfl
        have g6 := k7.cell 6 _ rfl
        have g7 := k7.cell 7 _ rfl
        have g8 := k7.cell 8 _ rfl
        have g9 := k7.cell 9 _ rfl
        have g10 := k7.cell 10 _ rfl
        replace k7 := Lib.hid k7
        replace rl7 := Lib.hid rl7
        replace rA7 := Lib.hid rA7
        replace bm7 := Lib.hid bm7
        replace hx := Lib.hid hx
        clear c10 f10 c8 f8 k6 nb6 nb6' ro7 r57 fw7 hfr5 hw7 ho5 hB6
        refine (wpIn_wide (n := 0)).1 ?_
        gi_wp2
        refine ⟨rfl, hR.mono ?_⟩
        rintro e W3 (⟨rfl, ⟨F', hJ4, hF'⟩, hk4⟩ | ⟨rfl, hJx4⟩)
        rotate_left
        · clear hR hy
          gi_wp2
          go_wp2
          exact bodyPost_ret (v := .tuple #[]) (by simp [results, Try.results101, go_sem]) rfl ⟨⟨_, rfl⟩, .inr ⟨_, hlt.out, hJx4⟩⟩
        have hFgp : ¬ (own gp ∨ F gp) := by rintro (h | h); exact ho1 h; have := (hJF.out _ _ _ hJ gp h).1; omega
        have k73 : Blk W3 gp (cells4 x ao no' co' A5 m c5) 24 := ⟨(hk4.keep gp k7.out.lt hFgp).trans k7.out.at_⟩
        clear hR hy g0 g1 g2 g3 g4 g5 g6 g7 g8 g9 g10
        have hdn : ((m : Int) == (nl : Int)) = true := by have := hmn2.out; exact beq_iff_eq.2 (by omega)
        have fin := Lib.hid (show (∃ F W0, J fs.length F W0 ∧ Fw gp W0 W3) from ⟨F', W3, by rw [hme.out]; exact hJ4, Fw.refl (nb _ _ _ _ _ _ _ _ k73)⟩)
        clear hk4 hJ4
        gi_wp2
        go_wp2
        exact bodyPost_ret (v := .tuple #[]) (by simp [results, Try.results101, go_sem]) rfl ⟨⟨_, rfl⟩, .inl fin.out⟩
    · rw [if_neg hmn2] at hfs
      have hm8 := hfit.2 hmn2
      have hdec : decide (m < nl) = true := decide_eq_true (by omega)
      rw [hdec, Bool.or_true] at hfs
      obtain ⟨f, rfl⟩ : ∃ g, f = g + 1 := ⟨f - 1, by omega⟩
      obtain ⟨b, off, rfl, hlb, _⟩ := rl4.out.mem (by omega)
      have hlt := Lib.hid (show pre.length < fs.length by rw [hfs]; simp)
      have hel := Lib.hid (show fs[pre.length]? = some { q with mf := true, data := left.take m } by rw [hfs, List.getElem?_append_right (Nat.le_refl _)]; simp)
      have hnx := Lib.hid (show fs = (pre ++ [{ q with mf := true, data := left.take m }]) ++ fragsF mtu more others (f + 1) { q with mf := true, data := left.take m, off := q.off + m, opts := others } (left.drop m) by rw [hfs]; simp)
      have hne : ¬ cl = m := by omega
      clear hfs hFR
      cases more
      · have hst : true = true := rfl
        go_upto_region 5 with (first
          | (go_at_call 53; refine (hCl.out _ _ _ _ _ rf4.out (by omega)).mono ?_; rintro e w6 ⟨A5, c5, rfl, ho5, hB6⟩; have k6 := k44.out.to hB6; have c10 := k6.cell 10 _ rfl; have f10 := k6.frz 10; have c8 := (k6.set 10 (.slice A5 m c5)).cell 8 (.bool q.mf) rfl; have f8 := (k6.set 10 (.slice A5 m c5)).frz 8)
          | fail)
        obtain ⟨w7, hw7⟩ : ∃ w7, (w6.setCell ⟨gp, 10, none⟩ (.slice A5 m c5)).setCell ⟨gp, 8, none⟩ (.bool (true)) = w7 := ⟨_, rfl⟩
        obtain ⟨x, hx⟩ : ∃ x : V4P, { q with mf := (true), data := left.take m } = x := ⟨_, rfl⟩
        have k7 : Blk w7 gp (cells4 x ao no' co' A5 m c5) 24 := by rw [← hw7, ← hx]; simpa using (k6.set 10 (.slice A5 m c5)).set 8 (.bool (true))
        have nb6 := nb _ _ _ _ _ _ _ _ k6
        have nb6' := nb _ { q with data := left.take m } _ _ _ _ _ _ (show Blk (w6.setCell ⟨gp, 10, none⟩ (.slice A5 m c5)) gp (cells4 { q with data := left.take m } ao no' co' A5 m c5) 24 by simpa using k6.set 10 (.slice A5 m c5))
        have rl7 := ((rl4.out.below hB6).farN nb6 10 (.slice A5 m c5)).farN nb6' 8 (.bool (true))
        have rA7 := ((rA4.out.below hB6).farN nb6 10 (.slice A5 m c5)).farN nb6' 8 (.bool (true))
        have ro7 := ((ro44.out.below hB6).farN nb6 10 (.slice A5 m c5)).farN nb6' 8 (.bool (true))
        have r57 := (ho5.rb.farN nb6 10 (.slice A5 m c5)).farN nb6' 8 (.bool (true))
        have bm7 := boxed_farC (boxed_farC (Boxed.below bm44.out hB6) (B' := gp) (fun e => hpm e.symm) 10 (.slice A5 m c5)) (B' := gp) (fun e => hpm e.symm) 8 (.bool (true))
        have fw7 := ((fw4.out.below hB6).set 10 (.slice A5 m c5)).set 8 (.bool (true))
        have hfr5 : ∀ k, ownBlk A5 = some k → W0.heap.size ≤ k := fun k hk => by have h1 := (ho5.blk hk).1; have h2 := fw4.out.1.size; omega
        rw [hw7] at rl7 rA7 ro7 r57 bm7 fw7 ⊢
        obtain ⟨fn, tmps, assign, body, hy, hR⟩ := hY.out pre.length F #[.agg (cells4 x ao no' co' A5 m c5)] W0 w7 hlt.out hJ fw7 ⟨⟨x, ao, no', co', A5, m, c5⟩, hx ▸ hel.out, rfl, fun s hs => by
          rcases List.mem_cons.1 hs with rfl | hs
          · exact ⟨by rw [← hx]; exact ro7, fun _ k hk => hao k hk⟩
          · rw [List.mem_singleton.1 hs]; exact ⟨by rw [← hx]; exact r57, fun _ k hk => hfr5 k hk⟩⟩
        have hsz7 : wr.heap.size ≤ w7.heap.size := by rw [← hw7]; have := hB6.size; simp; omega
        have g0 := k7.cell 0 _ rfl
        have g1 := k7.cell 1 _ rfl
        have g2 := k7.cell 2 _ rfl
        have g3 := k7.cell 3 _ rfl
        have g4 := k7.cell 4 _ rfl
        have g5 := k7.cell 5 _ rfl
        have g6 := k7.cell 6 _ rfl
        have g7 := k7.cell 7 _ rfl
        have g8 := k7.cell 8 _ rfl
        have g9 := k7.cell 9 _ rfl
        have g10 := k7.cell 10 _ rfl
        replace k7 := Lib.hid k7
        replace rl7 := Lib.hid rl7
        replace rA7 := Lib.hid rA7
        replace bm7 := Lib.hid bm7
        replace hx := Lib.hid hx
        clear c10 f10 c8 f8 k6 nb6 nb6' ro7 r57 fw7 hfr5 hw7 ho5 hB6
        refine (wpIn_wide (n := 0)).1 ?_
        gi_wp2
        refine ⟨rfl, hR.mono ?_⟩
        rintro e W3 (⟨rfl, ⟨F', hJ4, hF'⟩, hk4⟩ | ⟨rfl, hJx4⟩)
        rotate_left
        · clear hR hy
          gi_wp2
          go_wp2
          exact bodyPost_ret (v := .tuple #[]) (by simp [results, Try.results101, go_sem]) rfl ⟨⟨_, rfl⟩, .inr ⟨_, hlt.out, hJx4⟩⟩
        have hFgp : ¬ (own gp ∨ F gp) := by rintro (h | h); exact ho1 h; have := (hJF.out _ _ _ hJ gp h).1; omega
        have k73 : Blk W3 gp (cells4 x ao no' co' A5 m c5) 24 := ⟨(hk4.keep gp k7.out.lt hFgp).trans k7.out.at_⟩
        clear hR hy g0 g1 g2 g3 g4 g5 g6 g7 g8 g9 g10
        have hdn : ((m : Int) == (nl : Int)) = false := beq_eq_false_iff_ne.2 (by omega)
        have hFm : ¬ (own gm ∨ F gm) := by rintro (h | h); exact ho2 h; have := (hJF.out _ _ _ hJ gm h).1; omega
        have bm3 : Boxed W3 gm 3 (.int .i64 mtu) := (hk4.keep gm bm7.out.lt hFm).trans bm7.out
        have rl3 := RB.kx hk4 rl7.out (fun k hk => by rintro (h | h); exact (hAl (by omega) k hk).2.1 h; have h5 := (hJF.out _ _ _ hJ k h).1; have h6 := (hAl (by omega) k hk).1; omega)
        have rA3 := RB.kx hk4 rA7.out (fun k hk => by rintro (h | h); have h5 := ho4 k h; have h6 := (hAo k hk).1; omega; exact (hAo k hk).2.1 h)
        have hz7 := hk4.size
        have hAo' : ∀ k, ownBlk A1 = some k → w.heap.size ≤ k ∧ ¬ F' k ∧ k < W3.heap.size := fun k hk => by
          have h4 := (hAo k hk).2.2
          exact ⟨(hAo k hk).1, fun h => by
            rcases hF' k h with h5 | h5
            · exact (hAo k hk).2.1 h5
            · omega, by omega⟩
        have nb3 := nb _ _ _ _ _ _ _ _ k73
        have hxo := Lib.hid (show x.off = q.off by rw [← hx.out])
        have hx0 : 0 ≤ x.off := by rw [hxo.out]; exact hq0
        have hx1 : x.off + nl ≤ 131070 := by rw [hxo.out]; exact hq1
        have c2 := k73.cell 2 (.int .i64 x.off) rfl
        have f2 := k73.frz 2
        have k83 := Lib.hid (k73.set 2 (.int .i64 (x.off + (m : Int))))
        have nb4 := Lib.hid (nb (W3.setCell ⟨gp, 2, none⟩ (.int .i64 (x.off + (m : Int)))) { x with off := x.off + m } ao no' co' A5 m c5 (by simpa using k83.out))
        have rA4' := Lib.hid (rA3.farN nb3 2 (.int .i64 (x.off + (m : Int))))
        have rl4' := Lib.hid (rl3.farN nb3 2 (.int .i64 (x.off + (m : Int))))
        have bm4' := Lib.hid (boxed_farC bm3 (B' := gp) (fun e => hpm e.symm) 2 (.int .i64 (x.off + (m : Int))))
        have fw4' := Lib.hid ((Fw.refl nb3).set 2 (.int .i64 (x.off + (m : Int))))
        replace hAo' := Lib.hid hAo'
        clear hk4 rl3 rA3 bm3 nb3
        gi_wp2
        go_wp2_with (first
          | (go_at_call 53; refine (hCl.out _ _ _ _ _ rA4'.out (by omega)).mono ?_; rintro e w8 ⟨A6, c6, rfl, ho6, hB8⟩; have k8 := k83.out.to hB8; have c98 := k8.cell 9 (.slice ao no' co') rfl; have f98 := k8.frz 9)
          | fail)
        have hz8 := hB8.size
        have nb8 := nb w8 { x with off := x.off + m } ao no' co' A5 m c5 (by simpa using k8)
        have k9 : Blk (w8.setCell ⟨gp, 9, none⟩ (.slice A6 n1 c6)) gp (cells4 { x with off := x.off + m, opts := others } A6 n1 c6 A5 m c5) 24 := by simpa using k8.set 9 (.slice A6 n1 c6)
        refine ⟨⟨f, { x with off := x.off + m, opts := others }, left.drop m, pre ++ [x], F', W3, some ⟨b, off + m, none⟩, nl - m, cl - m, A6, n1, c6, A5, m, c5, rfl, (by have := hnx.out; rw [← hx.out]; exact this), by omega, boxed_farC (Boxed.below bm4'.out hB8) (B' := gp) (fun e => hpm e.symm) 9 _, k9, ((rl4'.out.below hB8).farN nb8 9 _).drop m (by omega), by omega, fun _ k hk => hAl (by omega) k hk, (rA4'.out.below hB8).farN nb8 9 _, fun k hk => ⟨(hAo'.out k hk).1, (hAo'.out k hk).2.1, by have := (hAo'.out k hk).2.2; simp at hz8 ⊢; omega⟩, ho6.rb.farN nb8 9 _, by omega, fun k hk => by have := (ho6.blk hk).1; simp at this; omega, by simpa using hJ4, (fw4'.out.below hB8).set 9 _, (by show 0 ≤ x.off + (m : Int); omega), (by show x.off + (m : Int) + ((nl - m : Nat) : Int) ≤ 131070; omega)⟩, ?_⟩
        show nl - m < nl
        omega
      · have hst : true = true := rfl
        go_upto_region 5 with (first
          | (go_at_call 53; refine (hCl.out _ _ _ _ _ rf4.out (by omega)).mono ?_; rintro e w6 ⟨A5, c5, rfl, ho5, hB6⟩; have k6 := k44.out.to hB6; have c10 := k6.cell 10 _ rfl; have f10 := k6.frz 10; have c8 := (k6.set 10 (.slice A5 m c5)).cell 8 (.bool q.mf) rfl; have f8 := (k6.set 10 (.slice A5 m c5)).frz 8)
          | fail)
        obtain ⟨w7, hw7⟩ : ∃ w7, (w6.setCell ⟨gp, 10, none⟩ (.slice A5 m c5)).setCell ⟨gp, 8, none⟩ (.bool (true)) = w7 := ⟨_, rfl⟩
        obtain ⟨x, hx⟩ : ∃ x : V4P, { q with mf := (true), data := left.take m } = x := ⟨_, rfl⟩
        have k7 : Blk w7 gp (cells4 x ao no' co' A5 m c5) 24 := by rw [← hw7, ← hx]; simpa using (k6.set 10 (.slice A5 m c5)).set 8 (.bool (true))
        have nb6 := nb _ _ _ _ _ _ _ _ k6
        have nb6' := nb _ { q with data := left.take m } _ _ _ _ _ _ (show Blk (w6.setCell ⟨gp, 10, none⟩ (.slice A5 m c5)) gp (cells4 { q with data := left.take m } ao no' co' A5 m c5) 24 by simpa using k6.set 10 (.slice A5 m c5))
        have rl7 := ((rl4.out.below hB6).farN nb6 10 (.slice A5 m c5)).farN nb6' 8 (.bool (true))
        have rA7 := ((rA4.out.below hB6).farN nb6 10 (.slice A5 m c5)).farN nb6' 8 (.bool (true))
        have ro7 := ((ro44.out.below hB6).farN nb6 10 (.slice A5 m c5)).farN nb6' 8 (.bool (true))
        have r57 := (ho5.rb.farN nb6 10 (.slice A5 m c5)).farN nb6' 8 (.bool (true))
        have bm7 := boxed_farC (boxed_farC (Boxed.below bm44.out hB6) (B' := gp) (fun e => hpm e.symm) 10 (.slice A5 m c5)) (B' := gp) (fun e => hpm e.symm) 8 (.bool (true))
        have fw7 := ((fw4.out.below hB6).set 10 (.slice A5 m c5)).set 8 (.bool (true))
        have hfr5 : ∀ k, ownBlk A5 = some k → W0.heap.size ≤ k := fun k hk => by have h1 := (ho5.blk hk).1; have h2 := fw4.out.1.size; omega
        rw [hw7] at rl7 rA7 ro7 r57 bm7 fw7 ⊢
        obtain ⟨fn, tmps, assign, body, hy, hR⟩ := hY.out pre.length F #[.agg (cells4 x ao no' co' A5 m c5)] W0 w7 hlt.out hJ fw7 ⟨⟨x, ao, no', co', A5, m, c5⟩, hx ▸ hel.out, rfl, fun s hs => by
          rcases List.mem_cons.1 hs with rfl | hs
          · exact ⟨by rw [← hx]; exact ro7, fun _ k hk => hao k hk⟩
          · rw [List.mem_singleton.1 hs]; exact ⟨by rw [← hx]; exact r57, fun _ k hk => hfr5 k hk⟩⟩
        have hsz7 : wr.heap.size ≤ w7.heap.size := by rw [← hw7]; have := hB6.size; simp; omega
        have g0 := k7.cell 0 _ rfl
        have g1 := k7.cell 1 _ rfl
        have g2 := k7.cell 2 _ rfl
        have g3 := k7.cell 3 _ rfl
        have g4 := k7.cell 4 _ rfl
        have g5 := k7.cell 5 _ rfl
        have g6 := k7.cell 6 _ rfl
        have g7 := k7.cell 7 _ rfl
        have g8 := k7.cell 8 _ rfl
        have g9 := k7.cell 9 _ rfl
        have g10 := k7.cell 10 _ rfl
        replace k7 := Lib.hid k7
        replace rl7 := Lib.hid rl7
        replace rA7 := Lib.hid rA7
        replace bm7 := Lib.hid bm7
        replace hx := Lib.hid hx
        clear c10 f10 c8 f8 k6 nb6 nb6' ro7 r57 fw7 hfr5 hw7 ho5 hB6
        refine (wpIn_wide (n := 0)).1 ?_
        gi_wp2
        refine ⟨rfl, hR.mono ?_⟩
        rintro e W3 (⟨rfl, ⟨F', hJ4, hF'⟩, hk4⟩ | ⟨rfl, hJx4⟩)
        rotate_left
        · clear hR hy
          gi_wp2
          go_wp2
          exact bodyPost_ret (v := .tuple #[]) (by simp [results, Try.results101, go_sem]) rfl ⟨⟨_, rfl⟩, .inr ⟨_, hlt.out, hJx4⟩⟩
        have hFgp : ¬ (own gp ∨ F gp) := by rintro (h | h); exact ho1 h; have := (hJF.out _ _ _ hJ gp h).1; omega
        have k73 : Blk W3 gp (cells4 x ao no' co' A5 m c5) 24 := ⟨(hk4.keep gp k7.out.lt hFgp).trans k7.out.at_⟩
        clear hR hy g0 g1 g2 g3 g4 g5 g6 g7 g8 g9 g10
        have hdn : ((m : Int) == (nl : Int)) = false := beq_eq_false_iff_ne.2 (by omega)
        have hFm : ¬ (own gm ∨ F gm) := by rintro (h | h); exact ho2 h; have := (hJF.out _ _ _ hJ gm h).1; omega
        have bm3 : Boxed W3 gm 3 (.int .i64 mtu) := (hk4.keep gm bm7.out.lt hFm).trans bm7.out
        have rl3 := RB.kx hk4 rl7.out (fun k hk => by rintro (h | h); exact (hAl (by omega) k hk).2.1 h; have h5 := (hJF.out _ _ _ hJ k h).1; have h6 := (hAl (by omega) k hk).1; omega)
        have rA3 := RB.kx hk4 rA7.out (fun k hk => by rintro (h | h); have h5 := ho4 k h; have h6 := (hAo k hk).1; omega; exact (hAo k hk).2.1 h)
        have hz7 := hk4.size
        have hAo' : ∀ k, ownBlk A1 = some k → w.heap.size ≤ k ∧ ¬ F' k ∧ k < W3.heap.size := fun k hk => by
          have h4 := (hAo k hk).2.2
          exact ⟨(hAo k hk).1, fun h => by
            rcases hF' k h with h5 | h5
            · exact (hAo k hk).2.1 h5
            · omega, by omega⟩
        have nb3 := nb _ _ _ _ _ _ _ _ k73
        have hxo := Lib.hid (show x.off = q.off by rw [← hx.out])
        have hx0 : 0 ≤ x.off := by rw [hxo.out]; exact hq0
        have hx1 : x.off + nl ≤ 131070 := by rw [hxo.out]; exact hq1
        have c2 := k73.cell 2 (.int .i64 x.off) rfl
        have f2 := k73.frz 2
        have k83 := Lib.hid (k73.set 2 (.int .i64 (x.off + (m : Int))))
        have nb4 := Lib.hid (nb (W3.setCell ⟨gp, 2, none⟩ (.int .i64 (x.off + (m : Int)))) { x with off := x.off + m } ao no' co' A5 m c5 (by simpa using k83.out))
        have rA4' := Lib.hid (rA3.farN nb3 2 (.int .i64 (x.off + (m : Int))))
        have rl4' := Lib.hid (rl3.farN nb3 2 (.int .i64 (x.off + (m : Int))))
        have bm4' := Lib.hid (boxed_farC bm3 (B' := gp) (fun e => hpm e.symm) 2 (.int .i64 (x.off + (m : Int))))
        have fw4' := Lib.hid ((Fw.refl nb3).set 2 (.int .i64 (x.off + (m : Int))))
        replace hAo' := Lib.hid hAo'
        clear hk4 rl3 rA3 bm3 nb3
        gi_wp2
        go_wp2_with (first
          | (go_at_call 53; refine (hCl.out _ _ _ _ _ rA4'.out (by omega)).mono ?_; rintro e w8 ⟨A6, c6, rfl, ho6, hB8⟩; have k8 := k83.out.to hB8; have c98 := k8.cell 9 (.slice ao no' co') rfl; have f98 := k8.frz 9)
          | fail)
        have hz8 := hB8.size
        have nb8 := nb w8 { x with off := x.off + m } ao no' co' A5 m c5 (by simpa using k8)
        have k9 : Blk (w8.setCell ⟨gp, 9, none⟩ (.slice A6 n1 c6)) gp (cells4 { x with off := x.off + m, opts := others } A6 n1 c6 A5 m c5) 24 := by simpa using k8.set 9 (.slice A6 n1 c6)
        refine ⟨⟨f, { x with off := x.off + m, opts := others }, left.drop m, pre ++ [x], F', W3, some ⟨b, off + m, none⟩, nl - m, cl - m, A6, n1, c6, A5, m, c5, rfl, (by have := hnx.out; rw [← hx.out]; exact this), by omega, boxed_farC (Boxed.below bm4'.out hB8) (B' := gp) (fun e => hpm e.symm) 9 _, k9, ((rl4'.out.below hB8).farN nb8 9 _).drop m (by omega), by omega, fun _ k hk => hAl (by omega) k hk, (rA4'.out.below hB8).farN nb8 9 _, fun k hk => ⟨(hAo'.out k hk).1, (hAo'.out k hk).2.1, by have := (hAo'.out k hk).2.2; simp at hz8 ⊢; omega⟩, ho6.rb.farN nb8 9 _, by omega, fun k hk => by have := (ho6.blk hk).1; simp at this; omega, by simpa using hJ4, (fw4'.out.below hB8).set 9 _, (by show 0 ≤ x.off + (m : Int); omega), (by show x.off + (m : Int) + ((nl - m : Nat) : Int) ≤ 131070; omega)⟩, ?_⟩
        show nl - m < nl
        omega
end Go.Proofs.Ytipigcpenmcaoaa
