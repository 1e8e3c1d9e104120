/- Captures: walk of one. -/
import Derived.Test.YtbbdkfadcafpfaaPcapOR
import Derived.StillTailTactics
import Derived.BigRegion
set_option linter.unusedVariables false
namespace Go.Proofs.Ytbbdkfadcafpfaa
open Go Go.RowKit
theorem en_PCClone (args : Array Value) (w : World) : (callFunc 55 args).run Try.prog w = .ok (.enter 55 args) w := enters Try.func55 (by kernel_rfl) (by kernel_rfl) args w

def restR (bs : List Int) : List Int := if codeO bs = 0 then bs.drop (16 + ownV bs).toNat else []
def POneOut (w : World) (A : Option Addr) (bs : List Int) (e : Ending) (w' : World) : Prop :=
  ∃ A2 m c2 A3 n3 c3, e = .returned (.tuple #[.agg (cellsQ (oneRQ bs) A2 m c2), .slice A3 n3 c3, .int .i64 (codeO bs)]) ∧ OB w' w.heap.size A2 m c2 (oneRQ bs).data ∧ RB w' A3 n3 c3 (restR bs) ∧ (0 < n3 → ∃ b o o', A = some ⟨b, o, none⟩ ∧ A3 = some ⟨b, o', none⟩) ∧ Below w.heap.size w w'
theorem POneOut.bad {w w' : World} {A : Option Addr} {bs : List Int} {k : Int} (hk : codeO bs = k) (h0 : k ≠ 0) (hb : Below w.heap.size w w') : POneOut w A bs (.returned (.tuple #[.agg zeroQc, .slice none 0 0, .int .i64 k])) w' := by
  unfold POneOut oneRQ restR
  rw [hk, if_neg h0, if_neg h0]
  exact ⟨none, 0, 0, none, 0, 0, rfl, OB.nil _ _, RB.nil _, fun h => absurd h (by omega), hb⟩

set_option maxRecDepth 100000 in
set_option maxHeartbeats 1000000 in
theorem POne_short (A : Option Addr) (n c : Nat) (bs : List Int) (w : World) (h : RB w A n c bs) (hn : n < 16) :
    Calls Try.prog 78 #[.slice A n c] w (POneOut w A bs) := by
  have hbz := Lib.hid ((Below.refl _ w).alloc (Nat.le_refl _) (.cells zeroQc 67))
  have kz := Lib.hid (Blk.new w zeroQc 67)
  have hk := Lib.hid (show codeO bs = 3 by unfold codeO; rw [h.len, if_pos hn])
  clear h
  go_enter Try.func78, Try.ntmps78
  go_wp2_with (first
    | (refine wpList_store_R rfl (.tmp 2) (.tmp 12) rfl w.heap.size zeroQc rfl rfl _ kz.out rfl rfl (one_Q zeroQ none 0 0) ?_)
    | fail)
  exact bodyPost_ret (presults_ctt Try.results78 rfl (run_load_R (Blk.mk (setRow_heap _ _ _ zeroQc _ _ kz.out.at_)) rfl)) rfl (POneOut.bad hk.out (by decide) (below_row hbz.out (Nat.le_refl _) _))

set_option maxRecDepth 100000 in
set_option maxHeartbeats 2000000 in
theorem POne_long (b off n c : Nat) (bs : List Int) (w : World) (h : RB w (some ⟨b, off, none⟩) n c bs) (hn : n ≤ 100000) (h16 : 16 ≤ n) :
    Calls Try.prog 78 #[.slice (some ⟨b, off, none⟩) n c] w (POneOut w (some ⟨b, off, none⟩) bs) := by
  have hbz := Lib.hid (((Below.refl _ w).alloc (Nat.le_refl _) (.cells zeroQc 67)).alloc (by simp) (.cells #[.int .i64 0, .int .i64 0, .int .i64 0, .int .i64 0] 79))
  have kz := Lib.hid ((Blk.new w zeroQc 67).alloc (.cells #[.int .i64 0, .int .i64 0, .int .i64 0, .int .i64 0] 79))
  have ka := Blk.new (w.alloc (.cells zeroQc 67)) #[.int .i64 0, .int .i64 0, .int .i64 0, .int .i64 0] 79
  rw [World.size_alloc] at ka
  replace ka := Lib.hid ka
  have hlen := h.len
  have hcode : codeO bs = if (n : Int) - 16 < ownV bs then 3 else if mayB (recAt bs) (ownV bs).toNat = false then 4 else 0 := by unfold codeO; rw [hlen, if_neg (by omega)]
  have hrec : recAt bs = ⟨(getV bs 0 4).1, (getV bs 4 4).1, (getV bs 12 4).1, (bs.drop 16).take (ownV bs).toNat⟩ := rfl
  have hG := Lib.hid (fun a W (hW : Below w.heap.size w W) => Get_any (some ⟨b, off, none⟩) n c bs a 4 W (h.below hW) (by omega))
  obtain ⟨hs0, hs1⟩ := pgetV4_bd h.byt 8
  obtain ⟨s, hsn⟩ := Int.eq_ofNat_of_zero_le hs0
  have how : ownV bs = (s : Int) := hsn
  have hs2 := Lib.hid (show s < 4294967296 by omega)
  rw [how, Int.toNat_natCast] at hcode
  rw [how, Int.toNat_natCast] at hrec
  obtain ⟨_, _, e', hbl, _⟩ := h.mem (by omega)
  cases e'
  have hnc := h.nc
  have hcm := Lib.hid h.cm
  replace hcode := Lib.hid hcode
  replace hrec := Lib.hid hrec
  replace how := Lib.hid how
  replace hsn := Lib.hid hsn
  replace h := Lib.hid h
  clear hs0 hs1 hlen
  go_enter Try.func78, Try.ntmps78
  go_wp2
  go_loopw [6, 13] (fun _ i wr => ∃ (k : Nat) (cs : Array Value), k ≤ 4 ∧ i = .int .i64 k ∧ Blk wr (w.heap.size + 1) cs 79 ∧ cs.size = 4 ∧ (∀ j, j < k → cs[j]? = some (.int .i64 (getV bs (4 * (j : Int)) 4).1)) ∧ Blk wr w.heap.size zeroQc 67 ∧ Below w.heap.size w wr) (fun _ i _ => 4 - (intOf i).toNat)
  case atStart => exact ⟨0, _, by omega, rfl, ka.out, rfl, fun j hj => absurd hj (by omega), kz.out, hbz.out⟩
  case round =>
    obtain ⟨k, cs, hk, rfl, hA, hsz, hall, hz, hB⟩ := hrel
    replace hall := Lib.hid hall
    by_cases hlt : k < 4
    · have e0 : cs[k]? = some cs[k] := Array.getElem?_eq_getElem (by omega)
      have c0 := hA.cell k _ e0
      have f0 := hA.frz k
      have w4 : IntKind.i64.wrap (4 * (k : Int)) = 4 * (k : Int) := by rw [IntKind.wrap_i64]; omega
      have hlti : (k : Int) < 4 := by omega
      have hA2 := Lib.hid (hA.set k (.int .i64 (getV bs (4 * (k : Int)) 4).1))
      have hz2 := Lib.hid (hz.far (B' := w.heap.size + 1) (by omega) k (.int .i64 (getV bs (4 * (k : Int)) 4).1))
      have hB2 := Lib.hid (hB.setCell (p := ⟨w.heap.size + 1, k, none⟩) (Nat.le_succ _) (.int .i64 (getV bs (4 * (k : Int)) 4).1))
      have hs4 := Lib.hid hsz
      replace hA := 0
      replace hz := 0
      replace hB := Lib.hid hB
      generalize cs[k] = vv at *
      clear e0 hsz
      go_wp2_with (first
        | (go_at_call 54; refine (hG.out _ _ hB.out).mono ?_; rintro e w1 ⟨rfl, rfl⟩)
        | fail)
      go_roundw
      case rel => exact ⟨k + 1, _, by omega, by go_num, hA2.out, by rw [Array.size_setIfInBounds]; exact hs4.out, fun j hj => by
        by_cases e : j = k
        · subst e; simp [hs4.out, hlt]
        · rw [Array.getElem?_setIfInBounds_ne (Ne.symm e)]; exact hall.out j (by omega), hz2.out, hB2.out⟩
      case measure => simp [intOf]; omega
    · obtain rfl : k = 4 := by omega
      have a0 : cs[0]? = some (.int .i64 (getV bs 0 4).1) := by simpa using hall.out 0 (by omega)
      have a1 : cs[1]? = some (.int .i64 (getV bs 4 4).1) := by simpa using hall.out 1 (by omega)
      have a2 : cs[2]? = some (.int .i64 (getV bs 8 4).1) := by simpa using hall.out 2 (by omega)
      have a3 : cs[3]? = some (.int .i64 (getV bs 12 4).1) := by simpa using hall.out 3 (by omega)
      rw [hsn.out] at a2
      have hrec1 := hrec.out
      generalize (getV bs 0 4).1 = v0 at *
      generalize (getV bs 4 4).1 = v1 at *
      generalize (getV bs 12 4).1 = v3 at *
      have c0 := hA.cell 0 _ a0
      have c1 := hA.cell 1 _ a1
      have c2 := hA.cell 2 _ a2
      have c3 := hA.cell 3 _ a3
      clear a0 a1 a2 a3 hsz
      replace hA := Lib.hid hA
      replace hz := Lib.hid hz
      replace hB := Lib.hid hB
      replace hrec := 0
      replace hall := 0
      have hd16 := h.out.drop_any 16 (by omega)
      obtain ⟨A1, hif1⟩ : ∃ A1, (if c = 16 then some (⟨b, off, none⟩ : Addr) else some ⟨b, off + 16, none⟩) = A1 := ⟨_, rfl⟩
      have hA1 : ∃ o', A1 = some ⟨b, o', none⟩ := by rw [← hif1]; split; exact ⟨_, rfl⟩; exact ⟨_, rfl⟩
      rw [hif1] at hd16
      have i16 : (16 : Int) ≤ n := by omega
      have i16c : (16 : Int) ≤ c := by omega
      have hnci : (n : Int) ≤ c := by omega
      have hn16 : ((n - 16 : Nat) : Int) = (n : Int) - 16 := by omega
      by_cases hsz : (n : Int) - 16 < s
      · have hk3 := Lib.hid (hcode.out.trans (if_pos hsz))
        have hsz2 : ((n - 16 : Nat) : Int) < s := by omega
        replace hd16 := 0
        clear hrec1
        go_wp2_with (first
          | (refine wpList_store_R rfl (.tmp 2) (.tmp 34) rfl w.heap.size zeroQc rfl rfl _ hz.out rfl rfl (one_Q zeroQ none 0 0) ?_)
          | fail)
        exact bodyPost_ret (presults_ctt Try.results78 rfl (run_load_R (Blk.mk (setRow_heap _ _ _ zeroQc _ _ hz.out.at_)) rfl)) rfl (POneOut.bad hk3.out (by decide) (below_row hB.out (Nat.le_refl _) _))
      · have hsz2 : ¬ ((n - 16 : Nat) : Int) < s := by omega
        have hcode2 := Lib.hid (hcode.out.trans (if_neg hsz))
        have hfirst := hd16.first_ (show s ≤ n - 16 by omega)
        have hdrop := Lib.hid (show RB w (if c - 16 = s then A1 else (A1.map fun a => ⟨a.block, a.off + s, none⟩)) (n - 16 - s) (c - 16 - s) ((bs.drop 16).drop s) from by
          obtain ⟨o', rfl⟩ := hA1
          have := hd16.drop_any s (by omega)
          by_cases hcs : c - 16 = s
          · rw [if_pos hcs] at this ⊢; exact this
          · rw [if_neg hcs] at this ⊢; exact this)
        obtain ⟨d, hdd⟩ : ∃ d, (bs.drop 16).take s = d := ⟨_, rfl⟩
        rw [hdd] at hfirst hrec1
        have hD := Lib.hid (fun W (hW : Below w.heap.size w W) => hfirst.below hW)
        have hrec2 := Lib.hid hrec1
        have hsc : s ≤ c - 16 := by omega
        have hsci : (s : Int) ≤ ((c - 16 : Nat) : Int) := by omega
        have hsl : s ≤ 100000 := by omega
        have hck := Lib.hid (fun A c W => PMay_any (⟨v0, v1, v3, d⟩ : QP) A s c W (by omega))
        obtain ⟨o1, rfl⟩ := hA1
        replace hrec1 := 0
        replace hdd := 0
        replace hd16 := 0
        replace hfirst := 0
        have hzl := Lib.hid hz.out.lt
        go_wp2
        have hT8 := Lib.hid (show 5 ≠ 67 from by decide)
        have hMk := Lib.hid (show MkH wr wr.heap.size 67 (fun _ => True) (fun cs W => ∃ A c, cs = cellsQ ⟨v0, v1, v3, d⟩ A s c ∧ OB W wr.heap.size A s c d) from
          ⟨fun W W' h1 hb => h1, fun cs u W W' ⟨A, c, e1, e2⟩ hs => ⟨A, c, e1, e2.stay hs hT8.out⟩, Nat.le_refl _⟩)
        have hC0 := Lib.hid (show ∀ W, (Below wr.heap.size wr W ∧ (fun _ => True) W) → (W.cell? ⟨w.heap.size + 1, 0, none⟩ = some (.int .i64 v0) ∧ W.cell? ⟨w.heap.size + 1, 1, none⟩ = some (.int .i64 v1) ∧ W.cell? ⟨w.heap.size + 1, 3, none⟩ = some (.int .i64 v3)) from fun W hS =>
          ⟨(hS.1.cell (p := ⟨w.heap.size + 1, 0, none⟩) hA.out.lt).trans c0, (hS.1.cell (p := ⟨w.heap.size + 1, 1, none⟩) hA.out.lt).trans c1, (hS.1.cell (p := ⟨w.heap.size + 1, 3, none⟩) hA.out.lt).trans c3⟩)
        refine wp_region_lst (JM wr wr.heap.size 11 12 8 67 4 (fun _ => True) (fun cs W => ∃ A c, cs = cellsQ ⟨v0, v1, v3, d⟩ A s c ∧ OB W wr.heap.size A s c d)) (StayT 67) (by kernel_rfl) (by kernel_rfl) (by kernel_rfl) (StayT.refl _)
          ⟨(Below.refl _ _).drew, Nat.le_refl _, trivial, fun _ => ⟨rfl, rfl⟩, fun h => by cases h⟩ ?_
        repeat (first
          | (refine mk_callr (d := 44) (OwnR wr.heap.size s d) (by rfl) (by rfl) rfl (by rfl) (by decide) (by decide) (by decide) hMk.out (OwnR.stay hT8.out) 55 #[.slice (some ⟨b, o1, none⟩) s (c - 16)] (fun W => exec_call1 _ en_PCClone (.tmp 43) #[24] rfl rfl W) (fun W hS hH => (Clone_any _ _ _ _ W (hD.out _ (hB.out.trans (hS.1.mono hB.out.size))) (by omega)).mono fun e W' ⟨A9, c9, he, ho, hb⟩ => ⟨⟨_, he, A9, c9, rfl, ho.mono hH⟩, hb⟩) ?_)
          | (refine mk_from (d := 45) (e := 44) (OwnR wr.heap.size s d) (fun u W => ∃ F, u = .agg F ∧ F.size = 4 ∧ F.all (·.oneCell') = true ∧ (fun cs W => ∃ A c, cs = cellsQ ⟨v0, v1, v3, d⟩ A s c ∧ OB W wr.heap.size A s c d) F W) (by rfl) (by rfl) (by rfl) (show (44 : Nat) < 54 from by decide) (by rfl) rfl (by rfl) (by decide) (by decide) (by decide) hMk.out ?_ (by decide) (fun u W hu => ?_) ?_; exact fun u W W' ⟨F, e1, e2, e3, A, c, e4, e5⟩ hs => ⟨F, e1, e2, e3, A, c, e4, e5.stay hs hT8.out⟩; (obtain ⟨A9, c9, rfl, ho9⟩ := hu; refine ⟨.agg (cellsQ ⟨v0, v1, v3, d⟩ A9 s c9), ?_, _, rfl, rfl, one_Q ⟨v0, v1, v3, d⟩ A9 s c9, A9, c9, rfl, ho9⟩; go_simp; try with_reducible rfl))
          | (refine mk_alloc (by rfl) rfl (by rfl) zeroQc rfl (show (8 : Nat) < 54 from by decide) rfl (by decide) hMk.out (fun a W => ?_) ?_; (unfold execOp; simp [go_sem]))
          | (refine mk_store (e := 45) (by rfl) (by rfl) rfl (by decide) rfl hMk.out rfl (by rfl) (by rfl) info_rec ?_)
          | (refine mk_val (v := ?_) (by rfl) (by rfl) (by rfl) (by rfl) (by rfl) (by decide) (by decide) (by decide) hMk.out (fun W hS => ?_) ?_; rotate_left; (· (obtain ⟨g0, g1, g2⟩ := hC0.out W hS; clear hS; go_simp; try with_reducible rfl)); simp only [putV, List.setIfInBounds_toArray, List.set_cons_zero, List.set_cons_succ]))
        refine lstL_nil fun L a W7 hL hS hsz hds hR => ?_
        obtain ⟨hB7, _, _, _, hmade⟩ := hS
        obtain ⟨g, cs', hg9, hgH, hgb, hgs, hok⟩ := hmade (hL 11 (by decide))
        obtain ⟨A9, c9, rfl, ho9⟩ := hok (hL 12 (by decide))
        have hT := tmps_eql (T := a.tmps) [8, 44, 45] (by rw [hsz]; rfl) (by rw [hsz]; rfl) hR
        rw [List.foldl_cons, List.foldl_cons, List.foldl_cons, List.foldl_nil, hg9] at hT
        generalize a.tmps.getD 44 undef = u1 at hT
        generalize a.tmps.getD 45 undef = u2 at hT
        simp only [List.setIfInBounds_toArray, List.set_cons_zero, List.set_cons_succ] at hT
        clear hR hsz hmade hL hg9
        obtain ⟨T, D⟩ := a
        have hD' : D = [] := hds
        subst hD'
        dsimp only at hT
        subst hT
        clear hds
        have hgl := hgb.lt
        have kz7 := Lib.hid (hz.out.to hB7)
        have hB7w := Lib.hid (hB.out.trans (hB7.mono hB.out.size))
        have ho9w := Lib.hid ho9
        replace hgb := Lib.hid hgb
        replace hC0 := 0
        replace hMk := 0
        replace hA := 0
        clear c0 c1 c2 c3 hB7 ho9
        cases hmb : mayB ⟨v0, v1, v3, d⟩ s
        · rw [hmb] at hck
          have hk := Lib.hid (hcode2.out.trans (if_pos (by rw [hrec2.out]; exact hmb)))
          clear hmb
          go_wp2_with (first
            | (refine wpList_load_R rfl (.tmp 8) rfl g rfl (cellsQ ⟨v0, v1, v3, d⟩ A9 s c9) hgb.out rfl ?_)
            | (go_at_call 61; refine (hck.out _ _ _).mono ?_; rintro e w8 ⟨rfl, hB8⟩; have hb8 := Lib.hid (hB7w.out.trans (hB8.mono hB7w.out.size)); have kz8 := Lib.hid (kz7.out.to hB8); replace hB8 := 0)
            | (refine wpList_store_R rfl (.tmp 2) (.tmp 49) rfl w.heap.size zeroQc rfl rfl _ kz8.out rfl rfl (one_Q zeroQ none 0 0) ?_)
            | fail)
          exact bodyPost_ret (presults_ctt Try.results78 rfl (run_load_R (Blk.mk (setRow_heap _ _ _ zeroQc _ _ kz8.out.at_)) rfl)) rfl (POneOut.bad hk.out (by decide) (below_row hb8.out (Nat.le_refl _) _))
        · rw [hmb] at hck
          have hk := Lib.hid (hcode2.out.trans (if_neg (by rw [hrec2.out, hmb]; decide)))
          clear hmb
          go_wp2_with (first
            | (refine wpList_load_R rfl (.tmp 8) rfl g rfl (cellsQ ⟨v0, v1, v3, d⟩ A9 s c9) hgb.out rfl ?_)
            | (go_at_call 61; refine (hck.out _ _ _).mono ?_; rintro e w8 ⟨rfl, hB8⟩; have hb8 := Lib.hid (hB7w.out.trans (hB8.mono hB7w.out.size)); have kz8 := Lib.hid (kz7.out.to hB8); have gb8 := hgb.out.to hB8; have ho8 := Lib.hid (ho9w.out.below hB8); obtain ⟨r0, r1, r2, r3⟩ := qcells gb8; replace gb8 := Lib.hid gb8; replace hB8 := 0)
            | fail)
          have hnn : ((n - 16 : Nat) : Int) ≤ ((c - 16 : Nat) : Int) := by omega
          have hs9 : (s : Int) ≤ ((n - 16 : Nat) : Int) := by omega
          have hs9n : s ≤ n - 16 := by omega
          have hg2 : g ≠ w.heap.size := by have := hzl.out; omega
          obtain ⟨z0, z1, z2, z3⟩ := qcells (q := zeroQ) (A := none) (n := 0) (c := 0) kz8.out
          have f0 := kz8.out.frz 0
          have f1 := kz8.out.frz 1
          have f2 := kz8.out.frz 2
          have f3 := kz8.out.frz 3
          have kfin := Lib.hid (show Blk (set4 w8 w.heap.size (.int .i64 v0) (.int .i64 v1) (.int .i64 v3) (.slice A9 s c9)).drew w.heap.size (cellsQ ⟨v0, v1, v3, d⟩ A9 s c9) 67 from ((((kz8.out.set 0 (.int .i64 v0)).set 1 (.int .i64 v1)).set 2 (.int .i64 v3)).set 3 (.slice A9 s c9)).drew)
          have hwr := hB.out.size
          have hofin := Lib.hid ((ho8.out.set4 (B := w.heap.size) (show w.heap.size < wr.heap.size from hzl.out) (.int .i64 v0) (.int .i64 v1) (.int .i64 v3) (.slice A9 s c9)).below (Below.refl _ _).drew)
          have hbfin := Lib.hid ((below_set4 hb8.out (Nat.le_refl _) (.int .i64 v0) (.int .i64 v1) (.int .i64 v3) (.slice A9 s c9)).drew)
          replace hwr := Lib.hid hwr
          obtain ⟨A5, hif5⟩ : ∃ A5, (if c - 16 = s then (some ⟨b, o1, none⟩ : Option Addr) else some ⟨b, o1 + s, none⟩) = A5 := ⟨_, rfl⟩
          have hA5 := Lib.hid (show ∃ o', A5 = some ⟨b, o', none⟩ by rw [← hif5]; split; exact ⟨_, rfl⟩; exact ⟨_, rfl⟩)
          have hdrop2 := Lib.hid (show RB w A5 (n - 16 - s) (c - 16 - s) ((bs.drop 16).drop s) by rw [← hif5]; exact hdrop.out)
          replace hdrop := 0
          go_region
          have hfold : ((((w8.setCell ⟨w.heap.size, 0, none⟩ (.int .i64 v0)).setCell ⟨w.heap.size, 1, none⟩ (.int .i64 v1)).setCell ⟨w.heap.size, 2, none⟩ (.int .i64 v3)).setCell ⟨w.heap.size, 3, none⟩ (.slice A9 s c9)) = set4 w8 w.heap.size (.int .i64 v0) (.int .i64 v1) (.int .i64 v3) (.slice A9 s c9) := rfl
          rw [hfold]
          clear hfold z0 z1 z2 z3 f0 f1 f2 f3 r0 r1 r2 r3
          generalize (set4 w8 w.heap.size (.int .i64 v0) (.int .i64 v1) (.int .i64 v3) (.slice A9 s c9)).drew = Wf at *
          go_wp2
          refine bodyPost_ret (presults_ctt Try.results78 rfl (run_load_R kfin.out rfl)) rfl ?_
          unfold POneOut oneRQ restR
          rw [hk.out, if_pos rfl, if_pos rfl, hrec2.out, how.out]
          obtain ⟨o5, ho5⟩ := hA5.out
          refine ⟨A9, s, c9, A5, n - 16 - s, c - 16 - s, rfl, hofin.out.mono hwr.out, ?_, fun _ => ⟨b, off, o5, rfl, ho5⟩, hbfin.out⟩
          rw [show (16 + (s : Int)).toNat = 16 + s by omega, ← List.drop_drop]
          exact hdrop2.out.below hbfin.out
theorem POne_any (A : Option Addr) (n c : Nat) (bs : List Int) (w : World) (h : RB w A n c bs) (hn : n ≤ 100000) :
    Calls Try.prog 78 #[.slice A n c] w (POneOut w A bs) := by
  by_cases h16 : n < 16
  · exact POne_short A n c bs w h h16
  · obtain ⟨b, off, rfl, _, _⟩ := h.mem (by omega)
    exact POne_long b off n c bs w h hn (by omega)
end Go.Proofs.Ytbbdkfadcafpfaa
