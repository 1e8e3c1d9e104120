/- slices.AppendSeq and slices.Collect of bytes, over an iterator that hands on a known list. -/
import Derived.Test.YtmbmmpbfmakfbaaAppend
import Derived.Test.YtmbmmpbfmakfbaaBase
import Derived.BigQuiet
import Derived.Deep.QuietTactic
set_option linter.unusedVariables false
namespace Go.Proofs.Ytmbmmpbfmakfbaa
open Go.RowKit Go.Shelf
attribute [local go_sem] Oper.semAt_some

def byteE (ys : List Int) : List (Array Value) := ys.map fun y => #[.int .u8 y]
theorem byteE_inv (ys : List Int) (i : Nat) (e : Array Value) (h : (byteE ys)[i]? = some e) : i < ys.length ∧ e = #[.int .u8 (ys[i]?.getD 0)] := by
  unfold byteE at h
  rw [List.getElem?_map] at h
  cases hy : ys[i]? with
  | none => rw [hy] at h; cases h
  | some y => rw [hy] at h; cases h; exact ⟨(List.getElem?_eq_some_iff.1 hy).1, rfl⟩

/-- What AppendSeq leaves. -/
def AppPost (w : World) (base n : Nat) (bs : List Int) (e : Ending) (w' : World) : Prop := ∃ A2 c2, e = .returned (.slice A2 n c2) ∧ OB w' base A2 n c2 bs ∧ Below base w w'

set_option maxRecDepth 100000 in
set_option maxHeartbeats 1000000 in
theorem AppendSeq_any (A : Option Addr) (n c base gf : Nat) (lb : Array Value) (bs ys : List Int) (w : World) (h : OB w base A n c bs) (hbase : base ≤ w.heap.size) (hn : n ≤ 100000) (hy : ys.length ≤ 100000) (hyb : Byts ys)
    (eg : ∀ args w, (callFunc gf args).run Try.prog w = .ok (.enter gf args) w)
    (hseq : ∀ W, Below w.heap.size w W → SeqIs Try.prog gf lb (byteE ys) (fun k => k = w.heap.size ∨ ownBlk A = some k) W) :
    Calls Try.prog 79 #[.slice A n c, .func (.func gf) #[] lb] w (AppPost w base (n + ys.length) (bs ++ ys)) := by
  refine (callsIn_wide (n := 0)).1 ?_
  refine callsIn_of_wp_marks Try.func79 rfl trivial ?_ rfl
  simp only [Try.ntmps79, List.size_toArray, List.length_cons, List.length_nil, Nat.reduceAdd, Nat.reduceSub, Array.replicate_succ, Array.replicate_zero, List.push_toArray, List.append_toArray, List.nil_append, List.cons_append]
  gi_wp2
  obtain ⟨Ws, hWs⟩ : ∃ Ws, w.alloc (.cells #[.slice A n c] 24) = Ws := ⟨_, rfl⟩
  rw [hWs]
  have hsz : Ws.heap.size = w.heap.size + 1 := by rw [← hWs]; simp
  have hbx : Boxed Ws w.heap.size 24 (.slice A n c) := by rw [← hWs]; exact Boxed.new _ _ _
  have hob : OB Ws base A n c bs := by rw [← hWs]; exact h.alloc _
  have hBw : Below w.heap.size w Ws := by rw [← hWs]; exact (Below.refl _ w).alloc (Nat.le_refl _) _
  have hblk : ∀ k, ownBlk A = some k → base ≤ k ∧ k < w.heap.size := fun k hk => h.blk hk
  replace hseq := Lib.hid (hseq Ws hBw)
  replace hblk := Lib.hid hblk
  clear hWs h
  refine range_k (gf := gf) (lb := lb) rfl eg (own := fun k => k = w.heap.size ∨ ownBlk A = some k) (by rintro k (rfl | hk); omega; have := hblk.out k hk; omega) hseq.out ?hps
    (fun i W => ∃ A2 c2, Boxed W w.heap.size 24 (.slice A2 (n + i) c2) ∧ OB W base A2 (n + i) c2 (bs ++ ys.take i) ∧ (ownBlk A2 = ownBlk A ∨ ∃ k, ownBlk A2 = some k ∧ Ws.heap.size + 2 ≤ k))
    (fun _ _ _ => False) (fun i A B h hg => ?hI) (fun _ _ _ _ h _ => h) ⟨A, c, hbx, by simpa using hob, .inl rfl⟩ ?round ?done ?stop
  case hps =>
    intro e he
    obtain ⟨i, hi⟩ := List.getElem?_of_mem he
    rw [(byteE_inv _ _ _ hi).2]; rfl
  case hI =>
    obtain ⟨A2, c2, h1, h2, h3⟩ := h
    exact ⟨A2, c2, hg.boxed h1, ⟨hg.own h2.own, h2.byt⟩, h3⟩
  case round =>
    rintro l i e W he hi hk hs
    obtain ⟨h1, rfl⟩ := byteE_inv _ _ _ he
    have hy1 := hyb.get i
    have htk : ys.take (i + 1) = ys.take i ++ [ys[i]?.getD 0] := by rw [List.take_add_one, List.getElem?_eq_getElem h1]; rfl
    replace h1 := Lib.hid h1
    generalize ys[i]?.getD 0 = y at *
    replace htk := Lib.hid htk
    gi_wp2
    refine ⟨Below.refl _ _, fun W₂ hg hs2 => ?_⟩
    replace hs : Ws.heap.size + 2 ≤ W₂.heap.size := by omega
    clear hs2
    have hil : i < 100000 := by have := h1.out; omega
    obtain ⟨A2, c2, hx1, ho1, hr1⟩ := hi
    replace hx1 := hg.boxed hx1
    replace ho1 : OB W₂ base A2 (n + i) c2 (bs ++ ys.take i) := ⟨hg.own ho1.own, ho1.byt⟩
    have hlit := RB.lit W₂ 5 [y] (Byts.one hy1.1 hy1.2) (by simp)
    have hc0 := hx1.cell
    have hne := ho1.not_box hx1 (by decide)
    have hx2 := hx1.alloc (.cells #[.int .u8 y] 5)
    replace hr1 := Lib.hid hr1
    gi_wp2_with (gi_at_builtin; refine wpListIn_append_bytes _ rfl (.tmp 8) (.tmp 10) rfl rfl rfl (ho1.alloc _) hlit (by simp; omega) (by simp; omega) ?_; intro A3 c3 w3 ho3 hg3 hr3; have hx3 := hx2.kept hg3 hne; have hc3 := hx3.cell; have hf3 := hx3.frozen)
    refine ⟨(((KeepX.refl _ _ W₂).alloc hs _).grown hg3 (by simp; omega) (fun k hk' => ?_)).setCell (p := ⟨w.heap.size, 0, none⟩) (.inl (by simp)) _, A3, c3, hx3.set _, ?_, ?_⟩
    · rcases hr1.out with e | ⟨k', e, hle⟩
      · exact .inl (.inr (e ▸ hk'))
      · rw [hk'] at e; cases e; exact .inr hle
    · rw [htk.out, ← List.append_assoc]
      exact ho3.set_far (ho3.not_box hx3 (by decide)) _
    · rcases hr3 with e | e
      · rw [e]; exact hr1.out
      · exact .inr ⟨_, e, by simp; omega⟩
  case done =>
    intro W hi hk hd
    obtain ⟨A2, c2, hx1, ho1, hr1⟩ := hi
    rw [show (byteE ys).length = ys.length from by simp [byteE]] at hx1 ho1
    rw [List.take_length] at ho1
    have hc0 := hx1.cell
    gi_wp2
    refine leave_marks (N := w.heap.size) ⟨Ws.heap.size, rfl, by omega, hd, by simp, trivial⟩ fun W' hg => ?_
    refine ⟨_, results_tmp rfl _ _ _, A2, c2, rfl, ⟨hg.own ho1.own, ho1.byt⟩, hg.below hbase ?_ hbase⟩
    refine ⟨hk.os.trans hBw.os, hk.tape.trans hBw.tape, hk.output.trans hBw.output, Nat.le_trans hBw.size hk.size, fun j hj => (hk.keep j (by omega) ?_).trans (hBw.block j (by omega))⟩
    rintro (e | e)
    · omega
    · have := (hblk.out j e).1; omega
  case stop => exact fun c i W _ h => h.elim
end Go.Proofs.Ytmbmmpbfmakfbaa
/- The iterator over a number's bytes (be.digits); Collect; Put. -/
set_option linter.unusedVariables false
namespace Go.Proofs.Ytmbmmpbfmakfbaa
open Go.RowKit Go.Shelf
attribute [local go_sem] Oper.semAt_some

/-- A number's bytes, the highest first. -/
def digL (n : Int) (s : Nat) : List Int := (List.range s).map fun j => n / 256 ^ (s - 1 - j) % 256
theorem digL_length (n : Int) (s : Nat) : (digL n s).length = s := by simp [digL]
theorem digL_get (n : Int) (s j : Nat) (h : j < s) : (digL n s)[j]? = some (n / 256 ^ (s - 1 - j) % 256) := by
  unfold digL; rw [List.getElem?_map, List.getElem?_range h]; rfl
theorem digL_byts (n : Int) (s : Nat) : Byts (digL n s) := by
  intro x hx
  unfold digL at hx
  rw [List.mem_map] at hx
  obtain ⟨j, _, rfl⟩ := hx
  omega

set_option maxHeartbeats 400000 in
theorem digits_call (n s : Int) (w : World) :
    Calls Try.prog 72 #[.int .i64 n, .int .i64 s] w fun e w' => e = .returned (.func (.func 83) #[] #[.pointer (some ⟨w.heap.size + 1, 0, none⟩), .pointer (some ⟨w.heap.size, 0, none⟩)]) ∧
      (w.alloc (.cells #[.int .i64 n] 3)).alloc (.cells #[.int .i64 s] 3) = w' := by
  go_enter Try.func72, Try.ntmps72
  go_wp2
  go_ret
  exact ⟨rfl, rfl⟩

theorem _root_.Go.Boxed.below {w w' : World} {B : Nat} {t : TypeId} {v : Value} (h : Boxed w B t v) (hb : Below w.heap.size w w') : Boxed w' B t v := (hb.block B h.lt).trans h

set_option maxRecDepth 100000 in
set_option maxHeartbeats 1000000 in
theorem digits_seq (Bn Bs : Nat) (n : Int) (s : Nat) (own : Nat → Prop) (w : World) (hn : Boxed w Bn 3 (.int .i64 n)) (hs : Boxed w Bs 3 (.int .i64 s)) (hs4 : s ≤ 4) (hn0 : 0 ≤ n) (o1 : ¬ own Bn) (o2 : ¬ own Bs) :
    SeqIs Try.prog 83 #[.pointer (some ⟨Bs, 0, none⟩), .pointer (some ⟨Bn, 0, none⟩)] (byteE (digL n s)) own w := by
  intro l J Jx W hW hJ hJx hY h0
  have hB1 := hn.lt
  have hB2 := hs.lt
  have hc1 := (hW.cell (p := ⟨Bn, 0, none⟩) hn.lt).trans hn.cell
  have hc2 := (hW.cell (p := ⟨Bs, 0, none⟩) hs.lt).trans hs.cell
  clear hn hs
  refine callsIn_of_wp Try.func83 rfl trivial ?_ rfl
  simp only [Try.ntmps83, List.size_toArray, List.length_cons, List.length_nil, Nat.reduceAdd, Nat.reduceSub, Array.replicate_succ, Array.replicate_zero, List.push_toArray, List.append_toArray, List.nil_append, List.cons_append]
  gi_wp2
  gi_loopw [4] (fun i wr => ∃ k : Nat, k ≤ s ∧ i = .int .i64 ((s : Int) - 1 - k) ∧ J k wr ∧ KeepX own w.heap.size W wr) (fun i _ => ((intOf i) + 1).toNat)
  case atStart => exact ⟨0, by omega, by simp, h0, KeepX.refl _ _ _⟩
  case round =>
    obtain ⟨k, hk, rfl, hJk, hkp⟩ := hrel
    have hc : wr.cell? ⟨Bn, 0, none⟩ = some (.int .i64 n) := (hkp.cell (p := ⟨Bn, 0, none⟩) hB1 o1).trans hc1
    by_cases hlt : k < s
    · obtain ⟨i, hi⟩ : ∃ i : Nat, i = s - 1 - k := ⟨_, rfl⟩
      obtain ⟨fn, tmps, assign, body, hy, hR⟩ := hY k _ wr (by unfold byteE; rw [List.getElem?_map, digL_get _ _ _ hlt]; rfl) hJk
      rw [← hi] at hy
      have hi4 : i = 0 ∨ i = 1 ∨ i = 2 ∨ i = 3 := by omega
      have hsi : (s : Int) - 1 - k = i := by omega
      rw [hsi]
      have hik : (i : Int) = s - 1 - k := by omega
      clear hsi hi hc1 hc2
      rcases hi4 with rfl | rfl | rfl | rfl
      all_goals
        simp only [Int.reducePow, Int.ediv_one] at hy
        replace hik := Lib.hid hik
        gi_wp2
        refine ⟨rfl, hR.mono ?_⟩
        rintro e W3 (⟨rfl, hJ3, hk3⟩ | ⟨rfl, hJx3⟩)
        · gi_wp2
          go_roundw
          case rel => exact ⟨k + 1, by omega, by have := hik.out; congr 1; omega, hJ3, hkp.trans hk3⟩
          case measure => simp [intOf]; first | done | (have := hik.out; omega)
        · gi_wp2
          refine bodyPost_ret (results_none rfl _ _ _) rfl ?_
          exact ⟨⟨_, rfl⟩, .inr ⟨k + 1, by simp [byteE, digL_length]; omega, hJx3⟩⟩
    · have : ((s : Int) - 1 - k) < 0 := by omega
      clear hc1 hc2
      gi_wp2
      go_end0
      refine ⟨⟨_, rfl⟩, .inl ?_⟩
      rw [show (byteE (digL n s)).length = k from by simp [byteE, digL_length]; omega]
      exact hJk

end Go.Proofs.Ytmbmmpbfmakfbaa
/- Put (be): walks. -/
set_option linter.unusedVariables false
namespace Go.Proofs.Ytmbmmpbfmakfbaa
open Go.RowKit Go.Shelf

set_option maxHeartbeats 1000000 in
theorem Put_yes (A : Option Addr) (n c : Nat) (bs : List Int) (x : Int) (s : Nat) (w : World) (h : RB w A n c bs) (hn : n ≤ 100000) (hf : fitsP x s) :
    Calls Try.prog 68 #[.slice A n c, .int .i64 x, .int .i64 s] w (Fresh w (n + s) (bs ++ digL x s)) := by
  obtain ⟨⟨h1, h2⟩, h3, h4⟩ := hf
  have hx : x ≤ 4294967295 := by
    have hs4 : s ≤ 4 := by omega
    have h5 : (256 : Int) ^ s ≤ 4294967296 := by
      have hc : s = 0 ∨ s = 1 ∨ s = 2 ∨ s = 3 ∨ s = 4 := by omega
      rcases hc with rfl | rfl | rfl | rfl | rfl <;> decide
    rw [Int.toNat_natCast] at h4; omega
  have hfb := fitsB_yes (n := x) (s := s) ⟨⟨h1, h2⟩, h3, h4⟩
  have hC := Lib.hid (Clone_any A n c bs w h (by omega))
  replace hfb := Lib.hid hfb
  clear h h4
  go_enter Try.func68, Try.ntmps68
  go_wp2_with fail
  refine hC.out.mono ?_
  rintro e w1 ⟨A2, c2, rfl, ho, hb1⟩
  go_wp2_with fail
  refine (Fits_any x s _).mono ?_
  rintro e w1' ⟨rfl, rfl⟩
  rw [hfb.out]
  go_wp2_with (go_at_call 72; refine (digits_call x s _).mono ?_; rintro e w' ⟨rfl, rfl⟩)
  have hsz := hb1.size
  have hown : ∀ k, ownBlk A2 = some k → k < w1.heap.size := fun k hk => (ho.blk hk).2
  have ho1 := (ho.alloc (.cells #[.int .i64 x] 3)).alloc (.cells #[.int .i64 s] 3)
  have hbn := (Boxed.new w1 3 (.int .i64 x)).alloc (.cells #[.int .i64 s] 3)
  have hbs := Boxed.new (w1.alloc (.cells #[.int .i64 x] 3)) 3 (.int .i64 s)
  rw [World.size_alloc] at hbs
  have hA := Lib.hid (AppendSeq_any A2 n c2 w.heap.size 83 #[.pointer (some ⟨w1.heap.size + 1, 0, none⟩), .pointer (some ⟨w1.heap.size, 0, none⟩)] bs (digL x s) _ ho1 (by simp; omega) hn (by rw [digL_length]; omega) (digL_byts x s)
    (enters_of Try.func83 (by kernel_rfl) rfl)
    (fun W hW => digits_seq w1.heap.size (w1.heap.size + 1) x s _ W (hbn.below hW) (hbs.below hW) (by omega) h3 (fun h => h.elim (fun e => by simp only [World.size_alloc] at e; omega) (fun e => by have := hown _ e; omega)) (fun h => h.elim (fun e => by simp only [World.size_alloc] at e; omega) (fun e => by have := hown _ e; omega))))
  refine hA.out.mono ?_
  rintro e w2 ⟨A3, c3, rfl, ho3, hb3⟩
  go_wp2
  go_ret
  rw [digL_length] at ho3
  exact ⟨A3, c3, by rw [digL_length]; rfl, ho3, ((hb1.alloc hsz _).alloc (by simp; omega) _).trans hb3⟩

set_option maxHeartbeats 1000000 in
theorem Put_no (A : Option Addr) (n c : Nat) (bs : List Int) (x s : Int) (w : World) (h : RB w A n c bs) (hn : n ≤ 100000) (hf : ¬ fitsP x s) :
    Calls Try.prog 68 #[.slice A n c, .int .i64 x, .int .i64 s] w (Fresh w n bs) := by
  have hfb := Lib.hid (fitsB_no hf)
  have hF := fun w => Fits_any x s w
  have hC := Lib.hid (Clone_any A n c bs w h (by omega))
  replace hF := Lib.hid hF
  clear h hf
  go_enter Try.func68, Try.ntmps68
  go_wp2_with fail
  refine hC.out.mono ?_
  rintro e w1 ⟨A2, c2, rfl, ho, hb1⟩
  go_wp2_with fail
  refine (hF.out _).mono ?_
  rintro e w1' ⟨rfl, rfl⟩
  rw [hfb.out]
  go_wp2
  go_ret
  exact ⟨A2, c2, rfl, ho, hb1⟩
end Go.Proofs.Ytmbmmpbfmakfbaa
/- Put of the reference; Put of both, in one word each. -/
set_option linter.unusedVariables false
namespace Go.Proofs.Ytmbmmpbfmakfbaa
open Go.RowKit Go.Shelf

theorem pow_le (s : Nat) (h : s ≤ 4) : (256 : Int) ^ s ≤ 4294967296 := by
  have hc : s = 0 ∨ s = 1 ∨ s = 2 ∨ s = 3 ∨ s = 4 := by omega
  rcases hc with rfl | rfl | rfl | rfl | rfl <;> decide
theorem pow_pos (s : Nat) : (1 : Int) ≤ 256 ^ s := by have := Int.pow_pos (n := 256) (m := s) (by decide); omega
theorem digL_succ (x : Int) (s k : Nat) (h : k < s) : (digL x s).take (k + 1) = (digL x s).take k ++ [x / 256 ^ (s - 1 - k) % 256] := by
  rw [List.take_add_one, digL_get x s k h]; rfl

set_option maxHeartbeats 1000000 in
theorem RefPut_yes (A : Option Addr) (n c : Nat) (bs : List Int) (x : Int) (s : Nat) (w : World) (h : RB w A n c bs) (hn : n ≤ 100000) (hf : fitsP x s) :
    Calls Try.prog 54 #[.slice A n c, .int .i64 x, .int .i64 s] w (Fresh w (n + s) (bs ++ digL x s)) := by
  have hfb := Lib.hid (fitsB_yes hf)
  obtain ⟨⟨h1, h2⟩, h3, h4⟩ := hf
  have hs4 : s ≤ 4 := by omega
  have hx : x ≤ 4294967295 := by have := pow_le s hs4; rw [Int.toNat_natCast] at h4; omega
  clear h4
  go_enter Try.func54, Try.ntmps54
  go_wp2_with (at_builtin; refine wpList_append_bytes _ rfl (.const (.slice none 0 0)) (.tmp 9) rfl rfl rfl (OB.nil w w.heap.size) h (by omega) (Nat.le_refl _) ?_; intro A2 c2 w2 ho2 hg2 hr2)
  simp only [List.nil_append, Nat.zero_add] at ho2
  have hb2 : Below w.heap.size w w2 := (Below.refl _ w).grown hg2 (Nat.le_refl _) (fun k hk => by simp [ownBlk] at hk)
  clear hg2 hr2 h
  refine (RefFits_any x s _).mono ?_
  rintro e w3 ⟨rfl, rfl⟩
  rw [hfb.out]
  go_wp2
  go_loopw [7, 8] (fun v i wr => ∃ (k : Nat) (A3 : Option Addr) (c3 : Nat), k ≤ s ∧ i = .int .i64 ((s : Int) - 1 - k) ∧ v = .slice A3 (n + k) c3 ∧ OB wr w.heap.size A3 (n + k) c3 (bs ++ (digL x s).take k) ∧ Below w.heap.size w wr) (fun _ i _ => (intOf i + 1).toNat)
  case atStart => exact ⟨0, A2, c2, by omega, by simp, by simp, by simpa using ho2, hb2⟩
  case round =>
    obtain ⟨k, A3, c3, hk, rfl, rfl, ho3, hB⟩ := hrel
    clear ho2 hb2
    by_cases hlt : k < s
    · have hdt := digL_succ x s k hlt
      obtain ⟨i, hi⟩ : ∃ i : Nat, i = s - 1 - k := ⟨_, rfl⟩
      rw [← hi] at hdt
      have hik : (s : Int) - 1 - k = i := by omega
      rw [hik]
      have hp1 := pow_pos i
      have hp2 := pow_le i (by omega)
      have hi4 : i ≤ 3 := by omega
      have hpw := Lib.hid (fun w => pow_at i (by omega) w)
      replace hdt := Lib.hid hdt
      replace hik := Lib.hid hik
      clear hi
      generalize (256 : Int) ^ i = p at *
      have hd0 : 0 ≤ x / p := Int.ediv_nonneg h3 (by omega)
      have hd1 : x / p ≤ x := Int.ediv_le_self _ h3
      have hlit : ∀ W : World, RB (W.alloc (.cells #[.int .u8 (x / p % 256)] 5)) (some ⟨W.heap.size, 0, none⟩) 1 1 [x / p % 256] := fun W => RB.lit W 5 [x / p % 256] (Byts.one (by omega) (by omega)) (by simp)
      replace hlit := Lib.hid hlit
      go_wp2_with (first
        | (go_at_call 75; refine (hpw.out _).mono ?_; rintro e w4 ⟨rfl, rfl⟩)
        | (at_builtin; refine wpList_append_bytes _ rfl (.tmp 22) (.tmp 29) rfl rfl rfl (ho3.alloc _) (hlit.out _) (by omega) (by have := hB.size; simp; omega) ?_; intro A4 c4 w5 ho5 hg5 hr5))
      go_roundw
      case rel => exact ⟨k + 1, A4, c4, by omega, by have := hik.out; congr 1; omega, rfl, by rw [hdt.out, ← List.append_assoc]; exact ho5, (hB.alloc hB.size _).grown hg5 (by have := hB.size; simp; omega) (fun j hj => (ho3.blk hj).1)⟩
      case measure => first | (simp [intOf]; done) | (simp [intOf]; omega)
    · have hz : ((s : Int) - 1 - k) < 0 := by omega
      have hT := Lib.hid (List.take_of_length_le (l := digL x s) (i := k) (by rw [digL_length]; omega))
      obtain rfl : k = s := by omega
      go_wp2
      go_ret
      rw [hT.out] at ho3
      exact ⟨A3, c3, rfl, ho3, hB⟩

set_option maxHeartbeats 1000000 in
theorem RefPut_no (A : Option Addr) (n c : Nat) (bs : List Int) (x s : Int) (w : World) (h : RB w A n c bs) (hn : n ≤ 100000) (hf : ¬ fitsP x s) :
    Calls Try.prog 54 #[.slice A n c, .int .i64 x, .int .i64 s] w (Fresh w n bs) := by
  have hfb := Lib.hid (fitsB_no hf)
  clear hf
  go_enter Try.func54, Try.ntmps54
  go_wp2_with (at_builtin; refine wpList_append_bytes _ rfl (.const (.slice none 0 0)) (.tmp 9) rfl rfl rfl (OB.nil w w.heap.size) h (by omega) (Nat.le_refl _) ?_; intro A2 c2 w2 ho2 hg2 hr2)
  simp only [List.nil_append, Nat.zero_add] at ho2
  have hb2 : Below w.heap.size w w2 := (Below.refl _ w).grown hg2 (Nat.le_refl _) (fun k hk => by simp [ownBlk] at hk)
  clear hg2 hr2 h
  refine (RefFits_any x s _).mono ?_
  rintro e w3 ⟨rfl, rfl⟩
  rw [hfb.out]
  go_wp2
  go_ret
  exact ⟨A2, c2, rfl, ho2, hb2⟩

/-- What Put answers. -/
def putRes (bs : List Int) (x s : Int) : List Int := if fitsP x s then bs ++ digL x s.toNat else bs
def PutOut (w : World) (r : List Int) (e : Ending) (w' : World) : Prop := ∃ A2 n2 c2, e = .returned (.slice A2 n2 c2) ∧ RB w' A2 n2 c2 r ∧ Below w.heap.size w w'

theorem Put_any (A : Option Addr) (n c : Nat) (bs : List Int) (x s : Int) (w : World) (h : RB w A n c bs) (hn : n ≤ 100000) :
    Calls Try.prog 68 #[.slice A n c, .int .i64 x, .int .i64 s] w (PutOut w (putRes bs x s)) := by
  unfold putRes
  by_cases hf : fitsP x s
  · rw [if_pos hf]
    obtain ⟨s, rfl⟩ := Int.eq_ofNat_of_zero_le (show 0 ≤ s by have := hf.1; omega)
    exact (Put_yes A n c bs x s w h hn hf).mono fun e w' ⟨A2, c2, he, ho, hb⟩ => ⟨A2, _, c2, he, ho.rb, hb⟩
  · rw [if_neg hf]
    exact (Put_no A n c bs x s w h hn hf).mono fun e w' ⟨A2, c2, he, ho, hb⟩ => ⟨A2, _, c2, he, ho.rb, hb⟩
theorem RefPut_any (A : Option Addr) (n c : Nat) (bs : List Int) (x s : Int) (w : World) (h : RB w A n c bs) (hn : n ≤ 100000) :
    Calls Try.prog 54 #[.slice A n c, .int .i64 x, .int .i64 s] w (PutOut w (putRes bs x s)) := by
  unfold putRes
  by_cases hf : fitsP x s
  · rw [if_pos hf]
    obtain ⟨s, rfl⟩ := Int.eq_ofNat_of_zero_le (show 0 ≤ s by have := hf.1; omega)
    exact (RefPut_yes A n c bs x s w h hn hf).mono fun e w' ⟨A2, c2, he, ho, hb⟩ => ⟨A2, _, c2, he, ho.rb, hb⟩
  · rw [if_neg hf]
    exact (RefPut_no A n c bs x s w h hn hf).mono fun e w' ⟨A2, c2, he, ho, hb⟩ => ⟨A2, _, c2, he, ho.rb, hb⟩

end Go.Proofs.Ytmbmmpbfmakfbaa
/- slices.Collect of bytes. -/
set_option linter.unusedVariables false
namespace Go.Proofs.Ytmbmmpbfmakfbaa
open Go.RowKit Go.Shelf

set_option maxHeartbeats 400000 in
theorem Collect_any (gf : Nat) (lb : Array Value) (ys : List Int) (w : World) (hy : ys.length ≤ 100000) (hyb : Byts ys)
    (eg : ∀ args w, (callFunc gf args).run Try.prog w = .ok (.enter gf args) w)
    (hseq : ∀ W, Below w.heap.size w W → SeqIs Try.prog gf lb (byteE ys) (fun k => k = w.heap.size ∨ ownBlk none = some k) W) :
    Calls Try.prog 71 #[.func (.func gf) #[] lb] w (Fresh w ys.length ys) := by
  have hc := AppendSeq_any none 0 0 w.heap.size gf lb [] ys w (OB.nil w _) (Nat.le_refl _) (by omega) hy hyb eg hseq
  rw [Nat.zero_add, List.nil_append] at hc
  replace hc := Lib.hid hc
  clear eg hseq hy hyb
  go_enter Try.func71, Try.ntmps71
  go_wp2_with fail
  refine hc.out.mono ?_
  rintro e w' ⟨A2, c2, rfl, ho, hb⟩
  generalize ys.length = m at *
  go_wp2
  go_ret
  exact ⟨A2, c2, rfl, ho, hb⟩

end Go.Proofs.Ytmbmmpbfmakfbaa
/- Set (be) and Put, Set of the reference: walks. -/
set_option linter.unusedVariables false
namespace Go.Proofs.Ytmbmmpbfmakfbaa
open Go.RowKit Go.Shelf

/-- Bytes with others in the place of some of them, one by one. -/
def setN (bs : List Int) (a : Nat) (ys : List Int) : Nat → List Int
  | 0 => bs
  | i + 1 => (setN bs a ys i).set (a + i) (ys[i]?.getD 0)
theorem setN_length (bs : List Int) (a : Nat) (ys : List Int) (i : Nat) : (setN bs a ys i).length = bs.length := by
  induction i with
  | zero => rfl
  | succ i ih => simp [setN, ih]
theorem u8s_set (bs : List Int) (j : Nat) (y : Int) : (u8s bs).set j (.int .u8 y) = u8s (bs.set j y) := by simp [u8s, List.map_set]
theorem Byts.set {bs : List Int} (h : Byts bs) (j : Nat) {y : Int} (h0 : 0 ≤ y) (h1 : y ≤ 255) : Byts (bs.set j y) := by
  intro x hx
  rcases List.mem_or_eq_of_mem_set hx with hx | rfl
  · exact h x hx
  · exact ⟨h0, h1⟩
theorem OB.set_ {w : World} {base g n c j : Nat} {bs : List Int} {y : Int} (h : OB w base (some ⟨g, 0, none⟩) n c bs) (h0 : 0 ≤ y) (h1 : y ≤ 255) : OB (w.setCell ⟨g, j, none⟩ (.int .u8 y)) base (some ⟨g, 0, none⟩) n c (bs.set j y) :=
  ⟨by rw [← u8s_set]; exact (h.own.stored j _).1, h.byt.set j h0 h1⟩
theorem OB.form {w : World} {base n c : Nat} {A : Option Addr} {bs : List Int} (h : OB w base A n c bs) (hn : 0 < n) : ∃ g, A = some ⟨g, 0, none⟩ ∧ base ≤ g ∧ g < w.heap.size ∧ ∀ j, w.frozen? ⟨g, j, none⟩ = false := by
  obtain ⟨g, cap, hv, hg, hlt⟩ := h.own.form hn
  cases hv
  exact ⟨g, rfl, hg, hlt, fun j => h.own.frozenAt j⟩

def SetPost (w : World) (n : Nat) (bs : List Int) (a x s : Int) (e : Ending) (w' : World) : Prop :=
  (¬ fitsP x s ∨ a < 0 → e = .returned (.tuple #[.slice none 0 0, .int .i64 1])) ∧
  (¬ (¬ fitsP x s ∨ a < 0) → (n : Int) < a + s → e = .returned (.tuple #[.slice none 0 0, .int .i64 3])) ∧
  (¬ (¬ fitsP x s ∨ a < 0) → ¬ (n : Int) < a + s → ∃ A2 c2, e = .returned (.tuple #[.slice A2 n c2, .int .i64 0]) ∧ OB w' w.heap.size A2 n c2 (setN bs a.toNat (digL x s.toNat) s.toNat)) ∧ Below w.heap.size w w'

set_option maxHeartbeats 1000000 in
theorem Set_nofit (A : Option Addr) (n c : Nat) (bs : List Int) (a x s : Int) (w : World) (hf : ¬ fitsP x s) :
    Calls Try.prog 50 #[.slice A n c, .int .i64 a, .int .i64 x, .int .i64 s] w fun e w' => e = .returned (.tuple #[.slice none 0 0, .int .i64 1]) ∧ w = w' := by
  have hfb := Lib.hid (fitsB_no hf)
  have hF := Lib.hid (fun w => Fits_any x s w)
  clear hf
  go_enter Try.func50, Try.ntmps50
  go_wp2_with fail
  refine (hF.out _).mono ?_
  rintro e w3 ⟨rfl, rfl⟩
  rw [hfb.out]
  go_wp2
  go_ret2
  exact ⟨rfl, rfl⟩

set_option maxHeartbeats 1000000 in
theorem Set_bad (A : Option Addr) (n c : Nat) (bs : List Int) (a x s e0 : Int) (w : World) (h : RB w A n c bs) (hn : n ≤ 100000) (hf : fitsP x s) (he0 : (e0 == 0) = false) (he1 : (e0 != 0) = true)
    (hw : ∀ A c w, Calls Try.prog 70 #[.slice A n c, .int .i64 a, .int .i64 s] w fun e w' => e = .returned (.tuple #[.slice none 0 0, .int .i64 e0]) ∧ w = w') :
    Calls Try.prog 50 #[.slice A n c, .int .i64 a, .int .i64 x, .int .i64 s] w fun e w' => e = .returned (.tuple #[.slice none 0 0, .int .i64 e0]) ∧ Below w.heap.size w w' := by
  have hfb := Lib.hid (fitsB_yes hf)
  have hx : 0 ≤ x ∧ x ≤ 4294967295 := by
    obtain ⟨⟨h1, h2⟩, h3, h4⟩ := hf
    have := pow_le s.toNat (by omega); omega
  have hF := Lib.hid (fun w => Fits_any x s w)
  have hC := Lib.hid (Clone_any A n c bs w h (by omega))
  replace hw := Lib.hid hw
  clear hf hx h
  go_enter Try.func50, Try.ntmps50
  go_wp2_with fail
  refine (hF.out _).mono ?_
  rintro e w3 ⟨rfl, rfl⟩
  rw [hfb.out]
  go_wp2_with fail
  refine hC.out.mono ?_
  rintro e w1 ⟨A2, c2, rfl, ho, hb⟩
  clear hC ho
  go_wp2_with (go_at_call 70; refine (hw.out _ _ _).mono ?_; rintro e w4 ⟨rfl, rfl⟩)
  go_ret2
  exact ⟨rfl, hb⟩

set_option maxHeartbeats 1000000 in
theorem Set_ok (A : Option Addr) (n c : Nat) (bs : List Int) (a : Nat) (x : Int) (s : Nat) (w : World) (h : RB w A n c bs) (hn : n ≤ 100000) (hf : fitsP x s) (has : a + s ≤ n) :
    Calls Try.prog 50 #[.slice A n c, .int .i64 a, .int .i64 x, .int .i64 s] w fun e w' => ∃ A2 c2, e = .returned (.tuple #[.slice A2 n c2, .int .i64 0]) ∧ OB w' w.heap.size A2 n c2 (setN bs a (digL x s) s) ∧ Below w.heap.size w w' := by
  have hfb := Lib.hid (fitsB_yes hf)
  obtain ⟨⟨hs1, hs4⟩, hx0, hx4⟩ := hf
  have hx1 : x ≤ 4294967295 := by have := pow_le s (by omega); rw [Int.toNat_natCast] at hx4; omega
  have hF := Lib.hid (fun w => Fits_any x s w)
  have hC := Lib.hid (Clone_any A n c bs w h (by omega))
  have hl := Lib.hid h.len
  clear hx4 h
  go_enter Try.func50, Try.ntmps50
  go_wp2_with fail
  refine (hF.out _).mono ?_
  rintro e w3 ⟨rfl, rfl⟩
  rw [hfb.out]
  go_wp2_with fail
  refine hC.out.mono ?_
  rintro e w1 ⟨A2, c2, rfl, ho, hb⟩
  obtain ⟨g, rfl, hg0, hg1, _⟩ := ho.form (by omega)
  have hrb := ho.rb
  have hW := window_ok g 0 n c2 a s w1 (by omega) (by omega) hn hrb.nc hrb.cm has
  rw [Nat.zero_add] at hW
  replace hW := Lib.hid hW
  clear hC hrb
  go_wp2_with fail
  refine hW.out.mono ?_
  rintro e w1' ⟨rfl, rfl⟩
  go_wp2_with fail
  refine (digits_call x s _).mono ?_
  rintro e w2 ⟨rfl, rfl⟩
  have hsz := hb.size
  have ho1 := (ho.alloc (.cells #[.int .i64 x] 3)).alloc (.cells #[.int .i64 s] 3)
  have hbn := (Boxed.new w1 3 (.int .i64 x)).alloc (.cells #[.int .i64 s] 3)
  have hbs := Boxed.new (w1.alloc (.cells #[.int .i64 x] 3)) 3 (.int .i64 s)
  rw [World.size_alloc] at hbs
  have hCo := Collect_any 83 #[.pointer (some ⟨w1.heap.size + 1, 0, none⟩), .pointer (some ⟨w1.heap.size, 0, none⟩)] (digL x s) ((w1.alloc (.cells #[.int .i64 x] 3)).alloc (.cells #[.int .i64 s] 3)) (by rw [digL_length]; omega) (digL_byts x s)
    (enters_of Try.func83 (by kernel_rfl) rfl)
    (fun W hW => digits_seq w1.heap.size (w1.heap.size + 1) x s _ W (hbn.below hW) (hbs.below hW) (by omega) hx0 (fun h => h.elim (fun e => by simp only [World.size_alloc] at e; omega) (fun e => by cases e)) (fun h => h.elim (fun e => by simp only [World.size_alloc] at e; omega) (fun e => by cases e)))
  rw [digL_length] at hCo
  replace hCo := Lib.hid hCo
  have hBs : Below w.heap.size w ((w1.alloc (.cells #[.int .i64 x] 3)).alloc (.cells #[.int .i64 s] 3)) := (hb.alloc hsz _).alloc (by simp; omega) _
  clear hbn hbs hW ho hb
  go_wp2_with fail
  refine hCo.out.mono ?_
  rintro e w4 ⟨A5, c5, rfl, ho5, hb5⟩
  have ho4 := ho1.below hb5
  have hB4 := hBs.trans (hb5.mono hBs.size)
  have hr5 := ho5.rb
  have hyl := digL_length x s
  generalize hys : digL x s = ys at *
  replace hys := Lib.hid hys
  have hg5 : ∀ b off, A5 = some ⟨b, off, none⟩ → b ≠ g := by
    rintro b off rfl rfl
    have := (ho5.blk (k := b) rfl).1
    simp at this; omega
  replace hg5 := Lib.hid hg5
  clear hCo hBs hb5 ho1 ho5 hx0 hx1
  go_wp2
  go_loopw [36] (fun i wr => ∃ k : Nat, k ≤ s ∧ i = .int .i64 k ∧ OB wr w.heap.size (some ⟨g, 0, none⟩) n c2 (setN bs a ys k) ∧ RB wr A5 s c5 ys ∧ Below w.heap.size w wr) (fun i _ => s - (intOf i).toNat)
  case atStart => exact ⟨0, by omega, rfl, ho4, hr5, hB4⟩
  case round =>
    obtain ⟨k, hk, rfl, hob, hrb, hB⟩ := hrel
    clear ho4 hr5 hB4
    by_cases hlt : k < s
    · obtain ⟨b, off, rfl, hbl, hc⟩ := hrb.mem (by omega)
      have hne := hg5.out b off rfl
      have hc0 := hc k hlt
      have hby := hrb.byt.get k
      have hor := hob.rb
      obtain ⟨b', off', e', hc'⟩ := hor.at_ (by omega)
      cases e'
      have hcg := hc' (a + k) (by omega)
      have hfg := (hob.form (by omega))
      obtain ⟨_, e', _, _, hfr⟩ := hfg
      cases e'
      have hfg := hfr (a + k)
      rw [Nat.zero_add] at hcg
      have hst : setN bs a ys (k + 1) = (setN bs a ys k).set (a + k) (ys[k]?.getD 0) := rfl
      have hrb' : ∀ v, RB (wr.setCell ⟨g, a + k, none⟩ v) (some ⟨b, off, none⟩) s c5 ys := fun v => ⟨hrb.len, hrb.nc, hrb.cm, hrb.byt, hrb.niln, fun _ => ⟨b, off, rfl, by simp [World.setCell]; exact hbl, fun j hj => by
        rw [World.cell?_setCell_other wr _ _ _ (fun e => hne (congrArg Addr.block e).symm)]; exact hc j hj⟩⟩
      replace hc := Lib.hid hc
      replace hc' := Lib.hid hc'
      replace hfr := Lib.hid hfr
      replace hrb' := Lib.hid hrb'
      replace hst := Lib.hid hst
      generalize (setN bs a ys k)[a + k]?.getD 0 = z at *
      generalize ys[k]?.getD 0 = y at *
      go_wp2
      go_roundw
      case rel => exact ⟨k + 1, by omega, by go_num, by rw [hst.out]; exact hob.set_ hby.1 hby.2, hrb'.out _, hB.setCell hg0 _⟩
      case measure => simp [intOf]; omega
    · obtain rfl : k = s := by omega
      go_wp2
      go_ret2
      rw [← hys.out] at hob
      exact ⟨_, _, rfl, hob, hB⟩
theorem setN_two2 (xs ys : List Int) (p q : Int) (zs : List Int) (a : Nat) (ha : xs.length = a) (hz : zs.length = 2) : setN (xs ++ [p, q] ++ ys) a zs 2 = xs ++ zs ++ ys := by
  match zs, hz with
  | [z0, z1], _ =>
    subst ha
    simp [setN]
end Go.Proofs.Ytmbmmpbfmakfbaa
/- The word at a place of bytes: the walk of the reference's Word. -/
set_option linter.unusedVariables false
namespace Go.Proofs.Ytmbmmpbfmakfbaa
open Go.RowKit

/-- The number that the pair of bytes at k is. -/
def wordI (bs : List Int) (k : Nat) : Int := bs[k]?.getD 0 * 256 + bs[k + 1]?.getD 0
theorem getD_out {bs : List Int} {k : Nat} (h : bs.length ≤ k) : bs[k]?.getD 0 = 0 := by rw [List.getElem?_eq_none h]; rfl

set_option maxHeartbeats 400000 in
theorem RefWord_any (A : Option Addr) (n c : Nat) (bs : List Int) (k : Nat) (w : World) (h : RB w A n c bs) (hn : n ≤ 100000) (hk : k < n) :
    Calls Try.prog 73 #[.slice A n c, .int .i64 k] w fun e w' => e = .returned (.int .i64 (wordI bs k)) ∧ Below w.heap.size w w' := by
  obtain ⟨b, off, rfl, hc⟩ := h.at_ (by omega)
  have hb0 := h.byt.get k
  have hb1 := h.byt.get (k + 1)
  have c0 := hc k hk
  have hl := Lib.hid h.len
  by_cases h1 : k + 1 < n
  · have c1 := hc (k + 1) h1
    have g1 : (k : Int) + 1 < (n : Int) := by omega
    have g2 : (k : Int) < (n : Int) := by omega
    clear h
    go_enter Try.func73, Try.ntmps73
    go_wp2
    go_quiet (fail)
    go_wp2
    go_ret
    exact ⟨ret_int rfl, below_drewN (Below.refl _ _) _⟩
  · have H1 := Lib.hid (getD_out (bs := bs) (k := k + 1) (by have := hl.out; omega))
    clear h
    go_enter Try.func73, Try.ntmps73
    go_wp2
    go_ret
    exact ⟨ret_int (by unfold wordI; rw [H1.out]; omega), Below.refl _ _⟩

theorem RefWord_at (A : Option Addr) (n c : Nat) (bs : List Int) (x : Int) (k : Nat) (hx : x = k) (w : World) (h : RB w A n c bs) (hn : n ≤ 100000) (hk : k < n) :
    Calls Try.prog 73 #[.slice A n c, .int .i64 x] w fun e w' => e = .returned (.int .i64 (wordI bs k)) ∧ Below w.heap.size w w' := by
  subst hx; exact RefWord_any A n c bs k w h hn hk

end Go.Proofs.Ytmbmmpbfmakfbaa
/- The iterator over the words of bytes, and the sum of the words of parts: walks, in the program and in the reference. -/
set_option linter.unusedVariables false
namespace Go.Proofs.Ytmbmmpbfmakfbaa
open Go.RowKit
attribute [local go_sem] Oper.semAt_some

/-- What Words hands on. -/
def wordsE (bs : List Int) (n : Nat) : List (Array Value) := (List.range ((n + 1) / 2)).map fun (i : Nat) => #[.int .i64 (2 * (i : Int)), .int .i64 (wordI bs (2 * i))]
theorem wordsE_get (bs : List Int) (n i : Nat) (h : 2 * i < n) : (wordsE bs n)[i]? = some #[.int .i64 (2 * (i : Int)), .int .i64 (wordI bs (2 * i))] := by
  unfold wordsE; rw [List.getElem?_map, List.getElem?_range (by omega)]; rfl
theorem wordsE_length (bs : List Int) (n : Nat) : (wordsE bs n).length = (n + 1) / 2 := by simp [wordsE]
theorem wordsE_inv (bs : List Int) (n i : Nat) (e : Array Value) (h : (wordsE bs n)[i]? = some e) : 2 * i < n ∧ e = #[.int .i64 (2 * (i : Int)), .int .i64 (wordI bs (2 * i))] := by
  have hi : i < (n + 1) / 2 := by have := (List.getElem?_eq_some_iff.1 h).1; rwa [wordsE_length] at this
  have h2 : 2 * i < n := by omega
  rw [wordsE_get bs n i h2] at h
  exact ⟨h2, (Option.some.inj h).symm⟩
theorem wordI_bd {bs : List Int} (h : Byts bs) (k : Nat) : 0 ≤ wordI bs k ∧ wordI bs k ≤ 65535 := by
  have h1 := h.get k
  have h2 := h.get (k + 1)
  unfold wordI; omega

set_option maxHeartbeats 400000 in
theorem Words_call (A : Option Addr) (n c : Nat) (w : World) :
    Calls Try.prog 81 #[.slice A n c] w fun e w' => e = .returned (.func (.func 86) #[] #[.pointer (some ⟨w.heap.size, 0, none⟩)]) ∧ w.alloc (.cells #[.slice A n c] 24) = w' := by
  go_enter Try.func81, Try.ntmps81
  go_wp2
  go_ret
  exact ⟨rfl, rfl⟩

theorem toNat_two (k : Nat) : (2 * (k : Int)).toNat = 2 * k := by omega

set_option maxRecDepth 100000 in
set_option maxHeartbeats 1000000 in
theorem Words_seq (Bs n c : Nat) (A : Option Addr) (bs : List Int) (own : Nat → Prop) (w : World) (hx : Boxed w Bs 24 (.slice A n c)) (h : RB w A n c bs) (hn : n ≤ 100000) (ho : ¬ own Bs)
    (hoA : 0 < n → ∀ b off, A = some ⟨b, off, none⟩ → ¬ own b) : SeqIs Try.prog 86 #[.pointer (some ⟨Bs, 0, none⟩)] (wordsE bs n) own w := by
  intro l J Jx W hW hJ hJx hY h0
  have hB0 := hx.lt
  have hcB := (hW.cell (p := ⟨Bs, 0, none⟩) hx.lt).trans hx.cell
  clear hx
  refine callsIn_of_wp Try.func86 rfl trivial ?_ rfl
  simp only [Try.ntmps86, List.size_toArray, List.length_cons, List.length_nil, Nat.reduceAdd, Nat.reduceSub, Array.replicate_succ, Array.replicate_zero, List.push_toArray, List.append_toArray, List.nil_append, List.cons_append]
  gi_wp2
  gi_loopw [3] (fun i wr => ∃ k : Nat, 2 * k ≤ n + 1 ∧ i = .int .i64 (2 * (k : Int)) ∧ J k wr ∧ KeepX own w.heap.size W wr) (fun i _ => n + 2 - (intOf i).toNat)
  case atStart => exact ⟨0, by omega, rfl, h0, KeepX.refl _ _ _⟩
  case round =>
    obtain ⟨k, hk, rfl, hJk, hkp⟩ := hrel
    have hcBr : wr.cell? ⟨Bs, 0, none⟩ = some (.slice A n c) := (hkp.cell (p := ⟨Bs, 0, none⟩) hB0 ho).trans hcB
    clear hcB
    by_cases hlt : 2 * k < n
    · obtain ⟨b, off, rfl, hlb, hc⟩ := h.mem (by omega)
      have hc' : ∀ j, j < n → wr.cell? ⟨b, off + j, none⟩ = some (.int .u8 (bs[j]?.getD 0)) := fun j hj =>
        ((hkp.cell (p := ⟨b, off + j, none⟩) hlb (hoA (by omega) b off rfl)).trans (hW.cell (p := ⟨b, off + j, none⟩) hlb)).trans (hc j hj)
      clear hc
      have hc0 := hc' (2 * k) hlt
      have hb0 := h.byt.get (2 * k)
      have hb1 := h.byt.get (2 * k + 1)
      obtain ⟨fn, tmps, assign, body, hy, hR⟩ := hY k _ wr (wordsE_get bs n k hlt) hJk
      have hor := i64_or8 (bs[2 * k]?.getD 0 * 256) (bs[2 * k + 1]?.getD 0) (by omega) (by omega) (by omega) (by omega) (by omega)
      unfold wordI at hy
      have t1 := toNat_two k
      by_cases h1 : 2 * k + 1 < n
      · have hc1 := hc' (2 * k + 1) h1
        clear hc' h
        gi_wp2
        refine ⟨rfl, hR.mono ?_⟩
        rintro e W3 (⟨rfl, hJ3, hk3⟩ | ⟨rfl, hJx3⟩)
        · gi_wp2
          go_roundw
          case rel => exact ⟨k + 1, by omega, by go_num, hJ3, hkp.trans hk3⟩
          case measure => simp [intOf]; omega
        · gi_wp2
          refine bodyPost_ret (results_none rfl _ _ _) rfl ?_
          exact ⟨⟨_, rfl⟩, .inr ⟨k + 1, by rw [wordsE_length]; omega, hJx3⟩⟩
      · have H1 := getD_out (bs := bs) (k := 2 * k + 1) (by have := h.len; omega)
        rw [H1, Int.add_zero] at hy
        clear hc' h H1 hor
        gi_wp2
        refine ⟨rfl, hR.mono ?_⟩
        rintro e W3 (⟨rfl, hJ3, hk3⟩ | ⟨rfl, hJx3⟩)
        · gi_wp2
          go_roundw
          case rel => exact ⟨k + 1, by omega, by go_num, hJ3, hkp.trans hk3⟩
          case measure => simp [intOf]; omega
        · gi_wp2
          refine bodyPost_ret (results_none rfl _ _ _) rfl ?_
          exact ⟨⟨_, rfl⟩, .inr ⟨k + 1, by rw [wordsE_length]; omega, hJx3⟩⟩
    · clear h
      gi_wp2
      go_end0
      refine ⟨⟨_, rfl⟩, .inl ?_⟩
      rw [wordsE_length, show (n + 1) / 2 = k from by omega]
      exact hJk
end Go.Proofs.Ytmbmmpbfmakfbaa
/- Walks of Fold, in the program and in the reference: a number in sixteen bits. No condition. -/
set_option linter.unusedVariables false
namespace Go.Proofs.Ytmbmmpbfmakfbaa
open Go.RowKit

/-- A number in sixteen bits. -/
def foldI (n : Int) : Int := if n ≤ 0 then 0 else (n - 1) % 65535 + 1
theorem foldI_step (k : Int) (h : 65535 < k) : foldI (k % 65536 + k / 65536) = foldI k := by
  unfold foldI; rw [if_neg (by omega), if_neg (by omega)]; omega
theorem foldI_end (k : Int) (h0 : 0 ≤ k) (h : k ≤ 65535) : foldI k = k := by
  unfold foldI; split <;> omega
theorem foldI_lo (n : Int) : 0 ≤ foldI n := by unfold foldI; split <;> omega
theorem foldI_hi (n : Int) : foldI n ≤ 65535 := by unfold foldI; split <;> omega

set_option maxHeartbeats 400000 in
theorem Fold_any (n : Int) (w : World) (h1 : n ≤ 9223372036854775807) :
    Calls Try.prog 82 #[.int .i64 n] w fun e w' => e = .returned (.int .i64 (foldI n)) ∧ w = w' := by
  obtain ⟨m, hm⟩ : ∃ m, m = max n 0 := ⟨_, rfl⟩
  have hm0 : 0 ≤ m := by omega
  have hm1 : m ≤ 9223372036854775807 := by omega
  have H0 : Hid (foldI m = foldI n) := by
    show foldI m = foldI n
    rcases Int.le_total n 0 with h | h
    · have : m = 0 := by omega
      subst this; unfold foldI; rw [if_pos h, if_pos (Int.le_refl 0)]
    · rw [show m = n from by omega]
  by_cases hn : 0 ≤ n
  all_goals
    have hm' := Lib.hid hm
    clear hm
    go_enter Try.func82, Try.ntmps82
    go_wp2
    go_loop [0] (fun t => ∃ k : Int, 0 ≤ k ∧ k ≤ 9223372036854775807 ∧ Hid (foldI k = foldI n) ∧ t = .int .i64 k) (fun t => (intOf t).toNat)
    case atStart => exact ⟨m, hm0, hm1, H0, by rw [hm'.out]; first | rfl | (congr 1; omega)⟩
    case round =>
      obtain ⟨k, hk0, hk1, hk, rfl⟩ := hrel
      have e1 := i64_and65535 k hk0 hk1
      by_cases hlt : 65535 < k
      · go_wp2
        go_round
        case rel => exact ⟨k % 65536 + k / 65536, by omega, by omega, (foldI_step k hlt).trans hk.out, rfl⟩
        case measure => simp [intOf]; omega
      · go_wp2
        go_ret
        exact ⟨ret_int (by rw [← hk.out]; exact (foldI_end k hk0 (by omega)).symm), rfl⟩

set_option maxHeartbeats 400000 in
theorem RefFold_any (n : Int) (w : World) (h1 : n ≤ 9223372036854775807) :
    Calls Try.prog 74 #[.int .i64 n] w fun e w' => e = .returned (.int .i64 (foldI n)) ∧ w = w' := by
  by_cases hn : n < 0
  · go_enter Try.func74, Try.ntmps74
    go_wp2
    go_ret
    exact ⟨ret_int (by unfold foldI; rw [if_pos (by omega)]), rfl⟩
  · go_enter Try.func74, Try.ntmps74
    go_wp2
    go_loop [0] (fun t => ∃ k : Int, 0 ≤ k ∧ k ≤ 9223372036854775807 ∧ Hid (foldI k = foldI n) ∧ t = .int .i64 k) (fun t => (intOf t).toNat)
    case atStart => exact ⟨n, by omega, h1, rfl, rfl⟩
    case round =>
      obtain ⟨k, hk0, hk1, hk, rfl⟩ := hrel
      by_cases hlt : 65535 < k
      · go_wp2
        go_round
        case rel => exact ⟨k % 65536 + k / 65536, by omega, by omega, (foldI_step k hlt).trans hk.out, rfl⟩
        case measure => simp [intOf]; omega
      · go_wp2
        go_ret
        exact ⟨ret_int (by rw [← hk.out]; exact (foldI_end k hk0 (by omega)).symm), rfl⟩
end Go.Proofs.Ytmbmmpbfmakfbaa
/- The sum of the words of parts: walks, in the program and in the reference. -/
set_option linter.unusedVariables false
namespace Go.Proofs.Ytmbmmpbfmakfbaa
open Go.RowKit Go.Shelf
attribute [local go_sem] Oper.semAt_some

/-- The first k words together. -/
def sumW (bs : List Int) : Nat → Int
  | 0 => 0
  | k + 1 => sumW bs k + wordI bs (2 * k)
/-- The words of bytes together. -/
def sumB (bs : List Int) : Int := sumW bs ((bs.length + 1) / 2)
/-- The words of the first k parts together. -/
def sumP (l : List (List Int)) : Nat → Int
  | 0 => 0
  | k + 1 => sumP l k + sumB (l[k]?.getD [])
def totalI (l : List (List Int)) : Int := sumP l l.length
theorem sumW_bd {bs : List Int} (h : Byts bs) (k : Nat) : 0 ≤ sumW bs k ∧ sumW bs k ≤ 65535 * k := by
  induction k with
  | zero => simp [sumW]
  | succ k ih => have := wordI_bd h (2 * k); simp only [sumW]; omega
theorem sumB_bd {bs : List Int} (h : Byts bs) (hn : bs.length ≤ 100000) : 0 ≤ sumB bs ∧ sumB bs ≤ 3300000000 := by
  have := sumW_bd h ((bs.length + 1) / 2)
  unfold sumB; omega

theorem sumP_bd {l : List (List Int)} (h : Small l) (k : Nat) : 0 ≤ sumP l k ∧ sumP l k ≤ 3300000000 * k := by
  induction k with
  | zero => simp [sumP]
  | succ k ih => have := sumB_bd (h.get k).2 (h.get k).1; simp only [sumP]; omega

set_option maxRecDepth 100000 in
set_option maxHeartbeats 1000000 in
theorem total_any (A : Option Addr) (n c : Nat) (l : List (List Int)) (w : World) (h : RBB w A n c l) (hs : Small l) :
    Calls Try.prog 80 #[.slice A n c] w fun e w' => e = .returned (.int .i64 (totalI l)) ∧ Below w.heap.size w w' := by
  refine (callsIn_wide (n := 0)).1 ?_
  refine callsIn_of_wp_marks Try.func80 rfl trivial ?_ rfl
  simp only [Try.ntmps80, List.size_toArray, List.length_cons, List.length_nil, Nat.reduceAdd, Nat.reduceSub, Array.replicate_succ, Array.replicate_zero, List.push_toArray, List.append_toArray, List.nil_append, List.cons_append]
  gi_wp2
  refine wpIn_loop (fun a W => ∃ (k : Nat) (u5 u11 u12 u13 u14 u15 u21 : Value) (ds : List Deferred), k ≤ n ∧ Boxed W w.heap.size 3 (.int .i64 (sumP l k)) ∧ Below w.heap.size w W ∧ Marks (w.heap.size + 1) W ds ∧
      a = { tmps := #[.slice A n c, undef, .int .i64 0, .pointer (some ⟨w.heap.size, 0, none⟩), undef, u5, undef, undef, .slice A n c, .int .i64 n, .int .i64 k, u11, u12, u13, u14, u15, undef, undef, undef, undef, undef, u21, undef], defers := ds })
    (fun a _ => n - (intOf (a.tmps.getD 10 undef)).toNat) ?_ ?_
  · exact ⟨0, _, _, _, _, _, _, _, [], Nat.zero_le _, Boxed.new w _ _, (Below.refl _ w).alloc (Nat.le_refl _) _, trivial, rfl⟩
  · rintro a W ⟨k, u5, u11, u12, u13, u14, u15, u21, ds, hk, hbx, hB, hM, rfl⟩
    have hbd := sumP_bd hs k
    have hn : n ≤ 100000 := by have := h.len; have := hs.1; omega
    by_cases hlt : k < n
    · obtain ⟨b, off, rfl, hb, hc⟩ := h.mem (by omega)
      obtain ⟨A', n', c', hcell0, hrb0⟩ := hc k hlt
      have hcell := (hB.cell (p := ⟨b, off + k, none⟩) hb).trans hcell0
      have hrb := hrb0.below hB
      have hoA : 0 < n' → ∀ b off, A' = some ⟨b, off, none⟩ → ¬ b = w.heap.size := by
        rintro hn' b' off' rfl rfl
        obtain ⟨_, _, e, hlt', _⟩ := hrb0.mem hn'
        cases e; omega
      clear hc hcell0
      gi_wp2_with (refine ⟨trivial, rfl, (callsIn_wide.2 (Words_call _ _ _ _)).mono ?_⟩; rintro e w' ⟨rfl, rfl⟩)
      obtain ⟨Ws, hWs⟩ : ∃ Ws, W.alloc (.cells #[.slice A' n' c'] 24) = Ws := ⟨_, rfl⟩
      rw [hWs]
      have hsz : Ws.heap.size = W.heap.size + 1 := by rw [← hWs]; simp
      have hbx1 : Boxed Ws w.heap.size 3 (.int .i64 (sumP l k)) := by rw [← hWs]; exact hbx.alloc _
      have hit : Boxed Ws W.heap.size 24 (.slice A' n' c') := by rw [← hWs]; exact Boxed.new _ _ _
      have hrb1 : RB Ws A' n' c' (l[k]?.getD []) := by rw [← hWs]; exact hrb.alloc _
      have hB1 : Below w.heap.size w Ws := by rw [← hWs]; exact hB.alloc hB.size _
      have hM1 : Marks (w.heap.size + 1) Ws ds := by rw [← hWs]; exact hM.keep fun d hd D e => Below.heap_alloc _ _ _ (hM.lt d hd D e).2
      have hltB := hbx.lt
      clear hWs
      have hrl := hrb.len
      have hsm := hs.get k
      refine range_k (gf := 86) (lb := #[.pointer (some ⟨W.heap.size, 0, none⟩)]) rfl (enters_of Try.func86 (by kernel_rfl) rfl) (own := (· = w.heap.size)) (by rintro k rfl; omega)
        (Words_seq W.heap.size n' c' A' _ _ Ws hit hrb1 (by omega) (by omega) hoA) ?hps
        (fun i W' => Boxed W' w.heap.size 3 (.int .i64 (sumP l k + sumW (l[k]?.getD []) i))) (fun _ _ _ => False) (fun i A B h hg => hg.boxed h) (fun _ _ _ _ h _ => h) (by simpa [sumW] using hbx1) ?round ?done ?stop
      case hps =>
        intro e he
        obtain ⟨i, hi⟩ := List.getElem?_of_mem he
        rw [(wordsE_inv _ _ _ _ hi).2]; rfl
      case round =>
        rintro l' i e W' he hi hk hs'
        obtain ⟨h1, rfl⟩ := wordsE_inv _ _ _ _ he
        have hc0 := hi.cell
        have hf0 := hi.frozen
        gi_wp2
        refine ⟨Below.refl _ _, fun W₂ hg hs2 => ?_⟩
        replace hi := hg.boxed hi
        have hc0 := hi.cell
        have hf0 := hi.frozen
        have hbd1 := wordI_bd hsm.2 (2 * i)
        have hbd2 := sumW_bd hsm.2 i
        gi_wp2
        refine ⟨(KeepX.refl _ _ _).setCell (p := ⟨w.heap.size, 0, none⟩) (.inl (by simp)) _, ?_⟩
        dsimp only
        rw [show sumP l k + sumW (l[k]?.getD []) (i + 1) = sumP l k + sumW (l[k]?.getD []) i + wordI (l[k]?.getD []) (2 * i) from by simp only [sumW]; omega]
        exact hi.set _
      case done =>
        intro W' hi hk' hd
        gi_wp2
        refine ⟨⟨k + 1, _, _, _, _, _, _, _, _, by omega, ?_, ?_, ?_, by go_num⟩, by simp [intOf]; omega⟩
        · rw [wordsE_length] at hi
          simp only [sumP]; unfold sumB; rw [hrl]; exact hi
        · exact ⟨hk'.os.trans hB1.os, hk'.tape.trans hB1.tape, hk'.output.trans hB1.output, Nat.le_trans hB1.size hk'.size, fun j hj => (hk'.keep j (by have := hB1.size; omega) (by omega)).trans (hB1.block j hj)⟩
        · refine ⟨_, rfl, by omega, hd, fun d hd D e => by have := (hM1.lt d hd D e).2; omega, hM1.keep fun d hd D e => ?_⟩
          have := hM1.lt d hd D e
          exact hk'.keep D (by omega) (by omega)
      case stop => exact fun c i W _ h => h.elim
    · have hc0 := hbx.cell
      have hf0 := hbx.frozen
      obtain rfl : k = n := by omega
      gi_wp2
      refine leave_marks hM fun W' hg => ?_
      refine ⟨_, results_tmp rfl _ _ _, ?_, hg.below (by omega) hB (Nat.le_refl _)⟩
      rw [show totalI l = sumP l k from by unfold totalI; rw [h.len]]
      rfl
end Go.Proofs.Ytmbmmpbfmakfbaa
/- Add, Of, Right of parts: walks, in the program and in the reference. -/
set_option linter.unusedVariables false
namespace Go.Proofs.Ytmbmmpbfmakfbaa
open Go.RowKit

theorem totalI_bd {l : List (List Int)} (h : Small l) : 0 ≤ totalI l ∧ totalI l ≤ 330000000000000 := by
  have := sumP_bd h l.length
  have := h.1
  unfold totalI; omega

set_option maxHeartbeats 1000000 in
theorem RefAdd_any (A : Option Addr) (n c : Nat) (l : List (List Int)) (w : World) (h : RBB w A n c l) (hs : Small l) :
    Calls Try.prog 53 #[.slice A n c] w fun e w' => e = .returned (.int .i64 (foldI (totalI l))) ∧ Below w.heap.size w w' := by
  have hbd := totalI_bd hs
  have hn : n ≤ 100000 := by have := h.len; have := hs.1; omega
  go_enter Try.func53, Try.ntmps53
  go_wp2
  go_loopw [3, 4] (fun t i wr => ∃ k : Nat, k ≤ n ∧ i = .int .i64 k ∧ t = .int .i64 (sumP l k) ∧ Below w.heap.size w wr) (fun _ i _ => n - (intOf i).toNat)
  case atStart => exact ⟨0, Nat.zero_le _, rfl, rfl, Below.refl _ _⟩
  case round =>
    obtain ⟨k, hk, rfl, rfl, hB⟩ := hrel
    by_cases hlt : k < n
    · obtain ⟨b, off, rfl, hb, hc⟩ := h.mem (by omega)
      obtain ⟨A', n', c', hcell0, hrb0⟩ := hc k hlt
      clear hc
      have hsm := hs.get k
      have hrl := hrb0.len
      have hn' : n' ≤ 100000 := by omega
      have hp := sumP_bd hs k
      have hpn : sumP l (k + 1) = sumP l k + sumW (l[k]?.getD []) ((n' + 1) / 2) := by simp only [sumP]; unfold sumB; rw [hrl]
      replace hpn := Lib.hid hpn
      replace hrl := Lib.hid hrl
      generalize l[k]?.getD [] = bs at *
      have hcell := (hB.cell (p := ⟨b, off + k, none⟩) hb).trans hcell0
      go_wp2
      obtain ⟨wo, hwo⟩ : ∃ wo : World, wo = wr := ⟨_, rfl⟩
      subst hwo
      go_loopw [3, 5] (fun t i wr => ∃ j : Nat, 2 * j ≤ n' + 1 ∧ i = .int .i64 (2 * (j : Int)) ∧ t = .int .i64 (sumP l k + sumW bs j) ∧ Below w.heap.size w wr) (fun _ i _ => n' + 2 - (intOf i).toNat)
      case atStart => exact ⟨0, by omega, rfl, by simp [sumW], hB⟩
      case round =>
        obtain ⟨j, hj, rfl, rfl, hB2⟩ := hrel
        clear hcell
        have hcell := (hB2.cell (p := ⟨b, off + k, none⟩) hb).trans hcell0
        by_cases hlt2 : 2 * j < n'
        · have hw1 := wordI_bd hsm.2 (2 * j)
          have hw2 := sumW_bd hsm.2 j
          have hrb := hrb0.below hB2
          go_wp2_with (refine (RefWord_at A' n' c' bs (2 * (j : Int)) (2 * j) (by omega) _ hrb hn' hlt2).mono ?_; rintro e w' ⟨rfl, hb'⟩)
          go_roundw
          case rel => exact ⟨j + 1, by omega, by go_num, by simp only [sumW]; go_num, hB2.trans (hb'.mono hB2.size)⟩
          case measure => simp [intOf]; omega
        · have hpj := hpn.out
          rw [show (n' + 1) / 2 = j from by omega] at hpj
          replace hpj := Lib.hid hpj
          go_wp2
          go_roundw
          case rel => exact ⟨k + 1, by omega, by go_num, by rw [hpj.out], hB2⟩
          case measure => simp [intOf]; omega
    · obtain rfl : k = n := by omega
      have ht : totalI l = sumP l k := by unfold totalI; rw [h.len]
      rw [ht] at hbd
      have hT := Lib.hid ht
      clear ht h
      go_wp2_with (go_at_call 74; refine (RefFold_any _ _ (by omega)).mono ?_; rintro e w' ⟨rfl, rfl⟩)
      go_ret
      exact ⟨ret_int (by rw [hT.out]), hB⟩

set_option maxHeartbeats 400000 in
theorem RefOf_any (A : Option Addr) (n c : Nat) (l : List (List Int)) (w : World) (h : RBB w A n c l) (hs : Small l) :
    Calls Try.prog 40 #[.slice A n c] w fun e w' => e = .returned (.int .i64 (65535 - foldI (totalI l))) ∧ Below w.heap.size w w' := by
  have h1 := foldI_lo (totalI l)
  have h2 := foldI_hi (totalI l)
  go_enter Try.func40, Try.ntmps40
  go_wp2_with (go_at_call 53; refine (RefAdd_any A n c l _ h hs).mono ?_; rintro e w' ⟨rfl, hb⟩)
  go_ret
  exact ⟨rfl, hb⟩

set_option maxHeartbeats 400000 in
theorem RefRight_any (A : Option Addr) (n c : Nat) (l : List (List Int)) (w : World) (h : RBB w A n c l) (hs : Small l) :
    Calls Try.prog 29 #[.slice A n c] w fun e w' => e = .returned (.bool (foldI (totalI l) == 65535)) ∧ Below w.heap.size w w' := by
  go_enter Try.func29, Try.ntmps29
  go_wp2_with (go_at_call 53; refine (RefAdd_any A n c l _ h hs).mono ?_; rintro e w' ⟨rfl, hb⟩)
  go_ret
  exact ⟨rfl, hb⟩
end Go.Proofs.Ytmbmmpbfmakfbaa
