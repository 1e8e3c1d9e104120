/- slices.AppendSeq and slices.Collect of bytes, over an iterator that hands on a known list. -/
import Derived.Test.YtipigcpenmcaoaaAppend
import Derived.Test.YtipigcpenmcaoaaRange
set_option linter.unusedVariables false
namespace Go.Proofs.Ytipigcpenmcaoaa
open Go.RowKit Go.Shelf
attribute [local go_sem] Oper.semAt_some

def byteE (ys : List Int) : List (Array Value) := ys.map fun y => #[.int .u8 y]
theorem byteE_inv (ys : List Int) (i : Nat) (e : Array Value) (h : (byteE ys)[i]? = some e) : i < ys.length ∧ e = #[.int .u8 (ys[i]?.getD 0)] := by
  unfold byteE at h
  rw [List.getElem?_map] at h
  cases hy : ys[i]? with
  | none => rw [hy] at h; cases h
  | some y => rw [hy] at h; cases h; exact ⟨(List.getElem?_eq_some_iff.1 hy).1, rfl⟩

/-- What AppendSeq leaves. -/
def AppPost (w : World) (base n : Nat) (bs : List Int) (e : Ending) (w' : World) : Prop := ∃ A2 c2, e = .returned (.slice A2 n c2) ∧ OB w' base A2 n c2 bs ∧ Below base w w'

set_option maxRecDepth 100000 in
set_option maxHeartbeats 1000000 in
theorem AppendSeq_any (A : Option Addr) (n c base gf : Nat) (lb : Array Value) (bs ys : List Int) (w : World) (h : OB w base A n c bs) (hbase : base ≤ w.heap.size) (hn : n ≤ 100000) (hy : ys.length ≤ 100000) (hyb : Byts ys)
    (eg : ∀ args w, (callFunc gf args).run Try.prog w = .ok (.enter gf args) w)
    (hseq : ∀ W, Below w.heap.size w W → SeqIs Try.prog gf lb (byteE ys) (fun k => k = w.heap.size ∨ ownBlk A = some k) W) :
    Calls Try.prog 151 #[.slice A n c, .func (.func gf) #[] lb] w (AppPost w base (n + ys.length) (bs ++ ys)) := by
  refine (callsIn_wide (n := 0)).1 ?_
  refine callsIn_of_wp_marks Try.func151 rfl trivial ?_ rfl
  simp only [Try.ntmps151, List.size_toArray, List.length_cons, List.length_nil, Nat.reduceAdd, Nat.reduceSub, Array.replicate_succ, Array.replicate_zero, List.push_toArray, List.append_toArray, List.nil_append, List.cons_append]
  gi_wp2
  obtain ⟨Ws, hWs⟩ : ∃ Ws, w.alloc (.cells #[.slice A n c] 22) = Ws := ⟨_, rfl⟩
  rw [hWs]
  have hsz : Ws.heap.size = w.heap.size + 1 := by rw [← hWs]; simp
  have hbx : Boxed Ws w.heap.size 22 (.slice A n c) := by rw [← hWs]; exact Boxed.new _ _ _
  have hob : OB Ws base A n c bs := by rw [← hWs]; exact h.alloc _
  have hBw : Below w.heap.size w Ws := by rw [← hWs]; exact (Below.refl _ w).alloc (Nat.le_refl _) _
  have hblk : ∀ k, ownBlk A = some k → base ≤ k ∧ k < w.heap.size := fun k hk => h.blk hk
  replace hseq := Lib.hid (hseq Ws hBw)
  replace hblk := Lib.hid hblk
  clear hWs h
  refine range_k (gf := gf) (lb := lb) rfl eg (own := fun k => k = w.heap.size ∨ ownBlk A = some k) (by rintro k (rfl | hk); omega; have := hblk.out k hk; omega) hseq.out ?hps
    (fun i W => ∃ A2 c2, Boxed W w.heap.size 22 (.slice A2 (n + i) c2) ∧ OB W base A2 (n + i) c2 (bs ++ ys.take i) ∧ (ownBlk A2 = ownBlk A ∨ ∃ k, ownBlk A2 = some k ∧ Ws.heap.size + 2 ≤ k))
    (fun _ _ _ => False) (fun i A B h hg => ?hI) (fun _ _ _ _ h _ => h) ⟨A, c, hbx, by simpa using hob, .inl rfl⟩ ?round ?done ?stop
  case hps =>
    intro e he
    obtain ⟨i, hi⟩ := List.getElem?_of_mem he
    rw [(byteE_inv _ _ _ hi).2]; rfl
  case hI =>
    obtain ⟨A2, c2, h1, h2, h3⟩ := h
    exact ⟨A2, c2, hg.boxed h1, ⟨hg.own h2.own, h2.byt⟩, h3⟩
  case round =>
    rintro l i e W he hi hk hs
    obtain ⟨h1, rfl⟩ := byteE_inv _ _ _ he
    have hy1 := hyb.get i
    have htk : ys.take (i + 1) = ys.take i ++ [ys[i]?.getD 0] := by rw [List.take_add_one, List.getElem?_eq_getElem h1]; rfl
    replace h1 := Lib.hid h1
    generalize ys[i]?.getD 0 = y at *
    replace htk := Lib.hid htk
    gi_wp2
    refine ⟨Below.refl _ _, fun W₂ hg hs2 => ?_⟩
    replace hs : Ws.heap.size + 2 ≤ W₂.heap.size := by omega
    clear hs2
    have hil : i < 100000 := by have := h1.out; omega
    obtain ⟨A2, c2, hx1, ho1, hr1⟩ := hi
    replace hx1 := hg.boxed hx1
    replace ho1 : OB W₂ base A2 (n + i) c2 (bs ++ ys.take i) := ⟨hg.own ho1.own, ho1.byt⟩
    have hlit := RB.lit W₂ 5 [y] (Byts.one hy1.1 hy1.2) (by simp)
    have hc0 := hx1.cell
    have hne := ho1.not_box hx1 (by decide)
    have hx2 := hx1.alloc (.cells #[.int .u8 y] 5)
    replace hr1 := Lib.hid hr1
    gi_wp2_with (gi_at_builtin; refine wpListIn_append_bytes _ rfl (.tmp 8) (.tmp 10) rfl rfl rfl (ho1.alloc _) hlit (by simp; omega) (by simp; omega) ?_; intro A3 c3 w3 ho3 hg3 hr3; have hx3 := hx2.kept hg3 hne; have hc3 := hx3.cell; have hf3 := hx3.frozen)
    refine ⟨(((KeepX.refl _ _ W₂).alloc hs _).grown hg3 (by simp; omega) (fun k hk' => ?_)).setCell (p := ⟨w.heap.size, 0, none⟩) (.inl (by simp)) _, A3, c3, hx3.set _, ?_, ?_⟩
    · rcases hr1.out with e | ⟨k', e, hle⟩
      · exact .inl (.inr (e ▸ hk'))
      · rw [hk'] at e; cases e; exact .inr hle
    · rw [htk.out, ← List.append_assoc]
      exact ho3.set_far (ho3.not_box hx3 (by decide)) _
    · rcases hr3 with e | e
      · rw [e]; exact hr1.out
      · exact .inr ⟨_, e, by simp; omega⟩
  case done =>
    intro W hi hk hd
    obtain ⟨A2, c2, hx1, ho1, hr1⟩ := hi
    rw [show (byteE ys).length = ys.length from by simp [byteE]] at hx1 ho1
    rw [List.take_length] at ho1
    have hc0 := hx1.cell
    gi_wp2
    refine leave_marks (N := w.heap.size) ⟨Ws.heap.size, rfl, by omega, hd, by simp, trivial⟩ fun W' hg => ?_
    refine ⟨_, results_tmp rfl _ _ _, A2, c2, rfl, ⟨hg.own ho1.own, ho1.byt⟩, hg.below hbase ?_ hbase⟩
    refine ⟨hk.os.trans hBw.os, hk.tape.trans hBw.tape, hk.output.trans hBw.output, Nat.le_trans hBw.size hk.size, fun j hj => (hk.keep j (by omega) ?_).trans (hBw.block j (by omega))⟩
    rintro (e | e)
    · omega
    · have := (hblk.out j e).1; omega
  case stop => exact fun c i W _ h => h.elim
end Go.Proofs.Ytipigcpenmcaoaa
