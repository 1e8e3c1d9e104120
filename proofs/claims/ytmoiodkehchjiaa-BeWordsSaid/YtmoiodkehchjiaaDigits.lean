/- The iterator over a number's bytes (be.digits); Collect; Put. -/
import Derived.Test.YtmoiodkehchjiaaSeq
import Derived.Test.YtmoiodkehchjiaaFits
set_option linter.unusedVariables false
namespace Go.Proofs.Ytmoiodkehchjiaa
open Go.RowKit Go.Shelf
attribute [local go_sem] Oper.semAt_some

/-- A number's bytes, the highest first. -/
def digL (n : Int) (s : Nat) : List Int := (List.range s).map fun j => n / 256 ^ (s - 1 - j) % 256
theorem digL_length (n : Int) (s : Nat) : (digL n s).length = s := by simp [digL]
theorem digL_get (n : Int) (s j : Nat) (h : j < s) : (digL n s)[j]? = some (n / 256 ^ (s - 1 - j) % 256) := by
  unfold digL; rw [List.getElem?_map, List.getElem?_range h]; rfl
theorem digL_byts (n : Int) (s : Nat) : Byts (digL n s) := by
  intro x hx
  unfold digL at hx
  rw [List.mem_map] at hx
  obtain ⟨j, _, rfl⟩ := hx
  omega

set_option maxHeartbeats 400000 in
theorem digits_call (n s : Int) (w : World) :
    Calls Try.prog 54 #[.int .i64 n, .int .i64 s] w fun e w' => e = .returned (.func (.func 58) #[] #[.pointer (some ⟨w.heap.size + 1, 0, none⟩), .pointer (some ⟨w.heap.size, 0, none⟩)]) ∧
      (w.alloc (.cells #[.int .i64 n] 3)).alloc (.cells #[.int .i64 s] 3) = w' := by
  go_enter Try.func54, Try.ntmps54
  go_wp2
  go_ret
  exact ⟨rfl, rfl⟩

theorem _root_.Go.Boxed.below {w w' : World} {B : Nat} {t : TypeId} {v : Value} (h : Boxed w B t v) (hb : Below w.heap.size w w') : Boxed w' B t v := (hb.block B h.lt).trans h

set_option maxRecDepth 100000 in
set_option maxHeartbeats 1000000 in
theorem digits_seq (Bn Bs : Nat) (n : Int) (s : Nat) (own : Nat → Prop) (w : World) (hn : Boxed w Bn 3 (.int .i64 n)) (hs : Boxed w Bs 3 (.int .i64 s)) (hs4 : s ≤ 4) (hn0 : 0 ≤ n) (o1 : ¬ own Bn) (o2 : ¬ own Bs) :
    SeqIs Try.prog 58 #[.pointer (some ⟨Bs, 0, none⟩), .pointer (some ⟨Bn, 0, none⟩)] (byteE (digL n s)) own w := by
  intro l J Jx W hW hJ hJx hY h0
  have hB1 := hn.lt
  have hB2 := hs.lt
  have hc1 := (hW.cell (p := ⟨Bn, 0, none⟩) hn.lt).trans hn.cell
  have hc2 := (hW.cell (p := ⟨Bs, 0, none⟩) hs.lt).trans hs.cell
  clear hn hs
  refine callsIn_of_wp Try.func58 rfl trivial ?_ rfl
  simp only [Try.ntmps58, List.size_toArray, List.length_cons, List.length_nil, Nat.reduceAdd, Nat.reduceSub, Array.replicate_succ, Array.replicate_zero, List.push_toArray, List.append_toArray, List.nil_append, List.cons_append]
  gi_wp2
  gi_loopw [4] (fun i wr => ∃ k : Nat, k ≤ s ∧ i = .int .i64 ((s : Int) - 1 - k) ∧ J k wr ∧ KeepX own w.heap.size W wr) (fun i _ => ((intOf i) + 1).toNat)
  case atStart => exact ⟨0, by omega, by simp, h0, KeepX.refl _ _ _⟩
  case round =>
    obtain ⟨k, hk, rfl, hJk, hkp⟩ := hrel
    have hc : wr.cell? ⟨Bn, 0, none⟩ = some (.int .i64 n) := (hkp.cell (p := ⟨Bn, 0, none⟩) hB1 o1).trans hc1
    by_cases hlt : k < s
    · obtain ⟨i, hi⟩ : ∃ i : Nat, i = s - 1 - k := ⟨_, rfl⟩
      obtain ⟨fn, tmps, assign, body, hy, hR⟩ := hY k _ wr (by unfold byteE; rw [List.getElem?_map, digL_get _ _ _ hlt]; rfl) hJk
      rw [← hi] at hy
      have hi4 : i = 0 ∨ i = 1 ∨ i = 2 ∨ i = 3 := by omega
      have hsi : (s : Int) - 1 - k = i := by omega
      rw [hsi]
      have hik : (i : Int) = s - 1 - k := by omega
      clear hsi hi hc1 hc2
      rcases hi4 with rfl | rfl | rfl | rfl
      all_goals
        simp only [Int.reducePow, Int.ediv_one] at hy
        replace hik := Lib.hid hik
        gi_wp2
        refine ⟨rfl, hR.mono ?_⟩
        rintro e W3 (⟨rfl, hJ3, hk3⟩ | ⟨rfl, hJx3⟩)
        · gi_wp2
          go_roundw
          case rel => exact ⟨k + 1, by omega, by have := hik.out; congr 1; omega, hJ3, hkp.trans hk3⟩
          case measure => simp [intOf]; first | done | (have := hik.out; omega)
        · gi_wp2
          refine bodyPost_ret (results_none rfl _ _ _) rfl ?_
          exact ⟨⟨_, rfl⟩, .inr ⟨k + 1, by simp [byteE, digL_length]; omega, hJx3⟩⟩
    · have : ((s : Int) - 1 - k) < 0 := by omega
      clear hc1 hc2
      gi_wp2
      go_end0
      refine ⟨⟨_, rfl⟩, .inl ?_⟩
      rw [show (byteE (digL n s)).length = k from by simp [byteE, digL_length]; omega]
      exact hJk

set_option maxHeartbeats 400000 in
theorem Collect_any (gf : Nat) (lb : Array Value) (ys : List Int) (w : World) (hy : ys.length ≤ 100000) (hyb : Byts ys)
    (eg : ∀ args w, (callFunc gf args).run Try.prog w = .ok (.enter gf args) w)
    (hseq : ∀ W, Below w.heap.size w W → SeqIs Try.prog gf lb (byteE ys) (fun k => k = w.heap.size ∨ ownBlk none = some k) W) :
    Calls Try.prog 56 #[.func (.func gf) #[] lb] w (Fresh w ys.length ys) := by
  have hc := AppendSeq_any none 0 0 w.heap.size gf lb [] ys w (OB.nil w _) (Nat.le_refl _) (by omega) hy hyb eg hseq
  rw [Nat.zero_add, List.nil_append] at hc
  replace hc := Lib.hid hc
  clear eg hseq hy hyb
  go_enter Try.func56, Try.ntmps56
  go_wp2_with fail
  refine hc.out.mono ?_
  rintro e w' ⟨A2, c2, rfl, ho, hb⟩
  generalize ys.length = m at *
  go_wp2
  go_ret
  exact ⟨A2, c2, rfl, ho, hb⟩

set_option maxHeartbeats 1000000 in
theorem Put_yes (A : Option Addr) (n c : Nat) (bs : List Int) (x : Int) (s : Nat) (w : World) (h : RB w A n c bs) (hn : n ≤ 100000) (hf : fitsP x s) :
    Calls Try.prog 38 #[.slice A n c, .int .i64 x, .int .i64 s] w (Fresh w (n + s) (bs ++ digL x s)) := by
  obtain ⟨⟨h1, h2⟩, h3, h4⟩ := hf
  have hx : x ≤ 4294967295 := by
    have hs4 : s ≤ 4 := by omega
    have h5 : (256 : Int) ^ s ≤ 4294967296 := by
      have hc : s = 0 ∨ s = 1 ∨ s = 2 ∨ s = 3 ∨ s = 4 := by omega
      rcases hc with rfl | rfl | rfl | rfl | rfl <;> decide
    rw [Int.toNat_natCast] at h4; omega
  have hfb := fitsB_yes (n := x) (s := s) ⟨⟨h1, h2⟩, h3, h4⟩
  have hC := Lib.hid (Clone_any A n c bs w h (by omega))
  replace hfb := Lib.hid hfb
  clear h h4
  go_enter Try.func38, Try.ntmps38
  go_wp2_with fail
  refine hC.out.mono ?_
  rintro e w1 ⟨A2, c2, rfl, ho, hb1⟩
  go_wp2_with fail
  refine (Fits_any x s _ (by omega) (by omega)).mono ?_
  rintro e w1' ⟨rfl, rfl⟩
  rw [hfb.out]
  go_wp2_with (go_at_call 54; refine (digits_call x s _).mono ?_; rintro e w' ⟨rfl, rfl⟩)
  have hsz := hb1.size
  have hown : ∀ k, ownBlk A2 = some k → k < w1.heap.size := fun k hk => (ho.blk hk).2
  have ho1 := (ho.alloc (.cells #[.int .i64 x] 3)).alloc (.cells #[.int .i64 s] 3)
  have hbn := (Boxed.new w1 3 (.int .i64 x)).alloc (.cells #[.int .i64 s] 3)
  have hbs := Boxed.new (w1.alloc (.cells #[.int .i64 x] 3)) 3 (.int .i64 s)
  rw [World.size_alloc] at hbs
  have hA := Lib.hid (AppendSeq_any A2 n c2 w.heap.size 58 #[.pointer (some ⟨w1.heap.size + 1, 0, none⟩), .pointer (some ⟨w1.heap.size, 0, none⟩)] bs (digL x s) _ ho1 (by simp; omega) hn (by rw [digL_length]; omega) (digL_byts x s)
    (enters_of Try.func58 (by kernel_rfl) rfl)
    (fun W hW => digits_seq w1.heap.size (w1.heap.size + 1) x s _ W (hbn.below hW) (hbs.below hW) (by omega) h3 (fun h => h.elim (fun e => by simp only [World.size_alloc] at e; omega) (fun e => by have := hown _ e; omega)) (fun h => h.elim (fun e => by simp only [World.size_alloc] at e; omega) (fun e => by have := hown _ e; omega))))
  refine hA.out.mono ?_
  rintro e w2 ⟨A3, c3, rfl, ho3, hb3⟩
  go_wp2
  go_ret
  rw [digL_length] at ho3
  exact ⟨A3, c3, by rw [digL_length]; rfl, ho3, ((hb1.alloc hsz _).alloc (by simp; omega) _).trans hb3⟩

set_option maxHeartbeats 1000000 in
theorem Put_no (A : Option Addr) (n c : Nat) (bs : List Int) (x s : Int) (w : World) (h : RB w A n c bs) (hn : n ≤ 100000) (hf : ¬ fitsP x s) (b0 : -9223372036854775808 ≤ x) (b1 : x ≤ 9223372036854775807) :
    Calls Try.prog 38 #[.slice A n c, .int .i64 x, .int .i64 s] w (Fresh w n bs) := by
  have hfb := Lib.hid (fitsB_no hf)
  have hF := fun w => Fits_any x s w b0 b1
  have hC := Lib.hid (Clone_any A n c bs w h (by omega))
  replace hF := Lib.hid hF
  clear h hf b0 b1
  go_enter Try.func38, Try.ntmps38
  go_wp2_with fail
  refine hC.out.mono ?_
  rintro e w1 ⟨A2, c2, rfl, ho, hb1⟩
  go_wp2_with fail
  refine (hF.out _).mono ?_
  rintro e w1' ⟨rfl, rfl⟩
  rw [hfb.out]
  go_wp2
  go_ret
  exact ⟨A2, c2, rfl, ho, hb1⟩
end Go.Proofs.Ytmoiodkehchjiaa
