/- Captures: the iterator over records: its walk. -/
import Derived.Test.YtbbdkfadcafpfaaPcapH
import Derived.Test.YtbbdkfadcafpfaaRangeR
set_option linter.unusedVariables false
namespace Go.Proofs.Ytbbdkfadcafpfaa
open Go Go.RowKit
attribute [local go_sem] Oper.semAt_some

/-- What the iterator hands on. -/
def recsF : Nat → List Int → List (QP × Int)
  | 0, _ => []
  | f + 1, bs => if bs.length = 0 then [] else if codeO bs = 0 then (recAt bs, 0) :: recsF f (bs.drop (16 + ownV bs).toNat) else [(zeroQ, codeO bs)]
def outsR (bs : List Int) : List (QP × Int) := if beginsV bs = 0 then recsF (bs.length + 1) (bs.drop 24) else [(zeroQ, beginsV bs)]
def YieldR (bs : List Int) (base i : Nat) (e : Array Value) (W : World) : Prop :=
  ∃ q k A m c, (outsR bs)[i]? = some (q, k) ∧ e = #[.agg (cellsQ q A m c), .int .i64 k] ∧ OB W base A m c q.data
theorem RB.keepR {own : Nat → Prop} {N b : Nat} {A B : World} {a : Option Addr} {n c : Nat} {bs : List Int} (h : RB A a n c bs) (ha : 0 < n → ∃ o, a = some ⟨b, o, none⟩) (hb : b < N) (ho : ¬ own b) (hk : KeepX own N A B) : RB B a n c bs :=
  ⟨h.len, h.nc, h.cm, h.byt, h.niln, fun hn => by obtain ⟨o, rfl⟩ := ha hn; exact (hk.rb h hb ho).mem hn⟩
theorem codeO_rest {bs : List Int} (h : codeO bs = 0) (hb : Byts bs) : 16 ≤ 16 + ownV bs ∧ 16 + ownV bs ≤ bs.length := by
  have h0 := (pgetV4_bd hb 8).1
  unfold codeO at h
  split at h
  · cases h
  · split at h
    · cases h
    · have : 0 ≤ ownV bs := h0
      omega

set_option maxHeartbeats 400000 in
theorem Records_call (A : Option Addr) (n c : Nat) (w : World) :
    Calls Try.prog 65 #[.slice A n c] w fun e w' => e = .returned (.func (.func 76) #[] #[.pointer (some ⟨w.heap.size, 0, none⟩)]) ∧ w.alloc (.cells #[.slice A n c] 24) = w' := by
  go_enter Try.func65, Try.ntmps65
  go_wp2
  go_ret
  exact ⟨rfl, rfl⟩

set_option maxRecDepth 100000 in
set_option maxHeartbeats 2000000 in
theorem Records_seq (Bs n c b : Nat) (A : Option Addr) (bs : List Int) (own : Nat → Prop) (w : World) (hx : Boxed w Bs 24 (.slice A n c)) (h : RB w A n c bs) (hA : 0 < n → (∃ o, A = some ⟨b, o, none⟩) ∧ b < w.heap.size) (hn : n ≤ 100000) (ho : ¬ own Bs) (hob : ¬ own b) :
    SeqRel Try.prog 76 #[.pointer (some ⟨Bs, 0, none⟩)] (outsR bs).length (YieldR bs w.heap.size) own w := by
  intro l J Jx W hW hJ hJx hY h0
  have hlen := h.len
  have hcB := (hW.cell (p := ⟨Bs, 0, none⟩) hx.lt).trans hx.cell
  have hBs := hx.lt
  have hrW := h.below hW
  have hBg := Lib.hid (PBegins_any A n c bs W hrW hn)
  have hws := Lib.hid hW.size
  clear hx
  refine callsIn_of_wp Try.func76 rfl trivial ?_ rfl
  simp only [Try.ntmps76, List.size_toArray, List.length_cons, List.length_nil, Nat.reduceAdd, Nat.reduceSub, Array.replicate_succ, Array.replicate_zero, List.push_toArray, List.append_toArray, List.nil_append, List.cons_append]
  have hou : outsR bs = if beginsV bs = 0 then recsF (n + 1) (bs.drop 24) else [(zeroQ, beginsV bs)] := by unfold outsR; rw [hlen]
  have hb24 : beginsV bs = 0 → 24 ≤ n := fun hb => by
    unfold beginsV at hb
    rw [hlen] at hb
    split at hb
    · cases hb
    · omega
  by_cases hbv : beginsV bs = 0
  · rw [if_pos hbv] at hou
    rw [hbv] at hBg
    have hn24 := hb24 hbv
    obtain ⟨⟨o, rfl⟩, hbl⟩ := hA (by omega)
    have hnc := h.nc
    have hnci : (n : Int) ≤ c := by omega
    have i24 : (24 : Int) ≤ n := by omega
    have i24c : (24 : Int) ≤ c := by omega
    have hd24 := hrW.drop_any 24 hn24
    obtain ⟨A1, hif1⟩ : ∃ A1, (if c = 24 then some (⟨b, o, none⟩ : Addr) else some ⟨b, o + 24, none⟩) = A1 := ⟨_, rfl⟩
    have hA1 := Lib.hid (show ∃ o', A1 = some ⟨b, o', none⟩ by rw [← hif1]; split; exact ⟨_, rfl⟩; exact ⟨_, rfl⟩)
    rw [hif1] at hd24
    replace hd24 := Lib.hid hd24
    replace h := 0
    replace hrW := 0
    replace hA := 0
    replace hou := Lib.hid hou
    clear hb24 hbv hlen
    gi_wp2_with (refine ⟨trivial, rfl, (callsIn_wide.2 hBg.out).mono ?_⟩; rintro e w1 ⟨rfl, hB1⟩; have hcB1 := (hB1.cell (p := ⟨Bs, 0, none⟩) (show Bs < W.heap.size from Nat.lt_of_lt_of_le hBs hws.out)).trans hcB; replace hB1 := Lib.hid hB1)
    have hdl : (bs.drop 24).length = n - 24 := hd24.out.len
    have hJ1 := Lib.hid (hJ _ _ _ h0 hB1.out)
    have hk1 := Lib.hid (KeepX.of_below (own := own) (N := w.heap.size) hB1.out hws.out)
    have hr1 := Lib.hid (hd24.out.below hB1.out)
    have hbo : b ≠ Bs ∨ b = Bs := by omega
    replace hB1 := 0
    clear h0 hif1
    gi_loopw [4, 5, 6, 7] (fun vb _ _ _ wr => ∃ (A2 : Option Addr) (n2 c2 : Nat) (rest : List Int) (f : Nat) (pre : List (QP × Int)), vb = .slice A2 n2 c2 ∧ RB wr A2 n2 c2 rest ∧ (0 < n2 → ∃ o', A2 = some ⟨b, o', none⟩) ∧ outsR bs = pre ++ recsF f rest ∧ n2 < f ∧ n2 ≤ 100000 ∧ J pre.length wr ∧ w.heap.size ≤ wr.heap.size ∧ KeepX own w.heap.size W wr) (fun vb _ _ _ _ => match vb with | .slice _ n _ => n | _ => 0)
    case atStart => exact ⟨A1, n - 24, c - 24, bs.drop 24, n + 1, [], rfl, hr1.out, fun _ => hA1.out, hou.out, by omega, by omega, hJ1.out, Nat.le_trans hws.out hk1.out.size, hk1.out⟩
    case round =>
      obtain ⟨A2, n2, c2, rest, f, pre, rfl, hr2, ha2, hout, hf, hn2, hJk, hsz, hkp⟩ := hrel
      obtain ⟨f, rfl⟩ : ∃ g, f = g + 1 := ⟨f - 1, by omega⟩
      have hl2 := hr2.len
      have hst : recsF (f + 1) rest = if rest.length = 0 then [] else if codeO rest = 0 then (recAt rest, 0) :: recsF f (rest.drop (16 + ownV rest).toNat) else [(zeroQ, codeO rest)] := rfl
      rw [hl2] at hst
      replace hJ1 := 0
      replace hk1 := 0
      replace hr1 := 0
      replace hd24 := 0
      replace hou := 0
      by_cases hlt : 0 < n2
      · rw [if_neg (by omega)] at hst
        have hlti : (0 : Int) < n2 := by omega
        have hOne := POne_any A2 n2 c2 rest wr hr2 hn2
        unfold POneOut restR oneRQ at hOne
        have hbyt := hr2.byt
        replace hsz := Lib.hid hsz
        replace hkp := Lib.hid hkp
        by_cases hco : codeO rest = 0
        · obtain ⟨hj1, hj2⟩ := codeO_rest hco hbyt
          rw [hl2] at hj2
          rw [if_pos hco] at hst
          rw [if_pos hco, if_pos hco, hco] at hOne
          obtain ⟨j, hj⟩ := Int.eq_ofNat_of_zero_le (show 0 ≤ 16 + ownV rest by omega)
          rw [hj, Int.toNat_natCast] at hst hOne
          rw [hj] at hj1 hj2
          have hel := Lib.hid (show (outsR bs)[pre.length]? = some (recAt rest, 0) by rw [hout, hst, List.getElem?_append_right (Nat.le_refl _)]; simp)
          have hle := Lib.hid (show pre.length < (outsR bs).length by rw [hout, hst]; simp)
          have hnx := Lib.hid (show outsR bs = (pre ++ [(recAt rest, 0)]) ++ recsF f (rest.drop j) by rw [hout, hst]; simp)
          have hrl := Lib.hid (show (rest.drop j).length = n2 - j by rw [List.length_drop, hl2])
          generalize recAt rest = q at *
          generalize rest.drop j = rest2 at *
          replace hOne := Lib.hid hOne
          replace hr2 := 0
          clear hst hout hl2 hbyt hco
          gi_wp2_with (refine ⟨trivial, rfl, (callsIn_wide.2 hOne.out).mono ?_⟩; rintro e w2 ⟨A3, m, c3, A4, n4, c4, rfl, ho3, hr4, ha4, hB2⟩; have hk2 := Lib.hid (hkp.out.trans (KeepX.of_below hB2 hsz.out)); have hJ2 := Lib.hid (hJ _ _ _ hJk hB2); have hs2 := Lib.hid (Nat.le_trans hsz.out hB2.size); replace ho3 := Lib.hid (ho3.mono hsz.out); replace hr4 := Lib.hid hr4; have hl4 := Lib.hid hr4.out.len; replace hB2 := 0)
          have hba : Below w2.heap.size w2 (w2.alloc (.cells (cellsQ q A3 m c3) 67)) := (Below.refl _ _).alloc (Nat.le_refl _) _
          have hJ3 := hJ _ _ _ hJ2.out hba
          have hk3 := Lib.hid (hk2.out.trans (KeepX.of_below hba hs2.out))
          have ha5 := Lib.hid (show 0 < n4 → ∃ o, A4 = some ⟨b, o, none⟩ from fun h4 => by
            obtain ⟨b', o', o'', e1, e2⟩ := ha4 h4
            obtain ⟨o3, e3⟩ := ha2 hlt
            rw [e3] at e1
            cases e1
            exact ⟨_, e2⟩)
          have hr5 := Lib.hid (hr4.out.alloc (.cells (cellsQ q A3 m c3) 67))
          obtain ⟨fn, tmps, assign, body, hy, hR⟩ := hY pre.length #[.agg #[.int .i64 q.x, .int .i64 q.y, .int .i64 q.z, .slice A3 m c3], .int .i64 0] (w2.alloc (.cells #[.int .i64 q.x, .int .i64 q.y, .int .i64 q.z, .slice A3 m c3] 67)) hle.out ⟨q, 0, A3, m, c3, hel.out, rfl, ho3.out.alloc _⟩ hJ3
          clear hJ3 hba hY
          gi_wp2
          rw [hy]
          refine ⟨(fun h => by cases h), hR.mono ?_⟩
          rintro e W3 (⟨rfl, hJ4, hk4⟩ | ⟨rfl, hJx4⟩)
          · have hn4 := Lib.hid (show n4 = n2 - j from hl4.out.symm.trans hrl.out)
            have hr6 := Lib.hid (hr5.out.keepR ha5.out hbl hob hk4)
            have hk6 := Lib.hid (hk3.out.trans hk4)
            have hs6 := Lib.hid (Nat.le_trans hws.out hk6.out.size)
            gi_wp2
            go_roundw
            case rel => exact ⟨A4, n4, c4, rest2, f, pre ++ [(q, 0)], rfl, hr6.out, ha5.out, hnx.out, by have := hn4.out; omega, by have := hn4.out; omega, by simpa using hJ4, hs6.out, hk6.out⟩
            case measure => show n4 < n2; have := hn4.out; omega
          · gi_wp2
            exact bodyPost_ret (v := .tuple #[]) (by simp [results, Try.results76, go_sem]) rfl ⟨⟨_, rfl⟩, .inr ⟨_, hle.out, hJx4⟩⟩
        · rw [if_neg hco] at hst
          rw [if_neg hco, if_neg hco] at hOne
          have hel := Lib.hid (show (outsR bs)[pre.length]? = some (zeroQ, codeO rest) by rw [hout, hst, List.getElem?_append_right (Nat.le_refl _)]; simp)
          have hle := Lib.hid (show pre.length < (outsR bs).length by rw [hout, hst]; simp)
          have hme := Lib.hid (show (outsR bs).length = pre.length + 1 by rw [hout, hst]; simp)
          have hne : (codeO rest != 0) = true := by simpa using hco
          generalize codeO rest = kk at *
          replace hOne := Lib.hid hOne
          replace hr2 := 0
          clear hst hout hl2 hbyt hco
          gi_wp2_with (refine ⟨trivial, rfl, (callsIn_wide.2 hOne.out).mono ?_⟩; rintro e w2 ⟨A3, m, c3, A4, n4, c4, rfl, ho3, hr4, ha4, hB2⟩; have hJ2 := Lib.hid (hJ _ _ _ hJk hB2); replace ho3 := Lib.hid (ho3.mono hsz.out); replace hr4 := 0; replace ha4 := 0; replace hB2 := 0)
          have hba : Below w2.heap.size w2 (w2.alloc (.cells (cellsQ zeroQ A3 m c3) 67)) := (Below.refl _ _).alloc (Nat.le_refl _) _
          have hJ3 := hJ _ _ _ hJ2.out hba
          obtain ⟨fn, tmps, assign, body, hy, hR⟩ := hY pre.length #[.agg #[.int .i64 zeroQ.x, .int .i64 zeroQ.y, .int .i64 zeroQ.z, .slice A3 m c3], .int .i64 kk] (w2.alloc (.cells #[.int .i64 zeroQ.x, .int .i64 zeroQ.y, .int .i64 zeroQ.z, .slice A3 m c3] 67)) hle.out ⟨zeroQ, kk, A3, m, c3, hel.out, rfl, ho3.out.alloc _⟩ hJ3
          clear hJ3 hba hY
          gi_wp2
          rw [hy]
          refine ⟨(fun h => by cases h), hR.mono ?_⟩
          rintro e W3 (⟨rfl, hJ4, hk4⟩ | ⟨rfl, hJx4⟩)
          · gi_wp2
            exact bodyPost_ret (v := .tuple #[]) (by simp [results, Try.results76, go_sem]) rfl ⟨⟨_, rfl⟩, .inl (by rw [hme.out]; exact hJ4)⟩
          · gi_wp2
            exact bodyPost_ret (v := .tuple #[]) (by simp [results, Try.results76, go_sem]) rfl ⟨⟨_, rfl⟩, .inr ⟨_, hle.out, hJx4⟩⟩
      · obtain rfl : n2 = 0 := by omega
        rw [if_pos rfl] at hst
        have hme := Lib.hid (show (outsR bs).length = pre.length by rw [hout, hst]; simp)
        replace hr2 := 0
        clear hst hout
        gi_wp2
        (first | go_end0 | (rw [Exit.noGoto_normal]; go_end0))
        refine ⟨⟨_, rfl⟩, .inl ?_⟩
        rw [hme.out]; exact hJk
  · rw [if_neg hbv] at hou
    have hel := Lib.hid (show (outsR bs)[0]? = some (zeroQ, beginsV bs) by rw [hou]; rfl)
    have hme := Lib.hid (show (outsR bs).length = 1 by rw [hou]; rfl)
    have hne : (beginsV bs != 0) = true := by simpa using hbv
    generalize beginsV bs = kk at *
    clear hou hb24 hbv hlen
    gi_wp2_with (refine ⟨trivial, rfl, (callsIn_wide.2 hBg.out).mono ?_⟩; rintro e w1 ⟨rfl, hB1⟩; replace hB1 := Lib.hid hB1)
    obtain ⟨fn, tmps, assign, body, hy, hR⟩ := hY 0 #[.agg #[.int .i64 0, .int .i64 0, .int .i64 0, .slice none 0 0], .int .i64 kk] w1 (by rw [hme.out]; omega) ⟨zeroQ, kk, none, 0, 0, hel.out, rfl, OB.nil _ _⟩ (hJ _ _ _ h0 hB1.out)
    clear hY
    gi_wp2
    rw [hy]
    refine ⟨(fun h => by cases h), hR.mono ?_⟩
    rintro e W3 (⟨rfl, hJ4, hk4⟩ | ⟨rfl, hJx4⟩)
    · gi_wp2
      exact bodyPost_ret (v := .tuple #[]) (by simp [results, Try.results76, go_sem]) rfl ⟨⟨_, rfl⟩, .inl (by rw [hme.out]; exact hJ4)⟩
    · gi_wp2
      exact bodyPost_ret (v := .tuple #[]) (by simp [results, Try.results76, go_sem]) rfl ⟨⟨_, rfl⟩, .inr ⟨1, by rw [hme.out]; omega, hJx4⟩⟩
end Go.Proofs.Ytbbdkfadcafpfaa
