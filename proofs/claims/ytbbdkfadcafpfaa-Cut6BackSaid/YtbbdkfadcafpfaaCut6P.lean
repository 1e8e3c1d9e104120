/- Fragments of IPv6 (cut6): the kind of packets; chunks; what is cut. -/
import Derived.Test.YtbbdkfadcafpfaaStru
import Derived.Test.YtbbdkfadcafpfaaFrag
import Derived.Test.YtbbdkfadcafpfaaV6B
import Derived.Test.YtbbdkfadcafpfaaRangeR
import Derived.Test.YtbbdkfadcafpfaaRound
import Derived.Test.YtbbdkfadcafpfaaFits
import Derived.Test.YtbbdkfadcafpfaaAppend
import Derived.Test.YtbbdkfadcafpfaaZero6
import Derived.Test.YtbbdkfadcafpfaaFld
set_option linter.unusedVariables false
namespace Go.Proofs.Ytbbdkfadcafpfaa
open Go Go.RowKit

theorem V6V.at_ {P : Array Value} {p : V6P} {A : Option Addr} {n c : Nat} (h : V6V P p A n c) {u : Value} (hu : u ∈ P.toList) : u.oneCell' = true := by
  obtain ⟨i, hi⟩ := List.getElem?_of_mem hu
  rw [Array.getElem?_toList] at hi
  have hlt : i < 37 := by have := (Array.getElem?_eq_some_iff.1 hi).1; rw [h.size] at this; exact this
  have hc : i = 0 ∨ i = 1 ∨ i = 2 ∨ i = 3 ∨ (4 ≤ i ∧ i < 20) ∨ (20 ≤ i ∧ i < 36) ∨ i = 36 := by omega
  rcases hc with rfl | rfl | rfl | rfl | ⟨h1, h2⟩ | ⟨h1, h2⟩ | rfl
  · rw [h.h0] at hi; cases hi; rfl
  · rw [h.h1] at hi; cases hi; rfl
  · rw [h.h2] at hi; cases hi; rfl
  · rw [h.h3] at hi; cases hi; rfl
  · have := h.hs (i - 4) (by omega)
    rw [show 4 + (i - 4) = i by omega, hi] at this
    rw [Option.some.inj this]; rfl
  · have := h.hd (i - 20) (by omega)
    rw [show 20 + (i - 20) = i by omega, hi] at this
    rw [Option.some.inj this]; rfl
  · rw [h.h36] at hi; cases hi; rfl
def kV6 : Kd where
  β := V6P × Array Value × Option Addr × Nat × Nat
  K := 37
  cells := fun x => x.2.1
  sl := fun x => [(x.2.2.1, x.2.2.2.1, x.2.2.2.2, x.1.data)]
  ok := fun x => V6V x.2.1 x.1 x.2.2.1 x.2.2.2.1 x.2.2.2.2
  size := fun x h => h.size
  one := fun x h u hu => h.at_ hu
  pos := by decide
theorem V6V.data {P : Array Value} {p : V6P} {A : Option Addr} {n c : Nat} (h : V6V P p A n c) (A' : Option Addr) (n' c' : Nat) (d : List Int) : V6V (P.setIfInBounds 36 (.slice A' n' c')) { p with data := d } A' n' c' := by
  have hs := h.size
  exact ⟨by simp [hs], by rw [Array.getElem?_setIfInBounds_ne (by decide)]; exact h.h0, by rw [Array.getElem?_setIfInBounds_ne (by decide)]; exact h.h1, by rw [Array.getElem?_setIfInBounds_ne (by decide)]; exact h.h2, by rw [Array.getElem?_setIfInBounds_ne (by decide)]; exact h.h3,
    fun j hj => by rw [Array.getElem?_setIfInBounds_ne (by omega)]; exact h.hs j hj, fun j hj => by rw [Array.getElem?_setIfInBounds_ne (by omega)]; exact h.hd j hj, by simp [hs], h.ls, h.ld, h.bs, h.bd⟩
theorem V6V.next {P : Array Value} {p : V6P} {A : Option Addr} {n c : Nat} (h : V6V P p A n c) (x : Int) : V6V (P.setIfInBounds 2 (.int .i64 x)) { p with nx := x } A n c := by
  have hs := h.size
  exact ⟨by simp [hs], by rw [Array.getElem?_setIfInBounds_ne (by decide)]; exact h.h0, by rw [Array.getElem?_setIfInBounds_ne (by decide)]; exact h.h1, by simp [hs], by rw [Array.getElem?_setIfInBounds_ne (by decide)]; exact h.h3,
    fun j hj => by rw [Array.getElem?_setIfInBounds_ne (by omega)]; exact h.hs j hj, fun j hj => by rw [Array.getElem?_setIfInBounds_ne (by omega)]; exact h.hd j hj, by rw [Array.getElem?_setIfInBounds_ne (by decide)]; exact h.h36, h.ls, h.ld, h.bs, h.bd⟩

/-- The parts of data: where each begins, whether more follow, its bytes. -/
def chunksF (most size : Nat) (data : List Int) : Nat → Nat → List (Nat × Bool × List Int)
  | 0, _ => []
  | f + 1, a => if most < data.length - a then (a, true, (data.drop a).take size) :: chunksF most size data f (a + size) else [(a, false, data.drop a)]
def chunksC (most : Nat) (data : List Int) : List (Nat × Bool × List Int) := chunksF most (most / 8 * 8) data (data.length + 1) 0
theorem chunksF_step (most size : Nat) (data : List Int) (f a : Nat) : chunksF most size data (f + 1) a = if most < data.length - a then (a, true, (data.drop a).take size) :: chunksF most size data f (a + size) else [(a, false, data.drop a)] := rfl
theorem chunksF_len (most size : Nat) (data : List Int) : ∀ (f a : Nat), (chunksF most size data f a).length ≤ f
  | 0, _ => Nat.le_refl _
  | f + 1, a => by
    rw [chunksF_step]
    split
    · have := chunksF_len most size data f (a + size); rw [List.length_cons]; omega
    · simp
/-- Of a chunk: it begins within the data, at a place that is a multiple of 8, and has at most so many bytes. -/
theorem chunksF_mem {most size : Nat} {data : List Int} (h8 : size % 8 = 0) (hs : size ≤ most) (hd : 0 < data.length) : ∀ (f a : Nat), a % 8 = 0 → a < data.length → ∀ x ∈ chunksF most size data f a, x.1 % 8 = 0 ∧ x.1 < data.length ∧ x.2.2.length ≤ most
  | 0, _, _, _, x, h => by cases h
  | f + 1, a, ha, hl, x, h => by
    rw [chunksF_step] at h
    split at h
    · rename_i hm
      rcases List.mem_cons.1 h with h | h
      · subst h
        exact ⟨ha, hl, by rw [List.length_take]; omega⟩
      · exact chunksF_mem h8 hs hd f (a + size) (by omega) (by omega) x h
    · rename_i hm
      rw [List.mem_singleton] at h
      subst h
      exact ⟨ha, hl, by rw [List.length_drop]; omega⟩
/-- A fragment. -/
def fragOf (p : V6P) (id : Int) (x : Nat × Bool × List Int) : V6P := { p with nx := 44, data := bytesF p.nx x.1 id x.2.1 ++ x.2.2 }
def cutK (p : V6P) (id mtu : Int) : Int := if mtu < 1280 ∨ 65535 < mtu ∨ fitsB id 4 = false then 1 else checkV p p.data.length
def cutR (p : V6P) (id mtu : Int) : List V6P :=
  if cutK p id mtu = 0 then (if (40 + p.data.length : Int) ≤ mtu then [p] else (chunksC (mtu - 48).toNat p.data).map (fragOf p id)) else []
def CutOut (w : World) (p : V6P) (id mtu : Int) (e : Ending) (w' : World) : Prop :=
  ∃ A2 n2 c2 ps, e = .returned (.tuple #[.slice A2 n2 c2, .int .i64 (cutK p id mtu)]) ∧ LR kV6 w' A2 n2 c2 ps ∧ ps.map (·.1) = cutR p id mtu ∧ Below w.heap.size w w'
end Go.Proofs.Ytbbdkfadcafpfaa
/- Fragments of IPv6 (cut6): the iterator over chunks: its walk. -/
set_option linter.unusedVariables false
namespace Go.Proofs.Ytbbdkfadcafpfaa
open Go Go.RowKit
attribute [local go_sem] Oper.semAt_some

def YieldC (most : Nat) (bs : List Int) (b off i : Nat) (e : Array Value) (W : World) : Prop :=
  ∃ (a : Nat) (m : Bool) (d : List Int) (c1 : Nat), (chunksC most bs)[i]? = some (a, m, d) ∧ e = #[.agg #[.int .i64 0, .int .i64 (a : Int), .int .i64 0, .bool m], .slice (some ⟨b, off + a, none⟩) d.length c1] ∧ RB W (some ⟨b, off + a, none⟩) d.length c1 d

set_option maxHeartbeats 400000 in
theorem Chunks_call (A : Option Addr) (n c : Nat) (most : Int) (w : World) :
    Calls Try.prog 59 #[.slice A n c, .int .i64 most] w fun e w' => e = .returned (.func (.func 75) #[] #[.pointer (some ⟨w.heap.size + 1, 0, none⟩), .pointer (some ⟨w.heap.size, 0, none⟩)]) ∧ (w.alloc (.cells #[.slice A n c] 24)).alloc (.cells #[.int .i64 most] 3) = w' := by
  go_enter Try.func59, Try.ntmps59
  go_wp2
  go_ret
  exact ⟨rfl, rfl⟩

set_option maxRecDepth 100000 in
set_option maxHeartbeats 2000000 in
theorem Chunks_seq (Bm Bd most n c b off : Nat) (bs : List Int) (own : Nat → Prop) (w : World) (hm : Boxed w Bm 3 (.int .i64 (most : Int))) (hx : Boxed w Bd 24 (.slice (some ⟨b, off, none⟩) n c)) (h : RB w (some ⟨b, off, none⟩) n c bs) (hb : b < w.heap.size) (hn0 : 0 < n) (hn : n ≤ 100000) (hm8 : 8 ≤ most) (hm9 : most ≤ 100000) (ho1 : ¬ own Bm) (ho2 : ¬ own Bd) (hob : ¬ own b) :
    SeqRel Try.prog 75 #[.pointer (some ⟨Bm, 0, none⟩), .pointer (some ⟨Bd, 0, none⟩)] (chunksC most bs).length (YieldC most bs b off) own w := by
  intro l J Jx W hW hJ hJx hY h0
  have hlen := h.len
  have hnc := h.nc
  have hBm := hm.lt
  have hBd := hx.lt
  have hcm := Lib.hid (fun W' (hk : KeepX own w.heap.size W W') => (hk.cell (p := ⟨Bm, 0, none⟩) hBm ho1).trans ((hW.cell (p := ⟨Bm, 0, none⟩) hBm).trans hm.cell))
  have hcd := Lib.hid (fun W' (hk : KeepX own w.heap.size W W') => (hk.cell (p := ⟨Bd, 0, none⟩) hBd ho2).trans ((hW.cell (p := ⟨Bd, 0, none⟩) hBd).trans hx.cell))
  have hrW := h.below hW
  have hrr := Lib.hid (fun W' (hk : KeepX own w.heap.size W W') => hk.rb hrW hb hob)
  have hws := Lib.hid hW.size
  have hk0 := Lib.hid (KeepX.refl own w.heap.size W)
  obtain ⟨q, hq⟩ : ∃ q, most / 8 = q := ⟨_, rfl⟩
  have hq1 : q * 8 ≤ most := by omega
  have hq2 : most < q * 8 + 8 := by omega
  have htd : Int.tdiv (most : Int) 8 = (q : Int) := by rw [Int.tdiv_eq_ediv_of_nonneg (by omega)]; omega
  have hch := Lib.hid (show chunksC most bs = [] ++ chunksF most (q * 8) bs (n + 1) 0 by unfold chunksC; rw [hq, hlen]; rfl)
  have c0 := hcm.out W hk0.out
  have d0 := hcd.out W hk0.out
  clear hm hx h hrW hq
  refine callsIn_of_wp Try.func75 rfl trivial ?_ rfl
  simp only [Try.ntmps75, List.size_toArray, List.length_cons, List.length_nil, Nat.reduceAdd, Nat.reduceSub, Array.replicate_succ, Array.replicate_zero, List.push_toArray, List.append_toArray, List.nil_append, List.cons_append]
  gi_wp2
  clear c0 d0
  gi_loopw [5, 6, 7] (fun va _ _ wr => ∃ (a f : Nat) (pre : List (Nat × Bool × List Int)), va = .int .i64 (a : Int) ∧ a < n ∧ chunksC most bs = pre ++ chunksF most (q * 8) bs f a ∧ n < f + a ∧ J pre.length wr ∧ KeepX own w.heap.size W wr) (fun va _ _ _ => n - (intOf va).toNat)
  case atStart => exact ⟨0, n + 1, [], rfl, hn0, hch.out, by omega, h0, hk0.out⟩
  case round =>
    obtain ⟨a, f, pre, rfl, han, hou, hf, hJk, hkp⟩ := hrel
    obtain ⟨f, rfl⟩ : ∃ g, f = g + 1 := ⟨f - 1, by omega⟩
    have c1 := hcm.out wr hkp
    have d1 := hcd.out wr hkp
    rw [chunksF_step, hlen] at hou
    have hne : ¬ c = a := by omega
    have hac : (a : Int) ≤ c := by omega
    have han2 : (a : Int) ≤ n := by omega
    have hdr := (hrr.out wr hkp).drop a (by omega)
    by_cases hmo : most < n - a
    · rw [if_pos hmo] at hou
      have hmi : decide ((most : Int) < (n : Int) - (a : Int)) = true := by simp; omega
      have hrb := hdr.first_ (k := q * 8) (by omega)
      have hel := Lib.hid (show (chunksC most bs)[pre.length]? = some (a, true, (bs.drop a).take (q * 8)) by rw [hou, List.getElem?_append_right (Nat.le_refl _)]; simp)
      have hle := Lib.hid (show pre.length < (chunksC most bs).length by rw [hou]; simp)
      have hdl : ((bs.drop a).take (q * 8)).length = q * 8 := hrb.len
      have hnx := Lib.hid (show chunksC most bs = (pre ++ [(a, true, (bs.drop a).take (q * 8))]) ++ chunksF most (q * 8) bs f (a + q * 8) by rw [hou]; simp)
      obtain ⟨fn, tmps, assign, body, hy, hR⟩ := hY pre.length #[.agg #[.int .i64 0, .int .i64 (a : Int), .int .i64 0, .bool true], .slice (some ⟨b, off + a, none⟩) (q * 8) (c - a)] wr hle.out ⟨a, true, _, c - a, hel.out, by rw [hdl], by rw [hdl]; exact hrb⟩ hJk
      clear hrb hdr hou hdl hY
      have i1 : (a : Int) + (q : Int) * 8 ≤ n := by omega
      have i2 : (a : Int) + (q : Int) * 8 ≤ c := by omega
      gi_wp2
      refine ⟨rfl, hR.mono ?_⟩
      rintro e W3 (⟨rfl, hJ4, hk4⟩ | ⟨rfl, hJx4⟩)
      · have hk6 := Lib.hid (hkp.trans hk4)
        gi_wp2
        go_roundw
        case rel => exact ⟨a + q * 8, f, pre ++ [(a, true, (bs.drop a).take (q * 8))], by simp, by omega, hnx.out, by omega, by simpa using hJ4, hk6.out⟩
        case measure => simp [intOf]; omega
      · gi_wp2
        exact bodyPost_ret (v := .tuple #[]) (by simp [results, Try.results75, go_sem]) rfl ⟨⟨_, rfl⟩, .inr ⟨_, hle.out, hJx4⟩⟩
    · rw [if_neg hmo] at hou
      have hmi : decide ((most : Int) < (n : Int) - (a : Int)) = false := by simp; omega
      have hel := Lib.hid (show (chunksC most bs)[pre.length]? = some (a, false, bs.drop a) by rw [hou, List.getElem?_append_right (Nat.le_refl _)]; simp)
      have hle := Lib.hid (show pre.length < (chunksC most bs).length by rw [hou]; simp)
      have hme := Lib.hid (show (chunksC most bs).length = pre.length + 1 by rw [hou]; simp)
      have hdl : (bs.drop a).length = n - a := hdr.len
      obtain ⟨fn, tmps, assign, body, hy, hR⟩ := hY pre.length #[.agg #[.int .i64 0, .int .i64 (a : Int), .int .i64 0, .bool false], .slice (some ⟨b, off + a, none⟩) (n - a) (c - a)] wr hle.out ⟨a, false, _, c - a, hel.out, by rw [hdl], by rw [hdl]; exact hdr⟩ hJk
      clear hdr hou hdl hY
      have i1 : (n : Int) ≤ c := by omega
      gi_wp2
      refine ⟨rfl, hR.mono ?_⟩
      rintro e W3 (⟨rfl, hJ4, hk4⟩ | ⟨rfl, hJx4⟩)
      · gi_wp2
        exact bodyPost_ret (v := .tuple #[]) (by simp [results, Try.results75, go_sem]) rfl ⟨⟨_, rfl⟩, .inl (by rw [hme.out]; exact hJ4)⟩
      · gi_wp2
        exact bodyPost_ret (v := .tuple #[]) (by simp [results, Try.results75, go_sem]) rfl ⟨⟨_, rfl⟩, .inr ⟨_, hle.out, hJx4⟩⟩
end Go.Proofs.Ytbbdkfadcafpfaa
/- Fragments of IPv6 (cut6): walk of Cut. -/
set_option linter.unusedVariables false
namespace Go.Proofs.Ytbbdkfadcafpfaa
open Go Go.RowKit
attribute [local go_sem] Oper.semAt_some

def cut6S (w : World) (P : Array Value) (id k : Int) : World := (((w.alloc (.cells P 26)).alloc (.cells #[.int .i64 id] 3)).alloc (.cells #[.slice none 0 0] 46)).alloc (.cells #[.int .i64 k] 28)
theorem cut6S_facts (w : World) (P : Array Value) (id k : Int) : Below w.heap.size w (cut6S w P id k) ∧ (cut6S w P id k).heap.size = w.heap.size + 4 ∧ Blk (cut6S w P id k) w.heap.size P 26 ∧ Boxed (cut6S w P id k) (w.heap.size + 1) 3 (.int .i64 id) ∧ Boxed (cut6S w P id k) (w.heap.size + 2) 46 (.slice none 0 0) ∧ Boxed (cut6S w P id k) (w.heap.size + 3) 28 (.int .i64 k) := by
  unfold cut6S
  refine ⟨((((Below.refl _ w).alloc (Nat.le_refl _) _).alloc (by simp) _).alloc (by simp; omega) _).alloc (by simp; omega) _, by simp, (((Blk.new w P 26).alloc _).alloc _).alloc _, ?_, ?_, ?_⟩
  · have := Boxed.new (w.alloc (.cells P 26)) 3 (.int .i64 id)
    rw [World.size_alloc] at this
    exact (this.alloc _).alloc _
  · have := Boxed.new ((w.alloc (.cells P 26)).alloc (.cells #[.int .i64 id] 3)) 46 (.slice none 0 0)
    rw [World.size_alloc, World.size_alloc] at this
    exact this.alloc _
  · have := Boxed.new (((w.alloc (.cells P 26)).alloc (.cells #[.int .i64 id] 3)).alloc (.cells #[.slice none 0 0] 46)) 28 (.int .i64 k)
    rw [World.size_alloc, World.size_alloc, World.size_alloc] at this
    exact this

theorem CutOut.bad {w w' : World} {p : V6P} {id mtu k : Int} (e1 : cutK p id mtu = k) (hk : k ≠ 0) (hb : Below w.heap.size w w') : CutOut w p id mtu (.returned (.tuple #[.slice none 0 0, .int .i64 k])) w' := by
  unfold CutOut cutR
  rw [e1, if_neg hk]
  exact ⟨none, 0, 0, [], rfl, LR.nil _, rfl, hb⟩
theorem CutOut.one {w w' : World} {p : V6P} {id mtu : Int} {A2 : Option Addr} {n2 c2 : Nat} {ps : List kV6.β} (e1 : cutK p id mtu = 0) (hl : LR kV6 w' A2 n2 c2 ps) (hp : ps.map (·.1) = cutR p id mtu) (hb : Below w.heap.size w w') : CutOut w p id mtu (.returned (.tuple #[.slice A2 n2 c2, .int .i64 0])) w' := by
  unfold CutOut
  rw [e1]
  exact ⟨A2, n2, c2, ps, rfl, hl, hp, hb⟩

set_option maxRecDepth 100000 in
set_option maxHeartbeats 2000000 in
theorem Cut6_arg (P : Array Value) (p : V6P) (id mtu : Int) (w : World) (hbad : mtu < 1280 ∨ 65535 < mtu ∨ fitsB id 4 = false) :
    Calls Try.prog 33 #[.agg P, .int .i64 id, .int .i64 mtu] w (CutOut w p id mtu) := by
  have e1 : cutK p id mtu = 1 := by unfold cutK; rw [if_pos hbad]
  replace e1 := Lib.hid e1
  have c4 : (cut6S w P id 0).cell? ⟨w.heap.size + 1, 0, none⟩ = _ := (cut6S_facts w P id 0).2.2.2.1.cell
  unfold cut6S at c4
  by_cases h1 : mtu < 1280
  · have d1 : decide (mtu < 1280) = true := decide_eq_true h1
    clear hbad c4
    refine (callsIn_wide (n := 0)).1 ?_
    refine callsIn_of_wp_marks Try.func33 rfl trivial ?_ rfl
    simp only [Try.ntmps33, List.size_toArray, List.length_cons, List.length_nil, Nat.reduceAdd, Nat.reduceSub, Array.replicate_succ, Array.replicate_zero, List.push_toArray, List.append_toArray, List.nil_append, List.cons_append]
    refine wpIn_wide.2 ?_
    go_wp2
    obtain ⟨hB, -, -, -, k6, k7⟩ := cut6S_facts w P id 1
    have r6 : (cut6S w P id 1).cell? ⟨w.heap.size + 1 + 1, 0, none⟩ = _ := k6.cell
    have r7 : (cut6S w P id 1).cell? ⟨w.heap.size + 1 + 1 + 1, 0, none⟩ = _ := k7.cell
    exact leave_marks (N := w.heap.size) trivial fun W3 hg => ⟨.tuple #[.slice none 0 0, .int .i64 1], by
      have q6 := hg.cell r6
      have q7 := hg.cell r7
      simp [results, Try.results33, go_sem, q6, q7], CutOut.bad e1.out (by decide) (hg.below (Nat.le_refl _) hB (Nat.le_refl _))⟩
  · have d1 : decide (mtu < 1280) = false := decide_eq_false h1
    by_cases h2 : 65535 < mtu
    · have d2 : decide (65535 < mtu) = true := decide_eq_true h2
      clear hbad c4
      refine (callsIn_wide (n := 0)).1 ?_
      refine callsIn_of_wp_marks Try.func33 rfl trivial ?_ rfl
      simp only [Try.ntmps33, List.size_toArray, List.length_cons, List.length_nil, Nat.reduceAdd, Nat.reduceSub, Array.replicate_succ, Array.replicate_zero, List.push_toArray, List.append_toArray, List.nil_append, List.cons_append]
      refine wpIn_wide.2 ?_
      go_wp2
      obtain ⟨hB, -, -, -, k6, k7⟩ := cut6S_facts w P id 1
      have r6 : (cut6S w P id 1).cell? ⟨w.heap.size + 1 + 1, 0, none⟩ = _ := k6.cell
      have r7 : (cut6S w P id 1).cell? ⟨w.heap.size + 1 + 1 + 1, 0, none⟩ = _ := k7.cell
      exact leave_marks (N := w.heap.size) trivial fun W3 hg => ⟨.tuple #[.slice none 0 0, .int .i64 1], by
        have q6 := hg.cell r6
        have q7 := hg.cell r7
        simp [results, Try.results33, go_sem, q6, q7], CutOut.bad e1.out (by decide) (hg.below (Nat.le_refl _) hB (Nat.le_refl _))⟩
    · have d2 : decide (65535 < mtu) = false := decide_eq_false h2
      have d3 : fitsB id 4 = false := by rcases hbad with h | h | h; exact absurd h h1; exact absurd h h2; exact h
      have hF := Lib.hid (fun W => Fits_any id 4 W)
      rw [d3] at hF
      clear hbad
      refine (callsIn_wide (n := 0)).1 ?_
      refine callsIn_of_wp_marks Try.func33 rfl trivial ?_ rfl
      simp only [Try.ntmps33, List.size_toArray, List.length_cons, List.length_nil, Nat.reduceAdd, Nat.reduceSub, Array.replicate_succ, Array.replicate_zero, List.push_toArray, List.append_toArray, List.nil_append, List.cons_append]
      refine wpIn_wide.2 ?_
      go_wp2_with (first
        | (go_at_call 52; refine (hF.out _).mono ?_; rintro e w' ⟨rfl, rfl⟩)
        | fail)
      obtain ⟨hB, -, -, -, k6, k7⟩ := cut6S_facts w P id 1
      have r6 : (cut6S w P id 1).cell? ⟨w.heap.size + 1 + 1, 0, none⟩ = _ := k6.cell
      have r7 : (cut6S w P id 1).cell? ⟨w.heap.size + 1 + 1 + 1, 0, none⟩ = _ := k7.cell
      exact leave_marks (N := w.heap.size) trivial fun W3 hg => ⟨.tuple #[.slice none 0 0, .int .i64 1], by
        have q6 := hg.cell r6
        have q7 := hg.cell r7
        simp [results, Try.results33, go_sem, q6, q7], CutOut.bad e1.out (by decide) (hg.below (Nat.le_refl _) hB (Nat.le_refl _))⟩

set_option maxRecDepth 100000 in
set_option maxHeartbeats 2000000 in
theorem Cut6_check (P : Array Value) (p : V6P) (A : Option Addr) (n c : Nat) (id mtu : Int) (w : World) (h : V6V P p A n c) (hr : RB w A n c p.data) (h1 : ¬ mtu < 1280) (h2 : ¬ 65535 < mtu) (h3 : fitsB id 4 = true) (h4 : checkV p n ≠ 0) :
    Calls Try.prog 33 #[.agg P, .int .i64 id, .int .i64 mtu] w (CutOut w p id mtu) := by
  have e1 : cutK p id mtu = checkV p n := by unfold cutK; rw [if_neg (by simp [h1, h2, h3]), hr.len]
  replace e1 := Lib.hid e1
  obtain ⟨hB, hsz, kP, k4, k6, k7⟩ := cut6S_facts w P id 0
  unfold cut6S at hB hsz kP k4 k6 k7
  have c4 := k4.cell
  have hK := fun W => V6Check_any P p A n c W h
  have hF := Lib.hid (fun W => Fits_any id 4 W)
  rw [h3] at hF
  have d1 : decide (mtu < 1280) = false := decide_eq_false h1
  have d2 : decide (65535 < mtu) = false := decide_eq_false h2
  have hV := Lib.hid (show (Try.prog.info? 26).map (·.size) = some P.size by rw [h.size]; exact info_v6)
  have hcd := Lib.hid h4
  have hne : (checkV p n != 0) = true := by simpa using h4
  generalize checkV p n = kk at *
  replace hK := Lib.hid hK
  replace hB := Lib.hid hB
  replace hsz := Lib.hid hsz
  replace kP := Lib.hid kP
  replace k6 := Lib.hid k6
  replace k7 := Lib.hid k7
  clear h hr h1 h2 h3 h4 k4
  refine (callsIn_wide (n := 0)).1 ?_
  refine callsIn_of_wp_marks Try.func33 rfl trivial ?_ rfl
  simp only [Try.ntmps33, List.size_toArray, List.length_cons, List.length_nil, Nat.reduceAdd, Nat.reduceSub, Array.replicate_succ, Array.replicate_zero, List.push_toArray, List.append_toArray, List.nil_append, List.cons_append]
  refine wpIn_wide.2 ?_
  go_wp2_with (first
    | (go_at_call 52; refine (hF.out _).mono ?_; rintro e w' ⟨rfl, rfl⟩)
    | (refine wpList_load_row rfl 26 (.tmp 3) rfl w.heap.size rfl _ P _ _ kP.out.at_ Try.underlying26 rfl hV.out ?_)
    | (go_at_call 19; refine (hK.out _).mono ?_; rintro e w1 ⟨rfl, hB1⟩; have b6 := Boxed.below k6.out hB1; have b7 := Boxed.below k7.out hB1; have c6 := b6.cell; have f6 := b6.frozen; have c7 := b7.cell; have f7 := b7.frozen; have hb1 := Lib.hid (hB.out.trans (hB1.mono (by have := hsz.out; omega))); replace b6 := Lib.hid b6; replace b7 := Lib.hid b7; replace hB1 := 0)
    | fail)
  have r6 := (Boxed.other (Boxed.set (.slice none 0 0) b6.out) (B' := w.heap.size + 3) (by omega) (.int .i64 kk)).cell
  have r7 := (Boxed.set (.int .i64 kk) (Boxed.other b7.out (B' := w.heap.size + 2) (by omega) (.slice none 0 0))).cell
  exact leave_marks (N := w.heap.size) trivial fun W3 hg => ⟨.tuple #[.slice none 0 0, .int .i64 kk], by
    have q6 := hg.cell r6
    have q7 := hg.cell r7
    simp [results, Try.results33, go_sem, q6, q7], CutOut.bad e1.out hcd.out (hg.below (Nat.le_refl _) ((hb1.out.setCell (p := ⟨w.heap.size + 2, 0, none⟩) (by simp) _).setCell (p := ⟨w.heap.size + 3, 0, none⟩) (by simp) _) (Nat.le_refl _))⟩
end Go.Proofs.Ytbbdkfadcafpfaa
/- Fragments of IPv6 (cut6): walk of Cut, where the packet is short enough. -/
set_option linter.unusedVariables false
namespace Go.Proofs.Ytbbdkfadcafpfaa
open Go Go.RowKit
attribute [local go_sem] Oper.semAt_some

theorem info_v6r : (Try.prog.info? 26).map (fun i => (i.zero, i.size, i.bytes)) = some (some (.agg zeroVx), 37, 88) := by kernel_rfl
theorem LR.one {κ : Kd} {w : World} {B : Nat} {T : TypeId} {x : κ.β} (hx : κ.ok x) (hk : Blk w B (κ.cells x) T) (hr : ∀ s ∈ κ.sl x, RB w s.1 s.2.1 s.2.2.1 s.2.2.2) : LR κ w (some ⟨B, 0, none⟩) 1 1 [x] :=
  ⟨rfl, Nat.le_refl _, by unfold maxLen; omega, fun y hy => by rw [List.mem_singleton] at hy; subst hy; exact hx, fun _ => ⟨B, 0, rfl, hk.lt, fun i y hy => by
    match i, hy with
    | 0, hy =>
      obtain rfl : x = y := by simpa using hy
      refine ⟨fun j v hj => ?_, hr⟩
      rw [Nat.zero_mul, Nat.zero_add]
      rw [Array.getElem?_toList] at hj
      exact hk.cell _ _ hj
    | i + 1, hy => simp at hy⟩⟩

theorem Boxed.farC {W : World} {B B' t : Nat} {v : Value} (h : Boxed W B t v) (hB : B ≠ B') (j : Nat) (u : Value) : Boxed (W.setCell ⟨B', j, none⟩ u) B t v := (Below.heap_setCell W ⟨B', j, none⟩ u B hB).trans h
set_option maxRecDepth 100000 in
set_option maxHeartbeats 2000000 in
theorem Cut6_short (P : Array Value) (p : V6P) (A : Option Addr) (n c : Nat) (id mtu : Int) (w : World) (h : V6V P p A n c) (hr : RB w A n c p.data) (h1 : ¬ mtu < 1280) (h2 : ¬ 65535 < mtu) (h3 : fitsB id 4 = true) (h4 : checkV p n = 0) (hn : n ≤ 100000) (h5 : (40 + n : Int) ≤ mtu) :
    Calls Try.prog 33 #[.agg P, .int .i64 id, .int .i64 mtu] w (CutOut w p id mtu) := by
  have hl := hr.len
  have e1 : cutK p id mtu = 0 := by unfold cutK; rw [if_neg (by simp [h1, h2, h3]), hl]; exact h4
  have e2 : cutR p id mtu = [p] := by unfold cutR; rw [if_pos e1, hl, if_pos h5]
  replace e1 := Lib.hid e1
  replace e2 := Lib.hid e2
  obtain ⟨hB, hsz, kP, k4, k6, k7⟩ := cut6S_facts w P id 0
  unfold cut6S at hB hsz kP k4 k6 k7
  have c4 := k4.cell
  have hK := fun W => V6Check_any P p A n c W h
  rw [h4] at hK
  have hS := Lib.hid (fun W => V6Size_any P p A n c W h hn)
  have hF := Lib.hid (fun W => Fits_any id 4 W)
  rw [h3] at hF
  have hC := Lib.hid (fun W (hW : Below w.heap.size w W) => Clone_any A n c p.data W (hr.below hW) (by omega))
  have d1 : decide (mtu < 1280) = false := decide_eq_false h1
  have d2 : decide (65535 < mtu) = false := decide_eq_false h2
  have d5 : decide ((40 + n : Int) ≤ mtu) = true := decide_eq_true h5
  have hV := Lib.hid (show (Try.prog.info? 26).map (·.size) = some P.size by rw [h.size]; exact info_v6)
  have hV2 := Lib.hid (fun v => show (Try.prog.info? 26).map (·.size) = some (P.setIfInBounds 36 v).size by rw [Array.size_setIfInBounds, h.size]; exact info_v6)
  have hs2 := Lib.hid (fun v => show (P.setIfInBounds 36 v).size = 37 by rw [Array.size_setIfInBounds, h.size])
  have hP36 := Lib.hid h.h36
  have hV6 := Lib.hid h
  replace hK := Lib.hid hK
  replace hB := Lib.hid hB
  replace hsz := Lib.hid hsz
  replace kP := Lib.hid kP
  replace k6 := Lib.hid k6
  replace k7 := Lib.hid k7
  clear h hr h1 h2 h3 h4 h5 k4 hl
  refine (callsIn_wide (n := 0)).1 ?_
  refine callsIn_of_wp_marks Try.func33 rfl trivial ?_ rfl
  simp only [Try.ntmps33, List.size_toArray, List.length_cons, List.length_nil, Nat.reduceAdd, Nat.reduceSub, Array.replicate_succ, Array.replicate_zero, List.push_toArray, List.append_toArray, List.nil_append, List.cons_append]
  refine wpIn_wide.2 ?_
  go_wp2_with (first
    | (go_at_call 52; refine (hF.out _).mono ?_; rintro e w' ⟨rfl, rfl⟩)
    | (refine wpList_build1 _ rfl 46 26 (.tmp 39) rfl (P.setIfInBounds 36 (.slice A3 n c3)) rfl 37 (hs2.out _) (by decide) (by decide) Try.underlying46 (.agg zeroVx) 88 info_v6r ?_)
    | (refine wpList_load_row rfl 26 (.tmp 3) rfl w.heap.size rfl _ (P.setIfInBounds 36 (.slice A3 n c3)) _ _ (kP3.out.set 36 _).at_ Try.underlying26 rfl (hV2.out _) ?_)
    | (refine wpList_load_row rfl 26 (.tmp 3) rfl w.heap.size rfl _ P _ _ kP1.out.at_ Try.underlying26 rfl hV.out ?_)
    | (refine wpList_load_row rfl 26 (.tmp 3) rfl w.heap.size rfl _ P _ _ kP.out.at_ Try.underlying26 rfl hV.out ?_)
    | (go_at_call 19; refine (hK.out _).mono ?_; rintro e w1 ⟨rfl, hB1⟩; have b6 := Lib.hid (Boxed.below k6.out hB1); have b7 := Lib.hid (Boxed.below k7.out hB1); have kP1 := Lib.hid (kP.out.to hB1); have hb1 := Lib.hid (hB.out.trans (hB1.mono (by have := hsz.out; omega))); replace hB1 := 0)
    | (go_at_call 17; refine (hS.out _).mono ?_; rintro e w2 ⟨rfl, hB2⟩; have b62 := Lib.hid (Boxed.below b6.out hB2); have b72 := Lib.hid (Boxed.below b7.out hB2); have kP2 := Lib.hid (kP1.out.to hB2); have c36 := kP2.out.cell 36 _ hP36.out; have hb2 := Lib.hid (hb1.out.trans (hB2.mono hb1.out.size)); replace hB2 := 0)
    | (go_at_call 55; refine (hC.out _ hb2.out).mono ?_; rintro e w3 ⟨A3, c3, rfl, ho3, hB3⟩; have b64 := (Boxed.farC (Boxed.below b62.out hB3) (B' := w.heap.size) (by omega) 36 (.slice A3 n c3)).alloc (.cells (P.setIfInBounds 36 (.slice A3 n c3)) 26); have b74 := (Boxed.farC (Boxed.below b72.out hB3) (B' := w.heap.size) (by omega) 36 (.slice A3 n c3)).alloc (.cells (P.setIfInBounds 36 (.slice A3 n c3)) 26); have c6 := b64.cell; have f6 := b64.frozen; have c7 := b74.cell; have f7 := b74.frozen; replace b64 := Lib.hid b64; replace b74 := Lib.hid b74; have hl2 := Lib.hid (b72.out.lt); have hs23 := Lib.hid hB3.size; have kP3 := Lib.hid (kP2.out.to hB3); have d36 := kP3.out.cell 36 _ hP36.out; have f36 := kP3.out.frz 36; have hb3 := Lib.hid (hb2.out.trans (hB3.mono hb2.out.size)); replace ho3 := Lib.hid ho3; replace hB3 := 0)
    | fail)
  have r6 := (Boxed.other (Boxed.set (.slice (some ⟨w3.heap.size, 0, none⟩) 1 1) b64.out) (B' := w.heap.size + 3) (by omega) (.int .i64 0)).cell
  have r7 := (Boxed.set (.int .i64 0) (Boxed.other b74.out (B' := w.heap.size + 2) (by omega) (.slice (some ⟨w3.heap.size, 0, none⟩) 1 1))).cell
  have q1 := hl2.out
  have q2 := hs23.out
  have hk := Blk.new (w3.setCell ⟨w.heap.size, 36, none⟩ (.slice A3 n c3)) (P.setIfInBounds 36 (.slice A3 n c3)) 26
  rw [show (w3.setCell ⟨w.heap.size, 36, none⟩ (.slice A3 n c3)).heap.size = w3.heap.size by simp [World.setCell]] at hk
  have hk2 := (hk.far (B' := w.heap.size + 2) (by omega) 0 (.slice (some ⟨w3.heap.size, 0, none⟩) 1 1)).far (B' := w.heap.size + 3) (by omega) 0 (.int .i64 0)
  have ho4 := (((ho3.out.kept (Keep.set w3 36 (.slice A3 n c3)) (show w.heap.size < w2.heap.size by omega)).alloc (.cells (P.setIfInBounds 36 (.slice A3 n c3)) 26)).kept (Keep.set (B := w.heap.size + 2) _ 0 (.slice (some ⟨w3.heap.size, 0, none⟩) 1 1)) (by omega)).kept (Keep.set (B := w.heap.size + 3) _ 0 (.int .i64 0)) (by omega)
  have hbf := (((hb3.out.setCell (p := ⟨w.heap.size, 36, none⟩) (Nat.le_refl _) (.slice A3 n c3)).alloc (by simp [World.setCell]; omega) (.cells (P.setIfInBounds 36 (.slice A3 n c3)) 26)).setCell (p := ⟨w.heap.size + 2, 0, none⟩) (by simp) (.slice (some ⟨w3.heap.size, 0, none⟩) 1 1)).setCell (p := ⟨w.heap.size + 3, 0, none⟩) (by simp) (.int .i64 0)
  have hx : kV6.ok (p, P.setIfInBounds 36 (.slice A3 n c3), A3, n, c3) := hV6.out.data A3 n c3 p.data
  exact leave_marks (N := w.heap.size) trivial fun W3 hg => ⟨.tuple #[.slice (some ⟨w3.heap.size, 0, none⟩) 1 1, .int .i64 0], by
    have q6 := hg.cell r6
    have q7 := hg.cell r7
    simp [results, Try.results33, go_sem, q6, q7], CutOut.one e1.out (LR.one (κ := kV6) hx (hk2.gr hg) (fun s hs => by rw [show s = (A3, n, c3, p.data) from List.mem_singleton.1 hs]; exact (ho4.gr hg).rb)) (by rw [e2.out]; rfl) (hg.below (Nat.le_refl _) hbf (Nat.le_refl _))⟩
end Go.Proofs.Ytbbdkfadcafpfaa
