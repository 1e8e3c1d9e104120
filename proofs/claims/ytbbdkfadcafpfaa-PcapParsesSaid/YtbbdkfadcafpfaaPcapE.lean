/- Captures: the iterator Each: its walk. -/
import Derived.Test.YtbbdkfadcafpfaaPcapER
import Derived.Test.YtbbdkfadcafpfaaPcapS
import Derived.Test.YtbbdkfadcafpfaaRangeC
import Derived.Test.YtbbdkfadcafpfaaQuadsIn
set_option linter.unusedVariables false
namespace Go.Proofs.Ytbbdkfadcafpfaa
open Go Go.RowKit
attribute [local go_sem] Oper.semAt_some

theorem each_split {bs : List Int} {i : Nat} {p : QP × Int} (hz : ∀ p ∈ (outsR bs).take i, p.2 = 0) (he : (outsR bs)[i]? = some p) :
    eachR bs = ((outsR bs).take i).map (·.1) ++ ((p :: (outsR bs).drop (i + 1)).takeWhile (fun p => p.2 == 0)).map (·.1) := by
  have hlt := (List.getElem?_eq_some_iff.1 he).1
  have hc : outsR bs = (outsR bs).take i ++ p :: (outsR bs).drop (i + 1) := by
    have h1 := List.take_append_drop i (outsR bs)
    rw [List.drop_eq_getElem_cons hlt, show (outsR bs)[i] = p from by rw [List.getElem?_eq_getElem hlt] at he; exact Option.some.inj he] at h1
    exact h1.symm
  unfold eachR
  rw [show (outsR bs).takeWhile (fun p => p.2 == 0) = (outsR bs).take i ++ (p :: (outsR bs).drop (i + 1)).takeWhile (fun p => p.2 == 0) from by
    conv => lhs; rw [hc]
    rw [List.takeWhile_append_of_pos (fun p hp => by simp [hz p hp])], List.map_append]
theorem each_at {bs : List Int} {i : Nat} {q : QP} (hz : ∀ p ∈ (outsR bs).take i, p.2 = 0) (he : (outsR bs)[i]? = some (q, 0)) : (eachR bs)[i]? = some q ∧ i < (eachR bs).length ∧ ∀ p ∈ (outsR bs).take (i + 1), p.2 = 0 := by
  have hlt := (List.getElem?_eq_some_iff.1 he).1
  have h1 := each_split hz he
  rw [List.takeWhile_cons, if_pos (by rfl), List.map_cons] at h1
  have hl : (((outsR bs).take i).map (·.1)).length = i := by rw [List.length_map, List.length_take]; omega
  refine ⟨?_, ?_, fun p hp => ?_⟩
  · rw [h1, List.getElem?_append_right (by omega), hl, Nat.sub_self]; rfl
  · rw [h1, List.length_append, hl, List.length_cons]; omega
  · rw [List.take_add_one, he, Option.toList_some, List.mem_append] at hp
    rcases hp with hp | hp
    · exact hz p hp
    · rw [List.mem_singleton] at hp; subst hp; rfl
theorem each_stop {bs : List Int} {i : Nat} {q : QP} {k : Int} (hz : ∀ p ∈ (outsR bs).take i, p.2 = 0) (he : (outsR bs)[i]? = some (q, k)) (hk : k ≠ 0) : (eachR bs).length = i := by
  have hlt := (List.getElem?_eq_some_iff.1 he).1
  have hb : (k == 0) = false := by simpa using hk
  rw [each_split hz he, List.takeWhile_cons, hb]
  simp; omega
theorem each_all {bs : List Int} (hz : ∀ p ∈ (outsR bs).take (outsR bs).length, p.2 = 0) : (eachR bs).length = (outsR bs).length := by
  rw [List.take_length] at hz
  unfold eachR
  have := List.takeWhile_append_of_pos (p := fun p : QP × Int => p.2 == 0) (l₁ := outsR bs) (l₂ := []) (fun p hp => by simp [hz p hp])
  rw [List.append_nil, List.takeWhile_nil, List.append_nil] at this
  rw [this, List.length_map]

/-- What loops over functions, and the iterator's own counter, are. -/
def ttE (o : Obj) : Prop := isRec o = true ∨ ∃ x fr, o = .cells #[.int .i64 x] 3 fr
theorem ttE_rec : ∀ o, isRec o = true → ttE o := fun _ h => .inl h
def YieldE (bs : List Int) (base i : Nat) (e : Array Value) (W : World) : Prop :=
  ∃ q A m c, (eachR bs)[i]? = some q ∧ e = #[.int .i64 (i : Int), .agg (cellsQ q A m c)] ∧ OB W base A m c q.data

set_option maxHeartbeats 400000 in
theorem Each_call (A : Option Addr) (n c : Nat) (w : World) :
    Calls Try.prog 45 #[.slice A n c] w fun e w' => e = .returned (.func (.func 68) #[] #[.pointer (some ⟨w.heap.size, 0, none⟩)]) ∧ w.alloc (.cells #[.slice A n c] 24) = w' := by
  go_enter Try.func45, Try.ntmps45
  go_wp2
  go_ret
  exact ⟨rfl, rfl⟩

set_option maxRecDepth 100000 in
set_option maxHeartbeats 2000000 in
theorem Each_seq (Bs n c b : Nat) (A : Option Addr) (bs : List Int) (own : Nat → Obj → Prop) (w : World) (hx : Boxed w Bs 24 (.slice A n c)) (h : RB w A n c bs) (hA : 0 < n → (∃ o, A = some ⟨b, o, none⟩) ∧ b < w.heap.size) (hn : n ≤ 100000)
    (hob : ∀ o, ¬ own b o) (hoc : ∀ k o, own k o → o.isCells = true) (hot : ∀ k xs t fr, own k (.cells xs t fr) → t ≠ 98 ∧ t ≠ 3 ∧ t ≠ 24) :
    SeqRelO Try.prog 68 #[.pointer (some ⟨Bs, 0, none⟩)] (eachR bs).length (YieldE bs w.heap.size) own ttE w := by
  intro l J Jx W hW hl hlt hJ hJx hY h0
  have hcB := (hW.cell (p := ⟨Bs, 0, none⟩) hx.lt).trans hx.cell
  have hBs : Bs < W.heap.size := Nat.lt_of_lt_of_le hx.lt hW.size
  have hrW := h.below hW
  have hws := Lib.hid hW.size
  have hA' := hA
  clear hx h
  replace hrW := Lib.hid hrW
  refine callsIn_of_wp_marks Try.func68 rfl trivial ?_ rfl
  simp only [Try.ntmps68, List.size_toArray, List.length_cons, List.length_nil, Nat.reduceAdd, Nat.reduceSub, Array.replicate_succ, Array.replicate_zero, List.push_toArray, List.append_toArray, List.nil_append, List.cons_append]
  gi_wp2_with (refine ⟨trivial, rfl, (callsIn_wide.2 (Records_call _ _ _ _)).mono ?_⟩; rintro e w' ⟨rfl, rfl⟩)
  obtain ⟨Ws, hWs⟩ : ∃ Ws, ((W.alloc (.cells #[.func (.yield l) #[] #[]] 98)).alloc (.cells #[.int .i64 0] 3)).alloc (.cells #[.slice A n c] 24) = Ws := ⟨_, rfl⟩
  rw [hWs]
  have hsz1 : W.heap.size + 3 ≤ Ws.heap.size := by rw [← hWs]; simp
  have hsz2 : Ws.heap.size ≤ W.heap.size + 3 := by rw [← hWs]; simp
  have x1 : Boxed Ws W.heap.size 98 (.func (.yield l) #[] #[]) := by
    rw [← hWs]
    exact ((Boxed.new W 98 (.func (.yield l) #[] #[])).alloc _).alloc _
  have x2 : Boxed Ws (W.heap.size + 1) 3 (.int .i64 0) := by
    rw [← hWs]
    have := Boxed.new (W.alloc (.cells #[.func (.yield l) #[] #[]] 98)) 3 (.int .i64 0)
    rw [World.size_alloc] at this
    exact this.alloc _
  have x3 : Boxed Ws (W.heap.size + 2) 24 (.slice A n c) := by
    rw [← hWs]
    have := Boxed.new ((W.alloc (.cells #[.func (.yield l) #[] #[]] 98)).alloc (.cells #[.int .i64 0] 3)) 24 (.slice A n c)
    rw [World.size_alloc, World.size_alloc] at this
    exact this
  have hB1 : Below W.heap.size W Ws := by
    rw [← hWs]
    exact (((Below.refl _ W).alloc (Nat.le_refl _) _).alloc (by simp) _).alloc (by simp; omega) _
  have hJ1 := hJ _ _ _ h0 (KeepO.of_below hB1)
  have hrb := hrW.out.below hB1
  have hwW := hws.out
  clear hWs h0
  obtain ⟨b2, hb2, hb3, hb4⟩ : ∃ b2, (0 < n → (∃ o, A = some ⟨b2, o, none⟩) ∧ b2 < Ws.heap.size) ∧ b2 ≠ W.heap.size + 1 ∧ (b2 < Ws.heap.size → b2 ≠ l ∧ ∀ o, ¬ own b2 o) := by
    by_cases hp : 0 < n
    · obtain ⟨h1, h2⟩ := hA' hp
      exact ⟨b, fun _ => ⟨h1, by omega⟩, by omega, fun _ => ⟨by omega, hob⟩⟩
    · exact ⟨Ws.heap.size + 9, fun h => absurd h hp, by omega, fun h => absurd h (by omega)⟩
  have hseq := Records_seq (W.heap.size + 2) n c b2 A bs (fun k => ∃ o, Ws.heap[k]? = some o ∧ (k = W.heap.size + 1 ∨ k = l ∨ own k o)) Ws x3 hrb hb2 hn (by
    rintro ⟨o, ho, h | h | h⟩
    · omega
    · omega
    · rw [show Ws.heap[W.heap.size + 2]? = _ from x3] at ho
      obtain rfl := Option.some.inj ho
      exact (hot _ _ _ _ h).2.2 rfl) (by
    rintro ⟨o, ho, h | h | h⟩
    · exact hb3 h
    · exact (hb4 (Array.getElem?_eq_some_iff.1 ho).1).1 h
    · exact (hb4 (Array.getElem?_eq_some_iff.1 ho).1).2 o h)
  refine range_kO (gf := 76) (lb := #[.pointer (some ⟨W.heap.size + 2, 0, none⟩)]) rfl (enters_of Try.func76 (by kernel_rfl) rfl) (own := fun k o => k = W.heap.size + 1 ∨ k = l ∨ own k o)
    (by
      rintro o hc (h | h | h)
      · omega
      · omega
      · rw [hoc _ _ h] at hc; cases hc)
    (by
      rintro o hc (h | h | h)
      · omega
      · omega
      · rw [hoc _ _ h] at hc; cases hc)
    ttE_rec (seqO_of hseq) ?hps
    (fun i X => (∀ p ∈ (outsR bs).take i, p.2 = 0) ∧ Boxed X W.heap.size 98 (.func (.yield l) #[] #[]) ∧ Boxed X (W.heap.size + 1) 3 (.int .i64 (i : Int)) ∧ J i X)
    (fun cd _ X => cd = .ret ∧ (J (eachR bs).length X ∨ ∃ j, j ≤ (eachR bs).length ∧ Jx j X))
    (fun i A B h hg => ⟨h.1, hg.boxed h.2.1 (fun h => by omega), hg.boxed h.2.2.1 (fun h => by omega), hJ _ _ _ h.2.2.2 (hg.mono fun k o h => ⟨by omega, h.2⟩)⟩)
    (fun cd i A B h hg => ⟨h.1, h.2.elim (fun h => .inl (hJ _ _ _ h (hg.mono fun k o h => ⟨by omega, h.2⟩))) (fun ⟨j, h1, h2⟩ => .inr ⟨j, h1, hJx _ _ _ h2 (hg.mono fun k o h => ⟨by omega, h.2⟩)⟩)⟩)
    ⟨fun p hp => by simp at hp, x1, x2, hJ1⟩ ?round ?done ?stop
  case hps =>
    rintro i e W ⟨q, k, A3, m3, c3, _, rfl, _⟩
    rfl
  case round =>
    rintro l' i e W' him ⟨q, k, A3, m3, c3, hel, rfl, ho⟩ hi hk hs'
    have hiN : i ≤ 100001 := by
      have := outsR_length bs
      have h2 := (List.getElem?_eq_some_iff.1 hel).1
      have h3 := hrW.out.len
      omega
    gi_wp2
    refine ⟨(Below.refl _ _).alloc (Nat.le_refl _) _, fun W₂ hg hs2 => ?_⟩
    obtain ⟨hz, i1, i2, hj⟩ := hi
    replace i1 := hg.boxed (i1.alloc _)
    replace i2 := hg.boxed (i2.alloc _)
    have hj2 := hJ _ _ _ hj ((((Gr.alloc (l + 1) W' (.cells (cellsQ q A3 m3 c3) 67)).trans (hg.mono (by omega))).keepO ttE_rec).mono fun k o h => ⟨by omega, h.2⟩)
    have ho2 := Lib.hid (((ho.alloc (.cells (cellsQ q A3 m3 c3) 67)).gr hg).mono (show w.heap.size ≤ Ws.heap.size by omega))
    have kr := (Blk.new W' (cellsQ q A3 m3 c3) 67).gr hg
    clear hs2 hg ho hk hj
    have c1' := i1.cell
    have f1' := i1.frozen
    have c2' := i2.cell
    have f2' := i2.frozen
    by_cases hk0 : k = 0
    · subst hk0
      obtain ⟨he, hlt2, hz2⟩ := each_at hz hel
      have hln := Lib.hid hlt2
      obtain ⟨r0, r1, r2, r3⟩ := qcells kr
      obtain ⟨fn, tmps, assign, body, hy, hR⟩ := hY i #[.int .i64 (i : Int), .agg #[.int .i64 q.x, .int .i64 q.y, .int .i64 q.z, .slice A3 m3 c3]] W₂ hlt2 ⟨q, A3, m3, c3, he, rfl, ho2.out⟩ hj2
      clear hj2 hY hlt2 he
      have hi1 := Lib.hid i1
      have hi2 := Lib.hid i2
      have hz3 := Lib.hid hz2
      clear i1 i2 hz2 hz hel him
      have krh := Lib.hid kr
      clear kr
      gi_wp2
      refine ⟨rfl, hR.mono ?_⟩
      rintro e W3 (⟨rfl, hJ4, hk4⟩ | ⟨rfl, hJx4, hk4⟩)
      · have j1 := hk4.boxed hi1.out (fun h => by
          rcases h with h | h
          · exact (hot _ _ _ _ h).1 rfl
          · omega)
        have j2 := hk4.boxed hi2.out (fun h => by
          rcases h with h | h
          · exact (hot _ _ _ _ h).2.1 rfl
          · omega)
        have j2h := Lib.hid j2
        have d2 := j2.cell
        have g2 := j2.frozen
        have hk5 := Lib.hid ((hk4.mono (own' := fun k o => k = W.heap.size + 1 ∨ k = l ∨ own k o) (fun k o h => .inr h.symm)).setCell (p := ⟨W.heap.size + 1, 0, none⟩) (fun o => .inl rfl) (.int .i64 (i + 1 : Int)))
        have j3 := Lib.hid (Boxed.set (.int .i64 (i + 1 : Int)) j2)
        have j4 := Lib.hid (Boxed.otherB j1 (B' := W.heap.size + 1) (by omega) (.int .i64 (i + 1 : Int)))
        gi_wp2
        refine ⟨hk5.out, hz3.out, j4.out, ?_, hJ _ _ _ hJ4 ?_⟩
        · have := j3.out
          rwa [show ((i + 1 : Nat) : Int) = (i : Int) + 1 from by omega]
        · exact KeepO.setBox (fun o ho => by
            rw [show W3.heap[W.heap.size + 1]? = _ from j2h.out] at ho
            obtain rfl := Option.some.inj ho
            exact ⟨by show l < W.heap.size + 1; omega, .inr ⟨_, _, rfl⟩⟩) _
      · gi_wp2
        exact ⟨hk4.mono (fun k o h => .inr h.symm), rfl, .inr ⟨i + 1, hln.out, hJx4⟩⟩
    · have hst := Lib.hid (each_stop hz hel hk0)
      have hne : (k != 0) = true := by simpa using hk0
      have hj3 := Lib.hid hj2
      clear hj2 i1 i2 hz hel hY kr
      gi_wp2
      refine ⟨(fun _ h => by cases h), ?_⟩
      gi_wp2
      exact ⟨KeepO.refl _ _, rfl, .inl (by rw [hst.out]; exact hj3.out)⟩
  case done =>
    rintro W' ⟨hz, i1, i2, hj⟩ hk' hd
    have hal := Lib.hid (each_all hz)
    have hj2 := Lib.hid hj
    have hdd := Lib.hid hd
    clear hz i1 i2 hj hd hk'
    gi_wp2
    refine leave_marks (N := l + 1) ⟨Ws.heap.size, rfl, by omega, hdd.out, by simp, trivial⟩ fun W3 hg => ?_
    exact ⟨.tuple #[], by simp [results, Try.results68, go_sem], ⟨⟨_, rfl⟩, .inl (by rw [hal.out]; exact hJ _ _ _ hj2.out ((hg.keepO ttE_rec).mono fun k o h => ⟨by omega, h.2⟩))⟩⟩
  case stop =>
    rintro cd i W' hile ⟨rfl, hor⟩ hk' hd
    have hor2 := Lib.hid hor
    have hdd := Lib.hid hd
    clear hor hd hk'
    gi_wp2
    refine leave_marks (N := l + 1) ⟨Ws.heap.size, rfl, by omega, hdd.out, by simp, trivial⟩ fun W3 hg => ?_
    exact ⟨.tuple #[], by simp [results, Try.results68, go_sem], ⟨⟨_, rfl⟩, hor2.out.elim (fun h => .inl (hJ _ _ _ h ((hg.keepO ttE_rec).mono fun k o h => ⟨by omega, h.2⟩))) (fun ⟨j, h1, h2⟩ => .inr ⟨j, h1, hJx _ _ _ h2 ((hg.keepO ttE_rec).mono fun k o h => ⟨by omega, h.2⟩)⟩)⟩⟩
end Go.Proofs.Ytbbdkfadcafpfaa
