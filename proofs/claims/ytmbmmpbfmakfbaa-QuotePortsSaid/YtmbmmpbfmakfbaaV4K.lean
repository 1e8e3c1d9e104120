/- Packets of IPv4: what a reader reads (packet). -/
import Derived.Test.YtmbmmpbfmakfbaaV4P
import Derived.Deep.DeepCutAuto
import Derived.Deep.WholeRow
set_option linter.unusedVariables false
namespace Go.Proofs.Ytmbmmpbfmakfbaa
open Go Go.RowKit

theorem step2_h {P : Program} {md : Region.Mode} {ops : Array Oper} {Q : Exit → Act → World → Prop} {S : World → Prop} {a : Act} {w : World} {i j : Nat} {oi oj : Oper} {l r r' : List Oper} {fuel : Nat} {listed : Array Bool} (h0 : ops = ⟨l⟩) (hi : l.drop i = oi :: r) (hj : l.drop j = oj :: r') (hr : Region.ready md ops listed = [i, j])
    (h : ∀ (K : Act → World → Prop), Shut (∀ a' w', S w' → (S w' → wpAnyH P md ops Q S fuel (listed.setIfInBounds i true) a' w') → K a' w') → if Region.wanted oi (yielded ops a.tmps) = true then oi.wp P a w K Q else K (a.put oi.dst undef) w)
    (h' : ∀ (K : Act → World → Prop), Shut (∀ a' w', S w' → (S w' → wpAnyH P md ops Q S fuel (listed.setIfInBounds j true) a' w') → K a' w') → if Region.wanted oj (yielded ops a.tmps) = true then oj.wp P a w K Q else K (a.put oj.dst undef) w) :
    wpAnyH P md ops Q S (fuel + 1) listed a w :=
  wpAnyH_ready hr (by simp) (AllReadyH.cons (ops_at h0 hi) h (AllReadyH.cons (ops_at h0 hj) h' AllReadyH.nil))
def rowP (x0 x1 x3 x4 x5 x6 : Int) : V4P := ⟨x0, x1, 0, x3, x4, x5, x6, false, false, [], []⟩
set_option maxRecDepth 100000 in
set_option maxHeartbeats 4000000 in
theorem Packet4_any (A : Option Addr) (n c : Nat) (q : Bool) (bs : List Int) (w : World) (hr : RB w A n c bs) (hn : n ≤ 100000) (hok : codeO q bs = 0) :
    Calls Try.prog 77 #[.agg (cellsO A n c (hd4 bs) (sz4 bs))] w fun e w' => ∃ Ao no co A' m c', e = .returned (.agg (cells4 (pack4 bs) Ao no co A' m c')) ∧ OB w' w.heap.size Ao no co (pack4 bs).opts ∧ OB w' w.heap.size A' m c' (pack4 bs).data ∧ Below w.heap.size w w' := by
  obtain ⟨o1, o2, o3, o4, o5, o6, o7, o8⟩ := codeO_ok hok
  have hlen := hr.len
  rw [hlen] at o1 o5 o8
  obtain ⟨b, off, rfl, hbl, _⟩ := hr.mem (by omega)
  have hnc := hr.nc
  have hR := Lib.hid (fun W (hW : Below w.heap.size w W) => hr.below hW)
  obtain ⟨w1, hw1⟩ : ∃ w1, (w.alloc (.cells (cellsO (some ⟨b, off, none⟩) n c (hd4 bs) (sz4 bs)) 100)).alloc (.cells zero4c 32) = w1 := ⟨_, rfl⟩
  have kB1 : Blk w1 w.heap.size (cellsO (some ⟨b, off, none⟩) n c (hd4 bs) (sz4 bs)) 100 := by rw [← hw1]; exact (Blk.new w _ _).alloc _
  have kZ1 : Blk w1 (w.heap.size + 1) zero4c 32 := by
    rw [← hw1]
    have := Blk.new (w.alloc (.cells (cellsO (some ⟨b, off, none⟩) n c (hd4 bs) (sz4 bs)) 100)) zero4c 32
    rwa [World.size_alloc] at this
  have hb1 : Below w.heap.size w w1 := by rw [← hw1]; exact ((Below.refl _ w).alloc (Nat.le_refl _) _).alloc (by simp) _
  have hN := fun (a k : Int) X (hX : Below w1.heap.size w1 X) => Rnum_any (some ⟨b, off, none⟩) n c bs (hd4 bs) (sz4 bs) a k X (hr.below (hb1.trans (hX.mono hb1.size))) hn
  have hN6 := hN 6 2
  have hN1 := hN 1 1
  have hN4 := hN 4 2
  have hN8 := hN 8 1
  have hN9 := hN 9 1
  have hN12 := hN 12 4
  have hN16 := hN 16 4
  have e1 : (getV bs 1 1).1 = bs[1]?.getD 0 := getV1_one (bs := bs) (k := 1) (by omega)
  have e8 : (getV bs 8 1).1 = bs[8]?.getD 0 := getV1_one (bs := bs) (k := 8) (by omega)
  have e9 : (getV bs 9 1).1 = bs[9]?.getD 0 := getV1_one (bs := bs) (k := 9) (by omega)
  have f0 := getV2_in hr.byt 6
  have hpk : pack4 bs = ⟨(getV bs 1 1).1, (getV bs 4 2).1, (getV bs 6 2).1 % 8192 * 8, (getV bs 8 1).1, (getV bs 9 1).1, (getV bs 12 4).1, (getV bs 16 4).1, decide ((getV bs 6 2).1 / 16384 % 2 = 1), decide ((getV bs 6 2).1 / 8192 % 2 = 1), (bs.take (hd4 bs)).drop 20, (bs.take (end4 bs)).drop (hd4 bs)⟩ := by
    rw [e1, e8, e9]; rfl
  have hend : end4 bs = min (sz4 bs).toNat n := by unfold end4; rw [hlen]
  rw [show fl4 bs = (getV bs 6 2).1 from rfl] at o7
  generalize (getV bs 1 1).1 = v1 at *
  generalize (getV bs 4 2).1 = v4 at *
  generalize (getV bs 6 2).1 = fl at *
  generalize (getV bs 8 1).1 = v8 at *
  generalize (getV bs 9 1).1 = v9 at *
  generalize (getV bs 12 4).1 = v12 at *
  generalize (getV bs 16 4).1 = v16 at *
  generalize hd4 bs = hd at *
  generalize sz4 bs = sz at *
  generalize end4 bs = en at *
  generalize pack4 bs = pk at *
  have kB1' := Lib.hid kB1
  have kZ1' := Lib.hid kZ1
  have hb1' := Lib.hid hb1
  replace hN1 := Lib.hid hN1
  replace hN4 := Lib.hid hN4
  replace hN6 := Lib.hid hN6
  replace hN8 := Lib.hid hN8
  replace hN9 := Lib.hid hN9
  replace hN12 := Lib.hid hN12
  replace hN16 := Lib.hid hN16
  replace hpk := Lib.hid hpk
  replace hw1 := Lib.hid hw1
  replace hend := Lib.hid hend
  clear hN e1 e8 e9 hr hlen hok kB1 kZ1 hb1
  go_enter Try.func77, Try.ntmps77
  go_upto_region 2 with (first
    | (rw [hw1.out]; refine wpList_load_RD rfl (.tmp 1) rfl w.heap.size rfl _ kB1'.out rfl ?_)
    | (go_at_call 84; refine (hN6.out _ (Below.refl _ _)).mono ?_; rintro e w2 ⟨rfl, hB2⟩; replace hB2 := Lib.hid hB2)
    | fail)
  have hb2 := hb1'.out.trans (hB2.out.mono hb1'.out.size)
  have kB2 := kB1'.out.to hB2.out
  have kZ2 := kZ1'.out.to hB2.out
  have hto := Lib.hid (fun X X' (h : X.rangeAt w.heap.size 0 (cellsO (some ⟨b, off, none⟩) n c hd sz).toList ∧ Below w1.heap.size w1 X) (hb : Below X.heap.size X X') => show X'.rangeAt w.heap.size 0 (cellsO (some ⟨b, off, none⟩) n c hd sz).toList ∧ Below w1.heap.size w1 X' from
    have hb' := h.2.trans (hb.mono h.2.size)
    ⟨fun j v hj => by rw [Nat.zero_add]; exact (kB1'.out.to hb').cell j v (by rw [← Array.getElem?_toList]; exact hj), hb'⟩)
  have hst := Lib.hid (fun X H cs (h : X.rangeAt w.heap.size 0 (cellsO (some ⟨b, off, none⟩) n c hd sz).toList ∧ Below w1.heap.size w1 X) (hH : w1.heap.size ≤ H) => show (X.setRow H cs).rangeAt w.heap.size 0 (cellsO (some ⟨b, off, none⟩) n c hd sz).toList ∧ Below w1.heap.size w1 (X.setRow H cs) from
    have hb' := below_setRow h.2 hH cs
    ⟨fun j v hj => by rw [Nat.zero_add]; exact (kB1'.out.to hb').cell j v (by rw [← Array.getElem?_toList]; exact hj), hb'⟩)
  have hal := Lib.hid (fun X (h : X.rangeAt w.heap.size 0 (cellsO (some ⟨b, off, none⟩) n c hd sz).toList ∧ Below w1.heap.size w1 X) => show ((X.alloc (.cells zero4c 32)).rangeAt w.heap.size 0 (cellsO (some ⟨b, off, none⟩) n c hd sz).toList ∧ Below w1.heap.size w1 (X.alloc (.cells zero4c 32))) ∧ Below w1.heap.size w1 (X.alloc (.cells zero4c 32)) ∧ Blk (X.alloc (.cells zero4c 32)) X.heap.size zero4c 32 ∧ w1.heap.size ≤ X.heap.size from
    ⟨hto.out _ _ h ((Below.refl _ _).alloc (Nat.le_refl _) _), h.2.alloc h.2.size _, Blk.new _ _ _, h.2.size⟩)
  have hS0 := Lib.hid (hto.out w1 w2.drew ⟨fun j v hj => by rw [Nat.zero_add]; exact kB1'.out.cell j v (by rw [← Array.getElem?_toList]; exact hj), Below.refl _ _⟩ hB2.out.drew)
  have hi := Lib.hid (show (Try.prog.info? 100).map (·.size) = some (cellsO (some ⟨b, off, none⟩) n c hd sz).toList.length from info_rd)
  replace hb2 := Lib.hid hb2
  replace kB2 := Lib.hid kB2
  replace kZ2 := Lib.hid kZ2
  try simp only [Act.put]
  go_cut [4] (fun v wx => ∃ H, v = .pointer (some ⟨H, 0, none⟩) ∧ Blk wx H (cells4 (rowP v1 v4 v8 v9 v12 v16) none 0 0 none 0 0) 32 ∧ w1.heap.size ≤ H ∧ Below w1.heap.size w1 wx)
  case first =>
    refine wp_region_held_drew (S := fun X => X.rangeAt w.heap.size 0 (cellsO (some ⟨b, off, none⟩) n c hd sz).toList ∧ Below w1.heap.size w1 X) (by kernel_rfl) hS0.out (fun hHeld => ?_)
    refine take_h (i := 0) rfl rfl (by kernel_rfl) (by kernel_rfl) (by kernel_rfl) (fun _ _ _ h => h) (yieldsIf_load_mid (by rfl) 100 (.tmp 1) rfl _ _ rfl (cellsO (some ⟨b, off, none⟩) n c hd sz).toList _ (fun X hX => hX.1) Try.underlying100 rfl hi.out) (by assumption) ?_
    simp only [Act.put, List.setIfInBounds_toArray, List.set_cons_zero, List.set_cons_succ]
    refine take_h (i := 2) rfl rfl (by kernel_rfl) (by kernel_rfl) (by kernel_rfl) (fun _ _ _ h => h) (yieldsIf_load_mid (by rfl) 100 (.tmp 1) rfl _ _ rfl (cellsO (some ⟨b, off, none⟩) n c hd sz).toList _ (fun X hX => hX.1) Try.underlying100 rfl hi.out) (by assumption) ?_
    simp only [Act.put, List.setIfInBounds_toArray, List.set_cons_zero, List.set_cons_succ]
    refine take_h (i := 4) rfl rfl (by kernel_rfl) (by kernel_rfl) (by kernel_rfl) (fun _ _ _ h => h) (yieldsIf_load_mid (by rfl) 100 (.tmp 1) rfl _ _ rfl (cellsO (some ⟨b, off, none⟩) n c hd sz).toList _ (fun X hX => hX.1) Try.underlying100 rfl hi.out) (by assumption) ?_
    simp only [Act.put, List.setIfInBounds_toArray, List.set_cons_zero, List.set_cons_succ]
    refine take_h (i := 6) rfl rfl (by kernel_rfl) (by kernel_rfl) (by kernel_rfl) (fun _ _ _ h => h) (yieldsIf_load_mid (by rfl) 100 (.tmp 1) rfl _ _ rfl (cellsO (some ⟨b, off, none⟩) n c hd sz).toList _ (fun X hX => hX.1) Try.underlying100 rfl hi.out) (by assumption) ?_
    simp only [Act.put, List.setIfInBounds_toArray, List.set_cons_zero, List.set_cons_succ]
    refine take_h (i := 8) rfl rfl (by kernel_rfl) (by kernel_rfl) (by kernel_rfl) (fun _ _ _ h => h) (yieldsIf_load_mid (by rfl) 100 (.tmp 1) rfl _ _ rfl (cellsO (some ⟨b, off, none⟩) n c hd sz).toList _ (fun X hX => hX.1) Try.underlying100 rfl hi.out) (by assumption) ?_
    simp only [Act.put, List.setIfInBounds_toArray, List.set_cons_zero, List.set_cons_succ]
    refine take_h (i := 10) rfl rfl (by kernel_rfl) (by kernel_rfl) (by kernel_rfl) (fun _ _ _ h => h) (yieldsIf_load_mid (by rfl) 100 (.tmp 1) rfl _ _ rfl (cellsO (some ⟨b, off, none⟩) n c hd sz).toList _ (fun X hX => hX.1) Try.underlying100 rfl hi.out) (by assumption) ?_
    simp only [Act.put, List.setIfInBounds_toArray, List.set_cons_zero, List.set_cons_succ]
    refine step2_h (i := 1) (j := 13) rfl rfl rfl (by kernel_rfl) (fun K hK => ?_) (fun K hK => ?_)
    rotate_left
    · skip
      go_simp
      obtain ⟨hSA, hbq, kA, hHl⟩ := hal.out _ hHeld
      refine hK.out _ _ hSA (fun hHeld => ?_)
      clear hK K hSA
      try simp only [Act.put, List.setIfInBounds_toArray, List.set_cons_zero, List.set_cons_succ]
      refine step_h (i := 1) rfl rfl (by kernel_rfl) (fun K hK => ?_)
      go_simp
      refine Calls.mono (hN1.out _ hHeld.2) ?_
      rintro e w4 ⟨rfl, hB4⟩
      have hS4 := hto.out _ w4 hHeld hB4
      replace hbq := hbq.trans (hB4.mono hbq.size)
      replace kA := kA.to hB4
      replace hB4 := 0
      clear hHeld
      go_wp2_with fail
      refine hK.out _ _ hS4 (fun hHeld => ?_)
      clear hK K
      try simp only [Act.put, List.setIfInBounds_toArray, List.set_cons_zero, List.set_cons_succ]
      clear hS4
      refine step_h (i := 3) rfl rfl (by kernel_rfl) (fun K hK => ?_)
      go_simp
      refine Calls.mono (hN4.out _ hHeld.2) ?_
      rintro e w4 ⟨rfl, hB4⟩
      have hS4 := hto.out _ w4 hHeld hB4
      replace hbq := hbq.trans (hB4.mono hbq.size)
      replace kA := kA.to hB4
      replace hB4 := 0
      clear hHeld
      go_wp2_with fail
      refine hK.out _ _ hS4 (fun hHeld => ?_)
      clear hK K
      try simp only [Act.put, List.setIfInBounds_toArray, List.set_cons_zero, List.set_cons_succ]
      clear hS4
      refine step_h (i := 5) rfl rfl (by kernel_rfl) (fun K hK => ?_)
      go_simp
      refine Calls.mono (hN8.out _ hHeld.2) ?_
      rintro e w4 ⟨rfl, hB4⟩
      have hS4 := hto.out _ w4 hHeld hB4
      replace hbq := hbq.trans (hB4.mono hbq.size)
      replace kA := kA.to hB4
      replace hB4 := 0
      clear hHeld
      go_wp2_with fail
      refine hK.out _ _ hS4 (fun hHeld => ?_)
      clear hK K
      try simp only [Act.put, List.setIfInBounds_toArray, List.set_cons_zero, List.set_cons_succ]
      clear hS4
      refine step_h (i := 7) rfl rfl (by kernel_rfl) (fun K hK => ?_)
      go_simp
      refine Calls.mono (hN9.out _ hHeld.2) ?_
      rintro e w4 ⟨rfl, hB4⟩
      have hS4 := hto.out _ w4 hHeld hB4
      replace hbq := hbq.trans (hB4.mono hbq.size)
      replace kA := kA.to hB4
      replace hB4 := 0
      clear hHeld
      go_wp2_with fail
      refine hK.out _ _ hS4 (fun hHeld => ?_)
      clear hK K
      try simp only [Act.put, List.setIfInBounds_toArray, List.set_cons_zero, List.set_cons_succ]
      clear hS4
      refine step_h (i := 9) rfl rfl (by kernel_rfl) (fun K hK => ?_)
      go_simp
      refine Calls.mono (hN12.out _ hHeld.2) ?_
      rintro e w4 ⟨rfl, hB4⟩
      have hS4 := hto.out _ w4 hHeld hB4
      replace hbq := hbq.trans (hB4.mono hbq.size)
      replace kA := kA.to hB4
      replace hB4 := 0
      clear hHeld
      go_wp2_with fail
      refine hK.out _ _ hS4 (fun hHeld => ?_)
      clear hK K
      try simp only [Act.put, List.setIfInBounds_toArray, List.set_cons_zero, List.set_cons_succ]
      clear hS4
      refine step_h (i := 11) rfl rfl (by kernel_rfl) (fun K hK => ?_)
      go_simp
      refine Calls.mono (hN16.out _ hHeld.2) ?_
      rintro e w4 ⟨rfl, hB4⟩
      have hS4 := hto.out _ w4 hHeld hB4
      replace hbq := hbq.trans (hB4.mono hbq.size)
      replace kA := kA.to hB4
      replace hB4 := 0
      clear hHeld
      go_wp2_with fail
      refine hK.out _ _ hS4 (fun hHeld => ?_)
      clear hK K
      try simp only [Act.put, List.setIfInBounds_toArray, List.set_cons_zero, List.set_cons_succ]
      clear hS4
      refine take_h (i := 12) (v := ?_) rfl rfl (by kernel_rfl) (by kernel_rfl) (by kernel_rfl) (fun _ _ _ h => h) (Or.inl ⟨by rfl, fun W hSw => ?_⟩) (by assumption) ?_
      rotate_left
      · (clear hSw; go_simp; try with_reducible rfl)
      simp only [Act.put, List.setIfInBounds_toArray, List.set_cons_zero, List.set_cons_succ]
      refine step_h (i := 14) rfl rfl (by kernel_rfl) (fun K hK => ?_)
      rw [if_pos (by rfl)]
      refine wp_store_row 32 (.tmp 4) (.tmp 19) rfl _ (cells4 (rowP v1 v4 v8 v9 v12 v16) none 0 0 none 0 0) rfl rfl 32 zero4c kA.at_ info_v4 rfl (one4 _ _ _ _ _ _ _) ?_
      have hSE := hst.out _ _ (cells4 (rowP v1 v4 v8 v9 v12 v16) none 0 0 none 0 0) hHeld hHl
      refine hK.out _ _ hSE (fun hHeld2 => ?_)
      clear hK K
      refine wpAnyH_done (by kernel_rfl) ?_ _
      try simp only [Act.put]
      go_wp2_with fail
      go_meet
      exact ⟨_, rfl, Blk.mk (setRow_heap _ _ _ _ _ _ kA.at_), hHl, below_setRow hbq hHl _⟩
    · go_simp
      refine Calls.mono (hN1.out _ hHeld.2) ?_
      rintro e w4 ⟨rfl, hB4⟩
      have hS4 := hto.out _ w4 hHeld hB4
      clear hHeld
      go_wp2_with fail
      refine hK.out _ _ hS4 (fun hHeld => ?_)
      clear hK K
      try simp only [Act.put, List.setIfInBounds_toArray, List.set_cons_zero, List.set_cons_succ]
      clear hS4
      refine step2_h (i := 3) (j := 13) rfl rfl rfl (by kernel_rfl) (fun K hK => ?_) (fun K hK => ?_)
      rotate_left
      · skip
        go_simp
        obtain ⟨hSA, hbq, kA, hHl⟩ := hal.out _ hHeld
        refine hK.out _ _ hSA (fun hHeld => ?_)
        clear hK K hSA
        try simp only [Act.put, List.setIfInBounds_toArray, List.set_cons_zero, List.set_cons_succ]
        refine step_h (i := 3) rfl rfl (by kernel_rfl) (fun K hK => ?_)
        go_simp
        refine Calls.mono (hN4.out _ hHeld.2) ?_
        rintro e w4 ⟨rfl, hB4⟩
        have hS4 := hto.out _ w4 hHeld hB4
        replace hbq := hbq.trans (hB4.mono hbq.size)
        replace kA := kA.to hB4
        replace hB4 := 0
        clear hHeld
        go_wp2_with fail
        refine hK.out _ _ hS4 (fun hHeld => ?_)
        clear hK K
        try simp only [Act.put, List.setIfInBounds_toArray, List.set_cons_zero, List.set_cons_succ]
        clear hS4
        refine step_h (i := 5) rfl rfl (by kernel_rfl) (fun K hK => ?_)
        go_simp
        refine Calls.mono (hN8.out _ hHeld.2) ?_
        rintro e w4 ⟨rfl, hB4⟩
        have hS4 := hto.out _ w4 hHeld hB4
        replace hbq := hbq.trans (hB4.mono hbq.size)
        replace kA := kA.to hB4
        replace hB4 := 0
        clear hHeld
        go_wp2_with fail
        refine hK.out _ _ hS4 (fun hHeld => ?_)
        clear hK K
        try simp only [Act.put, List.setIfInBounds_toArray, List.set_cons_zero, List.set_cons_succ]
        clear hS4
        refine step_h (i := 7) rfl rfl (by kernel_rfl) (fun K hK => ?_)
        go_simp
        refine Calls.mono (hN9.out _ hHeld.2) ?_
        rintro e w4 ⟨rfl, hB4⟩
        have hS4 := hto.out _ w4 hHeld hB4
        replace hbq := hbq.trans (hB4.mono hbq.size)
        replace kA := kA.to hB4
        replace hB4 := 0
        clear hHeld
        go_wp2_with fail
        refine hK.out _ _ hS4 (fun hHeld => ?_)
        clear hK K
        try simp only [Act.put, List.setIfInBounds_toArray, List.set_cons_zero, List.set_cons_succ]
        clear hS4
        refine step_h (i := 9) rfl rfl (by kernel_rfl) (fun K hK => ?_)
        go_simp
        refine Calls.mono (hN12.out _ hHeld.2) ?_
        rintro e w4 ⟨rfl, hB4⟩
        have hS4 := hto.out _ w4 hHeld hB4
        replace hbq := hbq.trans (hB4.mono hbq.size)
        replace kA := kA.to hB4
        replace hB4 := 0
        clear hHeld
        go_wp2_with fail
        refine hK.out _ _ hS4 (fun hHeld => ?_)
        clear hK K
        try simp only [Act.put, List.setIfInBounds_toArray, List.set_cons_zero, List.set_cons_succ]
        clear hS4
        refine step_h (i := 11) rfl rfl (by kernel_rfl) (fun K hK => ?_)
        go_simp
        refine Calls.mono (hN16.out _ hHeld.2) ?_
        rintro e w4 ⟨rfl, hB4⟩
        have hS4 := hto.out _ w4 hHeld hB4
        replace hbq := hbq.trans (hB4.mono hbq.size)
        replace kA := kA.to hB4
        replace hB4 := 0
        clear hHeld
        go_wp2_with fail
        refine hK.out _ _ hS4 (fun hHeld => ?_)
        clear hK K
        try simp only [Act.put, List.setIfInBounds_toArray, List.set_cons_zero, List.set_cons_succ]
        clear hS4
        refine take_h (i := 12) (v := ?_) rfl rfl (by kernel_rfl) (by kernel_rfl) (by kernel_rfl) (fun _ _ _ h => h) (Or.inl ⟨by rfl, fun W hSw => ?_⟩) (by assumption) ?_
        rotate_left
        · (clear hSw; go_simp; try with_reducible rfl)
        simp only [Act.put, List.setIfInBounds_toArray, List.set_cons_zero, List.set_cons_succ]
        refine step_h (i := 14) rfl rfl (by kernel_rfl) (fun K hK => ?_)
        rw [if_pos (by rfl)]
        refine wp_store_row 32 (.tmp 4) (.tmp 19) rfl _ (cells4 (rowP v1 v4 v8 v9 v12 v16) none 0 0 none 0 0) rfl rfl 32 zero4c kA.at_ info_v4 rfl (one4 _ _ _ _ _ _ _) ?_
        have hSE := hst.out _ _ (cells4 (rowP v1 v4 v8 v9 v12 v16) none 0 0 none 0 0) hHeld hHl
        refine hK.out _ _ hSE (fun hHeld2 => ?_)
        clear hK K
        refine wpAnyH_done (by kernel_rfl) ?_ _
        try simp only [Act.put]
        go_wp2_with fail
        go_meet
        exact ⟨_, rfl, Blk.mk (setRow_heap _ _ _ _ _ _ kA.at_), hHl, below_setRow hbq hHl _⟩
      · go_simp
        refine Calls.mono (hN4.out _ hHeld.2) ?_
        rintro e w4 ⟨rfl, hB4⟩
        have hS4 := hto.out _ w4 hHeld hB4
        clear hHeld
        go_wp2_with fail
        refine hK.out _ _ hS4 (fun hHeld => ?_)
        clear hK K
        try simp only [Act.put, List.setIfInBounds_toArray, List.set_cons_zero, List.set_cons_succ]
        clear hS4
        refine step2_h (i := 5) (j := 13) rfl rfl rfl (by kernel_rfl) (fun K hK => ?_) (fun K hK => ?_)
        rotate_left
        · skip
          go_simp
          obtain ⟨hSA, hbq, kA, hHl⟩ := hal.out _ hHeld
          refine hK.out _ _ hSA (fun hHeld => ?_)
          clear hK K hSA
          try simp only [Act.put, List.setIfInBounds_toArray, List.set_cons_zero, List.set_cons_succ]
          refine step_h (i := 5) rfl rfl (by kernel_rfl) (fun K hK => ?_)
          go_simp
          refine Calls.mono (hN8.out _ hHeld.2) ?_
          rintro e w4 ⟨rfl, hB4⟩
          have hS4 := hto.out _ w4 hHeld hB4
          replace hbq := hbq.trans (hB4.mono hbq.size)
          replace kA := kA.to hB4
          replace hB4 := 0
          clear hHeld
          go_wp2_with fail
          refine hK.out _ _ hS4 (fun hHeld => ?_)
          clear hK K
          try simp only [Act.put, List.setIfInBounds_toArray, List.set_cons_zero, List.set_cons_succ]
          clear hS4
          refine step_h (i := 7) rfl rfl (by kernel_rfl) (fun K hK => ?_)
          go_simp
          refine Calls.mono (hN9.out _ hHeld.2) ?_
          rintro e w4 ⟨rfl, hB4⟩
          have hS4 := hto.out _ w4 hHeld hB4
          replace hbq := hbq.trans (hB4.mono hbq.size)
          replace kA := kA.to hB4
          replace hB4 := 0
          clear hHeld
          go_wp2_with fail
          refine hK.out _ _ hS4 (fun hHeld => ?_)
          clear hK K
          try simp only [Act.put, List.setIfInBounds_toArray, List.set_cons_zero, List.set_cons_succ]
          clear hS4
          refine step_h (i := 9) rfl rfl (by kernel_rfl) (fun K hK => ?_)
          go_simp
          refine Calls.mono (hN12.out _ hHeld.2) ?_
          rintro e w4 ⟨rfl, hB4⟩
          have hS4 := hto.out _ w4 hHeld hB4
          replace hbq := hbq.trans (hB4.mono hbq.size)
          replace kA := kA.to hB4
          replace hB4 := 0
          clear hHeld
          go_wp2_with fail
          refine hK.out _ _ hS4 (fun hHeld => ?_)
          clear hK K
          try simp only [Act.put, List.setIfInBounds_toArray, List.set_cons_zero, List.set_cons_succ]
          clear hS4
          refine step_h (i := 11) rfl rfl (by kernel_rfl) (fun K hK => ?_)
          go_simp
          refine Calls.mono (hN16.out _ hHeld.2) ?_
          rintro e w4 ⟨rfl, hB4⟩
          have hS4 := hto.out _ w4 hHeld hB4
          replace hbq := hbq.trans (hB4.mono hbq.size)
          replace kA := kA.to hB4
          replace hB4 := 0
          clear hHeld
          go_wp2_with fail
          refine hK.out _ _ hS4 (fun hHeld => ?_)
          clear hK K
          try simp only [Act.put, List.setIfInBounds_toArray, List.set_cons_zero, List.set_cons_succ]
          clear hS4
          refine take_h (i := 12) (v := ?_) rfl rfl (by kernel_rfl) (by kernel_rfl) (by kernel_rfl) (fun _ _ _ h => h) (Or.inl ⟨by rfl, fun W hSw => ?_⟩) (by assumption) ?_
          rotate_left
          · (clear hSw; go_simp; try with_reducible rfl)
          simp only [Act.put, List.setIfInBounds_toArray, List.set_cons_zero, List.set_cons_succ]
          refine step_h (i := 14) rfl rfl (by kernel_rfl) (fun K hK => ?_)
          rw [if_pos (by rfl)]
          refine wp_store_row 32 (.tmp 4) (.tmp 19) rfl _ (cells4 (rowP v1 v4 v8 v9 v12 v16) none 0 0 none 0 0) rfl rfl 32 zero4c kA.at_ info_v4 rfl (one4 _ _ _ _ _ _ _) ?_
          have hSE := hst.out _ _ (cells4 (rowP v1 v4 v8 v9 v12 v16) none 0 0 none 0 0) hHeld hHl
          refine hK.out _ _ hSE (fun hHeld2 => ?_)
          clear hK K
          refine wpAnyH_done (by kernel_rfl) ?_ _
          try simp only [Act.put]
          go_wp2_with fail
          go_meet
          exact ⟨_, rfl, Blk.mk (setRow_heap _ _ _ _ _ _ kA.at_), hHl, below_setRow hbq hHl _⟩
        · go_simp
          refine Calls.mono (hN8.out _ hHeld.2) ?_
          rintro e w4 ⟨rfl, hB4⟩
          have hS4 := hto.out _ w4 hHeld hB4
          clear hHeld
          go_wp2_with fail
          refine hK.out _ _ hS4 (fun hHeld => ?_)
          clear hK K
          try simp only [Act.put, List.setIfInBounds_toArray, List.set_cons_zero, List.set_cons_succ]
          clear hS4
          refine step2_h (i := 7) (j := 13) rfl rfl rfl (by kernel_rfl) (fun K hK => ?_) (fun K hK => ?_)
          rotate_left
          · skip
            go_simp
            obtain ⟨hSA, hbq, kA, hHl⟩ := hal.out _ hHeld
            refine hK.out _ _ hSA (fun hHeld => ?_)
            clear hK K hSA
            try simp only [Act.put, List.setIfInBounds_toArray, List.set_cons_zero, List.set_cons_succ]
            refine step_h (i := 7) rfl rfl (by kernel_rfl) (fun K hK => ?_)
            go_simp
            refine Calls.mono (hN9.out _ hHeld.2) ?_
            rintro e w4 ⟨rfl, hB4⟩
            have hS4 := hto.out _ w4 hHeld hB4
            replace hbq := hbq.trans (hB4.mono hbq.size)
            replace kA := kA.to hB4
            replace hB4 := 0
            clear hHeld
            go_wp2_with fail
            refine hK.out _ _ hS4 (fun hHeld => ?_)
            clear hK K
            try simp only [Act.put, List.setIfInBounds_toArray, List.set_cons_zero, List.set_cons_succ]
            clear hS4
            refine step_h (i := 9) rfl rfl (by kernel_rfl) (fun K hK => ?_)
            go_simp
            refine Calls.mono (hN12.out _ hHeld.2) ?_
            rintro e w4 ⟨rfl, hB4⟩
            have hS4 := hto.out _ w4 hHeld hB4
            replace hbq := hbq.trans (hB4.mono hbq.size)
            replace kA := kA.to hB4
            replace hB4 := 0
            clear hHeld
            go_wp2_with fail
            refine hK.out _ _ hS4 (fun hHeld => ?_)
            clear hK K
            try simp only [Act.put, List.setIfInBounds_toArray, List.set_cons_zero, List.set_cons_succ]
            clear hS4
            refine step_h (i := 11) rfl rfl (by kernel_rfl) (fun K hK => ?_)
            go_simp
            refine Calls.mono (hN16.out _ hHeld.2) ?_
            rintro e w4 ⟨rfl, hB4⟩
            have hS4 := hto.out _ w4 hHeld hB4
            replace hbq := hbq.trans (hB4.mono hbq.size)
            replace kA := kA.to hB4
            replace hB4 := 0
            clear hHeld
            go_wp2_with fail
            refine hK.out _ _ hS4 (fun hHeld => ?_)
            clear hK K
            try simp only [Act.put, List.setIfInBounds_toArray, List.set_cons_zero, List.set_cons_succ]
            clear hS4
            refine take_h (i := 12) (v := ?_) rfl rfl (by kernel_rfl) (by kernel_rfl) (by kernel_rfl) (fun _ _ _ h => h) (Or.inl ⟨by rfl, fun W hSw => ?_⟩) (by assumption) ?_
            rotate_left
            · (clear hSw; go_simp; try with_reducible rfl)
            simp only [Act.put, List.setIfInBounds_toArray, List.set_cons_zero, List.set_cons_succ]
            refine step_h (i := 14) rfl rfl (by kernel_rfl) (fun K hK => ?_)
            rw [if_pos (by rfl)]
            refine wp_store_row 32 (.tmp 4) (.tmp 19) rfl _ (cells4 (rowP v1 v4 v8 v9 v12 v16) none 0 0 none 0 0) rfl rfl 32 zero4c kA.at_ info_v4 rfl (one4 _ _ _ _ _ _ _) ?_
            have hSE := hst.out _ _ (cells4 (rowP v1 v4 v8 v9 v12 v16) none 0 0 none 0 0) hHeld hHl
            refine hK.out _ _ hSE (fun hHeld2 => ?_)
            clear hK K
            refine wpAnyH_done (by kernel_rfl) ?_ _
            try simp only [Act.put]
            go_wp2_with fail
            go_meet
            exact ⟨_, rfl, Blk.mk (setRow_heap _ _ _ _ _ _ kA.at_), hHl, below_setRow hbq hHl _⟩
          · go_simp
            refine Calls.mono (hN9.out _ hHeld.2) ?_
            rintro e w4 ⟨rfl, hB4⟩
            have hS4 := hto.out _ w4 hHeld hB4
            clear hHeld
            go_wp2_with fail
            refine hK.out _ _ hS4 (fun hHeld => ?_)
            clear hK K
            try simp only [Act.put, List.setIfInBounds_toArray, List.set_cons_zero, List.set_cons_succ]
            clear hS4
            refine step2_h (i := 9) (j := 13) rfl rfl rfl (by kernel_rfl) (fun K hK => ?_) (fun K hK => ?_)
            rotate_left
            · skip
              go_simp
              obtain ⟨hSA, hbq, kA, hHl⟩ := hal.out _ hHeld
              refine hK.out _ _ hSA (fun hHeld => ?_)
              clear hK K hSA
              try simp only [Act.put, List.setIfInBounds_toArray, List.set_cons_zero, List.set_cons_succ]
              refine step_h (i := 9) rfl rfl (by kernel_rfl) (fun K hK => ?_)
              go_simp
              refine Calls.mono (hN12.out _ hHeld.2) ?_
              rintro e w4 ⟨rfl, hB4⟩
              have hS4 := hto.out _ w4 hHeld hB4
              replace hbq := hbq.trans (hB4.mono hbq.size)
              replace kA := kA.to hB4
              replace hB4 := 0
              clear hHeld
              go_wp2_with fail
              refine hK.out _ _ hS4 (fun hHeld => ?_)
              clear hK K
              try simp only [Act.put, List.setIfInBounds_toArray, List.set_cons_zero, List.set_cons_succ]
              clear hS4
              refine step_h (i := 11) rfl rfl (by kernel_rfl) (fun K hK => ?_)
              go_simp
              refine Calls.mono (hN16.out _ hHeld.2) ?_
              rintro e w4 ⟨rfl, hB4⟩
              have hS4 := hto.out _ w4 hHeld hB4
              replace hbq := hbq.trans (hB4.mono hbq.size)
              replace kA := kA.to hB4
              replace hB4 := 0
              clear hHeld
              go_wp2_with fail
              refine hK.out _ _ hS4 (fun hHeld => ?_)
              clear hK K
              try simp only [Act.put, List.setIfInBounds_toArray, List.set_cons_zero, List.set_cons_succ]
              clear hS4
              refine take_h (i := 12) (v := ?_) rfl rfl (by kernel_rfl) (by kernel_rfl) (by kernel_rfl) (fun _ _ _ h => h) (Or.inl ⟨by rfl, fun W hSw => ?_⟩) (by assumption) ?_
              rotate_left
              · (clear hSw; go_simp; try with_reducible rfl)
              simp only [Act.put, List.setIfInBounds_toArray, List.set_cons_zero, List.set_cons_succ]
              refine step_h (i := 14) rfl rfl (by kernel_rfl) (fun K hK => ?_)
              rw [if_pos (by rfl)]
              refine wp_store_row 32 (.tmp 4) (.tmp 19) rfl _ (cells4 (rowP v1 v4 v8 v9 v12 v16) none 0 0 none 0 0) rfl rfl 32 zero4c kA.at_ info_v4 rfl (one4 _ _ _ _ _ _ _) ?_
              have hSE := hst.out _ _ (cells4 (rowP v1 v4 v8 v9 v12 v16) none 0 0 none 0 0) hHeld hHl
              refine hK.out _ _ hSE (fun hHeld2 => ?_)
              clear hK K
              refine wpAnyH_done (by kernel_rfl) ?_ _
              try simp only [Act.put]
              go_wp2_with fail
              go_meet
              exact ⟨_, rfl, Blk.mk (setRow_heap _ _ _ _ _ _ kA.at_), hHl, below_setRow hbq hHl _⟩
            · go_simp
              refine Calls.mono (hN12.out _ hHeld.2) ?_
              rintro e w4 ⟨rfl, hB4⟩
              have hS4 := hto.out _ w4 hHeld hB4
              clear hHeld
              go_wp2_with fail
              refine hK.out _ _ hS4 (fun hHeld => ?_)
              clear hK K
              try simp only [Act.put, List.setIfInBounds_toArray, List.set_cons_zero, List.set_cons_succ]
              clear hS4
              refine step2_h (i := 11) (j := 13) rfl rfl rfl (by kernel_rfl) (fun K hK => ?_) (fun K hK => ?_)
              rotate_left
              · skip
                go_simp
                obtain ⟨hSA, hbq, kA, hHl⟩ := hal.out _ hHeld
                refine hK.out _ _ hSA (fun hHeld => ?_)
                clear hK K hSA
                try simp only [Act.put, List.setIfInBounds_toArray, List.set_cons_zero, List.set_cons_succ]
                refine step_h (i := 11) rfl rfl (by kernel_rfl) (fun K hK => ?_)
                go_simp
                refine Calls.mono (hN16.out _ hHeld.2) ?_
                rintro e w4 ⟨rfl, hB4⟩
                have hS4 := hto.out _ w4 hHeld hB4
                replace hbq := hbq.trans (hB4.mono hbq.size)
                replace kA := kA.to hB4
                replace hB4 := 0
                clear hHeld
                go_wp2_with fail
                refine hK.out _ _ hS4 (fun hHeld => ?_)
                clear hK K
                try simp only [Act.put, List.setIfInBounds_toArray, List.set_cons_zero, List.set_cons_succ]
                clear hS4
                refine take_h (i := 12) (v := ?_) rfl rfl (by kernel_rfl) (by kernel_rfl) (by kernel_rfl) (fun _ _ _ h => h) (Or.inl ⟨by rfl, fun W hSw => ?_⟩) (by assumption) ?_
                rotate_left
                · (clear hSw; go_simp; try with_reducible rfl)
                simp only [Act.put, List.setIfInBounds_toArray, List.set_cons_zero, List.set_cons_succ]
                refine step_h (i := 14) rfl rfl (by kernel_rfl) (fun K hK => ?_)
                rw [if_pos (by rfl)]
                refine wp_store_row 32 (.tmp 4) (.tmp 19) rfl _ (cells4 (rowP v1 v4 v8 v9 v12 v16) none 0 0 none 0 0) rfl rfl 32 zero4c kA.at_ info_v4 rfl (one4 _ _ _ _ _ _ _) ?_
                have hSE := hst.out _ _ (cells4 (rowP v1 v4 v8 v9 v12 v16) none 0 0 none 0 0) hHeld hHl
                refine hK.out _ _ hSE (fun hHeld2 => ?_)
                clear hK K
                refine wpAnyH_done (by kernel_rfl) ?_ _
                try simp only [Act.put]
                go_wp2_with fail
                go_meet
                exact ⟨_, rfl, Blk.mk (setRow_heap _ _ _ _ _ _ kA.at_), hHl, below_setRow hbq hHl _⟩
              · go_simp
                refine Calls.mono (hN16.out _ hHeld.2) ?_
                rintro e w4 ⟨rfl, hB4⟩
                have hS4 := hto.out _ w4 hHeld hB4
                clear hHeld
                go_wp2_with fail
                refine hK.out _ _ hS4 (fun hHeld => ?_)
                clear hK K
                try simp only [Act.put, List.setIfInBounds_toArray, List.set_cons_zero, List.set_cons_succ]
                clear hS4
                refine take_h (i := 12) (v := ?_) rfl rfl (by kernel_rfl) (by kernel_rfl) (by kernel_rfl) (fun _ _ _ h => h) (Or.inl ⟨by rfl, fun W hSw => ?_⟩) (by assumption) ?_
                rotate_left
                · (clear hSw; go_simp; try with_reducible rfl)
                simp only [Act.put, List.setIfInBounds_toArray, List.set_cons_zero, List.set_cons_succ]
                refine step_h (i := 13) rfl rfl (by kernel_rfl) (fun K hK => ?_)
                go_simp
                obtain ⟨hSA, hbq, kA, hHl⟩ := hal.out _ hHeld
                refine hK.out _ _ hSA (fun hHeld => ?_)
                clear hK K hSA
                try simp only [Act.put, List.setIfInBounds_toArray, List.set_cons_zero, List.set_cons_succ]
                refine step_h (i := 14) rfl rfl (by kernel_rfl) (fun K hK => ?_)
                rw [if_pos (by rfl)]
                refine wp_store_row 32 (.tmp 4) (.tmp 19) rfl _ (cells4 (rowP v1 v4 v8 v9 v12 v16) none 0 0 none 0 0) rfl rfl 32 zero4c kA.at_ info_v4 rfl (one4 _ _ _ _ _ _ _) ?_
                have hSE := hst.out _ _ (cells4 (rowP v1 v4 v8 v9 v12 v16) none 0 0 none 0 0) hHeld hHl
                refine hK.out _ _ hSE (fun hHeld2 => ?_)
                clear hK K
                refine wpAnyH_done (by kernel_rfl) ?_ _
                try simp only [Act.put]
                go_wp2_with fail
                go_meet
                exact ⟨_, rfl, Blk.mk (setRow_heap _ _ _ _ _ _ kA.at_), hHl, below_setRow hbq hHl _⟩
  case rest =>
    obtain ⟨H, rfl, kH, hH, hBc⟩ := hcut
    obtain ⟨w3, rfl⟩ : ∃ w3, w3 = wc := ⟨_, rfl⟩
    have hs1 := hb1'.out.size
    have hs2 := kZ1'.out.lt
    have hkB3 := kB1'.out.to hBc
    have hkZ3 := kZ1'.out.to hBc
    have hb3 := hb1'.out.trans (hBc.mono hb1'.out.size)
    have h14 : (bits .and .i64 fl 16384 != 0) = decide (fl / 16384 % 2 = 1) := by
      rw [bit14 fl f0.1 f0.2]; split <;> simp_all
    have h13 : (bits .and .i64 fl 8192 != 0) = decide (fl / 8192 % 2 = 1) := by
      rw [bit13 fl f0.1 f0.2]; split <;> simp_all
    have hlo := low13 fl f0.1 f0.2
    have hw8 : IntKind.i64.wrap (fl % 8192 * 8) = fl % 8192 * 8 := by rw [IntKind.wrap_i64]; omega
    obtain ⟨df, hdf⟩ : ∃ b, decide (fl / 16384 % 2 = 1) = b := ⟨_, rfl⟩
    obtain ⟨mf, hmf⟩ : ∃ b, decide (fl / 8192 % 2 = 1) = b := ⟨_, rfl⟩
    rw [hdf] at h14
    rw [hmf] at h13
    replace hdf := Lib.hid hdf
    replace hmf := Lib.hid hmf
    have ka := kH.set 2 (.int .i64 (fl % 8192 * 8))
    have kb := ka.set 7 (.bool df)
    have c2 := kH.cell 2 _ rfl
    have g2 := kH.frz 2
    have c7 := ka.cell 7 _ rfl
    have g7 := ka.frz 7
    have c8 := kb.cell 8 _ rfl
    have g8 := kb.frz 8
    have kc := Lib.hid (kb.set 8 (.bool mf))
    have hHB : w.heap.size ≠ H := by omega
    have hHZ : w.heap.size + 1 ≠ H := by omega
    have kBc := Lib.hid (((hkB3.far hHB 2 (.int .i64 (fl % 8192 * 8))).far hHB 7 (.bool df)).far hHB 8 (.bool mf))
    have kZc := Lib.hid (((hkZ3.far hHZ 2 (.int .i64 (fl % 8192 * 8))).far hHZ 7 (.bool df)).far hHZ 8 (.bool mf))
    have hHle : w.heap.size ≤ H := by omega
    have hbc := Lib.hid (((hb3.setCell (p := ⟨H, 2, none⟩) hHle (.int .i64 (fl % 8192 * 8))).setCell (p := ⟨H, 7, none⟩) hHle (.bool df)).setCell (p := ⟨H, 8, none⟩) hHle (.bool mf))
    have hHl := Lib.hid kH.lt
    clear ka kb hkB3 hkZ3 hb3 hBc kH
    go_upto_region 4 with fail
    obtain ⟨w4, hw4⟩ : ∃ w4, ((w3.setCell ⟨H, 2, none⟩ (.int .i64 (fl % 8192 * 8))).setCell ⟨H, 7, none⟩ (.bool df)).setCell ⟨H, 8, none⟩ (.bool mf) = w4 := ⟨_, rfl⟩
    have k4 : Blk w4 H (cells4 ⟨v1, v4, fl % 8192 * 8, v8, v9, v12, v16, df, mf, [], []⟩ none 0 0 none 0 0) 32 := by rw [← hw4]; simpa [rowP] using kc.out
    have kB4 : Blk w4 w.heap.size (cellsO (some ⟨b, off, none⟩) n c hd sz) 100 := by rw [← hw4]; exact kBc.out
    have kZ4 : Blk w4 (w.heap.size + 1) zero4c 32 := by rw [← hw4]; exact kZc.out
    have hb4 : Below w.heap.size w w4 := by rw [← hw4]; exact hbc.out
    have hH4 : H < w4.heap.size := k4.lt
    rw [hw4]
    have r0 := kB4.cell 0 _ rfl
    have r1 := kB4.cell 1 _ rfl
    have hr4 := hR.out _ hb4
    replace k4 := Lib.hid k4
    replace kB4 := Lib.hid kB4
    replace kZ4 := Lib.hid kZ4
    replace hb4 := Lib.hid hb4
    replace kBc := 0
    replace kZc := 0
    replace hbc := 0
    replace kc := 0
    clear hw4 c2 g2 c7 g7 c8 g8
    have hdr := (hr4.first_ (show hd ≤ n by omega)).drop_any 20 (show 20 ≤ hd by omega)
    have i1 : (hd : Int) ≤ c := by omega
    have i2 : (20 : Int) ≤ hd := by omega
    have i3 : hd ≤ c := by omega
    have i4 : 20 ≤ hd := by omega
    go_cut [] (fun wx => ∃ A3 c3, Blk wx H (cells4 ⟨v1, v4, fl % 8192 * 8, v8, v9, v12, v16, df, mf, [], []⟩ A3 (hd - 20) c3 none 0 0) 32 ∧ OB wx w4.heap.size A3 (hd - 20) c3 ((bs.take hd).drop 20) ∧ Blk wx w.heap.size (cellsO (some ⟨b, off, none⟩) n c hd sz) 100 ∧ Blk wx (w.heap.size + 1) zero4c 32 ∧ Below w.heap.size w wx ∧ w4.heap.size ≤ wx.heap.size)
    case first =>
      by_cases hc20 : c = 20
      · have e0 := Lib.hid (show hd - 20 = 0 by omega)
        rw [if_pos hc20, show c - 20 = 0 by omega, e0.out] at hdr
        have hCl := Lib.hid (Clone_any _ _ _ _ _ hdr (by omega))
        clear hdr hr4
        subst hc20
        go_wp2_with (first
          | (go_at_call 67; refine (hCl.out).mono ?_; rintro e w5 ⟨A3, c3, rfl, ho3, hB5⟩; have k5 := k4.out.to hB5; have e9 := k5.cell 9 _ rfl; have g9 := k5.frz 9)
          | fail)
        go_meet
        have hsz := hB5.size
        rw [e0.out]
        exact ⟨A3, c3, by simpa using k5.set 9 (.slice A3 0 c3), ho3.set_low hH4 9 _, (kB4.out.to hB5).far hHB 9 _, (kZ4.out.to hB5).far hHZ 9 _, (hb4.out.trans (hB5.mono hb4.out.size)).setCell (p := ⟨H, 9, none⟩) hHle _, by simpa [World.setCell] using hsz⟩
      · rw [if_neg hc20] at hdr
        have hCl := Lib.hid (Clone_any _ _ _ _ _ hdr (by omega))
        clear hdr hr4
        go_wp2_with (first
          | (go_at_call 67; refine (hCl.out).mono ?_; rintro e w5 ⟨A3, c3, rfl, ho3, hB5⟩; have k5 := k4.out.to hB5; have e9 := k5.cell 9 _ rfl; have g9 := k5.frz 9)
          | fail)
        go_meet
        have hsz := hB5.size
        exact ⟨A3, c3, by simpa using k5.set 9 (.slice A3 (hd - 20) c3), ho3.set_low hH4 9 _, (kB4.out.to hB5).far hHB 9 _, (kZ4.out.to hB5).far hHZ 9 _, (hb4.out.trans (hB5.mono hb4.out.size)).setCell (p := ⟨H, 9, none⟩) hHle _, by simpa [World.setCell] using hsz⟩
    case rest =>
      obtain ⟨A3, c3, k5, o5', kB5, kZ5, hb5, hz45⟩ := hcut
      replace hz45 := Lib.hid hz45
      obtain ⟨w5, rfl⟩ : ∃ w5, w5 = wc := ⟨_, rfl⟩
      clear r0 r1
      have r0 := kB5.cell 0 _ rfl
      have r1 := kB5.cell 1 _ rfl
      have r2 := kB5.cell 2 _ rfl
      have hr5 := hR.out _ hb5
      have hen := hend.out
      have hdr5 := (hr5.first_ (show en ≤ n by omega)).drop_any hd (show hd ≤ en by omega)
      replace k5 := Lib.hid k5
      replace o5' := Lib.hid o5'
      replace kB5 := Lib.hid kB5
      replace kZ5 := Lib.hid kZ5
      replace hb5 := Lib.hid hb5
      replace kB4 := 0
      replace k4 := 0
      replace kZ4 := 0
      clear hr4 hdr
      have hH5 := k5.out.lt
      have j1 : (hd : Int) ≤ en := by omega
      have j2 : (en : Int) ≤ c := by omega
      have j3 : en ≤ c := by omega
      have j4 : hd ≤ en := by omega
      go_upto_region 5 with fail
      go_cut [] (fun wx => ∃ A6 c6, Blk wx H (cells4 ⟨v1, v4, fl % 8192 * 8, v8, v9, v12, v16, df, mf, [], []⟩ A3 (hd - 20) c3 A6 (en - hd) c6) 32 ∧ OB wx w4.heap.size A3 (hd - 20) c3 ((bs.take hd).drop 20) ∧ OB wx w4.heap.size A6 (en - hd) c6 ((bs.take en).drop hd) ∧ Blk wx (w.heap.size + 1) zero4c 32 ∧ Below w.heap.size w wx)
      case first =>
        by_cases hsn : sz ≤ (n : Int)
        · obtain rfl : sz.toNat = en := by omega
          clear hen
          have k0 : (0 : Int) ≤ sz := by omega
          by_cases hchd : c = hd
          · have e0 := Lib.hid (show sz.toNat - hd = 0 by omega)
            rw [if_pos hchd, show c - hd = 0 by omega, e0.out] at hdr5
            have hCl := Lib.hid (Clone_any _ _ _ _ _ hdr5 (by omega))
            clear hdr5 hr5
            obtain rfl := hchd.symm
            go_wp2_with (first
              | (go_at_call 67; refine (hCl.out).mono ?_; rintro e w6 ⟨A6, c6, rfl, ho6, hB6⟩; have k6 := k5.out.to hB6; have e10 := k6.cell 10 _ rfl; have g10 := k6.frz 10)
              | fail)
            go_meet
            have hsz := hB6.size
            have hz5 : w4.heap.size ≤ w5.heap.size := hz45.out
            rw [e0.out]
            exact ⟨A6, c6, by simpa using k6.set 10 (.slice A6 0 c6), (o5'.out.below hB6).set_low hH4 10 _, (ho6.mono hz5).set_low hH4 10 _, (kZ5.out.to hB6).far hHZ 10 _, (hb5.out.trans (hB6.mono hb5.out.size)).setCell (p := ⟨H, 10, none⟩) hHle _⟩
          · rw [if_neg hchd] at hdr5
            have hCl := Lib.hid (Clone_any _ _ _ _ _ hdr5 (by omega))
            clear hdr5 hr5
            go_wp2_with (first
              | (go_at_call 67; refine (hCl.out).mono ?_; rintro e w6 ⟨A6, c6, rfl, ho6, hB6⟩; have k6 := k5.out.to hB6; have e10 := k6.cell 10 _ rfl; have g10 := k6.frz 10)
              | fail)
            go_meet
            have hsz := hB6.size
            have hz5 : w4.heap.size ≤ w5.heap.size := hz45.out
            exact ⟨A6, c6, by simpa using k6.set 10 (.slice A6 (sz.toNat - hd) c6), (o5'.out.below hB6).set_low hH4 10 _, (ho6.mono hz5).set_low hH4 10 _, (kZ5.out.to hB6).far hHZ 10 _, (hb5.out.trans (hB6.mono hb5.out.size)).setCell (p := ⟨H, 10, none⟩) hHle _⟩
        · obtain rfl : n = en := by omega
          clear hen
          by_cases hchd : c = hd
          · have e0 := Lib.hid (show n - hd = 0 by omega)
            rw [if_pos hchd, show c - hd = 0 by omega, e0.out] at hdr5
            have hCl := Lib.hid (Clone_any _ _ _ _ _ hdr5 (by omega))
            clear hdr5 hr5
            obtain rfl := hchd.symm
            go_wp2_with (first
              | (go_at_call 67; refine (hCl.out).mono ?_; rintro e w6 ⟨A6, c6, rfl, ho6, hB6⟩; have k6 := k5.out.to hB6; have e10 := k6.cell 10 _ rfl; have g10 := k6.frz 10)
              | fail)
            go_meet
            have hsz := hB6.size
            have hz5 : w4.heap.size ≤ w5.heap.size := hz45.out
            rw [e0.out]
            exact ⟨A6, c6, by simpa using k6.set 10 (.slice A6 0 c6), (o5'.out.below hB6).set_low hH4 10 _, (ho6.mono hz5).set_low hH4 10 _, (kZ5.out.to hB6).far hHZ 10 _, (hb5.out.trans (hB6.mono hb5.out.size)).setCell (p := ⟨H, 10, none⟩) hHle _⟩
          · rw [if_neg hchd] at hdr5
            have hCl := Lib.hid (Clone_any _ _ _ _ _ hdr5 (by omega))
            clear hdr5 hr5
            go_wp2_with (first
              | (go_at_call 67; refine (hCl.out).mono ?_; rintro e w6 ⟨A6, c6, rfl, ho6, hB6⟩; have k6 := k5.out.to hB6; have e10 := k6.cell 10 _ rfl; have g10 := k6.frz 10)
              | fail)
            go_meet
            have hsz := hB6.size
            have hz5 : w4.heap.size ≤ w5.heap.size := hz45.out
            exact ⟨A6, c6, by simpa using k6.set 10 (.slice A6 (n - hd) c6), (o5'.out.below hB6).set_low hH4 10 _, (ho6.mono hz5).set_low hH4 10 _, (kZ5.out.to hB6).far hHZ 10 _, (hb5.out.trans (hB6.mono hb5.out.size)).setCell (p := ⟨H, 10, none⟩) hHle _⟩
      case rest =>
        obtain ⟨A6, c6, k6, o6', o7', kZ6, hb6⟩ := hcut
        clear hen
        replace k6 := Lib.hid k6
        replace kZ6 := Lib.hid kZ6
        have hpe := Lib.hid (show pk = ⟨v1, v4, fl % 8192 * 8, v8, v9, v12, v16, df, mf, (bs.take hd).drop 20, (bs.take en).drop hd⟩ by rw [hpk.out, hdf.out, hmf.out])
        have hnb := nbc4 (q := zero4) (x1 := none) (x2 := 0) (x3 := 0) (y1 := none) (y2 := 0) (y3 := 0) kZ6.out
        have hz4 := hb4.out.size
        have q6 := Lib.hid ((o6'.farRow kZ6.out (show 5 ≠ 32 from by decide) (cells4 ⟨v1, v4, fl % 8192 * 8, v8, v9, v12, v16, df, mf, [], []⟩ A3 (hd - 20) c3 A6 (en - hd) c6)).mono hz4)
        have q7 := Lib.hid ((o7'.farRow kZ6.out (show 5 ≠ 32 from by decide) (cells4 ⟨v1, v4, fl % 8192 * 8, v8, v9, v12, v16, df, mf, [], []⟩ A3 (hd - 20) c3 A6 (en - hd) c6)).mono hz4)
        have hbe := Lib.hid (below_setRow hb6 (show w.heap.size ≤ w.heap.size + 1 from Nat.le_succ _) (cells4 ⟨v1, v4, fl % 8192 * 8, v8, v9, v12, v16, df, mf, [], []⟩ A3 (hd - 20) c3 A6 (en - hd) c6))
        clear o6' o7' hnb hb6
        go_wp2_with (first
          | (refine wpList_load_4 rfl (.tmp 4) rfl H rfl _ k6.out rfl ?_)
          | (refine wpList_store_4 rfl (.tmp 2) (.tmp 52) rfl (w.heap.size + 1) (cells4 ⟨v1, v4, fl % 8192 * 8, v8, v9, v12, v16, df, mf, [], []⟩ A3 (hd - 20) c3 A6 (en - hd) c6) rfl rfl _ kZ6.out rfl rfl (one4 _ _ _ _ _ _ _) ?_)
          | fail)
        refine bodyPost_ret (results_c Try.results77 rfl (run_load_4 (Blk.mk (setRow_heap _ _ _ _ _ _ kZ6.out.at_)) rfl)) rfl ?_
        rw [hpe.out]
        exact ⟨A3, _, c3, A6, _, c6, rfl, q6.out, q7.out, hbe.out⟩
end Go.Proofs.Ytmbmmpbfmakfbaa
