/- What bytes ask (pcp): walk of read, where the bytes are of the kind. -/
import Derived.Test.YtldjecilmcnpiaaPcpR
set_option linter.unusedVariables false
namespace Go.Proofs.Ytldjecilmcnpiaa
open Go Go.RowKit

theorem rowA_lenG {a : AskP} (h : a.cl.length = 16) (h' : a.no.length = 12) : (rowA a).length = 33 := by simp [rowA, u8s_length, h, h']
theorem splice_all {α : Type} {L xs : List α} (h : L.length = xs.length) : splice L 0 xs = xs := by
  unfold splice
  rw [List.take_zero, List.nil_append, Nat.zero_add, List.drop_of_length_le (by omega), List.append_nil]
set_option maxRecDepth 100000 in
set_option maxHeartbeats 2000000 in
theorem PRead_same (A : Option Addr) (c : Nat) (bs : List Int) (kind : Int) (w : World) (h : RB w A 60 c bs) (hx : bs[0]?.getD 0 = 2) (hy : bs[1]?.getD 0 = kind) :
    Calls Try.prog 73 #[.slice A 60 c, .int .u8 kind] w (AskOut w (readA kind bs) (codeP kind bs)) := by
  have hl := h.len
  obtain ⟨b, off, rfl, hbl, hc⟩ := h.mem (by omega)
  have hnc := h.nc
  have hk : codeP kind bs = if (plainV (bs.drop 44)).2 = false then 4 else 0 := by unfold codeP; rw [if_neg (by omega), if_neg (by omega), if_neg (by simp [hx, hy])]
  have hs6 : Six (bs.drop 44) := ⟨by rw [List.length_drop, hl], fun x hx => h.byt x (List.mem_of_mem_drop hx)⟩
  have g0 := hc 0 (by omega)
  have g1 := hc 1 (by omega)
  rw [Nat.add_zero] at g0
  rw [hx] at g0
  rw [hy] at g1
  have hd44 := Lib.hid (h.drop 44 (by omega))
  have hd8 := Lib.hid ((h.drop 8 (by omega)).first_ (show 16 ≤ 60 - 8 by omega))
  have hd24 := Lib.hid ((h.drop 24 (by omega)).first_ (show 12 ≤ 60 - 24 by omega))
  have hr := Lib.hid h
  have hcm : c ≤ 9223372036854775807 := by have := h.cm; unfold maxLen at this; omega
  have hcm := Lib.hid hcm
  clear h hc hl hx hy
  have hPl := Lib.hid (fun W => Plain_any (bs.drop 44) hs6 W)
  have hread : readA kind bs = if codeP kind bs = 0 then parsedA bs else zeroA := rfl
  have hpar : parsedA bs = ⟨(getV bs 4 4).1, (bs.drop 8).take 16, (bs.drop 24).take 12, (getV bs 36 1).1, (getV bs 40 2).1, (getV bs 42 2).1, (plainV (bs.drop 44)).1⟩ := rfl
  have hs6l := Lib.hid hs6.len
  generalize plainV (bs.drop 44) = pl at *
  obtain ⟨addr, q⟩ := pl
  dsimp only at hk hPl hpar
  have e8 := Lib.hid (show ((bs.drop 8).take 16).length = 16 from hd8.out.len)
  have e24 := Lib.hid (show ((bs.drop 24).take 12).length = 12 from hd24.out.len)
  generalize bs.drop 44 = s at *
  generalize (bs.drop 8).take 16 = cl at *
  generalize (bs.drop 24).take 12 = no at *
  clear hs6
  have i8 : (8 : Int) ≤ c := by omega
  have i24 : (24 : Int) ≤ c := by omega
  have i44 : (44 : Int) ≤ c := by omega
  have i60 : (60 : Int) ≤ c := by omega
  have n8 : ¬ c = 8 := by omega
  have n24 : ¬ c = 24 := by omega
  have n44 : ¬ c = 44 := by omega
  replace hread := Lib.hid hread
  replace hpar := Lib.hid hpar
  replace hk := Lib.hid hk
  generalize hA : (some (⟨b, off, none⟩ : Addr)) = A at *
  obtain ⟨W0, hW0⟩ : ∃ W0, (w.alloc (.cells #[.slice A 60 c] 22)).alloc (.cells zAc 51) = W0 := ⟨_, rfl⟩
  have hz0 : Blk W0 (w.heap.size + 1) zAc 51 := by
    rw [← hW0]
    have := Blk.new (w.alloc (.cells #[.slice A 60 c] 22)) zAc 51
    rwa [World.size_alloc] at this
  have kb0 : Blk W0 w.heap.size #[.slice A 60 c] 22 := by rw [← hW0]; exact (Blk.new w _ _).alloc _
  have hB0 : Below w.heap.size w W0 := by rw [← hW0]; exact ((Below.refl _ w).alloc (Nat.le_refl _) _).alloc (by simp) _
  have hsz0 := Lib.hid (show W0.heap.size = w.heap.size + 1 + 1 by rw [← hW0]; simp)
  replace hW0 := Lib.hid hW0
  have g0' := (hB0.cell (p := ⟨b, off, none⟩) hbl).trans g0
  have g1' := (hB0.cell (p := ⟨b, off + 1, none⟩) hbl).trans g1
  rw [← hW0.out] at g0' g1'
  clear g0 g1
  subst hA
  go_enter Try.func73, Try.ntmps73
  go_wp2_with fail
  rw [hW0.out]
  replace hW0 := 0
  clear g0' g1'
  obtain ⟨W1, hW1⟩ : ∃ W1, W0.alloc (.cells z6c 44) = W1 := ⟨_, rfl⟩
  have hsz0 : W0.heap.size = w.heap.size + 1 + 1 := hsz0.out
  have k6 : Blk W1 (w.heap.size + 1 + 1) z6c 44 := by rw [← hW1, ← hsz0]; exact Blk.new W0 z6c 44
  have hz1 := Lib.hid (show Blk W1 (w.heap.size + 1) zAc 51 by rw [← hW1]; exact hz0.alloc _)
  have kb1 : Blk W1 w.heap.size #[.slice (some ⟨b, off, none⟩) 60 c] 22 := by rw [← hW1]; exact kb0.alloc _
  have hB1 : Below w.heap.size w W1 := by rw [← hW1]; exact hB0.alloc hB0.size _
  rw [hW1]
  clear hW1 hz0 kb0 hB0 hsz0
  have c0 := kb1.cell 0 _ rfl
  replace kb1 := Lib.hid kb1
  replace k6 := Lib.hid k6
  replace hB1 := Lib.hid hB1
  go_still_tail 3, (by kernel_rfl)
  change wpList _ _ _ _ _ W1.drew
  refine wpList_copy_splice rfl (.tmp 32) (.tmp 34) 22 22 rfl 5 Try.underlying22 (by kernel_rfl) (some ⟨w.heap.size + 1 + 1, 0, none⟩) (some ⟨b, off + 44, none⟩) 16 16 (60 - 44) (c - 44) rfl rfl (w.heap.size + 1 + 1) 0 (u8s z16) 44 k6.out.drew.at_ (u8s s) (by rw [u8s_length, hs6l.out]; rfl) (fun _ => ⟨rfl, _, rfl, fun j v hv => hd44.out.src hB1.out.drew j v hv⟩) (by rw [u8s_length, hs6l.out, u8s_length]; decide) (u8s_one s) (w.heap.size + 1 + 1) W1.drew (Below.refl _ _) (Nat.le_refl _) ?_
  intro W2 k2 hb2
  have k2' := k2.out
  rw [splice_all (by rw [u8s_length, u8s_length, hs6l.out]; rfl)] at k2'
  have k6b := Lib.hid (show Blk W2 (w.heap.size + 1 + 1) (cells6 s) 44 from ⟨k2'⟩)
  have hz2 := Lib.hid (hz1.out.drew.upto hb2 (Nat.lt_succ_self _))
  have kb2 := Lib.hid (kb1.out.drew.upto hb2 (by omega))
  have hB2 := Lib.hid (hB1.out.drew.trans (hb2.mono (by omega)))
  have hlt2 := Lib.hid (show w.heap.size + 1 + 1 < W2.heap.size from k6b.out.lt)
  clear k2' hb2 c0
  replace k2 := 0
  replace k6 := 0
  replace hz1 := 0
  replace kb1 := 0
  have h16 := Lib.hid (show (cells6 s).size = 16 by simp [u8s_length, hs6l.out])
  have c0 := kb2.out.cell 0 _ rfl
  cases q
  · have hk4 : codeP kind bs = 4 := by rw [hk.out]; rfl
    replace hk4 := Lib.hid hk4
    go_wp2_with (first
      | (refine wpList_load_S6 rfl (.tmp 6) rfl (w.heap.size + 1 + 1) rfl (cells6 s) k6b.out h16.out ?_)
      | (go_at_call 25; refine (hPl.out _).mono ?_; rintro e W3 ⟨rfl, hB3⟩; have hz3 := Lib.hid (hz2.out.to hB3); have hB4 := Lib.hid (hB2.out.trans (hB3.mono hB2.out.size)); clear hB3)
      | (refine wpList_store_K rfl (.tmp 4) (.tmp 43) rfl (w.heap.size + 1) zAc rfl rfl zAc hz3.out rfl rfl zA_one ?_)
      | fail)
    exact bodyPost_ret (results_ct Try.results73 rfl (run_load_K ⟨setRow_heap _ _ _ zAc _ _ hz3.out.at_⟩ rfl)) rfl (AskOut.bad hk4.out (by decide) (below_row hB4.out (Nat.le_succ _) _))
  · have hk0 : codeP kind bs = 0 := by rw [hk.out]; rfl
    have hre : readA kind bs = parsedA bs := by rw [hread.out, if_pos hk0]
    replace hk0 := Lib.hid hk0
    replace hre := Lib.hid hre
    have hN := Lib.hid (fun a s W (hW : Below w.heap.size w W) (hc0 : W.cell? ⟨w.heap.size, 0, none⟩ = some (.slice (some ⟨b, off, none⟩) 60 c)) => PNum_any _ 60 c bs a s w.heap.size W hc0 (hr.out.below hW) (by decide))
    have hr0 := Lib.hid (show (rowA (⟨(getV bs 4 4).1, z16, z12, (getV bs 36 1).1, (getV bs 40 2).1, (getV bs 42 2).1, addr⟩ : AskP)).toArray.size = 33 from rfl)
    go_wp2_with (first
      | (refine wpList_load_S6 rfl (.tmp 6) rfl (w.heap.size + 1 + 1) rfl (cells6 s) k6b.out h16.out ?_)
      | (go_at_call 25; refine (hPl.out _).mono ?_; rintro e W3 ⟨rfl, hB3⟩; have hz3 := Lib.hid (hz2.out.to hB3); have kb3 := Lib.hid (kb2.out.to hB3); have hB4 := Lib.hid (hB2.out.trans (hB3.mono hB2.out.size)); have hlt3 := Lib.hid (Nat.lt_of_lt_of_le hlt2.out hB3.size); clear c0; have c0 := kb3.out.cell 0 _ rfl; clear hB3)
      | (go_at_call 106; refine (hN.out _ _ _ hB4.out c0).mono ?_; rintro e w' ⟨rfl, rfl⟩)
      | (refine wpList_store_K rfl (.tmp 10) (.tmp 54) rfl W3.heap.size (rowA (⟨(getV bs 4 4).1, z16, z12, (getV bs 36 1).1, (getV bs 40 2).1, (getV bs 42 2).1, addr⟩ : AskP)).toArray rfl rfl zAc (Blk.new W3 zAc 51) rfl hr0.out rowA_one ?_)
      | fail)
    obtain ⟨W4, hW4⟩ : ∃ W4, (W3.alloc (.cells zAc 51)).setRow W3.heap.size (rowA (⟨(getV bs 4 4).1, z16, z12, (getV bs 36 1).1, (getV bs 40 2).1, (getV bs 42 2).1, addr⟩ : AskP)).toArray = W4 := ⟨_, rfl⟩
    have k10 : Blk W4 W3.heap.size (rowA (⟨(getV bs 4 4).1, z16, z12, (getV bs 36 1).1, (getV bs 40 2).1, (getV bs 42 2).1, addr⟩ : AskP)).toArray 51 := by rw [← hW4]; exact ⟨setRow_heap _ _ _ _ _ _ (Blk.new W3 zAc 51).at_⟩
    have hb34 : Below W3.heap.size W3 W4 := by rw [← hW4]; exact below_row ((Below.refl _ W3).alloc (Nat.le_refl _) _) (Nat.le_refl _) _
    rw [hW4]
    have hz4 := Lib.hid (hz3.out.to hb34)
    have kb4 := Lib.hid (kb3.out.to hb34)
    have hB5 := Lib.hid (hB4.out.trans (hb34.mono hB4.out.size))
    replace k10 := Lib.hid k10
    clear hW4 hb34 c0
    replace hz3 := 0
    replace kb3 := 0
    replace hB4 := 0
    replace hN := 0
    have c0 := kb4.out.cell 0 _ rfl
    simp only [Act.put]
    go_wp2_with fail
    go_still_tail 4, (by kernel_rfl)
    change wpList _ _ _ _ _ W4.drew
    refine wpList_copy_splice rfl (.tmp 56) (.tmp 58) 22 22 rfl 5 Try.underlying22 (by kernel_rfl) (some ⟨W3.heap.size, 1, none⟩) (some ⟨b, off + 8, none⟩) 16 16 (60 - 8) (c - 8) rfl rfl W3.heap.size 1 (rowA (⟨(getV bs 4 4).1, z16, z12, (getV bs 36 1).1, (getV bs 40 2).1, (getV bs 42 2).1, addr⟩ : AskP)) 51 k10.out.drew.at_ (u8s cl) (by rw [u8s_length, e8.out]; rfl) (fun _ => ⟨rfl, _, rfl, fun j v hv => hd8.out.src hB5.out.drew j v hv⟩) (by rw [u8s_length, e8.out, rowA_lenG rfl rfl]; decide) (u8s_one cl) W3.heap.size W4.drew (Below.refl _ _) (Nat.le_refl _) ?_
    intro W5 k5 hb5
    have k5' := k5.out
    rw [rowA_setcl rfl e8.out] at k5'
    have k11 := Lib.hid (show Blk W5 W3.heap.size (rowA ⟨(getV bs 4 4).1, cl, z12, (getV bs 36 1).1, (getV bs 40 2).1, (getV bs 42 2).1, addr⟩).toArray 51 from ⟨k5'⟩)
    have hz5 := Lib.hid (hz4.out.drew.upto hb5 (by have := hlt3.out; omega))
    have kb5 := Lib.hid (kb4.out.drew.upto hb5 (by have := hlt3.out; omega))
    have hB6 := Lib.hid (hB5.out.drew.trans (hb5.mono (by have := hlt3.out; omega)))
    clear k5' hb5 c0
    replace k5 := 0
    replace k10 := 0
    replace hz4 := 0
    replace kb4 := 0
    replace hB5 := 0
    have c0 := kb5.out.cell 0 _ rfl
    simp only [Act.put]
    go_wp2_with fail
    go_still_tail 4, (by kernel_rfl)
    change wpList _ _ _ _ _ W5.drew
    refine wpList_copy_splice rfl (.tmp 61) (.tmp 63) 22 22 rfl 5 Try.underlying22 (by kernel_rfl) (some ⟨W3.heap.size, 17, none⟩) (some ⟨b, off + 24, none⟩) 12 12 (60 - 24) (c - 24) rfl rfl W3.heap.size 17 (rowA ⟨(getV bs 4 4).1, cl, z12, (getV bs 36 1).1, (getV bs 40 2).1, (getV bs 42 2).1, addr⟩) 51 k11.out.drew.at_ (u8s no) (by rw [u8s_length, e24.out]; rfl) (fun _ => ⟨rfl, _, rfl, fun j v hv => hd24.out.src hB6.out.drew j v hv⟩) (by rw [u8s_length, e24.out, rowA_lenG e8.out rfl]; decide) (u8s_one no) W3.heap.size W5.drew (Below.refl _ _) (Nat.le_refl _) ?_
    intro W6 k6 hb6
    have k6' := k6.out
    rw [rowA_setno (by exact e8.out) rfl e24.out] at k6'
    have k12 := Lib.hid (show Blk W6 W3.heap.size (rowA ⟨(getV bs 4 4).1, cl, no, (getV bs 36 1).1, (getV bs 40 2).1, (getV bs 42 2).1, addr⟩).toArray 51 from ⟨k6'⟩)
    have hz6 := Lib.hid (hz5.out.drew.upto hb6 (by have := hlt3.out; omega))
    have hB7 := Lib.hid (hB6.out.drew.trans (hb6.mono (by have := hlt3.out; omega)))
    have hsF := Lib.hid (show (rowA ⟨(getV bs 4 4).1, cl, no, (getV bs 36 1).1, (getV bs 40 2).1, (getV bs 42 2).1, addr⟩).toArray.size = 33 from rowA_lenG e8.out e24.out)
    clear k6' hb6 c0
    replace k6 := 0
    replace k11 := 0
    replace hz5 := 0
    replace kb5 := 0
    replace hB6 := 0
    rw [← hpar.out] at k12 hsF
    generalize parsedA bs = aa at *
    simp only [Act.put]
    go_wp2_with (first
      | (refine wpList_load_K rfl (.tmp 10) rfl W3.heap.size rfl (rowA aa).toArray k12.out hsF.out ?_)
      | (refine wpList_store_K rfl (.tmp 4) (.tmp 65) rfl (w.heap.size + 1) (rowA aa).toArray rfl rfl zAc hz6.out rfl hsF.out rowA_one ?_)
      | fail)
    refine bodyPost_ret (results_ct Try.results73 rfl (run_load_K ⟨setRow_heap _ _ _ _ _ _ hz6.out.at_⟩ hsF.out)) rfl ?_
    unfold AskOut
    rw [hk0.out, hre.out]
    exact ⟨rfl, below_row hB7.out (Nat.le_succ _) _⟩
end Go.Proofs.Ytldjecilmcnpiaa
