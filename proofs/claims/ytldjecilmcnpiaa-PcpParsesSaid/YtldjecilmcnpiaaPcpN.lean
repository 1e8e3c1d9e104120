/- What bytes ask (the reference of pcp): walk of read, where there are sixty. -/
import Derived.Test.YtldjecilmcnpiaaPcpM
import Derived.Test.YtldjecilmcnpiaaPcpU
set_option linter.unusedVariables false
namespace Go.Proofs.Ytldjecilmcnpiaa
open Go Go.RowKit

set_option maxRecDepth 100000 in
set_option maxHeartbeats 4000000 in
theorem RRead_go (A : Option Addr) (c : Nat) (bs : List Int) (kind : Int) (w : World) (h : RB w A 60 c bs) :
    Calls Try.prog 74 #[.slice A 60 c, .int .u8 kind] w (AskOut w (readA kind bs) (codeP kind bs)) := by
  have hl := h.len
  obtain ⟨b, off, rfl, hbl, hc⟩ := h.mem (by omega)
  have hz := (((Blk.new w zAc 54).alloc (.cells zAc 54)).alloc (.cells z6c 44))
  have ha := (Blk.new (w.alloc (.cells zAc 54)) zAc 54).alloc (.cells z6c 44)
  have hs := Blk.new ((w.alloc (.cells zAc 54)).alloc (.cells zAc 54)) z6c 44
  have hb := (((Below.refl _ w).alloc (Nat.le_refl _) (.cells zAc 54)).alloc (by simp) (.cells zAc 54)).alloc (by simp; omega) (.cells z6c 44)
  simp only [World.size_alloc] at ha hs
  obtain ⟨w0, hw0⟩ : ∃ w0, ((w.alloc (.cells zAc 54)).alloc (.cells zAc 54)).alloc (.cells z6c 44) = w0 := ⟨_, rfl⟩
  rw [hw0] at hz ha hs hb
  have hsrc := Lib.hid (fun W (hW : Below w.heap.size w W) j (hj : j < 60) => (hW.cell (p := ⟨b, off + j, none⟩) hbl).trans (hc j hj))
  have hnc := h.nc
  have hcm := Lib.hid h.cm
  obtain ⟨cl, hcl⟩ : ∃ cl, (bs.drop 8).take 16 = cl := ⟨_, rfl⟩
  obtain ⟨s, hsl⟩ : ∃ s, bs.drop 44 = s := ⟨_, rfl⟩
  have lcl : cl.length = 16 := by rw [← hcl]; simp [hl]
  have lsl : s.length = 16 := by rw [← hsl]; simp [hl]
  have gcl : ∀ k, k < 16 → bs[8 + k]?.getD 0 = cl[k]?.getD 0 := fun k hk => by rw [← hcl, List.getElem?_take, if_pos hk, List.getElem?_drop]
  have gsl : ∀ k, k < 16 → bs[44 + k]?.getD 0 = s[k]?.getD 0 := fun k hk => by rw [← hsl, List.getElem?_drop]
  obtain ⟨no, hnl⟩ : ∃ no, (bs.drop 24).take 12 = no := ⟨_, rfl⟩
  have lno : no.length = 12 := by rw [← hnl]; simp [hl]
  have gno := Lib.hid (show ∀ k, k < 12 → bs[24 + k]?.getD 0 = no[k]?.getD 0 from fun k hk => by rw [← hnl, List.getElem?_take, if_pos hk, List.getElem?_drop])
  have hbcl := Lib.hid (show Byts cl from fun x hx => h.byt x (by rw [← hcl] at hx; exact List.mem_of_mem_drop (List.mem_of_mem_take hx)))
  have hbno := Lib.hid (show Byts no from fun x hx => h.byt x (by rw [← hnl] at hx; exact List.mem_of_mem_drop (List.mem_of_mem_take hx)))
  have hbn := Lib.hid (fun k => show Byts (part no k 12) from Byts.append (Byts.take hbno.out k) (fun x hx => by have := List.eq_of_mem_replicate hx; subst this; constructor <;> omega))
  have hsix : Six s := ⟨lsl, fun x hx => h.byt x (by rw [← hsl] at hx; exact List.mem_of_mem_drop hx)⟩
  have hPl := Lib.hid (fun W => RefPlain_any s hsix W)
  have hs16 := Lib.hid (show (cells6 s).size = 16 by simp [u8s_length, lsl])
  replace hnl := Lib.hid hnl
  replace lno := Lib.hid lno
  clear hsix
  replace hw0 := Lib.hid hw0
  replace hz := Lib.hid hz
  replace ha := Lib.hid ha
  replace hs := Lib.hid hs
  replace hb := Lib.hid hb
  replace gcl := Lib.hid gcl
  replace gsl := Lib.hid gsl
  replace hc := Lib.hid hc
  replace hcl := Lib.hid hcl
  replace hsl := Lib.hid hsl
  replace hl := Lib.hid hl
  replace lcl := Lib.hid lcl
  replace lsl := Lib.hid lsl
  have hbp := Lib.hid (fun k => show Byts (part cl k 16) from Byts.append (Byts.take (fun x hx => h.byt x (by rw [← hcl.out] at hx; exact List.mem_of_mem_drop (List.mem_of_mem_take hx))) k) (fun x hx => by have := List.eq_of_mem_replicate hx; subst this; constructor <;> omega))
  replace h := Lib.hid h
  go_enter Try.func74, Try.ntmps74
  go_wp2_with fail
  rw [hw0.out]
  replace hw0 := 0
  go_loopw [8] (fun vi wr => ∃ k : Nat, k ≤ 16 ∧ vi = .int .i64 k ∧ Blk wr (w.heap.size + 1) (rowA { zeroA with cl := part cl k 16 }).toArray 54 ∧ Blk wr (w.heap.size + 1 + 1) (u8s (part s k 16)).toArray 44 ∧ Blk wr w.heap.size zAc 54 ∧ Below w.heap.size w wr) (fun vi _ => 16 - (intOf vi).toNat)
  case atStart => exact ⟨0, by omega, rfl, by rw [part_zero]; exact ha.out, by rw [part_zero]; exact hs.out, hz.out, hb.out⟩
  case round =>
    obtain ⟨k, hk, rfl, ka, ks, kz, hB⟩ := hrel
    by_cases hlt : k < 16
    · have s1 := Lib.hid (fun W hW => hsrc.out W hW (8 + k) (by omega))
      have s2 := Lib.hid (fun W hW => hsrc.out W hW (44 + k) (by omega))
      rw [gcl.out k hlt] at s1
      rw [gsl.out k hlt] at s2
      have hklt : (k : Int) < 16 := by omega
      have i1 : (8 : Int) + k < 60 := by omega
      have i2 : (44 : Int) + k < 60 := by omega
      have w1 : IntKind.i64.wrap (8 + (k : Int)) = 8 + k := by rw [IntKind.wrap_i64]; omega
      have w2 : IntKind.i64.wrap (44 + (k : Int)) = 44 + k := by rw [IntKind.wrap_i64]; omega
      have j1 : (0 : Int) ≤ 8 + (k : Int) := by omega
      have j2 : (0 : Int) ≤ 44 + (k : Int) := by omega
      have j3 : (8 + (k : Int)).toNat = 8 + k := by omega
      have j4 : (44 + (k : Int)).toNat = 44 + k := by omega
      replace w1 := Lib.hid w1
      replace w2 := Lib.hid w2
      replace j3 := Lib.hid j3
      replace j4 := Lib.hid j4
      have c1 := Lib.hid (s1.out wr.drew hB.drew)
      have c2 := Lib.hid (s2.out wr.drew hB.drew)
      obtain ⟨x1, hx1⟩ : ∃ x1, cl[k]?.getD 0 = x1 := ⟨_, rfl⟩
      obtain ⟨x2, hx2⟩ : ∃ x2, s[k]?.getD 0 = x2 := ⟨_, rfl⟩
      have c1 := c1.out
      have c2 := c2.out
      rw [hx1] at c1
      rw [hx2] at c2
      have s1 := s1.out
      have s2 := s2.out
      simp only [hx1] at s1
      simp only [hx2] at s2
      replace s1 := Lib.hid s1
      replace s2 := Lib.hid s2
      replace hx1 := Lib.hid hx1
      replace hx2 := Lib.hid hx2
      have c1 := Lib.hid c1
      have c2 := Lib.hid c2
      replace ka := Lib.hid ka
      replace ks := Lib.hid ks
      replace kz := Lib.hid kz
      replace hB := Lib.hid hB
      go_wp2_with fail
      refine wp_region_held_drew (S := fun W => W.cell? ⟨b, off + (8 + k), none⟩ = some (.int .u8 x1) ∧ W.cell? ⟨b, off + (44 + k), none⟩ = some (.int .u8 x2)) (by kernel_rfl) ⟨c1.out, c2.out⟩ (fun hHeld => ?_)
      have w1 := w1.out
      have w2 := w2.out
      have j3 := j3.out
      have j4 := j4.out
      refine take_h (i := 0) (v := ?_) rfl rfl (by kernel_rfl) (by kernel_rfl) (by kernel_rfl) (fun _ _ _ h => h) (Or.inl ⟨by rfl, fun W hSw => ?_⟩) (by assumption) ?_
      rotate_left
      · (clear hSw; go_simp; try with_reducible rfl)
      simp only [Act.put, List.setIfInBounds_toArray, List.set_cons_zero, List.set_cons_succ]
      refine take_h (i := 1) (v := ?_) rfl rfl (by kernel_rfl) (by kernel_rfl) (by kernel_rfl) (fun _ _ _ h => h) (Or.inl ⟨by rfl, fun W hSw => ?_⟩) (by assumption) ?_
      rotate_left
      · (clear hSw; go_simp; try with_reducible rfl)
      simp only [Act.put, List.setIfInBounds_toArray, List.set_cons_zero, List.set_cons_succ]
      refine take_h (i := 2) (v := ?_) rfl rfl (by kernel_rfl) (by kernel_rfl) (by kernel_rfl) (fun _ _ _ h => h) (Or.inl ⟨by rfl, fun W hSw => ?_⟩) (by assumption) ?_
      rotate_left
      · (clear hSw; go_simp; try with_reducible rfl)
      simp only [Act.put, List.setIfInBounds_toArray, List.set_cons_zero, List.set_cons_succ]
      refine take_h (i := 3) (v := ?_) rfl rfl (by kernel_rfl) (by kernel_rfl) (by kernel_rfl) (fun _ _ _ h => h) (Or.inl ⟨by rfl, fun W hSw => ?_⟩) (by assumption) ?_
      rotate_left
      · (clear hSw; go_simp; try with_reducible rfl)
      simp only [Act.put, List.setIfInBounds_toArray, List.set_cons_zero, List.set_cons_succ]
      refine take_h (i := 4) (v := ?_) rfl rfl (by kernel_rfl) (by kernel_rfl) (by kernel_rfl) (fun _ _ _ h => h) (Or.inl ⟨by rfl, fun W hSw => ?_⟩) (by assumption) ?_
      rotate_left
      · (clear hSw; go_simp; try with_reducible rfl)
      simp only [Act.put, List.setIfInBounds_toArray, List.set_cons_zero, List.set_cons_succ]
      refine take_h (i := 5) (v := ?_) rfl rfl (by kernel_rfl) (by kernel_rfl) (by kernel_rfl) (fun _ _ _ h => h) (Or.inl ⟨by rfl, fun W hSw => ?_⟩) (by assumption) ?_
      rotate_left
      · (clear hSw; go_simp; try with_reducible rfl)
      simp only [Act.put, List.setIfInBounds_toArray, List.set_cons_zero, List.set_cons_succ]
      refine take_h (i := 6) (v := ?_) rfl rfl (by kernel_rfl) (by kernel_rfl) (by kernel_rfl) (fun _ _ _ h => h) (Or.inl ⟨by rfl, fun W hSw => ?_⟩) (by assumption) ?_
      rotate_left
      · (obtain ⟨hs0, _⟩ := hSw; go_simp; try with_reducible rfl)
      simp only [Act.put, List.setIfInBounds_toArray, List.set_cons_zero, List.set_cons_succ]
      refine take_h (i := 7) (v := ?_) rfl rfl (by kernel_rfl) (by kernel_rfl) (by kernel_rfl) (fun _ _ _ h => h) (Or.inl ⟨by rfl, fun W hSw => ?_⟩) (by assumption) ?_
      rotate_left
      · (clear hSw; go_simp; try with_reducible rfl)
      simp only [Act.put, List.setIfInBounds_toArray, List.set_cons_zero, List.set_cons_succ]
      refine take_h (i := 8) (v := ?_) rfl rfl (by kernel_rfl) (by kernel_rfl) (by kernel_rfl) (fun _ _ _ h => h) (Or.inl ⟨by rfl, fun W hSw => ?_⟩) (by assumption) ?_
      rotate_left
      · (clear hSw; go_simp; try with_reducible rfl)
      simp only [Act.put, List.setIfInBounds_toArray, List.set_cons_zero, List.set_cons_succ]
      refine take_h (i := 9) (v := ?_) rfl rfl (by kernel_rfl) (by kernel_rfl) (by kernel_rfl) (fun _ _ _ h => h) (Or.inl ⟨by rfl, fun W hSw => ?_⟩) (by assumption) ?_
      rotate_left
      · (clear hSw; go_simp; try with_reducible rfl)
      simp only [Act.put, List.setIfInBounds_toArray, List.set_cons_zero, List.set_cons_succ]
      refine take_h (i := 10) (v := ?_) rfl rfl (by kernel_rfl) (by kernel_rfl) (by kernel_rfl) (fun _ _ _ h => h) (Or.inl ⟨by rfl, fun W hSw => ?_⟩) (by assumption) ?_
      rotate_left
      · (clear hSw; go_simp; try with_reducible rfl)
      simp only [Act.put, List.setIfInBounds_toArray, List.set_cons_zero, List.set_cons_succ]
      refine take_h (i := 11) (v := ?_) rfl rfl (by kernel_rfl) (by kernel_rfl) (by kernel_rfl) (fun _ _ _ h => h) (Or.inl ⟨by rfl, fun W hSw => ?_⟩) (by assumption) ?_
      rotate_left
      · (obtain ⟨hs0, hs1⟩ := hSw; go_simp; try with_reducible rfl)
      simp only [Act.put, List.setIfInBounds_toArray, List.set_cons_zero, List.set_cons_succ]
      refine take_h (i := 12) (v := ?_) rfl rfl (by kernel_rfl) (by kernel_rfl) (by kernel_rfl) (fun _ _ _ h => h) (Or.inl ⟨by rfl, fun W hSw => ?_⟩) (by assumption) ?_
      rotate_left
      · (clear hSw; go_simp; try with_reducible rfl)
      simp only [Act.put, List.setIfInBounds_toArray, List.set_cons_zero, List.set_cons_succ]
      refine take_h (i := 13) (v := ?_) rfl rfl (by kernel_rfl) (by kernel_rfl) (by kernel_rfl) (fun _ _ _ h => h) (Or.inl ⟨by rfl, fun W hSw => ?_⟩) (by assumption) ?_
      rotate_left
      · (clear hSw; go_simp; try with_reducible rfl)
      simp only [Act.put, List.setIfInBounds_toArray, List.set_cons_zero, List.set_cons_succ]
      have hpl := part_len lcl.out hk
      have hps := part_len lsl.out hk
      have d1 := ka.out.drew.cell (1 + k) (.int .u8 ((part cl k 16)[k]?.getD 0)) (by rw [List.getElem?_toArray]; exact rowA_cl (a := { zeroA with cl := part cl k 16 }) ⟨hpl, rfl, hbp.out k, z12_byts⟩ k hlt)
      have f1 := ka.out.drew.frz (1 + k)
      refine step_h (i := 14) rfl rfl (by kernel_rfl) (fun K hK => ?_)
      go_simp
      obtain ⟨W3, hW3⟩ : ∃ W3, (wr.setCell ⟨w.heap.size + 1, 1 + k, none⟩ (.int .u8 x1)).drew = W3 := ⟨_, rfl⟩
      have ka3 := (ka.out.set (1 + k) (.int .u8 x1)).drew
      rw [List.setIfInBounds_toArray, rowA_cset (by show k < (part cl k 16).length; rw [hpl]; exact hlt)] at ka3
      have e1 := part_set lcl.out hlt
      rw [hx1.out] at e1
      have ka4 : Blk (wr.setCell ⟨w.heap.size + 1, 1 + k, none⟩ (.int .u8 x1)).drew (w.heap.size + 1) (rowA { zeroA with cl := part cl (k + 1) 16 }).toArray 54 := by rw [← e1]; exact ka3
      have ks3 := (ks.out.far (show w.heap.size + 1 + 1 ≠ w.heap.size + 1 by omega) (1 + k) (.int .u8 x1)).drew
      have kz3 := (kz.out.far (show w.heap.size ≠ w.heap.size + 1 by omega) (1 + k) (.int .u8 x1)).drew
      have hB3 := (hB.out.setCell (p := ⟨w.heap.size + 1, 1 + k, none⟩) (Nat.le_succ _) (.int .u8 x1)).drew
      rw [hW3] at ka4 ks3 kz3 hB3 ⊢
      clear hW3 ka3 e1 d1 f1
      have hS3 := Lib.hid (show W3.cell? ⟨b, off + (8 + k), none⟩ = some (.int .u8 x1) ∧ W3.cell? ⟨b, off + (44 + k), none⟩ = some (.int .u8 x2) from ⟨s1.out _ hB3, s2.out _ hB3⟩)
      clear hHeld
      refine hK.out _ _ hS3.out (fun hHeld => ?_)
      clear hK K
      refine take_h (i := 15) (v := ?_) rfl rfl (by kernel_rfl) (by kernel_rfl) (by kernel_rfl) (fun _ _ _ h => h) (Or.inl ⟨by rfl, fun W hSw => ?_⟩) (by assumption) ?_
      rotate_left
      · (clear hSw; go_simp; try with_reducible rfl)
      simp only [Act.put, List.setIfInBounds_toArray, List.set_cons_zero, List.set_cons_succ]
      have d2 := ks3.cell k (.int .u8 ((part s k 16)[k]?.getD 0)) (by rw [List.getElem?_toArray]; exact u8s_get _ k (by rw [hps]; exact hlt))
      have f2 := ks3.frz k
      replace ka4 := Lib.hid ka4
      replace ks3 := Lib.hid ks3
      replace kz3 := Lib.hid kz3
      replace hB3 := Lib.hid hB3
      refine step_h (i := 16) rfl rfl (by kernel_rfl) (fun K hK => ?_)
      go_simp
      have ks5 := ks3.out.set k (.int .u8 x2)
      have e2 := part_set lsl.out hlt
      rw [hx2.out] at e2
      rw [List.setIfInBounds_toArray, u8s_set, e2] at ks5
      have ka5 := ka4.out.far (show w.heap.size + 1 ≠ w.heap.size + 1 + 1 by omega) k (.int .u8 x2)
      have kz5 := kz3.out.far (show w.heap.size ≠ w.heap.size + 1 + 1 by omega) k (.int .u8 x2)
      have hB5 := hB3.out.setCell (p := ⟨w.heap.size + 1 + 1, k, none⟩) (by show w.heap.size ≤ w.heap.size + 1 + 1; omega) (.int .u8 x2)
      generalize W3.setCell ⟨w.heap.size + 1 + 1, k, none⟩ (.int .u8 x2) = W5 at ks5 ka5 kz5 hB5 ⊢
      have hS5 := Lib.hid (show W5.cell? ⟨b, off + (8 + k), none⟩ = some (.int .u8 x1) ∧ W5.cell? ⟨b, off + (44 + k), none⟩ = some (.int .u8 x2) from ⟨s1.out _ hB5, s2.out _ hB5⟩)
      clear hHeld d2 f2 e2
      refine hK.out _ _ hS5.out (fun hHeld => ?_)
      clear hK K
      refine wpAnyH_done (by kernel_rfl) ?_ _
      clear hHeld
      replace ks5 := Lib.hid ks5
      replace ka5 := Lib.hid ka5
      replace kz5 := Lib.hid kz5
      replace hB5 := Lib.hid hB5
      clear w1 w2 j3 j4 hpl hps
      go_wp2
      go_roundw
      case rel => exact ⟨k + 1, by omega, by go_num, ka5.out, ks5.out, kz5.out, hB5.out⟩
      case measure => simp [intOf]; omega
    · obtain rfl : k = 16 := by omega
      rw [part_all lcl.out] at ka
      rw [part_all lsl.out] at ks
      have ka := Lib.hid ka
      have ks := Lib.hid ks
      have kz := Lib.hid kz
      have hB := Lib.hid hB
      replace gcl := 0
      replace gsl := 0
      replace hz := 0
      replace ha := 0
      replace hs := 0
      replace hb := 0
      go_wp2
      go_loopw [9] (fun vi wr => ∃ k : Nat, k ≤ 12 ∧ vi = .int .i64 k ∧ Blk wr (w.heap.size + 1) (rowA ⟨0, cl, part no k 12, 0, 0, 0, 0⟩).toArray 54 ∧ Blk wr (w.heap.size + 1 + 1) (u8s s).toArray 44 ∧ Blk wr w.heap.size zAc 54 ∧ Below w.heap.size w wr) (fun vi _ => 12 - (intOf vi).toNat)
      case atStart => exact ⟨0, by omega, rfl, by rw [part_zero]; exact ka.out, ks.out, kz.out, hB.out⟩
      case round =>
        obtain ⟨k, hk, rfl, ka, ks, kz, hB⟩ := hrel
        by_cases hlt : k < 12
        · have s1 := hsrc.out _ hB (24 + k) (by omega)
          rw [gno.out k hlt] at s1
          have hpn := part_len lno.out hk
          have hklt : (k : Int) < 12 := by omega
          have i1 : (24 : Int) + k < 60 := by omega
          have d1 := ka.cell (17 + k) (.int .u8 ((part no k 12)[k]?.getD 0)) (by rw [List.getElem?_toArray]; exact rowA_no (a := ⟨0, cl, part no k 12, 0, 0, 0, 0⟩) ⟨lcl.out, hpn, hbcl.out, hbn.out k⟩ k hlt)
          have f1 := ka.frz (17 + k)
          have ka5 := ka.set (17 + k) (.int .u8 (no[k]?.getD 0))
          rw [List.setIfInBounds_toArray, rowA_nset (a := ⟨0, cl, part no k 12, 0, 0, 0, 0⟩) lcl.out (by show k < (part no k 12).length; rw [hpn]; exact hlt)] at ka5
          have ka6 : Blk (wr.setCell ⟨w.heap.size + 1, 17 + k, none⟩ (.int .u8 (no[k]?.getD 0))) (w.heap.size + 1) (rowA ⟨0, cl, part no (k + 1) 12, 0, 0, 0, 0⟩).toArray 54 := by rw [← part_set lno.out hlt]; exact ka5
          have ks6 := Lib.hid (ks.far (show w.heap.size + 1 + 1 ≠ w.heap.size + 1 by omega) (17 + k) (.int .u8 (no[k]?.getD 0)))
          have kz6 := Lib.hid (kz.far (show w.heap.size ≠ w.heap.size + 1 by omega) (17 + k) (.int .u8 (no[k]?.getD 0)))
          have hB6 := Lib.hid (hB.setCell (p := ⟨w.heap.size + 1, 17 + k, none⟩) (Nat.le_succ _) (.int .u8 (no[k]?.getD 0)))
          replace ka6 := Lib.hid ka6
          clear ka5 ka ks kz hB hpn
          generalize no[k]?.getD 0 = x1 at *
          go_wp2
          go_roundw
          case rel => exact ⟨k + 1, by omega, by go_num, ka6.out, ks6.out, kz6.out, hB6.out⟩
          case measure => simp [intOf]; omega
        · obtain rfl : k = 12 := by omega
          rw [part_all lno.out] at ka
          have ka := Lib.hid ka
          have ks := Lib.hid ks
          have kz := Lib.hid kz
          have hB := Lib.hid hB
          go_upto_region 16 with (first
            | (refine wpList_load_S6 rfl (.tmp 7) rfl (w.heap.size + 1 + 1) rfl (cells6 s) ks.out hs16.out ?_)
            | (go_at_call 38; refine (hPl.out _).mono ?_; rintro e w4 ⟨rfl, hB4⟩; have ka4 := Lib.hid (ka.out.to hB4); have kz4 := Lib.hid (kz.out.to hB4); have hb4 := Lib.hid (hB.out.trans (hB4.mono hB.out.size)); clear hB4)
            | fail)
          have g0 := hsrc.out _ hb4.out 0 (by omega)
          have g1 := hsrc.out _ hb4.out 1 (by omega)
          rw [Nat.add_zero] at g0
          have hk : codeP kind bs = if bs[0]?.getD 0 ≠ 2 ∨ bs[1]?.getD 0 ≠ kind then 4 else if (plainV s).2 = false then 4 else 0 := by unfold codeP; rw [if_neg (by rw [hl.out]; omega), if_neg (by rw [hl.out]; omega), hsl.out]
          have hpar : parsedA bs = ⟨(getV bs 4 4).1, cl, no, (getV bs 36 1).1, (getV bs 40 2).1, (getV bs 42 2).1, (plainV s).1⟩ := by unfold parsedA; rw [hcl.out, hnl.out, hsl.out]
          have hread : readA kind bs = if codeP kind bs = 0 then parsedA bs else zeroA := rfl
          replace hread := Lib.hid hread
          replace hPl := 0
          clear ks kz ka hB
          generalize plainV s = pl at *
          obtain ⟨addr, ok⟩ := pl
          dsimp only at hk hpar ⊢
          generalize bs[0]?.getD 0 = x0 at *
          generalize bs[1]?.getD 0 = y0 at *
          by_cases hx : x0 = 2
          · subst hx
            by_cases hy : y0 = kind
            · subst hy
              cases ok
              · have hk4 := Lib.hid (show codeP y0 bs = 4 by rw [hk, if_neg (by simp), if_pos rfl])
                clear hk
                go_wp2_with (first
                  | (refine wpList_store_RK rfl (.tmp 4) (.tmp 71) rfl w.heap.size zAc rfl rfl zAc kz4.out rfl rfl zA_one ?_)
                  | fail)
                exact bodyPost_ret (results_ct Try.results74 rfl (run_load_RK ⟨setRow_heap _ _ _ zAc _ _ kz4.out.at_⟩ rfl)) rfl (AskOut.bad hk4.out (by decide) (below_row hb4.out (Nat.le_refl _) _))
              · replace hpar := Lib.hid hpar
                have hk0 : codeP y0 bs = 0 := by rw [hk, if_neg (by simp), if_neg (by simp)]
                have hre : readA y0 bs = parsedA bs := by rw [hread.out, if_pos hk0]
                replace hk0 := Lib.hid hk0
                replace hre := Lib.hid hre
                clear hk
                obtain ⟨l4, hl4⟩ : ∃ x, (getV bs 4 4).1 = x := ⟨_, rfl⟩
                obtain ⟨l40, hl40⟩ : ∃ x, (getV bs 40 2).1 = x := ⟨_, rfl⟩
                obtain ⟨l42, hl42⟩ : ∃ x, (getV bs 42 2).1 = x := ⟨_, rfl⟩
                have hpar := hpar.out
                rw [hl4, hl40, hl42, show (getV bs 36 1).1 = bs[36]?.getD 0 from getV_one (k := 36) (by rw [hl.out]; omega)] at hpar
                have hN1 := Lib.hid (fun W (hW : Below w.heap.size w W) => RNum43_any _ 60 c bs 4 4 W (h.out.below hW) (by decide))
                have hN2 := Lib.hid (fun W (hW : Below w.heap.size w W) => RNum43_any _ 60 c bs 40 2 W (h.out.below hW) (by decide))
                have hN3 := Lib.hid (fun W (hW : Below w.heap.size w W) => RNum43_any _ 60 c bs 42 2 W (h.out.below hW) (by decide))
                rw [hl4] at hN1
                rw [hl40] at hN2
                rw [hl42] at hN3
                have y36 := h.out.byt.get 36
                have hwx : IntKind.i64.wrap (bs[36]?.getD 0) = bs[36]?.getD 0 := by rw [IntKind.wrap_i64]; omega
                have s36 := Lib.hid (fun W hW => hsrc.out W hW 36 (by omega))
                have hwx := Lib.hid hwx
                clear y36
                generalize bs[36]?.getD 0 = x36 at *
                replace hpar := Lib.hid hpar
                replace hl4 := Lib.hid hl4
                replace hl40 := Lib.hid hl40
                replace hl42 := Lib.hid hl42
                have i36 : (36 : Int) < 60 := by omega
                go_upto_region 18 with (fail)
                have hS0 := Lib.hid (show w4.drew.cell? ⟨b, off + 36, none⟩ = some (.int .u8 x36) ∧ Below w.heap.size w w4.drew from ⟨s36.out _ hb4.out.drew, hb4.out.drew⟩)
                refine wp_region_held_drew (S := fun W => W.cell? ⟨b, off + 36, none⟩ = some (.int .u8 x36) ∧ Below w.heap.size w W) (by kernel_rfl) hS0.out (fun hHeld => ?_)
                refine take_h (i := 0) (v := ?_) rfl rfl (by kernel_rfl) (by kernel_rfl) (by kernel_rfl) (fun _ _ _ h => h) (Or.inl ⟨by rfl, fun W hSw => ?_⟩) (by assumption) ?_
                rotate_left
                · (clear hSw; go_simp; try with_reducible rfl)
                simp only [Act.put, List.setIfInBounds_toArray, List.set_cons_zero, List.set_cons_succ]
                refine take_h (i := 2) (v := ?_) rfl rfl (by kernel_rfl) (by kernel_rfl) (by kernel_rfl) (fun _ _ _ h => h) (Or.inl ⟨by rfl, fun W hSw => ?_⟩) (by assumption) ?_
                rotate_left
                · (clear hSw; go_simp; try with_reducible rfl)
                simp only [Act.put, List.setIfInBounds_toArray, List.set_cons_zero, List.set_cons_succ]
                refine take_h (i := 3) (v := ?_) rfl rfl (by kernel_rfl) (by kernel_rfl) (by kernel_rfl) (fun _ _ _ h => h) (Or.inl ⟨by rfl, fun W hSw => ?_⟩) (by assumption) ?_
                rotate_left
                · (clear hSw; go_simp; try with_reducible rfl)
                simp only [Act.put, List.setIfInBounds_toArray, List.set_cons_zero, List.set_cons_succ]
                refine take_h (i := 4) (v := ?_) rfl rfl (by kernel_rfl) (by kernel_rfl) (by kernel_rfl) (fun _ _ _ h => h) (Or.inl ⟨by rfl, fun W hSw => ?_⟩) (by assumption) ?_
                rotate_left
                · (obtain ⟨hs0, _⟩ := hSw; go_simp; try with_reducible rfl)
                simp only [Act.put, List.setIfInBounds_toArray, List.set_cons_zero, List.set_cons_succ]
                have hwx := hwx.out
                refine take_h (i := 5) (v := ?_) rfl rfl (by kernel_rfl) (by kernel_rfl) (by kernel_rfl) (fun _ _ _ h => h) (Or.inl ⟨by rfl, fun W hSw => ?_⟩) (by assumption) ?_
                rotate_left
                · (clear hSw; go_simp; try with_reducible rfl)
                simp only [Act.put, List.setIfInBounds_toArray, List.set_cons_zero, List.set_cons_succ]
                refine take_h (i := 6) (v := ?_) rfl rfl (by kernel_rfl) (by kernel_rfl) (by kernel_rfl) (fun _ _ _ h => h) (Or.inl ⟨by rfl, fun W hSw => ?_⟩) (by assumption) ?_
                rotate_left
                · (clear hSw; go_simp; try with_reducible rfl)
                simp only [Act.put, List.setIfInBounds_toArray, List.set_cons_zero, List.set_cons_succ]
                refine take_h (i := 8) (v := ?_) rfl rfl (by kernel_rfl) (by kernel_rfl) (by kernel_rfl) (fun _ _ _ h => h) (Or.inl ⟨by rfl, fun W hSw => ?_⟩) (by assumption) ?_
                rotate_left
                · (clear hSw; go_simp; try with_reducible rfl)
                simp only [Act.put, List.setIfInBounds_toArray, List.set_cons_zero, List.set_cons_succ]
                refine take_h (i := 10) (v := ?_) rfl rfl (by kernel_rfl) (by kernel_rfl) (by kernel_rfl) (fun _ _ _ h => h) (Or.inl ⟨by rfl, fun W hSw => ?_⟩) (by assumption) ?_
                rotate_left
                · (clear hSw; go_simp; try with_reducible rfl)
                simp only [Act.put, List.setIfInBounds_toArray, List.set_cons_zero, List.set_cons_succ]
                refine step_h (i := 1) rfl rfl (by kernel_rfl) (fun K hK => ?_)
                go_simp
                refine Calls.mono (hN1.out _ hS0.out.2) ?_
                rintro e w' ⟨rfl, rfl⟩
                go_wp2_with fail
                clear hHeld
                refine hK.out _ _ hS0.out (fun hHeld => ?_)
                clear hK K
                refine take_h (i := 11) (v := ?_) rfl rfl (by kernel_rfl) (by kernel_rfl) (by kernel_rfl) (fun _ _ _ h => h) (Or.inl ⟨by rfl, fun W hSw => ?_⟩) (by assumption) ?_
                rotate_left
                · (clear hSw; go_simp; try with_reducible rfl)
                simp only [Act.put, List.setIfInBounds_toArray, List.set_cons_zero, List.set_cons_succ]
                refine step_h (i := 7) rfl rfl (by kernel_rfl) (fun K hK => ?_)
                go_simp
                refine Calls.mono (hN2.out _ hS0.out.2) ?_
                rintro e w' ⟨rfl, rfl⟩
                go_wp2_with fail
                clear hHeld
                refine hK.out _ _ hS0.out (fun hHeld => ?_)
                clear hK K
                refine step_h (i := 9) rfl rfl (by kernel_rfl) (fun K hK => ?_)
                go_simp
                refine Calls.mono (hN3.out _ hS0.out.2) ?_
                rintro e w' ⟨rfl, rfl⟩
                go_wp2_with fail
                clear hHeld
                refine hK.out _ _ hS0.out (fun hHeld => ?_)
                clear hK K
                have d0 := ka4.out.drew.cell 0 (.int .i64 0) (by rw [List.getElem?_toArray]; exact rfl)
                have f0 := ka4.out.drew.frz 0
                refine step_h (i := 12) rfl rfl (by kernel_rfl) (fun K hK => ?_)
                go_simp
                obtain ⟨W1, hW1⟩ : ∃ W, (w4.setCell ⟨w.heap.size + 1, 0, none⟩ (.int .i64 l4)).drew = W := ⟨_, rfl⟩
                have e0 := (ka4.out.set 0 (.int .i64 l4)).drew
                rw [List.setIfInBounds_toArray, show (rowA ⟨0, cl, no, 0, 0, 0, 0⟩).set 0 (.int .i64 l4) = rowA ⟨l4, cl, no, 0, 0, 0, 0⟩ from rfl, hW1] at e0
                have z0 := (kz4.out.far (show w.heap.size ≠ w.heap.size + 1 by omega) 0 (.int .i64 l4)).drew
                have b0 := (hb4.out.setCell (p := ⟨w.heap.size + 1, 0, none⟩) (Nat.le_succ _) (.int .i64 l4)).drew
                rw [hW1] at z0 b0 ⊢
                have ka1x := Lib.hid e0
                have kz1x := Lib.hid z0
                have hb1x := Lib.hid b0
                have hS1 := Lib.hid (show W1.cell? ⟨b, off + 36, none⟩ = some (.int .u8 x36) ∧ Below w.heap.size w W1 from ⟨s36.out _ b0, b0⟩)
                clear e0 z0 b0 hW1 d0 f0 hHeld
                refine hK.out _ _ hS1.out (fun hHeld => ?_)
                clear hK K
                refine take_h (i := 13) (v := ?_) rfl rfl (by kernel_rfl) (by kernel_rfl) (by kernel_rfl) (fun _ _ _ h => h) (Or.inl ⟨by rfl, fun W hSw => ?_⟩) (by assumption) ?_
                rotate_left
                · (clear hSw; go_simp; try with_reducible rfl)
                simp only [Act.put, List.setIfInBounds_toArray, List.set_cons_zero, List.set_cons_succ]
                have d1 := ka1x.out.cell 29 (.int .i64 0) (by rw [List.getElem?_toArray]; exact (rowA_tail (a := ⟨l4, cl, no, 0, 0, 0, 0⟩) ⟨lcl.out, lno.out, hbcl.out, hbno.out⟩ 0))
                have f1 := ka1x.out.frz 29
                refine step_h (i := 14) rfl rfl (by kernel_rfl) (fun K hK => ?_)
                go_simp
                obtain ⟨W2, hW2⟩ : ∃ W, W1.setCell ⟨w.heap.size + 1, 29, none⟩ (.int .i64 x36) = W := ⟨_, rfl⟩
                have e1 := (ka1x.out.set 29 (.int .i64 x36))
                rw [List.setIfInBounds_toArray, show (rowA ⟨l4, cl, no, 0, 0, 0, 0⟩).set 29 (.int .i64 x36) = rowA ⟨l4, cl, no, x36, 0, 0, 0⟩ from rowA_tset (a := ⟨l4, cl, no, 0, 0, 0, 0⟩) lcl.out lno.out 0 _, hW2] at e1
                have z1 := (kz1x.out.far (show w.heap.size ≠ w.heap.size + 1 by omega) 29 (.int .i64 x36))
                have b1 := (hb1x.out.setCell (p := ⟨w.heap.size + 1, 29, none⟩) (Nat.le_succ _) (.int .i64 x36))
                rw [hW2] at z1 b1 ⊢
                have ka2x := Lib.hid e1
                have kz2x := Lib.hid z1
                have hb2x := Lib.hid b1
                have hS2 := Lib.hid (show W2.cell? ⟨b, off + 36, none⟩ = some (.int .u8 x36) ∧ Below w.heap.size w W2 from ⟨s36.out _ b1, b1⟩)
                clear e1 z1 b1 hW2 d1 f1 hHeld
                refine hK.out _ _ hS2.out (fun hHeld => ?_)
                clear hK K
                refine take_h (i := 15) (v := ?_) rfl rfl (by kernel_rfl) (by kernel_rfl) (by kernel_rfl) (fun _ _ _ h => h) (Or.inl ⟨by rfl, fun W hSw => ?_⟩) (by assumption) ?_
                rotate_left
                · (clear hSw; go_simp; try with_reducible rfl)
                simp only [Act.put, List.setIfInBounds_toArray, List.set_cons_zero, List.set_cons_succ]
                have d2 := ka2x.out.cell 30 (.int .i64 0) (by rw [List.getElem?_toArray]; exact (rowA_tail (a := ⟨l4, cl, no, x36, 0, 0, 0⟩) ⟨lcl.out, lno.out, hbcl.out, hbno.out⟩ 1))
                have f2 := ka2x.out.frz 30
                refine step_h (i := 16) rfl rfl (by kernel_rfl) (fun K hK => ?_)
                go_simp
                obtain ⟨W3, hW3⟩ : ∃ W, W2.setCell ⟨w.heap.size + 1, 30, none⟩ (.int .i64 l40) = W := ⟨_, rfl⟩
                have e2 := (ka2x.out.set 30 (.int .i64 l40))
                rw [List.setIfInBounds_toArray, show (rowA ⟨l4, cl, no, x36, 0, 0, 0⟩).set 30 (.int .i64 l40) = rowA ⟨l4, cl, no, x36, l40, 0, 0⟩ from rowA_tset (a := ⟨l4, cl, no, x36, 0, 0, 0⟩) lcl.out lno.out 1 _, hW3] at e2
                have z2 := (kz2x.out.far (show w.heap.size ≠ w.heap.size + 1 by omega) 30 (.int .i64 l40))
                have b2 := (hb2x.out.setCell (p := ⟨w.heap.size + 1, 30, none⟩) (Nat.le_succ _) (.int .i64 l40))
                rw [hW3] at z2 b2 ⊢
                have ka3x := Lib.hid e2
                have kz3x := Lib.hid z2
                have hb3x := Lib.hid b2
                have hS3 := Lib.hid (show W3.cell? ⟨b, off + 36, none⟩ = some (.int .u8 x36) ∧ Below w.heap.size w W3 from ⟨s36.out _ b2, b2⟩)
                clear e2 z2 b2 hW3 d2 f2 hHeld
                refine hK.out _ _ hS3.out (fun hHeld => ?_)
                clear hK K
                refine take_h (i := 17) (v := ?_) rfl rfl (by kernel_rfl) (by kernel_rfl) (by kernel_rfl) (fun _ _ _ h => h) (Or.inl ⟨by rfl, fun W hSw => ?_⟩) (by assumption) ?_
                rotate_left
                · (clear hSw; go_simp; try with_reducible rfl)
                simp only [Act.put, List.setIfInBounds_toArray, List.set_cons_zero, List.set_cons_succ]
                have d3 := ka3x.out.cell 31 (.int .i64 0) (by rw [List.getElem?_toArray]; exact (rowA_tail (a := ⟨l4, cl, no, x36, l40, 0, 0⟩) ⟨lcl.out, lno.out, hbcl.out, hbno.out⟩ 2))
                have f3 := ka3x.out.frz 31
                refine step_h (i := 18) rfl rfl (by kernel_rfl) (fun K hK => ?_)
                go_simp
                obtain ⟨W4, hW4⟩ : ∃ W, W3.setCell ⟨w.heap.size + 1, 31, none⟩ (.int .i64 l42) = W := ⟨_, rfl⟩
                have e3 := (ka3x.out.set 31 (.int .i64 l42))
                rw [List.setIfInBounds_toArray, show (rowA ⟨l4, cl, no, x36, l40, 0, 0⟩).set 31 (.int .i64 l42) = rowA ⟨l4, cl, no, x36, l40, l42, 0⟩ from rowA_tset (a := ⟨l4, cl, no, x36, l40, 0, 0⟩) lcl.out lno.out 2 _, hW4] at e3
                have z3 := (kz3x.out.far (show w.heap.size ≠ w.heap.size + 1 by omega) 31 (.int .i64 l42))
                have b3 := (hb3x.out.setCell (p := ⟨w.heap.size + 1, 31, none⟩) (Nat.le_succ _) (.int .i64 l42))
                rw [hW4] at z3 b3 ⊢
                have ka4x := Lib.hid e3
                have kz4x := Lib.hid z3
                have hb4x := Lib.hid b3
                have hS4 := Lib.hid (show W4.cell? ⟨b, off + 36, none⟩ = some (.int .u8 x36) ∧ Below w.heap.size w W4 from ⟨s36.out _ b3, b3⟩)
                clear e3 z3 b3 hW4 d3 f3 hHeld
                refine hK.out _ _ hS4.out (fun hHeld => ?_)
                clear hK K
                refine take_h (i := 19) (v := ?_) rfl rfl (by kernel_rfl) (by kernel_rfl) (by kernel_rfl) (fun _ _ _ h => h) (Or.inl ⟨by rfl, fun W hSw => ?_⟩) (by assumption) ?_
                rotate_left
                · (clear hSw; go_simp; try with_reducible rfl)
                simp only [Act.put, List.setIfInBounds_toArray, List.set_cons_zero, List.set_cons_succ]
                have d4 := ka4x.out.cell 32 (.int .i64 0) (by rw [List.getElem?_toArray]; exact (rowA_tail (a := ⟨l4, cl, no, x36, l40, l42, 0⟩) ⟨lcl.out, lno.out, hbcl.out, hbno.out⟩ 3))
                have f4 := ka4x.out.frz 32
                refine step_h (i := 20) rfl rfl (by kernel_rfl) (fun K hK => ?_)
                go_simp
                obtain ⟨W5, hW5⟩ : ∃ W, W4.setCell ⟨w.heap.size + 1, 32, none⟩ (.int .i64 addr) = W := ⟨_, rfl⟩
                have e4 := (ka4x.out.set 32 (.int .i64 addr))
                rw [List.setIfInBounds_toArray, show (rowA ⟨l4, cl, no, x36, l40, l42, 0⟩).set 32 (.int .i64 addr) = rowA ⟨l4, cl, no, x36, l40, l42, addr⟩ from rowA_tset (a := ⟨l4, cl, no, x36, l40, l42, 0⟩) lcl.out lno.out 3 _, hW5] at e4
                have z4 := (kz4x.out.far (show w.heap.size ≠ w.heap.size + 1 by omega) 32 (.int .i64 addr))
                have b4 := (hb4x.out.setCell (p := ⟨w.heap.size + 1, 32, none⟩) (Nat.le_succ _) (.int .i64 addr))
                rw [hW5] at z4 b4 ⊢
                have ka5x := Lib.hid e4
                have kz5x := Lib.hid z4
                have hb5x := Lib.hid b4
                have hS5 := Lib.hid (show W5.cell? ⟨b, off + 36, none⟩ = some (.int .u8 x36) ∧ Below w.heap.size w W5 from ⟨s36.out _ b4, b4⟩)
                clear e4 z4 b4 hW5 d4 f4 hHeld
                refine hK.out _ _ hS5.out (fun hHeld => ?_)
                clear hK K
                refine wpAnyH_done (by kernel_rfl) ?_ _
                clear hHeld
                have hsF := Lib.hid (show (rowA ⟨l4, cl, no, x36, l40, l42, addr⟩).toArray.size = 33 from rowA_lenG lcl.out lno.out)
                rw [← hpar.out] at ka5x hsF
                generalize parsedA bs = aa at *
                go_wp2_with (first
                  | (refine wpList_load_RK rfl (.tmp 6) rfl (w.heap.size + 1) rfl (rowA aa).toArray ka5x.out hsF.out ?_)
                  | (refine wpList_store_RK rfl (.tmp 4) (.tmp 88) rfl w.heap.size (rowA aa).toArray rfl rfl zAc kz5x.out rfl hsF.out rowA_one ?_)
                  | fail)
                refine bodyPost_ret (results_ct Try.results74 rfl (run_load_RK ⟨setRow_heap _ _ _ _ _ _ kz5x.out.at_⟩ hsF.out)) rfl ?_
                unfold AskOut
                rw [hk0.out, hre.out]
                exact ⟨rfl, below_row hb5x.out (Nat.le_refl _) _⟩
            · have hk4 := Lib.hid (show codeP kind bs = 4 by rw [hk, if_pos (.inr hy)])
              have hyb : (y0 != kind) = true := by simpa using hy
              clear hk
              go_wp2_with (first
                | (refine wpList_store_RK rfl (.tmp 4) (.tmp 71) rfl w.heap.size zAc rfl rfl zAc kz4.out rfl rfl zA_one ?_)
                | fail)
              exact bodyPost_ret (results_ct Try.results74 rfl (run_load_RK ⟨setRow_heap _ _ _ zAc _ _ kz4.out.at_⟩ rfl)) rfl (AskOut.bad hk4.out (by decide) (below_row hb4.out (Nat.le_refl _) _))
          · have hk4 := Lib.hid (show codeP kind bs = 4 by rw [hk, if_pos (.inl hx)])
            have hxb : (x0 != 2) = true := by simpa using hx
            clear hk
            go_wp2_with (first
              | (refine wpList_store_RK rfl (.tmp 4) (.tmp 71) rfl w.heap.size zAc rfl rfl zAc kz4.out rfl rfl zA_one ?_)
              | fail)
            exact bodyPost_ret (results_ct Try.results74 rfl (run_load_RK ⟨setRow_heap _ _ _ zAc _ _ kz4.out.at_⟩ rfl)) rfl (AskOut.bad hk4.out (by decide) (below_row hb4.out (Nat.le_refl _) _))
end Go.Proofs.Ytldjecilmcnpiaa
