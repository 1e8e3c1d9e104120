/- Messages of ICMP (the reference): walks of Read, Parse. -/
import Derived.Test.YtehecefapiblpaaGreatIcmpP
import Derived.Test.YtehecefapiblpaaGreatAppend
set_option linter.unusedVariables false
namespace Go.Proofs.YtehecefapiblpaaGreat
open Go.RowKit

def IcmpOne (w : World) (m : IcmpP) (e : Ending) (w' : World) : Prop := ∃ A2 n2 c2, e = .returned (.agg (cellsI m A2 n2 c2)) ∧ OB w' w.heap.size A2 n2 c2 m.data ∧ Below w.heap.size w w'

set_option maxRecDepth 100000 in
set_option maxHeartbeats 2000000 in
theorem RefIcmpRead_any (A : Option Addr) (n c : Nat) (bs : List Int) (w : World) (h : RB w A n c bs) (h8 : 8 ≤ n) (h9 : n ≤ 100000) :
    Calls Tryz.prog 77 #[.slice A n c] w (IcmpOne w (parsedI bs)) := by
  have hlen := h.len
  have hnc := h.nc
  have hcm : c ≤ 9223372036854775807 := by have := h.cm; unfold maxLen at this; omega
  have hb0 := Lib.hid ((Below.refl _ w).alloc (Nat.le_refl _) (.cells #[.int .i64 0, .int .i64 0, .int .i64 0, .slice none 0 0] 81))
  have hk1 := Lib.hid (Blk.new w #[.int .i64 0, .int .i64 0, .int .i64 0, .slice none 0 0] 81)
  obtain ⟨b, off, rfl, hbl, hc⟩ := h.mem (by omega)
  have hc0 := Lib.hid (hc 0 (by omega))
  have hc1 := Lib.hid (hc 1 (by omega))
  have y0 := h.byt.get 0
  have y1 := h.byt.get 1
  have hG := Lib.hid (fun W (hW : Below w.heap.size w W) => RefGet_any _ n c bs 4 4 W (h.below hW) h9)
  have hda := h.drop_any 8 (by omega)
  obtain ⟨A8, hif⟩ : ∃ A8, (if c = 8 then some (⟨b, off, none⟩ : Addr) else some ⟨b, off + 8, none⟩) = A8 := ⟨_, rfl⟩
  rw [hif] at hda
  have hD := Lib.hid (fun W (hW : Below w.heap.size w W) => hda.below hW)
  replace hda := 0
  have hpar := Lib.hid (show parsedI bs = ⟨bs[0]?.getD 0, bs[1]?.getD 0, (getV bs 4 4).1, bs.drop 8⟩ from rfl)
  clear h hlen hc
  generalize bs[0]?.getD 0 = x0 at *
  generalize bs[1]?.getD 0 = x1 at *
  generalize (getV bs 4 4).1 = x2 at *
  generalize (getV bs 4 4).2 = x3 at *
  have hi4 : ¬ n = 0 := by omega
  have hw0 : IntKind.i64.wrap x0 = x0 := by rw [IntKind.wrap_i64]; omega
  have hw1 : IntKind.i64.wrap x1 = x1 := by rw [IntKind.wrap_i64]; omega
  have hi0 : 0 < n := by omega
  have hi1 : 1 < n := by omega
  have hi1' : (1 : Int) < n := by omega
  have hi8' : (8 : Int) ≤ n := by omega
  go_enter Tryz.func77, Tryz.ntmps77
  go_wp2_with (first
    | (go_at_call 48; refine (hG.out _ hb0.out).mono ?_; rintro e w' ⟨rfl, rfl⟩)
    | fail)
  have hF : ∀ W, Below w.heap.size w W → (W.cell? ⟨b, off, none⟩ = some (.int .u8 x0) ∧ W.cell? ⟨b, off + 1, none⟩ = some (.int .u8 x1)) := fun W hWt =>
    ⟨by have := (hWt.cell (p := ⟨b, off + 0, none⟩) hbl).trans hc0.out; simpa using this, (hWt.cell (p := ⟨b, off + 1, none⟩) hbl).trans hc1.out⟩
  replace hF := Lib.hid hF
  have hs1 : w.heap.size ≤ (w.alloc (.cells #[.int .i64 0, .int .i64 0, .int .i64 0, .slice none 0 0] 81)).drew.heap.size := (hb0.out.drew).size
  have hnl := OB.nil (w.alloc (.cells #[.int .i64 0, .int .i64 0, .int .i64 0, .slice none 0 0] 81)).drew (w.alloc (.cells #[.int .i64 0, .int .i64 0, .int .i64 0, .slice none 0 0] 81)).heap.size
  replace hnl := Lib.hid hnl
  replace hs1 := Lib.hid hs1
  go_region_held3 (fun W => (W.cell? ⟨b, off, none⟩ = some (.int .u8 x0) ∧ W.cell? ⟨b, off + 1, none⟩ = some (.int .u8 x1)) ∧ Below w.heap.size w W)
    (first | assumption | exact heldIf hF.out hb0.out.drew | exact heldIf hF.out (below_set4 hB3.out (Nat.le_refl _) _ _ _ _))
    (first
    | (refine step_append_bytes (A := none) (n := 0) (c := 0) (A' := A8) (m := n - 8) (c' := c - 8) rfl (.const (.slice none 0 0)) (.tmp 20) rfl rfl rfl hnl.out (hD.out _ hb0.out.drew) (by omega) (Nat.le_refl _) ?_; intro A3 c3 w3 ho3 hg hr; have hb3 := (Below.refl (w.alloc (.cells #[.int .i64 0, .int .i64 0, .int .i64 0, .slice none 0 0] 81)).heap.size (w.alloc (.cells #[.int .i64 0, .int .i64 0, .int .i64 0, .slice none 0 0] 81)).drew).grown hg (Nat.le_refl _) (fun k hk => by simp [ownBlk] at hk); have hv3 := hk1.out.drew.to hb3; obtain ⟨⟨z0, z1, z2, z3⟩, f0, f1, f2, f3⟩ := hv3.z4; have hB3 := Lib.hid (hb0.out.drew.trans (hb3.mono hs1.out)); have hS3 := heldIf hF.out hB3.out; have hlt3 := hv3.lt; replace hb3 := 0; replace hv3 := 0; clear hg hr)
    | fail)
  go_wp2
  have hBt := hB3.out
  rw [Nat.zero_add, List.nil_append] at ho3
  have hob := Lib.hid (ho3.set4 (B := w.heap.size) (by simp) (.int .i64 x0) (.int .i64 x1) (.int .i64 x2) (.slice A3 (n - 8) c3))
  have hfold : ((((w3.setCell ⟨w.heap.size, 0, none⟩ (.int .i64 x0)).setCell ⟨w.heap.size, 1, none⟩ (.int .i64 x1)).setCell ⟨w.heap.size, 2, none⟩ (.int .i64 x2)).setCell ⟨w.heap.size, 3, none⟩ (.slice A3 (n - 8) c3)) = set4 w3 w.heap.size (.int .i64 x0) (.int .i64 x1) (.int .i64 x2) (.slice A3 (n - 8) c3) := rfl
  rw [hfold]
  obtain ⟨r0, r1, r2, r3⟩ := set4_at w3 w.heap.size (.int .i64 x0) (.int .i64 x1) (.int .i64 x2) (.slice A3 (n - 8) c3) z0 z1 z2 z3
  have hbf := below_set4 (B := w.heap.size) hBt (by omega) (.int .i64 x0) (.int .i64 x1) (.int .i64 x2) (.slice A3 (n - 8) c3)
  clear hfold z0 z1 z2 z3 f0 f1 f2 f3 hBt
  generalize set4 w3 w.heap.size (.int .i64 x0) (.int .i64 x1) (.int .i64 x2) (.slice A3 (n - 8) c3) = Wf at *
  exact bodyPost_ret (v := .agg #[(.int .i64 x0), (.int .i64 x1), (.int .i64 x2), (.slice A3 (n - 8) c3)]) (by simp [results, Tryz.results77, go_sem, r0, r1, r2, r3]) rfl ((by rw [hpar.out]; exact ⟨A3, n - 8, c3, rfl, hob.out.mono (by simp), hbf⟩))

set_option maxRecDepth 100000 in
set_option maxHeartbeats 2000000 in
theorem RefIcmpParse_any (A : Option Addr) (n c : Nat) (bs : List Int) (w : World) (h : RB w A n c bs) :
    Calls Tryz.prog 52 #[.slice A n c] w (IcmpOut w (readI bs) (codeI bs)) := by
  have hlen := h.len
  have hb0 := Lib.hid ((Below.refl _ w).alloc (Nat.le_refl _) (.cells #[.int .i64 0, .int .i64 0, .int .i64 0, .slice none 0 0] 81))
  by_cases h8 : n < 8
  · have hk := Lib.hid (show codeI bs = 3 by unfold codeI; rw [hlen, if_pos h8])
    clear h hlen
    go_enter Tryz.func52, Tryz.ntmps52
    go_wp2
    exact bodyPost_ret (v := .tuple #[.agg #[.int .i64 0, .int .i64 0, .int .i64 0, .slice none 0 0], .int .i64 3]) (by simp [results, Tryz.results52, go_sem]) rfl (IcmpOut.bad hk.out (by decide) hb0.out)
  · by_cases h9 : 65535 < n
    · have hk := Lib.hid (show codeI bs = 6 by unfold codeI; rw [hlen, if_neg h8, if_pos h9])
      clear h hlen
      go_enter Tryz.func52, Tryz.ntmps52
      go_wp2
      exact bodyPost_ret (v := .tuple #[.agg #[.int .i64 0, .int .i64 0, .int .i64 0, .slice none 0 0], .int .i64 6]) (by simp [results, Tryz.results52, go_sem]) rfl (IcmpOut.bad hk.out (by decide) hb0.out)
    · have hrr := rbb_one (h.alloc (.cells #[.int .i64 0, .int .i64 0, .int .i64 0, .slice none 0 0] 81))
      rw [World.size_alloc] at hrr
      have hR := Lib.hid (RefRight_any _ 1 1 [bs] _ hrr (small_one h.byt (by omega)))
      have hb1 := Lib.hid (hb0.out.alloc hb0.out.size (.cells #[.slice A n c] 22))
      have hk1 := Lib.hid ((Blk.new w #[.int .i64 0, .int .i64 0, .int .i64 0, .slice none 0 0] 81).alloc (.cells #[.slice A n c] 22))
      cases hq : (foldI (totalI [bs]) == 65535)
      · have hk := Lib.hid (show codeI bs = 5 by unfold codeI; rw [hlen, if_neg h8, if_neg h9, hq]; rfl)
        replace hq := Lib.hid hq
        clear h hlen hrr
        go_enter Tryz.func52, Tryz.ntmps52
        go_wp2_with (first
          | (go_at_call 49; refine hR.out.mono ?_; rintro e w1 ⟨rfl, hB1⟩; rw [hq.out]; have hv1 := hk1.out.to hB1; have hlt1 := hv1.lt; obtain ⟨⟨z0, z1, z2, z3⟩, f0, f1, f2, f3⟩ := hv1.z4; have hBt := hb1.out.trans (hB1.mono hb1.out.size); replace hB1 := 0; replace hv1 := 0)
          | fail)
        have hfold : ((((w1.setCell ⟨w.heap.size, 0, none⟩ (.int .i64 0)).setCell ⟨w.heap.size, 1, none⟩ (.int .i64 0)).setCell ⟨w.heap.size, 2, none⟩ (.int .i64 0)).setCell ⟨w.heap.size, 3, none⟩ (.slice none 0 0)) = set4 w1 w.heap.size (.int .i64 0) (.int .i64 0) (.int .i64 0) (.slice none 0 0) := rfl
        rw [hfold]
        obtain ⟨r0, r1, r2, r3⟩ := set4_at w1 w.heap.size (.int .i64 0) (.int .i64 0) (.int .i64 0) (.slice none 0 0) z0 z1 z2 z3
        have hbf := below_set4 (B := w.heap.size) hBt (by omega) (.int .i64 0) (.int .i64 0) (.int .i64 0) (.slice none 0 0)
        clear hfold z0 z1 z2 z3 f0 f1 f2 f3 hBt
        generalize set4 w1 w.heap.size (.int .i64 0) (.int .i64 0) (.int .i64 0) (.slice none 0 0) = Wf at *
        exact bodyPost_ret (v := .tuple #[.agg #[(.int .i64 0), (.int .i64 0), (.int .i64 0), (.slice none 0 0)], .int .i64 5]) (by simp [results, Tryz.results52, go_sem, r0, r1, r2, r3]) rfl (IcmpOut.bad hk.out (by decide) hbf)
      · have hk := Lib.hid (show codeI bs = 0 by unfold codeI; rw [hlen, if_neg h8, if_neg h9, hq]; rfl)
        replace hq := Lib.hid hq
        have hRd := Lib.hid (fun W (hW : Below w.heap.size w W) => RefIcmpRead_any A n c bs W (h.below hW) (by omega) (by omega))
        obtain ⟨m, hm⟩ : ∃ m, parsedI bs = m := ⟨_, rfl⟩
        rw [hm] at hRd
        replace hm := Lib.hid hm
        clear h hlen hrr
        go_enter Tryz.func52, Tryz.ntmps52
        go_wp2_with (first
          | (go_at_call 49; refine hR.out.mono ?_; rintro e w1 ⟨rfl, hB1⟩; rw [hq.out]; have hv1 := Lib.hid (hk1.out.to hB1); have hBt1 := hb1.out.trans (hB1.mono hb1.out.size); replace hB1 := 0)
          | (go_at_call 77; refine (hRd.out _ hBt1).mono ?_; rintro e w2 ⟨A2, n2, c2, rfl, hr2, hB2⟩; obtain ⟨⟨z0, z1, z2, z3⟩, f0, f1, f2, f3⟩ := (hv1.out.to hB2).z4; have hBt := hBt1.trans (hB2.mono hBt1.size); have hlt2 := (hv1.out.to hB2).lt; have hlt1 := hv1.out.lt; replace hB2 := 0; replace hBt1 := 0)
          | fail)
        have hob := Lib.hid (hr2.set4 (B := w.heap.size) hv1.out.lt (.int .i64 m.t) (.int .i64 m.cd) (.int .i64 m.r) (.slice A2 n2 c2))
        have hfold : ((((w2.setCell ⟨w.heap.size, 0, none⟩ (.int .i64 m.t)).setCell ⟨w.heap.size, 1, none⟩ (.int .i64 m.cd)).setCell ⟨w.heap.size, 2, none⟩ (.int .i64 m.r)).setCell ⟨w.heap.size, 3, none⟩ (.slice A2 n2 c2)) = set4 w2 w.heap.size (.int .i64 m.t) (.int .i64 m.cd) (.int .i64 m.r) (.slice A2 n2 c2) := rfl
        rw [hfold]
        obtain ⟨r0, r1, r2, r3⟩ := set4_at w2 w.heap.size (.int .i64 m.t) (.int .i64 m.cd) (.int .i64 m.r) (.slice A2 n2 c2) z0 z1 z2 z3
        have hbf := below_set4 (B := w.heap.size) hBt (by omega) (.int .i64 m.t) (.int .i64 m.cd) (.int .i64 m.r) (.slice A2 n2 c2)
        clear hfold z0 z1 z2 z3 f0 f1 f2 f3 hBt
        generalize set4 w2 w.heap.size (.int .i64 m.t) (.int .i64 m.cd) (.int .i64 m.r) (.slice A2 n2 c2) = Wf at *
        exact bodyPost_ret (v := .tuple #[.agg #[(.int .i64 m.t), (.int .i64 m.cd), (.int .i64 m.r), (.slice A2 n2 c2)], .int .i64 0]) (by simp [results, Tryz.results52, go_sem, r0, r1, r2, r3]) rfl ((by unfold readI; rw [hk.out, if_pos rfl, hm.out]; exact ⟨A2, n2, c2, rfl, hob.out.mono (by omega), hbf⟩))
end Go.Proofs.YtehecefapiblpaaGreat
/- Messages of ICMP (icmp, and the reference): walks of Fault, Query, ID, WithID. -/
set_option linter.unusedVariables false
namespace Go.Proofs.YtehecefapiblpaaGreat
open Go.RowKit

def faultI (k : Int) : Bool := decide (k ∈ [(3 : Int), 4, 5, 11, 12])
def queryI (k : Int) : Bool := decide (k ∈ [(0 : Int), 8])

theorem one_any (A : Option Addr) (n c : Nat) (zs : List Int) (v : Int) (w : World) (h : RI w A n c zs) (hn : n ≤ 100000) :
    Calls Tryz.prog 71 #[.int .i64 v, .slice A n c] w fun e w' => e = .returned (.bool (decide (v ∈ zs))) ∧ w = w' := by
  have hI := Lib.hid (Contains_any A n c zs v w h hn)
  clear h
  go_enter Tryz.func71, Tryz.ntmps71
  go_wp2_with (go_at_call 87; refine hI.out.mono ?_; rintro e w' ⟨rfl, rfl⟩)
  go_ret
  exact ⟨rfl, rfl⟩
theorem faultI_iff (v : Int) : faultI v = true ↔ v = 3 ∨ v = 4 ∨ v = 5 ∨ v = 11 ∨ v = 12 := by simp [faultI]
theorem queryI_iff (v : Int) : queryI v = true ↔ v = 0 ∨ v = 8 := by simp [queryI]
theorem no_both (v : Int) : (faultI v && queryI v) = false := by
  rw [Bool.eq_false_iff]
  intro h
  rw [Bool.and_eq_true, faultI_iff, queryI_iff] at h
  omega

theorem Query_any (v : Int) (w : World) :
    Calls Tryz.prog 44 #[.int .i64 v] w fun e w' => e = .returned (.bool (queryI v)) ∧ Below w.heap.size w w' := by
  have hl := RI.lit w 3 [0, 8]
  simp only [List.map_cons, List.map_nil, List.length_cons, List.length_nil, Nat.zero_add, Nat.reduceAdd] at hl
  have hI := Lib.hid ((one_any _ _ _ _ v _ hl (by omega)).mono fun e w' (h : e = .returned (.bool (queryI v)) ∧ _) => h)
  generalize queryI v = q at *
  have hb := Lib.hid (fun o => (Below.refl w.heap.size w).alloc (Nat.le_refl _) o)
  clear hl
  go_enter Tryz.func44, Tryz.ntmps44
  go_wp2_with (go_at_call 71; refine hI.out.mono ?_; rintro e w' ⟨rfl, rfl⟩)
  go_ret
  exact ⟨rfl, hb.out _⟩

set_option maxHeartbeats 1000000 in
theorem RefQuery_any (v : Int) (w : World) :
    Calls Tryz.prog 53 #[.int .i64 v] w fun e w' => e = .returned (.bool (queryI v)) ∧ w = w' := by
  have ht := Lib.hid (fun (h : v = 0 ∨ v = 8) => ((queryI_iff v).2 h).symm)
  have hf := Lib.hid (fun (h : ¬ (v = 0 ∨ v = 8)) => (Bool.eq_false_iff.2 (fun k => h ((queryI_iff v).1 k))).symm)
  cases h11 : (v == 0)
  all_goals cases h12 : (v == 8)
  all_goals
    have k11 := h11
    have k12 := h12
    simp only [beq_iff_eq, beq_eq_false_iff_ne, ne_eq] at k11 k12
    replace k11 := Lib.hid k11
    replace k12 := Lib.hid k12
    go_enter Tryz.func53, Tryz.ntmps53
    go_wp2
    go_ret
    have a := k11.out
    have b := k12.out
    exact ⟨ret_bool (by first | exact ht.out (by omega) | exact hf.out (by omega) | (exfalso; omega)), rfl⟩

/-- A message's identifier. -/
def idI (m : IcmpP) : Int := m.r / 65536 % 65536
theorem IcmpID_any (m : IcmpP) (A : Option Addr) (n c : Nat) (w : World) :
    Calls Tryz.prog 131 #[.agg (cellsI m A n c)] w fun e w' => e = .returned (.int .i64 (idI m)) ∧ Below w.heap.size w w' := by
  have hb := Lib.hid (fun o => (Below.refl w.heap.size w).alloc (Nat.le_refl _) o)
  have hand := bits_low (m.r / 65536)
  go_enter Tryz.func131, Tryz.ntmps131
  go_wp2
  go_ret
  exact ⟨rfl, hb.out _⟩
theorem RefIcmpID_any (m : IcmpP) (A : Option Addr) (n c : Nat) (w : World) :
    Calls Tryz.prog 54 #[.agg (cellsI m A n c)] w fun e w' => e = .returned (.int .i64 (idI m)) ∧ Below w.heap.size w w' := by
  have hb := Lib.hid (fun o => (Below.refl w.heap.size w).alloc (Nat.le_refl _) o)
  have hand := bits_low (m.r / 65536)
  go_enter Tryz.func54, Tryz.ntmps54
  go_wp2
  go_ret
  exact ⟨rfl, hb.out _⟩
end Go.Proofs.YtehecefapiblpaaGreat
