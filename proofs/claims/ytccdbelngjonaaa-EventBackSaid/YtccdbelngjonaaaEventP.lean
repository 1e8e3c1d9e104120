/- Events: walks of Parse. -/
import Derived.Test.YtccdbelngjonaaaEventOR
import Derived.Test.YtccdbelngjonaaaQuads
import Derived.WalkMore
set_option linter.unusedVariables false
namespace Go.Proofs.Ytccdbelngjonaaa
open Go.RowKit

theorem info_ev : (Try.prog.info? 25).map (fun i => (i.zero, i.size, i.bytes)) = some (some (.agg zeroQc), 4, 48) := by kernel_rfl
def parseF : Nat → List Int → List QP
  | 0, _ => []
  | f + 1, bs => if oneB bs = true then evAt bs :: parseF f (bs.drop (oneN bs).toNat) else []
def parseE (bs : List Int) : List QP := parseF (bs.length + 1) bs
def ListOut (w : World) (T : TypeId) (l : List QP) (e : Ending) (w' : World) : Prop := ∃ A n c, e = .returned (.slice A n c) ∧ LO w' w.heap.size T A n c l ∧ Below w.heap.size w w'
theorem oneN_le {bs : List Int} (h : oneB bs = true) (hb : Byts bs) : 8 ≤ oneN bs ∧ oneN bs ≤ bs.length := by
  have h0 := getV_nn bs 6 2 hb
  unfold oneN
  rw [if_pos h]
  unfold oneB at h
  simp only [Bool.and_eq_true, decide_eq_true_eq] at h
  omega

set_option maxRecDepth 100000 in
set_option maxHeartbeats 4000000 in
theorem EvParse_any (A : Option Addr) (n c : Nat) (bs : List Int) (w : World) (h : RB w A n c bs) (hn : n ≤ 100000) :
    Calls Try.prog 21 #[.slice A n c] w (ListOut w 25 (parseE bs)) := by
  have hlen := h.len
  obtain ⟨F, hF⟩ : ∃ F, parseE bs = F := ⟨_, rfl⟩
  rw [hF]
  have hF0 := Lib.hid (show F = [] ++ parseF (n + 1) bs by rw [← hF, ← hlen]; rfl)
  have hbt := Lib.hid (Below.refl w.heap.size w)
  clear hF hlen
  go_enter Try.func21, Try.ntmps21
  go_wp2
  go_step3
  go_wp2
  go_step3
  go_wp2
  go_loopw [0, 3, 4, 5, 6] (fun vb vo _ _ _ wr => ∃ (A1 : Option Addr) (n1 c1 : Nat) (rest : List Int) (f : Nat) (l : List QP) (A2 : Option Addr) (k c2 : Nat), vb = .slice A1 n1 c1 ∧ RB w A1 n1 c1 rest ∧ vo = .slice A2 k c2 ∧ LO wr w.heap.size 25 A2 k c2 l ∧ F = l ++ parseF f rest ∧ n1 < f ∧ k + n1 ≤ 100000 ∧ Below w.heap.size w wr) (fun vb _ _ _ _ _ => match vb with | .slice _ n _ => n | _ => 0)
  case atStart => exact ⟨A, n, c, bs, n + 1, [], none, 0, 0, rfl, h, rfl, LO.nil _ _ _, hF0.out, by omega, by omega, hbt.out⟩
  case round =>
    obtain ⟨A1, n1, c1, rest, f, l, A2, k, c2, rfl, hr, rfl, hlo, hFl, hf, hk, hB⟩ := hrel
    obtain ⟨f, rfl⟩ : ∃ g, f = g + 1 := ⟨f - 1, by omega⟩
    have hOne := fun W (hr : RB W A1 n1 c1 rest) => EvOne_any A1 n1 c1 rest W hr (by omega)
    unfold OneOut at hOne
    have hst : parseF (f + 1) rest = if oneB rest = true then evAt rest :: parseF f (rest.drop (oneN rest).toNat) else [] := rfl
    rw [hst] at hFl
    replace hF0 := 0
    replace h := 0
    have hl1 := hr.len
    cases hb : oneB rest
    · rw [hb] at hOne hFl
      rw [if_neg (by decide), List.append_nil] at hFl
      subst hFl
      replace hOne := Lib.hid hOne
      replace hr := Lib.hid hr
      replace hlo := Lib.hid hlo
      replace hB := Lib.hid hB
      clear hst hl1
      go_wp2_with (first
        | (go_at_call 16; refine (hOne.out _ (hr.out.below hB.out)).mono ?_; rintro e w2 ⟨A9, m9, c9, rfl, ho9, hB2⟩; have hb3 := Lib.hid (hB.out.trans (hB2.mono hB.out.size)); have hlo3 := Lib.hid (hlo.out.below hB2); have kn := Lib.hid (Blk.new w2 zeroQc 25); replace ho9 := 0; replace hB2 := 0)
        | (refine wpList_store_E rfl (.tmp 4) (.tmp 10) rfl w2.heap.size (cellsQ (oneQ rest) A9 m9 c9) rfl rfl _ kn.out rfl rfl (one_Q _ _ _ _) ?_)
        | fail)
      rw [Exit.noGoto_ret]
      go_ret
      have hbe : Below w2.heap.size w2 ((w2.alloc (.cells zeroQc 25)).setRow w2.heap.size (cellsQ (oneQ rest) A9 m9 c9)) := below_row ((Below.refl _ w2).alloc (Nat.le_refl _) _) (Nat.le_refl _) _
      exact ⟨A2, k, c2, by first | rfl | simp, hlo3.out.below hbe, hb3.out.trans (hbe.mono hb3.out.size)⟩
    · rw [hb] at hOne hFl
      rw [if_pos rfl] at hFl
      have hq : oneQ rest = evAt rest := by unfold oneQ; rw [if_pos hb]
      rw [hq] at hOne
      obtain ⟨hj1, hj2⟩ := oneN_le hb hr.byt
      obtain ⟨j, hj⟩ := Int.eq_ofNat_of_zero_le (show 0 ≤ oneN rest by omega)
      rw [hj] at hOne hFl hj1 hj2
      rw [hl1] at hj2
      rw [Int.toNat_natCast] at hFl
      obtain ⟨b, off, rfl, hbl, _⟩ := hr.mem (by omega)
      have hdr := hr.drop_any j (by omega)
      have hnc := hr.nc
      have hcm := hr.cm
      unfold maxLen at hcm
      obtain ⟨A5, hif⟩ : ∃ A5, (if c1 = j then some (⟨b, off, none⟩ : Addr) else some ⟨b, off + j, none⟩) = A5 := ⟨_, rfl⟩
      rw [hif] at hdr
      have hblk := Lib.hid (fun k' (hk' : ownBlk A2 = some k') => (hlo.blk hk').2)
      have q1 : (j : Int) ≤ n1 := by omega
      have q2 : j ≤ n1 := by omega
      have q3 : (j : Int) ≤ c1 := by omega
      have hFl2 := Lib.hid (show F = (l ++ [evAt rest]) ++ parseF f (rest.drop j) by rw [hFl]; simp)
      replace hFl := 0
      replace hOne := Lib.hid hOne
      replace hr := Lib.hid hr
      replace hdr := Lib.hid hdr
      replace hlo := Lib.hid hlo
      replace hB := Lib.hid hB
      clear hst hl1
      go_wp2_with (first
        | (go_at_call 16; refine (hOne.out _ (hr.out.below hB.out)).mono ?_; rintro e w2 ⟨A9, m9, c9, rfl, ho9, hB2⟩; have hb3 := Lib.hid (hB.out.trans (hB2.mono hB.out.size)); have hlo3 := Lib.hid (hlo.out.below hB2); have kn := Lib.hid (Blk.new w2 zeroQc 25); have hsz2 := hB2.size; replace ho9 := Lib.hid ho9; replace hB2 := 0)
        | (refine wpList_store_E rfl (.tmp 4) (.tmp 10) rfl w2.heap.size (cellsQ (evAt rest) A9 m9 c9) rfl rfl _ kn.out rfl rfl (one_Q _ _ _ _) ?_; have hbe : Below w2.heap.size w2 ((w2.alloc (.cells zeroQc 25)).setRow w2.heap.size (cellsQ (evAt rest) A9 m9 c9)) := below_row ((Below.refl _ w2).alloc (Nat.le_refl _) _) (Nat.le_refl _) _; have k3 : Blk ((w2.alloc (.cells zeroQc 25)).setRow w2.heap.size (cellsQ (evAt rest) A9 m9 c9)) w2.heap.size (cellsQ (evAt rest) A9 m9 c9) 25 := ⟨setRow_heap _ _ _ _ _ _ kn.out.at_⟩; generalize (w2.alloc (.cells zeroQc 25)).setRow w2.heap.size (cellsQ (evAt rest) A9 m9 c9) = w3 at *; have hlo4 := Lib.hid ((hlo3.out.below hbe).alloc (.cells (cellsQ (evAt rest) A9 m9 c9) 25)); have hb4 := Lib.hid (hb3.out.trans (hbe.mono hb3.out.size)); have ho4 := Lib.hid ((ho9.out.below hbe).alloc (.cells (cellsQ (evAt rest) A9 m9 c9) 25)); have hb5 := Lib.hid (hb4.out.alloc hb4.out.size (.cells (cellsQ (evAt rest) A9 m9 c9) 25)); replace k3 := Lib.hid k3; replace hbe := 0; replace hlo3 := 0; replace kn := 0)
        | (refine wpList_load_E rfl (.tmp 4) rfl w2.heap.size rfl (cellsQ (evAt rest) A9 m9 c9) k3.out rfl ?_)
        | (at_builtin; refine wpList_append_lo _ rfl 30 25 (.tmp 15) (.tmp 17) rfl (.agg zeroQc) Try.underlying30 info_ev rfl rfl (g := w3.heap.size) rfl hlo4.out (Blk.new w3 (cellsQ (evAt rest) A9 m9 c9) 25) ho4.out.rb (fun _ k1 hk1 e => ?_) (by omega) hb5.out.size ?_; (have h1 := (ho9.out.blk hk1).1; have h2 := hblk.out k1 e; omega); intro A6 c6 w6 hlo6 hg6 hr6)
        | fail)
      go_roundw
      case rel => exact ⟨A5, n1 - j, c1 - j, rest.drop j, f, l ++ [evAt rest], A6, k + 1, c6, rfl, hdr.out, rfl, hlo6, hFl2.out, by omega, by omega, hb5.out.grown hg6 hb5.out.size (fun k1 hk1 => (hlo.out.blk hk1).1)⟩
      case measure => show n1 - j < n1; omega
end Go.Proofs.Ytccdbelngjonaaa
