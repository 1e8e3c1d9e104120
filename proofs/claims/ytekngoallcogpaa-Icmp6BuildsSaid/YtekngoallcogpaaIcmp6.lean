/- Messages of ICMP, of IPv6 (icmp6, and the reference): walks of low, mod, Pseudo, own, Fault. -/
import Derived.Test.YtekngoallcogpaaUdp
import Derived.Test.YtekngoallcogpaaConcat
import Derived.Test.YtekngoallcogpaaMem
import Derived.Test.YtekngoallcogpaaUdpBR
import Derived.Laws.Rows
set_option linter.unusedVariables false
namespace Go.Proofs.Ytekngoallcogpaa
open Go.RowKit

theorem low61 (x : Int) (w : World) : Calls Try.prog 73 #[.int .i64 x, .int .i64 1] w fun e w' => e = .returned (.int .i64 (x % 256)) ∧ w = w' := by
  have h := bits_mask_any 8 (by decide) x
  have e1 : ((2 : Int) ^ 8 - 1) = 256 - 1 := by decide
  have e2 : ((2 : Int) ^ 8) = 256 := by decide
  rw [e1, e2] at h
  simp only [Int.reduceSub] at h
  generalize x % 256 = y at *
  go_enter Try.func73, Try.ntmps73
  go_wp2
  go_ret
  exact ⟨rfl, rfl⟩
theorem low64 (x : Int) (w : World) : Calls Try.prog 73 #[.int .i64 x, .int .i64 4] w fun e w' => e = .returned (.int .i64 (x % 4294967296)) ∧ w = w' := by
  have h := bits_mask_any 32 (by decide) x
  have e1 : ((2 : Int) ^ 32 - 1) = 4294967296 - 1 := by decide
  have e2 : ((2 : Int) ^ 32) = 4294967296 := by decide
  rw [e1, e2] at h
  simp only [Int.reduceSub] at h
  generalize x % 4294967296 = y at *
  go_enter Try.func73, Try.ntmps73
  go_wp2
  go_ret
  exact ⟨rfl, rfl⟩
theorem mod6_w (x b : Int) (hb : 0 < b) (hb1 : b ≤ 4294967296) (w : World) : Calls Try.prog 74 #[.int .i64 x, .int .i64 b] w fun e w' => e = .returned (.int .i64 (x % b)) ∧ w = w' := by
  obtain ⟨h1, h2, h3⟩ := mod_any x b hb
  have hb2 : 1 ≤ b := by omega
  have hb3 : ¬ b = 0 := by omega
  have hb4 : (b == 0) = false := by simpa using hb3
  generalize x % b = y at *
  go_enter Try.func74, Try.ntmps74
  go_wp2
  go_ret
  exact ⟨by first | rfl | (rw [h3]), rfl⟩


abbrev cells6 (s : List Int) : Array Value := (u8s s).toArray
/-- An address. -/
structure Six (s : List Int) : Prop where
  len : s.length = 16
  byt : Byts s
theorem rb_box {W : World} {B : Nat} {s : List Int} {T : TypeId} (h : Blk W B (cells6 s) T) (hs : Six s) : RB W (some ⟨B, 0, none⟩) 16 16 s :=
  rb_cells (off := 0) h.lt hs.len (by decide) hs.byt (fun j hj => by
    have := h.cell j (.int .u8 (s[j]?.getD 0)) (by rw [List.getElem?_toArray]; exact u8s_get s j (by rw [hs.len]; exact hj))
    rwa [Nat.zero_add])
theorem info_six6 {s : List Int} (hs : Six s) : (Try.prog.info? 52).map (·.size) = some (cells6 s).size := by
  have : (Try.prog.info? 52).map (·.size) = some 16 := by kernel_rfl
  rw [this]; simp [u8s_length, hs.len]

/-- What a sum is of, too. -/
def pseudo6 (s d : List Int) (next size : Int) : List Int := s ++ d ++ digL (size % 4294967296) 4 ++ digL (next % 256) 4
theorem pseudo6_length {s d : List Int} (hs : Six s) (hd : Six d) (a b : Int) : (pseudo6 s d a b).length = 40 := by simp [pseudo6, digL_length, hs.len, hd.len]
theorem pseudo6_byts {s d : List Int} (hs : Six s) (hd : Six d) (a b : Int) : Byts (pseudo6 s d a b) := ((hs.byt.append hd.byt).append (digL_byts _ _)).append (digL_byts _ _)
theorem fp14 (x : Int) : fitsP (x % 256) ((4 : Nat) : Int) := ⟨by omega, by omega, by show _ < (256 : Int) ^ 4; omega⟩
theorem digL_four (x : Int) (h0 : 0 ≤ x) (h1 : x < 256) : digL x 4 = [0, 0, 0, x] := by
  simp [digL, List.range_succ]; omega

set_option maxRecDepth 100000 in
set_option maxHeartbeats 2000000 in
theorem Pseudo6_any (s d : List Int) (next size : Int) (w : World) (hs : Six s) (hd : Six d) :
    Calls Try.prog 45 #[.agg (cells6 s), .agg (cells6 d), .int .i64 next, .int .i64 size] w (Fresh w 40 (pseudo6 s d next size)) := by
  have h1 := Lib.hid (fp4 size)
  have h2 := Lib.hid (fp14 next)
  have l1 := Lib.hid (fun w => low64 size w)
  have l2 := Lib.hid (fun w => low61 next w)
  have hp := Lib.hid (show pseudo6 s d next size = s ++ d ++ digL (size % 4294967296) 4 ++ digL (next % 256) 4 from rfl)
  generalize size % 4294967296 = a at *
  generalize next % 256 = b at *
  have hb0 := Lib.hid (((Below.refl _ w).alloc (Nat.le_refl _) (.cells (cells6 s) 52)).alloc (by simp) (.cells (cells6 d) 52))
  have k1 := (Blk.new w (cells6 s) 52).alloc (.cells (cells6 d) 52)
  have k2 := Blk.new (w.alloc (.cells (cells6 s) 52)) (cells6 d) 52
  rw [World.size_alloc] at k2
  have hfl : [s, d].flatten.length = 32 := by simp [hs.len, hd.len]
  have hfe := Lib.hid (show [s, d].flatten = s ++ d by simp)
  replace hfl := Lib.hid hfl
  go_enter Try.func45, Try.ntmps45
  go_wp2
  obtain ⟨W0, hW0⟩ : ∃ W0, (w.alloc (.cells (cells6 s) 52)).alloc (.cells (cells6 d) 52) = W0 := ⟨_, rfl⟩
  rw [hW0] at k1 k2 hb0 ⊢
  have hrr := Lib.hid ((rbb_two (rb_box k1 hs) (rb_box k2 hd)).below (Below.refl _ _).drew)
  replace hW0 := 0
  clear k1 k2
  go_region_held3 (fun W => True ∧ Below w.heap.size w W)
    (first | assumption | exact ⟨trivial, hb0.out.drew⟩ | exact ⟨trivial, (hb0.out.alloc hb0.out.size _).drew⟩)
    (first
    | (go_at_call 72; refine (Concat_any _ 2 2 [s, d] _ hrr.out (by omega) (by rw [hfl.out]; omega)).mono ?_; rintro e w1 ⟨A1, c1, rfl, ho1, hb1⟩; rw [hfe.out] at ho1; have hfl2 := hfl.out; rw [hfe.out] at hfl2; rw [hfe.out, hfl2]; rw [hfl2] at ho1; have hB1 := Lib.hid ((hb0.out.alloc hb0.out.size _).drew.trans (hb1.mono (by have := hb0.out.size; simp; omega))); have hS1 : True ∧ Below w.heap.size w w1 := ⟨trivial, hB1.out⟩; have hr1 := Lib.hid ho1.rb; replace ho1 := 0; replace hfl2 := 0; replace hb1 := 0)
    | fail)
  go_wp2_with fail
  refine (l1.out _).mono ?_
  rintro e w' ⟨rfl, rfl⟩
  go_wp2_with fail
  refine (Put_yes A1 _ c1 _ a 4 _ hr1.out (by omega) h1.out).mono ?_
  rintro e w2 ⟨A2, c2, rfl, ho2, hB2⟩
  have hBt2 := hB1.out.trans (hB2.mono hB1.out.size)
  have hr2 := Lib.hid ho2.rb
  replace ho2 := 0
  clear hB2
  go_wp2_with fail
  refine (l2.out _).mono ?_
  rintro e w' ⟨rfl, rfl⟩
  go_wp2_with fail
  refine (Put_yes A2 _ c2 _ b 4 _ hr2.out (by omega) h2.out).mono ?_
  rintro e w3 ⟨A3, c3, rfl, ho3, hB3⟩
  go_wp2
  go_ret
  exact ⟨A3, c3, rfl, by rw [hp.out]; exact ho3.mono hBt2.size, hBt2.trans (hB3.mono hBt2.size)⟩

theorem lit4z (W : World) (d : Int) (h0 : 0 ≤ d) (h1 : d < 256) : RB (W.alloc (.cells #[.int .u8 0, .int .u8 0, .int .u8 0, .int .u8 d] 5)) (some ⟨W.heap.size, 0, none⟩) 4 4 [0, 0, 0, d] := by
  have := RB.lit W 5 [0, 0, 0, d] (fun z hz => by simp at hz; rcases hz with rfl | rfl <;> constructor <;> omega) (by simp)
  simpa [u8s] using this

set_option maxRecDepth 100000 in
set_option maxHeartbeats 2000000 in
theorem RefPseudo6_any (s d : List Int) (next size : Int) (w : World) (hs : Six s) (hd : Six d) :
    Calls Try.prog 46 #[.agg (cells6 s), .agg (cells6 d), .int .i64 next, .int .i64 size] w (Fresh w 40 (pseudo6 s d next size)) := by
  have h1 := Lib.hid (fp4 size)
  have l1 := Lib.hid (fun w => mod6_w size 4294967296 (by omega) (by omega) w)
  have l2 := Lib.hid (fun w => mod6_w next 256 (by omega) (by omega) w)
  have hp := show pseudo6 s d next size = s ++ d ++ digL (size % 4294967296) 4 ++ digL (next % 256) 4 from rfl
  rw [digL_four (next % 256) (by omega) (by omega)] at hp
  replace hp := Lib.hid hp
  have hb2 : 0 ≤ next % 256 ∧ next % 256 < 256 := by omega
  generalize size % 4294967296 = a at *
  generalize next % 256 = b at *
  obtain ⟨hb20, hb21⟩ := hb2
  have hwr : IntKind.u8.wrap b = b := by rw [IntKind.wrap_u8]; omega
  have hb0 := Lib.hid (((Below.refl _ w).alloc (Nat.le_refl _) (.cells (cells6 s) 52)).alloc (by simp) (.cells (cells6 d) 52))
  have k1 := (Blk.new w (cells6 s) 52).alloc (.cells (cells6 d) 52)
  have k2 := Blk.new (w.alloc (.cells (cells6 s) 52)) (cells6 d) 52
  rw [World.size_alloc] at k2
  go_enter Try.func46, Try.ntmps46
  go_wp2
  obtain ⟨W0, hW0⟩ : ∃ W0, (w.alloc (.cells (cells6 s) 52)).alloc (.cells (cells6 d) 52) = W0 := ⟨_, rfl⟩
  rw [hW0] at k1 k2 hb0 ⊢
  replace hW0 := 0
  have hlt0 := k2.lt
  have hnl := Lib.hid (OB.nil W0.drew W0.heap.size)
  have hR1 := Lib.hid (rb_box k1.drew hs)
  have hR2 := Lib.hid (fun W (hW : Below W0.heap.size W0 W) => rb_box (k2.below hW hlt0) hd)
  have hF : ∀ W, Below W0.heap.size W0 W → (fun (_ : World) => True) W := fun _ _ => trivial
  replace hF := Lib.hid hF
  clear k1 k2
  go_region_held3 (fun W => True ∧ Below W0.heap.size W0 W)
    (first | assumption | exact ⟨trivial, (Below.refl _ _).drew⟩)
    (first
    | (refine step_append_bytes (A := none) (n := 0) (c := 0) (A' := some ⟨w.heap.size, 0, none⟩) (m := 16) (c' := 16) rfl (.const (.slice none 0 0)) (.tmp 10) rfl rfl rfl hnl.out hR1.out (by decide) (Nat.le_refl _) ?_; intro A1 c1 w1 ho1 hg1 _; have hS1 : True ∧ Below W0.heap.size W0 w1 := ⟨trivial, ((Below.refl _ W0).drew).grown hg1 (Nat.le_refl _) (fun k hk => by simp [ownBlk] at hk)⟩; rw [Nat.zero_add, List.nil_append] at ho1; clear hg1)
    | (refine step_append_bytes (A := A1) (n := 16) (c := c1) (A' := some ⟨w.heap.size + 1, 0, none⟩) (m := 16) (c' := 16) rfl (.tmp 11) (.tmp 12) rfl rfl rfl ho1 (hR2.out _ hS1.2) (by decide) hS1.2.size ?_; intro A2 c2 w2 ho2 hg2 _; have hS2 : True ∧ Below W0.heap.size W0 w2 := ⟨trivial, hS1.2.grown hg2 hS1.2.size (fun k hk => (ho1.blk hk).1)⟩; clear hg2)
    | fail)
  have hB2 := Lib.hid (hb0.out.trans (hS2.2.mono hb0.out.size))
  have hr2 := Lib.hid ho2.rb
  clear ho1 hS1 hS2
  go_wp2_with fail
  refine (l1.out _).mono ?_
  rintro e w' ⟨rfl, rfl⟩
  go_wp2_with fail
  refine (RefPut_yes A2 _ c2 _ a 4 _ hr2.out (by omega) h1.out).mono ?_
  rintro e w3 ⟨A3, c3, rfl, ho3, hB3⟩
  have hBt3 := hB2.out.trans (hB3.mono hB2.out.size)
  replace ho3 := ho3.mono hB2.out.size
  clear hB3
  go_wp2_with fail
  refine (l2.out _).mono ?_
  rintro e w' ⟨rfl, rfl⟩
  have ho4 := ho3.alloc (.cells #[.int .u8 0, .int .u8 0, .int .u8 0, .int .u8 b] 5)
  have hBt4 := Lib.hid (hBt3.alloc hBt3.size (.cells #[.int .u8 0, .int .u8 0, .int .u8 0, .int .u8 b] 5))
  have hlit := Lib.hid (lit4z w3 b hb20 hb21)
  clear ho3 hBt3
  go_wp2_with (first
    | (at_builtin; refine wpList_append_bytes _ rfl (.tmp 18) (.tmp 22) rfl rfl rfl ho4 hlit.out (by omega) hBt4.out.size ?_; intro A5 c5 w5 ho5 hg5 _; have hBt5 := hBt4.out.grown hg5 hBt4.out.size (fun k hk => (ho4.blk hk).1); clear hg5)
    | fail)
  go_ret
  exact ⟨A5, c5, rfl, by rw [hp.out]; exact ho5, hBt5⟩

/-- A message's sum of its addresses, and of bytes. -/
def own6 (s d : List Int) (bs : List Int) : Int := foldI (totalI [pseudo6 s d 58 (bs.length : Nat), bs])
theorem own6_bd (s d bs : List Int) : 0 ≤ own6 s d bs ∧ own6 s d bs ≤ 65535 := ⟨foldI_lo _, foldI_hi _⟩
set_option maxRecDepth 100000 in
set_option maxHeartbeats 2000000 in
theorem own6_any (s d : List Int) (A : Option Addr) (n c : Nat) (bs : List Int) (w : World) (hs : Six s) (hd : Six d) (h : RB w A n c bs) (hn : n ≤ 100000) :
    Calls Try.prog 71 #[.agg (cells6 s), .agg (cells6 d), .slice A n c] w fun e w' => e = .returned (.int .i64 (own6 s d bs)) ∧ Below w.heap.size w w' := by
  have hb0 := Lib.hid (((Below.refl _ w).alloc (Nat.le_refl _) (.cells (cells6 s) 52)).alloc (by simp) (.cells (cells6 d) 52))
  have k1 := Lib.hid ((Blk.new w (cells6 s) 52).alloc (.cells (cells6 d) 52))
  have k2 := Blk.new (w.alloc (.cells (cells6 s) 52)) (cells6 d) 52
  rw [World.size_alloc] at k2
  replace k2 := Lib.hid k2
  have i1 := Lib.hid (info_six6 hs)
  have i2 := Lib.hid (info_six6 hd)
  have hsmall := Lib.hid (small_two (pseudo6_byts hs hd 58 (n : Int)) (by rw [pseudo6_length hs hd]; omega) h.byt (by have := h.len; omega))
  have ho := show own6 s d bs = foldI (totalI [pseudo6 s d 58 (n : Int), bs]) by unfold own6; rw [h.len]
  have hA := Lib.hid (fun A c W hr => by have := Add_any A 2 c [pseudo6 s d 58 (n : Int), bs] W hr hsmall.out; rw [← ho] at this; exact this)
  have hP := Lib.hid (fun w => Pseudo6_any s d 58 (n : Int) w hs hd)
  generalize own6 s d bs = x at *
  replace ho := 0
  replace h := Lib.hid h
  go_enter Try.func71, Try.ntmps71
  go_wp2_with (first
    | (refine wpList_load_row rfl 52 (.tmp 3) rfl w.heap.size rfl _ (cells6 s) _ _ k1.out.at_ Try.underlying52 rfl i1.out ?_)
    | (refine wpList_load_row rfl 52 (.tmp 4) rfl (w.heap.size + 1) rfl _ (cells6 d) _ _ k2.out.at_ Try.underlying52 rfl i2.out ?_)
    | (go_at_call 45; refine (hP.out _).mono ?_; rintro e w1 ⟨A1, c1, rfl, ho1, hb1⟩; have hrr := Lib.hid (rbb_two ho1.rb ((h.out.below hb0.out).below hb1)); have hB1 := Lib.hid (hb0.out.trans (hb1.mono hb0.out.size)); replace ho1 := 0; replace hb1 := 0)
    | (go_at_call 79; refine (hA.out _ _ _ hrr.out).mono ?_; rintro e w2 ⟨rfl, hb2⟩)
    | fail)
  go_ret
  exact ⟨rfl, (hB1.out.alloc hB1.out.size _).trans (hb2.mono (by have := hB1.out.size; simp; omega))⟩

def fault6 (k : Int) : Bool := decide (1 ≤ k ∧ k ≤ 127)
theorem Fault6_any (v : Int) (w : World) : Calls Try.prog 47 #[.int .i64 v] w fun e w' => e = .returned (.bool (fault6 v)) ∧ w = w' := by
  have ht := Lib.hid (fun (h : 1 ≤ v ∧ v ≤ 127) => (show true = fault6 v by simp [fault6, h]))
  have hf := Lib.hid (fun (h : ¬ (1 ≤ v ∧ v ≤ 127)) => (show false = fault6 v by simp [fault6]; omega))
  by_cases h3 : 1 ≤ v
  all_goals by_cases h5 : v ≤ 127
  all_goals
    have h6 : v < 128 ↔ v ≤ 127 := by omega
    have h7 : 0 < v ↔ 1 ≤ v := by omega
    go_enter Try.func47, Try.ntmps47
    go_wp2
    go_ret
    exact ⟨ret_bool (by first | exact ht.out (by omega) | exact hf.out (by omega) | (simp; first | exact ht.out (by omega) | exact hf.out (by omega))), rfl⟩
theorem RefFault6_any (v : Int) (w : World) : Calls Try.prog 48 #[.int .i64 v] w fun e w' => e = .returned (.bool (fault6 v)) ∧ w = w' := by
  have ht := Lib.hid (fun (h : 1 ≤ v ∧ v ≤ 127) => (show true = fault6 v by simp [fault6, h]))
  have hf := Lib.hid (fun (h : ¬ (1 ≤ v ∧ v ≤ 127)) => (show false = fault6 v by simp [fault6]; omega))
  by_cases h3 : 1 ≤ v
  all_goals by_cases h5 : v ≤ 127
  all_goals
    have h6 : v < 128 ↔ v ≤ 127 := by omega
    have h7 : 0 < v ↔ 1 ≤ v := by omega
    go_enter Try.func48, Try.ntmps48
    go_wp2
    go_ret
    exact ⟨ret_bool (by first | exact ht.out (by omega) | exact hf.out (by omega) | (simp; first | exact ht.out (by omega) | exact hf.out (by omega))), rfl⟩
end Go.Proofs.Ytekngoallcogpaa
