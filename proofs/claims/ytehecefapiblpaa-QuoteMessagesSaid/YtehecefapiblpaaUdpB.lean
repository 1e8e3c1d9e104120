/- Datagrams (udp, and the reference): walks of Check, Same. -/
import Derived.Test.YtehecefapiblpaaUdp
import Derived.Test.YtehecefapiblpaaAppend
set_option linter.unusedVariables false
namespace Go.Proofs.Ytehecefapiblpaa
open Go.RowKit

/-- A datagram. -/
structure UdpP where
  s : Int
  d : Int
  ns : Bool
  data : List Int
abbrev cellsU (m : UdpP) (A : Option Addr) (n c : Nat) : Array Value := #[.int .i64 m.s, .int .i64 m.d, .bool m.ns, .slice A n c]
def checkU (m : UdpP) (n : Nat) : Int := if fitsB m.s 2 = false then 1 else if fitsB m.d 2 = false then 1 else if 65527 < n then 6 else 0

set_option maxHeartbeats 1000000 in
theorem UdpCheck_any (m : UdpP) (A : Option Addr) (n c : Nat) (w : World) :
    Calls Try.prog 145 #[.agg (cellsU m A n c)] w fun e w' => e = .returned (.int .i64 (checkU m n)) ∧ Below w.heap.size w w' := by
  have hb0 : Below w.heap.size w (w.alloc (.cells (cellsU m A n c) 36)) := (Below.refl _ w).alloc (Nat.le_refl _) _
  unfold checkU
  cases f0 : fitsB m.s 2
  · skip
    go_enter Try.func145, Try.ntmps145
    go_wp2_with (go_at_call 66; refine (Fits_any _ _ _).mono ?_; rintro e w' ⟨rfl, rfl⟩)
    go_ret
    exact ⟨by simp, hb0⟩
  · cases f1 : fitsB m.d 2
    · skip
      go_enter Try.func145, Try.ntmps145
      go_wp2_with (go_at_call 66; refine (Fits_any _ _ _).mono ?_; rintro e w' ⟨rfl, rfl⟩)
      go_ret
      exact ⟨by simp, hb0⟩
    · by_cases h6 : 65527 < n
      · skip
        go_enter Try.func145, Try.ntmps145
        go_wp2_with (go_at_call 66; refine (Fits_any _ _ _).mono ?_; rintro e w' ⟨rfl, rfl⟩)
        go_ret
        exact ⟨by simp, hb0⟩
      · skip
        go_enter Try.func145, Try.ntmps145
        go_wp2_with (go_at_call 66; refine (Fits_any _ _ _).mono ?_; rintro e w' ⟨rfl, rfl⟩)
        go_ret
        exact ⟨by simp, hb0⟩
set_option maxHeartbeats 1000000 in
theorem RefUdpCheck_any (m : UdpP) (A : Option Addr) (n c : Nat) (w : World) :
    Calls Try.prog 59 #[.agg (cellsU m A n c)] w fun e w' => e = .returned (.int .i64 (checkU m n)) ∧ Below w.heap.size w w' := by
  have hb0 : Below w.heap.size w (w.alloc (.cells (cellsU m A n c) 36)) := (Below.refl _ w).alloc (Nat.le_refl _) _
  unfold checkU
  cases f0 : fitsB m.s 2
  · skip
    go_enter Try.func59, Try.ntmps59
    go_wp2_with (go_at_call 82; refine (RefFits_any _ _ _).mono ?_; rintro e w' ⟨rfl, rfl⟩)
    go_ret
    exact ⟨by simp, hb0⟩
  · cases f1 : fitsB m.d 2
    · skip
      go_enter Try.func59, Try.ntmps59
      go_wp2_with (go_at_call 82; refine (RefFits_any _ _ _).mono ?_; rintro e w' ⟨rfl, rfl⟩)
      go_ret
      exact ⟨by simp, hb0⟩
    · by_cases h6 : 65527 < n
      · skip
        go_enter Try.func59, Try.ntmps59
        go_wp2_with (go_at_call 82; refine (RefFits_any _ _ _).mono ?_; rintro e w' ⟨rfl, rfl⟩)
        go_ret
        exact ⟨by simp, hb0⟩
      · skip
        go_enter Try.func59, Try.ntmps59
        go_wp2_with (go_at_call 82; refine (RefFits_any _ _ _).mono ?_; rintro e w' ⟨rfl, rfl⟩)
        go_ret
        exact ⟨by simp, hb0⟩

theorem checkU_ok {m : UdpP} {n : Nat} (h : checkU m n = 0) : (0 ≤ m.s ∧ m.s < 65536) ∧ (0 ≤ m.d ∧ m.d < 65536) ∧ n ≤ 65527 := by
  unfold checkU at h
  by_cases h1 : fitsB m.s 2 = false
  · simp [h1] at h
  · by_cases h2 : fitsB m.d 2 = false
    · simp [h2] at h
    · rw [if_neg h1, if_neg h2] at h
      have k1 := of_decide_eq_true (show fitsB m.s 2 = true by simpa using h1)
      have k2 := of_decide_eq_true (show fitsB m.d 2 = true by simpa using h2)
      obtain ⟨_, a1, b1⟩ := k1
      obtain ⟨_, a2, b2⟩ := k2
      rw [pow2] at b1 b2
      by_cases h5 : 65527 < n
      · simp [h5] at h
      · exact ⟨⟨a1, b1⟩, ⟨a2, b2⟩, by omega⟩
theorem checkU_code (m : UdpP) (n : Nat) : checkU m n = 0 ∨ checkU m n = 1 ∨ checkU m n = 6 := by
  unfold checkU
  repeat' split
  all_goals simp

/-- Whether two datagrams are the same. -/
def sameU (p q : UdpP) : Bool := p.s == q.s && p.d == q.d && p.ns == q.ns && p.data == q.data

end Go.Proofs.Ytehecefapiblpaa
/- Datagrams (the reference): walks of bytes, Build. -/
set_option linter.unusedVariables false
namespace Go.Proofs.Ytehecefapiblpaa
open Go.RowKit

/-- A datagram's bytes, with a sum. -/
def bytesU (m : UdpP) (s : Int) : List Int := digL m.s 2 ++ digL m.d 2 ++ digL (8 + (m.data.length : Nat)) 2 ++ digL s 2 ++ m.data
def partsU (src dst : Int) (m : UdpP) : List (List Int) := [pseudoB src dst 17 (8 + (m.data.length : Nat)), bytesU m 0]
def rawU (src dst : Int) (m : UdpP) : Int := 65535 - foldI (totalI (partsU src dst m))
def sumU (src dst : Int) (m : UdpP) : Int := if rawU src dst m = 0 then 65535 else rawU src dst m
def builtU (src dst : Int) (m : UdpP) : List Int := if m.ns = true then bytesU m 0 else bytesU m (sumU src dst m)
def builtU? (src dst : Int) (m : UdpP) (n : Nat) : List Int := if checkU m n = 0 then builtU src dst m else []
theorem bytesU_length (m : UdpP) (s : Int) : (bytesU m s).length = 8 + m.data.length := by simp [bytesU, digL_length]; omega
theorem bytesU_byts {m : UdpP} {s : Int} (hd : Byts m.data) : Byts (bytesU m s) := ((((digL_byts _ _).append (digL_byts _ _)).append (digL_byts _ _)).append (digL_byts _ _)).append hd
theorem rawU_bd (src dst : Int) (m : UdpP) : 0 ≤ rawU src dst m ∧ rawU src dst m ≤ 65535 := by
  have h1 := foldI_lo (totalI (partsU src dst m))
  have h2 := foldI_hi (totalI (partsU src dst m))
  unfold rawU; omega
theorem sumU_bd (src dst : Int) (m : UdpP) : 0 ≤ sumU src dst m ∧ sumU src dst m ≤ 65535 := by
  have := rawU_bd src dst m
  unfold sumU; split <;> omega
theorem en_RefUdpBytes (args : Array Value) (w : World) : (callFunc 60 args).run Try.prog w = .ok (.enter 60 args) w := enters Try.func60 (by kernel_rfl) (by kernel_rfl) args w

set_option maxRecDepth 100000 in
set_option maxHeartbeats 2000000 in
theorem RefUdpBytes_any (m : UdpP) (s : Int) (A : Option Addr) (n c : Nat) (w : World) (hd : RB w A n c m.data) (hok : checkU m n = 0) (hs0 : 0 ≤ s) (hs1 : s ≤ 65535) :
    Calls Try.prog 60 #[.agg (cellsU m A n c), .int .i64 s] w (Fresh w (8 + n) (bytesU m s)) := by
  obtain ⟨hs, hdd, hn⟩ := checkU_ok hok
  have hvb := VBox.new w (cellsU m A n c) 36
  have hb0 := (Below.refl _ w).alloc (Nat.le_refl _) (.cells (cellsU m A n c) 36)
  have hlt0 := hvb.lt
  have f1 := Lib.hid (fit2 hs.1 hs.2)
  have f2 := Lib.hid (fit2 hdd.1 hdd.2)
  have f3 := Lib.hid (fit2 (s := 8 + (n : Int)) (by omega) (by omega))
  have f4 := Lib.hid (fit2 hs0 (by omega))
  have hlen := Lib.hid hd.len
  have hby := Lib.hid (show bytesU m s = digL m.s 2 ++ digL m.d 2 ++ digL (8 + (n : Int)) 2 ++ digL s 2 ++ m.data by unfold bytesU; rw [hd.len])
  have hD := Lib.hid (fun W (hW : Below w.heap.size w W) => hd.below hW)
  have hF : ∀ W, Below (w.alloc (.cells (cellsU m A n c) 36)).heap.size (w.alloc (.cells (cellsU m A n c) 36)) W → W.cell? ⟨w.heap.size, 0, none⟩ = some (.int .i64 m.s) ∧ W.cell? ⟨w.heap.size, 1, none⟩ = some (.int .i64 m.d) ∧ W.cell? ⟨w.heap.size, 3, none⟩ = some (.slice A n c) := fun W hW => by
    have := hvb.below hW hvb.lt
    exact ⟨this.at_ 0 _ rfl, this.at_ 1 _ rfl, this.at_ 3 _ rfl⟩
  have hT := Lib.hid (fun W (hW : Below (w.alloc (.cells (cellsU m A n c) 36)).heap.size (w.alloc (.cells (cellsU m A n c) 36)) W) => hb0.trans (hW.mono hb0.size))
  have hsz0 := Lib.hid hb0.size
  replace hF := Lib.hid hF
  clear hd hok hvb hb0
  go_enter Try.func60, Try.ntmps60
  go_wp2
  generalize hw0 : w.alloc (.cells (cellsU m A n c) 36) = w0 at *
  replace hw0 := Lib.hid hw0
  go_region_held3 (fun W => (W.cell? ⟨w.heap.size, 0, none⟩ = some (.int .i64 m.s) ∧ W.cell? ⟨w.heap.size, 1, none⟩ = some (.int .i64 m.d) ∧ W.cell? ⟨w.heap.size, 3, none⟩ = some (.slice A n c)) ∧ Below w0.heap.size w0 W)
    (first | assumption | exact held0 hF.out)
    (first
    | (go_at_call_of 75 (Value.slice none 0 0); refine Calls.mono (RefPut_yes none 0 0 [] m.s 2 _ (RB.nil _) (by omega) f1.out) ?_; rintro e w1 ⟨A1, c1, rfl, ho1, hB1⟩; have hS1 := heldTo hF.out (held0 hF.out) hB1; have hr1 := Lib.hid ho1.rb; replace ho1 := 0; replace hB1 := 0)
    | (go_at_call_of 75 (Value.slice A1 2 c1); refine Calls.mono (RefPut_yes A1 _ c1 _ m.d 2 _ hr1.out (by omega) f2.out) ?_; rintro e w2 ⟨A2, c2, rfl, ho2, hB2⟩; have hS2 := heldTo hF.out hS1 hB2; replace ho2 := ho2.mono hS1.2.size; replace hB2 := 0)
    | fail)
  obtain ⟨y0, y1, y3⟩ := hS2.1
  have hr2 := Lib.hid ho2.rb
  have hS2h := Lib.hid hS2
  clear hS1 hS2
  go_wp2_with (first
    | (go_at_call_of 75 (Value.slice A2 4 c2); refine Calls.mono (RefPut_yes A2 _ c2 _ (8 + (n : Int)) 2 _ hr2.out (by omega) f3.out) ?_; rintro e w3 ⟨A3, c3, rfl, ho3, hB3⟩; have hS3 := Lib.hid (heldTo hF.out hS2h.out hB3); have hr3 := Lib.hid ho3.rb; replace ho3 := 0; replace hB3 := 0)
    | (go_at_call_of 75 (Value.slice A3 6 c3); refine Calls.mono (RefPut_yes A3 _ c3 _ s 2 _ hr3.out (by omega) f4.out) ?_; rintro e w4 ⟨A4, c4, rfl, ho4, hB4⟩; have hS4 := heldTo hF.out hS3.out hB4; replace ho4 := ho4.mono hS3.out.2.size; obtain ⟨x0, x1, x3⟩ := hS4.1; replace hS4 := Lib.hid hS4; replace hB4 := 0)
    | (at_builtin; refine wpList_append_bytes _ rfl (.tmp 20) (.tmp 22) rfl rfl rfl ho4 (hD.out _ (hT.out _ hS4.out.2)) (by omega) hS4.out.2.size ?_; intro A5 c5 w5 ho5 hg5 _; have hS5 := heldGr hF.out hS4.out ho4 hg5; clear hg5)
    | fail)
  go_ret
  exact ⟨A5, c5, by simp, by rw [hby.out]; simpa using ho5.mono hsz0.out, hT.out _ hS5.2⟩


set_option maxRecDepth 100000 in
set_option maxHeartbeats 4000000 in
theorem RefUdpBuild_any (src dst : Int) (m : UdpP) (A : Option Addr) (n c : Nat) (w : World) (hd : RB w A n c m.data) :
    Calls Try.prog 32 #[.int .i64 src, .int .i64 dst, .agg (cellsU m A n c)] w (TwoOut w (builtU? src dst m n) (checkU m n)) := by
  have hck := RefUdpCheck_any m A n c
  have hvb := Lib.hid (VBox.new w (cellsU m A n c) 36)
  have hb0 := Lib.hid ((Below.refl _ w).alloc (Nat.le_refl _) (.cells (cellsU m A n c) 36))
  by_cases hok : checkU m n = 0
  · unfold builtU? builtU
    rw [if_pos hok]
    have hBy := Lib.hid (fun s W (hW : Below w.heap.size w W) (h0 : 0 ≤ s) (h1 : s ≤ 65535) => RefUdpBytes_any m s A n c W (hd.below hW) hok h0 h1)
    obtain ⟨_, _, hn⟩ := checkU_ok hok
    rw [hok]
    rw [hok] at hck
    have hlen := hd.len
    have hraw := show rawU src dst m = 65535 - foldI (totalI [pseudoB src dst 17 (8 + (n : Int)), bytesU m 0]) by unfold rawU partsU; rw [hlen]
    have hsmall := Lib.hid (small_two (pseudoB_byts src dst 17 (8 + (n : Int))) (by rw [pseudoB_length]; omega) (bytesU_byts (m := m) (s := 0) hd.byt) (by rw [bytesU_length]; omega))
    have hOf := Lib.hid (fun A c W h => by have := RefOf_any A 2 c [pseudoB src dst 17 (8 + (n : Int)), bytesU m 0] W h hsmall.out; rw [← hraw] at this; exact this)
    have hxb := Lib.hid (rawU_bd src dst m)
    have hxs := show sumU src dst m = if rawU src dst m = 0 then 65535 else rawU src dst m from rfl
    generalize rawU src dst m = x at *
    replace hraw := 0
    replace hlen := 0
    clear hd hok
    cases hns : m.ns
    all_goals replace hns := Lib.hid hns
    · rw [if_neg (by simp)]
      cases hx0 : (x == 0)
      · have hx1 : sumU src dst m = x := by rw [hxs, if_neg (by simpa using hx0)]
        rw [hx1]
        replace hxs := 0
        replace hx1 := 0
        go_enter Try.func32, Try.ntmps32
        go_wp2_with (first
          | (go_at_call 59; refine (hck _).mono ?_; rintro e w1 ⟨rfl, hB1⟩; have hv1 := hvb.out.below hB1 (by simp); obtain ⟨z0, z1, z2, z3⟩ : _ ∧ _ ∧ _ ∧ _ := ⟨hv1.at_ 0 _ rfl, hv1.at_ 1 _ rfl, hv1.at_ 2 _ rfl, hv1.at_ 3 _ rfl⟩; have hBt1 := Lib.hid (hb0.out.trans (hB1.mono (by simp))); replace hv1 := Lib.hid hv1; replace hB1 := 0)
          | (go_at_call_of 60 (Value.int IntKind.i64 (0 : Int)); refine (hBy.out 0 _ hBt1.out (by omega) (by omega)).mono ?_; rintro e w2 ⟨A2, c2, rfl, ho2, hB2⟩; clear z0 z1 z2 z3; have hv2 := hv1.out.below hB2 hv1.out.lt; obtain ⟨y0, y1, y2, y3⟩ : _ ∧ _ ∧ _ ∧ _ := ⟨hv2.at_ 0 _ rfl, hv2.at_ 1 _ rfl, (hv2.at_ 2 (.bool m.ns) rfl).trans (congrArg (fun b => some (Value.bool b)) hns.out), hv2.at_ 3 _ rfl⟩; have hBt2 := Lib.hid (hBt1.out.trans (hB2.mono hBt1.out.size)); have hr2 := Lib.hid ho2.rb; replace hv2 := Lib.hid hv2; replace ho2 := 0; replace hB2 := 0)
          | (go_at_call 39; refine (RefPseudo_any src dst 17 (8 + (n : Int)) _).mono ?_; rintro e w3 ⟨A3, c3, rfl, ho3, hB3⟩; clear y0 y1 y2 y3; have hv3 := Lib.hid (hv2.out.below hB3 hv2.out.lt); have hBt3 := Lib.hid (hBt2.out.trans (hB3.mono hBt2.out.size)); have hrr := Lib.hid (rbb_two ho3.rb (hr2.out.below hB3)); replace ho3 := 0; replace hB3 := 0)
          | (go_at_call 61; refine (hOf.out _ _ _ hrr.out).mono ?_; rintro e w4 ⟨rfl, hB4⟩; have hv4 := (hv3.out.alloc _).below hB4 (by have := hv3.out.lt; simp; omega); obtain ⟨x0, x1, x2, x3⟩ : _ ∧ _ ∧ _ ∧ _ := ⟨hv4.at_ 0 _ rfl, hv4.at_ 1 _ rfl, hv4.at_ 2 _ rfl, hv4.at_ 3 _ rfl⟩; have hBt4 := Lib.hid ((hBt3.out.alloc hBt3.out.size _).trans (hB4.mono (by have := hBt3.out.size; simp; omega))); replace hv4 := 0; replace hB4 := 0)
          | (go_at_call 60; refine (hBy.out x _ hBt4.out hxb.out.1 hxb.out.2).mono ?_; rintro e w5 ⟨A5, c5, rfl, ho5, hB5⟩)
          | fail)
        go_ret2
        exact ⟨_, _, _, rfl, ho5.rb, hBt4.out.trans (hB5.mono hBt4.out.size)⟩
      · have hx1 : sumU src dst m = 65535 := by rw [hxs, if_pos (by simpa using hx0)]
        rw [hx1]
        replace hxs := 0
        replace hx1 := 0
        obtain rfl : x = 0 := by simpa using hx0
        replace hx0 := 0
        go_enter Try.func32, Try.ntmps32
        go_wp2_with (first
          | (go_at_call 59; refine (hck _).mono ?_; rintro e w1 ⟨rfl, hB1⟩; have hv1 := hvb.out.below hB1 (by simp); obtain ⟨z0, z1, z2, z3⟩ : _ ∧ _ ∧ _ ∧ _ := ⟨hv1.at_ 0 _ rfl, hv1.at_ 1 _ rfl, hv1.at_ 2 _ rfl, hv1.at_ 3 _ rfl⟩; have hBt1 := Lib.hid (hb0.out.trans (hB1.mono (by simp))); replace hv1 := Lib.hid hv1; replace hB1 := 0)
          | (go_at_call_of 60 (Value.int IntKind.i64 (0 : Int)); refine (hBy.out 0 _ hBt1.out (by omega) (by omega)).mono ?_; rintro e w2 ⟨A2, c2, rfl, ho2, hB2⟩; clear z0 z1 z2 z3; have hv2 := hv1.out.below hB2 hv1.out.lt; obtain ⟨y0, y1, y2, y3⟩ : _ ∧ _ ∧ _ ∧ _ := ⟨hv2.at_ 0 _ rfl, hv2.at_ 1 _ rfl, (hv2.at_ 2 (.bool m.ns) rfl).trans (congrArg (fun b => some (Value.bool b)) hns.out), hv2.at_ 3 _ rfl⟩; have hBt2 := Lib.hid (hBt1.out.trans (hB2.mono hBt1.out.size)); have hr2 := Lib.hid ho2.rb; replace hv2 := Lib.hid hv2; replace ho2 := 0; replace hB2 := 0)
          | (go_at_call 39; refine (RefPseudo_any src dst 17 (8 + (n : Int)) _).mono ?_; rintro e w3 ⟨A3, c3, rfl, ho3, hB3⟩; clear y0 y1 y2 y3; have hv3 := Lib.hid (hv2.out.below hB3 hv2.out.lt); have hBt3 := Lib.hid (hBt2.out.trans (hB3.mono hBt2.out.size)); have hrr := Lib.hid (rbb_two ho3.rb (hr2.out.below hB3)); replace ho3 := 0; replace hB3 := 0)
          | (go_at_call 61; refine (hOf.out _ _ _ hrr.out).mono ?_; rintro e w4 ⟨rfl, hB4⟩; have hv4 := (hv3.out.alloc _).below hB4 (by have := hv3.out.lt; simp; omega); obtain ⟨x0, x1, x2, x3⟩ : _ ∧ _ ∧ _ ∧ _ := ⟨hv4.at_ 0 _ rfl, hv4.at_ 1 _ rfl, hv4.at_ 2 _ rfl, hv4.at_ 3 _ rfl⟩; have hBt4 := Lib.hid ((hBt3.out.alloc hBt3.out.size _).trans (hB4.mono (by have := hBt3.out.size; simp; omega))); replace hv4 := 0; replace hB4 := 0)
          | (go_at_call 60; refine (hBy.out 65535 _ hBt4.out (by omega) (by omega)).mono ?_; rintro e w5 ⟨A5, c5, rfl, ho5, hB5⟩)
          | fail)
        go_ret2
        exact ⟨_, _, _, rfl, ho5.rb, hBt4.out.trans (hB5.mono hBt4.out.size)⟩
    · rw [if_pos rfl]
      replace hxs := 0
      go_enter Try.func32, Try.ntmps32
      go_wp2_with (first
        | (go_at_call 59; refine (hck _).mono ?_; rintro e w1 ⟨rfl, hB1⟩; have hv1 := hvb.out.below hB1 (by simp); obtain ⟨z0, z1, z2, z3⟩ : _ ∧ _ ∧ _ ∧ _ := ⟨hv1.at_ 0 _ rfl, hv1.at_ 1 _ rfl, hv1.at_ 2 _ rfl, hv1.at_ 3 _ rfl⟩; have hBt1 := Lib.hid (hb0.out.trans (hB1.mono (by simp))); replace hv1 := Lib.hid hv1; replace hB1 := 0)
        | (go_at_call_of 60 (Value.int IntKind.i64 (0 : Int)); refine (hBy.out 0 _ hBt1.out (by omega) (by omega)).mono ?_; rintro e w2 ⟨A2, c2, rfl, ho2, hB2⟩; clear z0 z1 z2 z3; have hv2 := hv1.out.below hB2 hv1.out.lt; have y2 := (hv2.at_ 2 (.bool m.ns) rfl).trans (congrArg (fun b => some (Value.bool b)) hns.out); have hBt2 := Lib.hid (hBt1.out.trans (hB2.mono hBt1.out.size)); have hr2 := Lib.hid ho2.rb; replace hv2 := 0; replace ho2 := 0; replace hB2 := 0)
        | fail)
      go_ret2
      exact ⟨_, _, _, rfl, hr2.out, hBt2.out⟩
  · unfold builtU?
    rw [if_neg hok]
    have hc := checkU_code m n
    generalize checkU m n = e0 at *
    go_enter Try.func32, Try.ntmps32
    rcases hc with rfl | rfl | rfl
    · exact absurd rfl hok
    all_goals
      clear hok
      go_wp2_with (go_at_call 59; refine (hck _).mono ?_; rintro e w1 ⟨rfl, hB1⟩)
      go_ret2
      exact ⟨none, 0, 0, rfl, RB.nil _, hb0.out.trans (hB1.mono (by simp))⟩
end Go.Proofs.Ytehecefapiblpaa
/- Datagrams (udp): walks of summed, Build. -/
set_option linter.unusedVariables false
namespace Go.Proofs.Ytehecefapiblpaa
open Go.RowKit

def rawB (src dst : Int) (bs : List Int) : Int := 65535 - foldI (totalI [pseudoB src dst 17 (bs.length : Nat), bs])
def summedI (src dst : Int) (bs : List Int) : Int := if rawB src dst bs = 0 then 65535 else rawB src dst bs
theorem rawB_bd (src dst : Int) (bs : List Int) : 0 ≤ rawB src dst bs ∧ rawB src dst bs ≤ 65535 := by
  have h1 := foldI_lo (totalI [pseudoB src dst 17 (bs.length : Nat), bs])
  have h2 := foldI_hi (totalI [pseudoB src dst 17 (bs.length : Nat), bs])
  unfold rawB; omega
theorem summedI_sum (src dst : Int) (m : UdpP) : summedI src dst (bytesU m 0) = sumU src dst m := by
  have : rawB src dst (bytesU m 0) = rawU src dst m := by
    unfold rawB rawU partsU
    rw [bytesU_length]
    have e : ((8 + m.data.length : Nat) : Int) = 8 + (m.data.length : Nat) := by omega
    rw [e]
  unfold summedI sumU
  rw [this]

set_option maxHeartbeats 1000000 in
theorem summed_any (src dst : Int) (A : Option Addr) (n c : Nat) (bs : List Int) (w : World) (h : RB w A n c bs) (hn : n ≤ 100000) :
    Calls Try.prog 146 #[.int .i64 src, .int .i64 dst, .slice A n c] w fun e w' => e = .returned (.int .i64 (summedI src dst bs)) ∧ Below w.heap.size w w' := by
  have hlen := h.len
  have hraw := show rawB src dst bs = 65535 - foldI (totalI [pseudoB src dst 17 (n : Int), bs]) by unfold rawB; rw [hlen]
  have hsmall := Lib.hid (small_two (pseudoB_byts src dst 17 (n : Int)) (by rw [pseudoB_length]; omega) h.byt (by omega))
  have hOf := Lib.hid (fun A c W h => by have := Of_any A 2 c [pseudoB src dst 17 (n : Int), bs] W h hsmall.out; rw [← hraw] at this; exact this)
  have hxs := show summedI src dst bs = if rawB src dst bs = 0 then 65535 else rawB src dst bs from rfl
  generalize rawB src dst bs = x at *
  replace hraw := 0
  replace hlen := 0
  replace h := Lib.hid h
  cases hx0 : (x == 0)
  · have hx1 : summedI src dst bs = x := by rw [hxs, if_neg (by simpa using hx0)]
    rw [hx1]
    replace hxs := 0
    replace hx1 := 0
    go_enter Try.func146, Try.ntmps146
    go_wp2_with (first
      | (go_at_call 91; refine (Pseudo_any src dst 17 (n : Int) _).mono ?_; rintro e w3 ⟨A3, c3, rfl, ho3, hB3⟩; have hrr := Lib.hid (rbb_two ho3.rb (h.out.below hB3)); have hB := Lib.hid hB3; replace ho3 := 0; replace hB3 := 0)
      | (go_at_call 97; refine (hOf.out _ _ _ hrr.out).mono ?_; rintro e w4 ⟨rfl, hB4⟩)
      | fail)
    go_ret
    exact ⟨rfl, (hB.out.alloc hB.out.size _).trans (hB4.mono (by have := hB.out.size; simp; omega))⟩
  · have hx1 : summedI src dst bs = 65535 := by rw [hxs, if_pos (by simpa using hx0)]
    rw [hx1]
    replace hxs := 0
    replace hx1 := 0
    obtain rfl : x = 0 := by simpa using hx0
    replace hx0 := 0
    go_enter Try.func146, Try.ntmps146
    go_wp2_with (first
      | (go_at_call 91; refine (Pseudo_any src dst 17 (n : Int) _).mono ?_; rintro e w3 ⟨A3, c3, rfl, ho3, hB3⟩; have hrr := Lib.hid (rbb_two ho3.rb (h.out.below hB3)); have hB := Lib.hid hB3; replace ho3 := 0; replace hB3 := 0)
      | (go_at_call 97; refine (hOf.out _ _ _ hrr.out).mono ?_; rintro e w4 ⟨rfl, hB4⟩)
      | fail)
    go_ret
    exact ⟨rfl, (hB.out.alloc hB.out.size _).trans (hB4.mono (by have := hB.out.size; simp; omega))⟩

/-- The first numbers of a datagram, as bytes. -/
def zsU (m : UdpP) (n : Nat) : List Int := [m.s, m.d, 8 + (n : Int), 0]
def preU (zs : List Int) (k : Nat) : List Int := ((zs.take k).map fun z => digL z 2).flatten
theorem preU_succ (zs : List Int) (k : Nat) (hk : k < zs.length) : preU zs (k + 1) = preU zs k ++ digL (zs[k]?.getD 0) 2 := by
  unfold preU
  rw [List.take_add_one, List.getElem?_eq_getElem hk]
  simp only [Option.toList_some, List.map_append, List.map_cons, List.map_nil, List.flatten_append, List.flatten_cons, List.flatten_nil, List.append_nil, Option.getD_some]
theorem preU_all (m : UdpP) (n : Nat) (h : m.data.length = n) : preU (zsU m n) 4 ++ m.data = bytesU m 0 := by
  unfold preU zsU bytesU
  rw [h]
  simp

theorem bytesU_set (m : UdpP) (s : Int) : setN (bytesU m 0) 6 (digL s 2) 2 = bytesU m s := by
  have := setN_two2 (digL m.s 2 ++ digL m.d 2 ++ digL (8 + (m.data.length : Nat)) 2) m.data 0 0 (digL s 2) 6 (by simp [digL_length]) (digL_length _ _)
  have e0 : digL 0 2 = [0, 0] := by decide
  unfold bytesU
  rw [e0]
  exact this

set_option maxRecDepth 100000 in
set_option maxHeartbeats 4000000 in
theorem UdpBuild_true (src dst ms md : Int) (data : List Int) (A : Option Addr) (n c : Nat) (w : World) (hd : RB w A n c data) (hok : checkU ⟨ms, md, true, data⟩ n = 0) :
    Calls Try.prog 143 #[.int .i64 src, .int .i64 dst, .agg #[.int .i64 ms, .int .i64 md, .bool true, .slice A n c]] w (TwoOut w (builtU src dst ⟨ms, md, true, data⟩) 0) := by
  have hck := UdpCheck_any ⟨ms, md, true, data⟩ A n c
  rw [hok] at hck
  have hvb := Lib.hid (VBox.new w #[.int .i64 ms, .int .i64 md, .bool true, .slice A n c] 36)
  have hb0 := Lib.hid ((Below.refl _ w).alloc (Nat.le_refl _) (.cells #[.int .i64 ms, .int .i64 md, .bool true, .slice A n c] 36))
  obtain ⟨hs, hdd, hn⟩ := checkU_ok hok
  have hD := Lib.hid (fun W (hW : Below w.heap.size w W) => hd.below hW)
  have hpre := Lib.hid (preU_all ⟨ms, md, true, data⟩ n hd.len)
  have hlz : (zsU ⟨ms, md, true, data⟩ n).length = 4 := rfl
  have hfz : ∀ k, k < 4 → fitsP ((zsU ⟨ms, md, true, data⟩ n)[k]?.getD 0) ((2 : Nat) : Int) := fun k hk => by
    have : k = 0 ∨ k = 1 ∨ k = 2 ∨ k = 3 := by omega
    rcases this with rfl | rfl | rfl | rfl
    · exact fit2 hs.1 hs.2
    · exact fit2 hdd.1 hdd.2
    · exact fit2 (s := 8 + (n : Int)) (by omega) (by omega)
    · exact fit2 (s := 0) (by omega) (by omega)
  have hri := fun W : World => RI.lit W 3 (zsU ⟨ms, md, true, data⟩ n)
  unfold zsU at hri
  simp only [List.map_cons, List.map_nil, List.length_cons, List.length_nil, Nat.zero_add, Nat.reduceAdd] at hri
  have hzs := show zsU ⟨ms, md, true, data⟩ n = [ms, md, 8 + (n : Int), 0] from rfl
  rw [← hzs] at hri
  generalize zsU ⟨ms, md, true, data⟩ n = zs at *
  replace hzs := 0
  replace hri := Lib.hid hri
  replace hfz := Lib.hid hfz
  replace hlz := Lib.hid hlz
  have hsm := Lib.hid (summedI_sum src dst ⟨ms, md, true, data⟩)
  have hsb := Lib.hid (sumU_bd src dst ⟨ms, md, true, data⟩)
  have hbl := Lib.hid (bytesU_length ⟨ms, md, true, data⟩ 0)
  have hset := Lib.hid (bytesU_set ⟨ms, md, true, data⟩ (sumU src dst ⟨ms, md, true, data⟩))
  have hlen := Lib.hid hd.len
  clear hd hok hs hdd
  go_enter Try.func143, Try.ntmps143
  go_wp2_with (first
    | (go_at_call 145; refine (hck _).mono ?_; rintro e w1 ⟨rfl, hB1⟩; have hv1 := hvb.out.below hB1 (by simp); have z0 := hv1.at_ 0 _ rfl; have z1 := hv1.at_ 1 _ rfl; have z2 := hv1.at_ 2 _ rfl; have z3 := hv1.at_ 3 _ rfl; have hBt1 := Lib.hid (hb0.out.trans (hB1.mono (by simp))); replace hv1 := Lib.hid hv1; replace hB1 := 0)
    | fail)
  have hRI := hri.out w1
  have hV := hv1.out.alloc (.cells #[.int .i64 ms, .int .i64 md, .int .i64 (8 + (n : Int)), .int .i64 0] 3)
  have hBw := hBt1.out.alloc hBt1.out.size (.cells #[.int .i64 ms, .int .i64 md, .int .i64 (8 + (n : Int)), .int .i64 0] 3)
  clear z0 z1 z2 z3
  replace hBt1 := 0
  replace hv1 := 0
  replace hvb := 0
  replace hb0 := 0
  replace hck := 0
  go_loopw [9, 11, 27] (fun v x i wr => ∃ (k : Nat) (A3 : Option Addr) (c3 : Nat), k ≤ 4 ∧ i = .int .i64 k ∧ v = .slice A3 (2 * k) c3 ∧ OB wr (w.heap.size + 1) A3 (2 * k) c3 (preU zs k) ∧ Below w.heap.size w wr ∧ VBox wr w.heap.size #[.int .i64 ms, .int .i64 md, .bool true, .slice A n c] ∧ RI wr (some ⟨w1.heap.size, 0, none⟩) 4 4 zs) (fun _ _ i _ => 4 - (intOf i).toNat)
  case atStart => exact ⟨0, none, 0, by omega, rfl, rfl, OB.nil _ _, hBw, hV, hRI⟩
  case round =>
    obtain ⟨k, A3, c3, hk, rfl, rfl, ho3, hB3, hV3, hR3⟩ := hrel
    clear hRI hV hBw
    by_cases hlt : k < 4
    · obtain ⟨b, off, e, hbl2, hc⟩ := hR3.mem (by omega)
      cases e
      have hcell := hc k hlt
      rw [Nat.zero_add] at hcell
      have hP := Lib.hid (Put_yes A3 (2 * k) c3 (preU zs k) (zs[k]?.getD 0) 2 wr ho3.rb (by omega) (hfz.out k hlt))
      have hsu := Lib.hid (preU_succ zs k (by rw [hlz.out]; exact hlt))
      replace hc := 0
      have hh := Lib.hid (And.intro hB3 (And.intro hV3 hR3))
      generalize zs[k]?.getD 0 = z at *
      clear hB3 hV3 hR3 ho3
      go_wp2_with (first
        | (go_at_call 95; refine hP.out.mono ?_; rintro e w4 ⟨A4, c4, rfl, ho4, hB4⟩)
        | fail)
      go_roundw
      case rel =>
        obtain ⟨q1, q2, q3⟩ := hh.out
        exact ⟨k + 1, A4, c4, by omega, by go_num, by rw [show 2 * (k + 1) = 2 * k + 2 by omega], by rw [hsu.out]; exact ho4.mono q2.lt, q1.trans (hB4.mono q1.size), q2.below hB4 q2.lt, q3.below hB4⟩
      case measure => simp [intOf]; omega
    · obtain rfl : k = 4 := by omega
      have y0 := hV3.at_ 0 _ rfl
      have y1 := hV3.at_ 1 _ rfl
      have y2 := hV3.at_ 2 _ rfl
      have y3 := hV3.at_ 3 _ rfl
      have hrd := Lib.hid (hD.out _ hB3)
      have hB3z := hB3.size
      have hltz := hV3.lt
      go_wp2_with (first
        | (at_builtin; refine wpList_append_bytes _ rfl (.tmp 35) (.tmp 37) rfl rfl rfl ho3 hrd.out (by omega) hltz ?_; intro A5 c5 w5 ho5 hg5 _; have hb5 := (Below.refl (w.heap.size + 1) wr).grown hg5 hltz (fun k hk => (ho3.blk hk).1); have hB5 := Lib.hid (hB3.trans (hb5.mono (by omega))); have hv5 := hV3.below hb5 (by omega); have x2 := hv5.at_ 2 _ rfl; rw [hpre.out] at ho5; have hr5 := Lib.hid ho5.rb; replace ho5 := 0; replace hv5 := 0; clear hg5 hb5)
        | fail)
      go_ret2
      exact ⟨A5, _, c5, rfl, by unfold builtU; rw [if_pos rfl]; exact hr5.out, hB5.out⟩
set_option maxRecDepth 100000 in
set_option maxHeartbeats 4000000 in
theorem UdpBuild_false (src dst ms md : Int) (data : List Int) (A : Option Addr) (n c : Nat) (w : World) (hd : RB w A n c data) (hok : checkU ⟨ms, md, false, data⟩ n = 0) :
    Calls Try.prog 143 #[.int .i64 src, .int .i64 dst, .agg #[.int .i64 ms, .int .i64 md, .bool false, .slice A n c]] w (TwoOut w (builtU src dst ⟨ms, md, false, data⟩) 0) := by
  have hck := UdpCheck_any ⟨ms, md, false, data⟩ A n c
  rw [hok] at hck
  have hvb := Lib.hid (VBox.new w #[.int .i64 ms, .int .i64 md, .bool false, .slice A n c] 36)
  have hb0 := Lib.hid ((Below.refl _ w).alloc (Nat.le_refl _) (.cells #[.int .i64 ms, .int .i64 md, .bool false, .slice A n c] 36))
  obtain ⟨hs, hdd, hn⟩ := checkU_ok hok
  have hD := Lib.hid (fun W (hW : Below w.heap.size w W) => hd.below hW)
  have hpre := Lib.hid (preU_all ⟨ms, md, false, data⟩ n hd.len)
  have hlz : (zsU ⟨ms, md, false, data⟩ n).length = 4 := rfl
  have hfz : ∀ k, k < 4 → fitsP ((zsU ⟨ms, md, false, data⟩ n)[k]?.getD 0) ((2 : Nat) : Int) := fun k hk => by
    have : k = 0 ∨ k = 1 ∨ k = 2 ∨ k = 3 := by omega
    rcases this with rfl | rfl | rfl | rfl
    · exact fit2 hs.1 hs.2
    · exact fit2 hdd.1 hdd.2
    · exact fit2 (s := 8 + (n : Int)) (by omega) (by omega)
    · exact fit2 (s := 0) (by omega) (by omega)
  have hri := fun W : World => RI.lit W 3 (zsU ⟨ms, md, false, data⟩ n)
  unfold zsU at hri
  simp only [List.map_cons, List.map_nil, List.length_cons, List.length_nil, Nat.zero_add, Nat.reduceAdd] at hri
  have hzs := show zsU ⟨ms, md, false, data⟩ n = [ms, md, 8 + (n : Int), 0] from rfl
  rw [← hzs] at hri
  generalize zsU ⟨ms, md, false, data⟩ n = zs at *
  replace hzs := 0
  replace hri := Lib.hid hri
  replace hfz := Lib.hid hfz
  replace hlz := Lib.hid hlz
  have hsm := Lib.hid (summedI_sum src dst ⟨ms, md, false, data⟩)
  have hsb := Lib.hid (sumU_bd src dst ⟨ms, md, false, data⟩)
  have hbl := Lib.hid (bytesU_length ⟨ms, md, false, data⟩ 0)
  have hset := Lib.hid (bytesU_set ⟨ms, md, false, data⟩ (sumU src dst ⟨ms, md, false, data⟩))
  have hlen := Lib.hid hd.len
  clear hd hok hs hdd
  go_enter Try.func143, Try.ntmps143
  go_wp2_with (first
    | (go_at_call 145; refine (hck _).mono ?_; rintro e w1 ⟨rfl, hB1⟩; have hv1 := hvb.out.below hB1 (by simp); have z0 := hv1.at_ 0 _ rfl; have z1 := hv1.at_ 1 _ rfl; have z2 := hv1.at_ 2 _ rfl; have z3 := hv1.at_ 3 _ rfl; have hBt1 := Lib.hid (hb0.out.trans (hB1.mono (by simp))); replace hv1 := Lib.hid hv1; replace hB1 := 0)
    | fail)
  have hRI := hri.out w1
  have hV := hv1.out.alloc (.cells #[.int .i64 ms, .int .i64 md, .int .i64 (8 + (n : Int)), .int .i64 0] 3)
  have hBw := hBt1.out.alloc hBt1.out.size (.cells #[.int .i64 ms, .int .i64 md, .int .i64 (8 + (n : Int)), .int .i64 0] 3)
  clear z0 z1 z2 z3
  replace hBt1 := 0
  replace hv1 := 0
  replace hvb := 0
  replace hb0 := 0
  replace hck := 0
  go_loopw [9, 11, 27] (fun v x i wr => ∃ (k : Nat) (A3 : Option Addr) (c3 : Nat), k ≤ 4 ∧ i = .int .i64 k ∧ v = .slice A3 (2 * k) c3 ∧ OB wr (w.heap.size + 1) A3 (2 * k) c3 (preU zs k) ∧ Below w.heap.size w wr ∧ VBox wr w.heap.size #[.int .i64 ms, .int .i64 md, .bool false, .slice A n c] ∧ RI wr (some ⟨w1.heap.size, 0, none⟩) 4 4 zs) (fun _ _ i _ => 4 - (intOf i).toNat)
  case atStart => exact ⟨0, none, 0, by omega, rfl, rfl, OB.nil _ _, hBw, hV, hRI⟩
  case round =>
    obtain ⟨k, A3, c3, hk, rfl, rfl, ho3, hB3, hV3, hR3⟩ := hrel
    clear hRI hV hBw
    by_cases hlt : k < 4
    · obtain ⟨b, off, e, hbl2, hc⟩ := hR3.mem (by omega)
      cases e
      have hcell := hc k hlt
      rw [Nat.zero_add] at hcell
      have hP := Lib.hid (Put_yes A3 (2 * k) c3 (preU zs k) (zs[k]?.getD 0) 2 wr ho3.rb (by omega) (hfz.out k hlt))
      have hsu := Lib.hid (preU_succ zs k (by rw [hlz.out]; exact hlt))
      replace hc := 0
      have hh := Lib.hid (And.intro hB3 (And.intro hV3 hR3))
      generalize zs[k]?.getD 0 = z at *
      clear hB3 hV3 hR3 ho3
      go_wp2_with (first
        | (go_at_call 95; refine hP.out.mono ?_; rintro e w4 ⟨A4, c4, rfl, ho4, hB4⟩)
        | fail)
      go_roundw
      case rel =>
        obtain ⟨q1, q2, q3⟩ := hh.out
        exact ⟨k + 1, A4, c4, by omega, by go_num, by rw [show 2 * (k + 1) = 2 * k + 2 by omega], by rw [hsu.out]; exact ho4.mono q2.lt, q1.trans (hB4.mono q1.size), q2.below hB4 q2.lt, q3.below hB4⟩
      case measure => simp [intOf]; omega
    · obtain rfl : k = 4 := by omega
      have y0 := hV3.at_ 0 _ rfl
      have y1 := hV3.at_ 1 _ rfl
      have y2 := hV3.at_ 2 _ rfl
      have y3 := hV3.at_ 3 _ rfl
      have hrd := Lib.hid (hD.out _ hB3)
      have hB3z := hB3.size
      have hltz := hV3.lt
      go_wp2_with (first
        | (at_builtin; refine wpList_append_bytes _ rfl (.tmp 35) (.tmp 37) rfl rfl rfl ho3 hrd.out (by omega) hltz ?_; intro A5 c5 w5 ho5 hg5 _; have hb5 := (Below.refl (w.heap.size + 1) wr).grown hg5 hltz (fun k hk => (ho3.blk hk).1); have hB5 := Lib.hid (hB3.trans (hb5.mono (by omega))); have hv5 := hV3.below hb5 (by omega); have x2 := hv5.at_ 2 _ rfl; rw [hpre.out] at ho5; have hr5 := Lib.hid ho5.rb; replace ho5 := 0; replace hv5 := 0; clear hg5 hb5)
        | (go_at_call 146; refine (summed_any src dst A5 _ c5 _ _ hr5.out (by omega)).mono ?_; rintro e w6 ⟨rfl, hb6⟩; rw [hsm.out]; have hr6 := Lib.hid (hr5.out.below hb6); have hB6 := Lib.hid (hB5.out.trans (hb6.mono hB5.out.size)); replace hb6 := 0)
        | (go_at_call 71; refine (Set_ok A5 _ c5 (bytesU ⟨ms, md, false, data⟩ 0) 6 (sumU src dst ⟨ms, md, false, data⟩) 2 _ hr6.out (by omega) (fit2 hsb.out.1 (by have := hsb.out.2; omega)) (by omega)).mono ?_; rintro e w7 ⟨A7, c7, rfl, ho7, hb7⟩)
        | fail)
      go_ret2
      rw [hset.out] at ho7
      exact ⟨A7, _, c7, rfl, by unfold builtU; rw [if_neg (by simp)]; exact ho7.rb, hB6.out.trans (hb7.mono hB6.out.size)⟩

set_option maxHeartbeats 1000000 in
theorem UdpBuild_any (src dst : Int) (m : UdpP) (A : Option Addr) (n c : Nat) (w : World) (hd : RB w A n c m.data) :
    Calls Try.prog 143 #[.int .i64 src, .int .i64 dst, .agg (cellsU m A n c)] w (TwoOut w (builtU? src dst m n) (checkU m n)) := by
  have hck := UdpCheck_any m A n c
  have hb0 := Lib.hid ((Below.refl _ w).alloc (Nat.le_refl _) (.cells (cellsU m A n c) 36))
  by_cases hok : checkU m n = 0
  · have e : builtU? src dst m n = builtU src dst m := by unfold builtU?; rw [if_pos hok]
    rw [e, hok]
    obtain ⟨ms, md, ns, data⟩ := m
    cases ns
    · exact UdpBuild_false src dst ms md data A n c w hd hok
    · exact UdpBuild_true src dst ms md data A n c w hd hok
  · unfold builtU?
    rw [if_neg hok]
    have hc := checkU_code m n
    generalize checkU m n = e0 at *
    go_enter Try.func143, Try.ntmps143
    rcases hc with rfl | rfl | rfl
    · exact absurd rfl hok
    all_goals
      clear hok
      go_wp2_with (go_at_call 145; refine (hck _).mono ?_; rintro e w1 ⟨rfl, hB1⟩)
      go_ret2
      exact ⟨none, 0, 0, rfl, RB.nil _, hb0.out.trans (hB1.mono (by simp))⟩
end Go.Proofs.Ytehecefapiblpaa
