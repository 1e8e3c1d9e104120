/- Datagrams (udp, and the reference): walks of Check, Same. -/
import Derived.Test.YtmbmmpbfmakfbaaUdp
import Derived.Test.YtmbmmpbfmakfbaaAppend
set_option linter.unusedVariables false
namespace Go.Proofs.Ytmbmmpbfmakfbaa
open Go.RowKit

/-- A datagram. -/
structure UdpP where
  s : Int
  d : Int
  ns : Bool
  data : List Int
abbrev cellsU (m : UdpP) (A : Option Addr) (n c : Nat) : Array Value := #[.int .i64 m.s, .int .i64 m.d, .bool m.ns, .slice A n c]
def checkU (m : UdpP) (n : Nat) : Int := if fitsB m.s 2 = false then 1 else if fitsB m.d 2 = false then 1 else if 65527 < n then 6 else 0

set_option maxHeartbeats 1000000 in
theorem RefUdpCheck_any (m : UdpP) (A : Option Addr) (n c : Nat) (w : World) :
    Calls Try.prog 38 #[.agg (cellsU m A n c)] w fun e w' => e = .returned (.int .i64 (checkU m n)) ∧ Below w.heap.size w w' := by
  have hb0 : Below w.heap.size w (w.alloc (.cells (cellsU m A n c) 36)) := (Below.refl _ w).alloc (Nat.le_refl _) _
  unfold checkU
  cases f0 : fitsB m.s 2
  · skip
    go_enter Try.func38, Try.ntmps38
    go_wp2_with (go_at_call 61; refine (RefFits_any _ _ _).mono ?_; rintro e w' ⟨rfl, rfl⟩)
    go_ret
    exact ⟨by simp, hb0⟩
  · cases f1 : fitsB m.d 2
    · skip
      go_enter Try.func38, Try.ntmps38
      go_wp2_with (go_at_call 61; refine (RefFits_any _ _ _).mono ?_; rintro e w' ⟨rfl, rfl⟩)
      go_ret
      exact ⟨by simp, hb0⟩
    · by_cases h6 : 65527 < n
      · skip
        go_enter Try.func38, Try.ntmps38
        go_wp2_with (go_at_call 61; refine (RefFits_any _ _ _).mono ?_; rintro e w' ⟨rfl, rfl⟩)
        go_ret
        exact ⟨by simp, hb0⟩
      · skip
        go_enter Try.func38, Try.ntmps38
        go_wp2_with (go_at_call 61; refine (RefFits_any _ _ _).mono ?_; rintro e w' ⟨rfl, rfl⟩)
        go_ret
        exact ⟨by simp, hb0⟩

theorem checkU_ok {m : UdpP} {n : Nat} (h : checkU m n = 0) : (0 ≤ m.s ∧ m.s < 65536) ∧ (0 ≤ m.d ∧ m.d < 65536) ∧ n ≤ 65527 := by
  unfold checkU at h
  by_cases h1 : fitsB m.s 2 = false
  · simp [h1] at h
  · by_cases h2 : fitsB m.d 2 = false
    · simp [h2] at h
    · rw [if_neg h1, if_neg h2] at h
      have k1 := of_decide_eq_true (show fitsB m.s 2 = true by simpa using h1)
      have k2 := of_decide_eq_true (show fitsB m.d 2 = true by simpa using h2)
      obtain ⟨_, a1, b1⟩ := k1
      obtain ⟨_, a2, b2⟩ := k2
      rw [pow2] at b1 b2
      by_cases h5 : 65527 < n
      · simp [h5] at h
      · exact ⟨⟨a1, b1⟩, ⟨a2, b2⟩, by omega⟩
theorem checkU_code (m : UdpP) (n : Nat) : checkU m n = 0 ∨ checkU m n = 1 ∨ checkU m n = 6 := by
  unfold checkU
  repeat' split
  all_goals simp

/-- Whether two datagrams are the same. -/
def sameU (p q : UdpP) : Bool := p.s == q.s && p.d == q.d && p.ns == q.ns && p.data == q.data

end Go.Proofs.Ytmbmmpbfmakfbaa
/- Datagrams (the reference): walks of bytes, Build. -/
set_option linter.unusedVariables false
namespace Go.Proofs.Ytmbmmpbfmakfbaa
open Go.RowKit

/-- A datagram's bytes, with a sum. -/
def bytesU (m : UdpP) (s : Int) : List Int := digL m.s 2 ++ digL m.d 2 ++ digL (8 + (m.data.length : Nat)) 2 ++ digL s 2 ++ m.data
def partsU (src dst : Int) (m : UdpP) : List (List Int) := [pseudoB src dst 17 (8 + (m.data.length : Nat)), bytesU m 0]
def rawU (src dst : Int) (m : UdpP) : Int := 65535 - foldI (totalI (partsU src dst m))
def sumU (src dst : Int) (m : UdpP) : Int := if rawU src dst m = 0 then 65535 else rawU src dst m
def builtU (src dst : Int) (m : UdpP) : List Int := if m.ns = true then bytesU m 0 else bytesU m (sumU src dst m)
def builtU? (src dst : Int) (m : UdpP) (n : Nat) : List Int := if checkU m n = 0 then builtU src dst m else []
theorem bytesU_length (m : UdpP) (s : Int) : (bytesU m s).length = 8 + m.data.length := by simp [bytesU, digL_length]; omega
theorem bytesU_byts {m : UdpP} {s : Int} (hd : Byts m.data) : Byts (bytesU m s) := ((((digL_byts _ _).append (digL_byts _ _)).append (digL_byts _ _)).append (digL_byts _ _)).append hd
theorem rawU_bd (src dst : Int) (m : UdpP) : 0 ≤ rawU src dst m ∧ rawU src dst m ≤ 65535 := by
  have h1 := foldI_lo (totalI (partsU src dst m))
  have h2 := foldI_hi (totalI (partsU src dst m))
  unfold rawU; omega
theorem sumU_bd (src dst : Int) (m : UdpP) : 0 ≤ sumU src dst m ∧ sumU src dst m ≤ 65535 := by
  have := rawU_bd src dst m
  unfold sumU; split <;> omega
theorem en_RefUdpBytes (args : Array Value) (w : World) : (callFunc 39 args).run Try.prog w = .ok (.enter 39 args) w := enters Try.func39 (by kernel_rfl) (by kernel_rfl) args w

set_option maxRecDepth 100000 in
set_option maxHeartbeats 2000000 in
theorem RefUdpBytes_any (m : UdpP) (s : Int) (A : Option Addr) (n c : Nat) (w : World) (hd : RB w A n c m.data) (hok : checkU m n = 0) (hs0 : 0 ≤ s) (hs1 : s ≤ 65535) :
    Calls Try.prog 39 #[.agg (cellsU m A n c), .int .i64 s] w (Fresh w (8 + n) (bytesU m s)) := by
  obtain ⟨hs, hdd, hn⟩ := checkU_ok hok
  have hvb := VBox.new w (cellsU m A n c) 36
  have hb0 := (Below.refl _ w).alloc (Nat.le_refl _) (.cells (cellsU m A n c) 36)
  have hlt0 := hvb.lt
  have f1 := Lib.hid (fit2 hs.1 hs.2)
  have f2 := Lib.hid (fit2 hdd.1 hdd.2)
  have f3 := Lib.hid (fit2 (s := 8 + (n : Int)) (by omega) (by omega))
  have f4 := Lib.hid (fit2 hs0 (by omega))
  have hlen := Lib.hid hd.len
  have hby := Lib.hid (show bytesU m s = digL m.s 2 ++ digL m.d 2 ++ digL (8 + (n : Int)) 2 ++ digL s 2 ++ m.data by unfold bytesU; rw [hd.len])
  have hD := Lib.hid (fun W (hW : Below w.heap.size w W) => hd.below hW)
  have hF : ∀ W, Below (w.alloc (.cells (cellsU m A n c) 36)).heap.size (w.alloc (.cells (cellsU m A n c) 36)) W → W.cell? ⟨w.heap.size, 0, none⟩ = some (.int .i64 m.s) ∧ W.cell? ⟨w.heap.size, 1, none⟩ = some (.int .i64 m.d) ∧ W.cell? ⟨w.heap.size, 3, none⟩ = some (.slice A n c) := fun W hW => by
    have := hvb.below hW hvb.lt
    exact ⟨this.at_ 0 _ rfl, this.at_ 1 _ rfl, this.at_ 3 _ rfl⟩
  have hT := Lib.hid (fun W (hW : Below (w.alloc (.cells (cellsU m A n c) 36)).heap.size (w.alloc (.cells (cellsU m A n c) 36)) W) => hb0.trans (hW.mono hb0.size))
  have hsz0 := Lib.hid hb0.size
  replace hF := Lib.hid hF
  clear hd hok hvb hb0
  go_enter Try.func39, Try.ntmps39
  go_wp2
  generalize hw0 : w.alloc (.cells (cellsU m A n c) 36) = w0 at *
  replace hw0 := Lib.hid hw0
  go_region_held3 (fun W => (W.cell? ⟨w.heap.size, 0, none⟩ = some (.int .i64 m.s) ∧ W.cell? ⟨w.heap.size, 1, none⟩ = some (.int .i64 m.d) ∧ W.cell? ⟨w.heap.size, 3, none⟩ = some (.slice A n c)) ∧ Below w0.heap.size w0 W)
    (first | assumption | exact held0 hF.out)
    (first
    | (go_at_call_of 54 (Value.slice none 0 0); refine Calls.mono (RefPut_yes none 0 0 [] m.s 2 _ (RB.nil _) (by omega) f1.out) ?_; rintro e w1 ⟨A1, c1, rfl, ho1, hB1⟩; have hS1 := heldTo hF.out (held0 hF.out) hB1; have hr1 := Lib.hid ho1.rb; replace ho1 := 0; replace hB1 := 0)
    | (go_at_call_of 54 (Value.slice A1 2 c1); refine Calls.mono (RefPut_yes A1 _ c1 _ m.d 2 _ hr1.out (by omega) f2.out) ?_; rintro e w2 ⟨A2, c2, rfl, ho2, hB2⟩; have hS2 := heldTo hF.out hS1 hB2; replace ho2 := ho2.mono hS1.2.size; replace hB2 := 0)
    | fail)
  obtain ⟨y0, y1, y3⟩ := hS2.1
  have hr2 := Lib.hid ho2.rb
  have hS2h := Lib.hid hS2
  clear hS1 hS2
  go_wp2_with (first
    | (go_at_call_of 54 (Value.slice A2 4 c2); refine Calls.mono (RefPut_yes A2 _ c2 _ (8 + (n : Int)) 2 _ hr2.out (by omega) f3.out) ?_; rintro e w3 ⟨A3, c3, rfl, ho3, hB3⟩; have hS3 := Lib.hid (heldTo hF.out hS2h.out hB3); have hr3 := Lib.hid ho3.rb; replace ho3 := 0; replace hB3 := 0)
    | (go_at_call_of 54 (Value.slice A3 6 c3); refine Calls.mono (RefPut_yes A3 _ c3 _ s 2 _ hr3.out (by omega) f4.out) ?_; rintro e w4 ⟨A4, c4, rfl, ho4, hB4⟩; have hS4 := heldTo hF.out hS3.out hB4; replace ho4 := ho4.mono hS3.out.2.size; obtain ⟨x0, x1, x3⟩ := hS4.1; replace hS4 := Lib.hid hS4; replace hB4 := 0)
    | (at_builtin; refine wpList_append_bytes _ rfl (.tmp 20) (.tmp 22) rfl rfl rfl ho4 (hD.out _ (hT.out _ hS4.out.2)) (by omega) hS4.out.2.size ?_; intro A5 c5 w5 ho5 hg5 _; have hS5 := heldGr hF.out hS4.out ho4 hg5; clear hg5)
    | fail)
  go_ret
  exact ⟨A5, c5, by simp, by rw [hby.out]; simpa using ho5.mono hsz0.out, hT.out _ hS5.2⟩


set_option maxRecDepth 100000 in
set_option maxHeartbeats 4000000 in
theorem RefUdpBuild_any (src dst : Int) (m : UdpP) (A : Option Addr) (n c : Nat) (w : World) (hd : RB w A n c m.data) :
    Calls Try.prog 23 #[.int .i64 src, .int .i64 dst, .agg (cellsU m A n c)] w (TwoOut w (builtU? src dst m n) (checkU m n)) := by
  have hck := RefUdpCheck_any m A n c
  have hvb := Lib.hid (VBox.new w (cellsU m A n c) 36)
  have hb0 := Lib.hid ((Below.refl _ w).alloc (Nat.le_refl _) (.cells (cellsU m A n c) 36))
  by_cases hok : checkU m n = 0
  · unfold builtU? builtU
    rw [if_pos hok]
    have hBy := Lib.hid (fun s W (hW : Below w.heap.size w W) (h0 : 0 ≤ s) (h1 : s ≤ 65535) => RefUdpBytes_any m s A n c W (hd.below hW) hok h0 h1)
    obtain ⟨_, _, hn⟩ := checkU_ok hok
    rw [hok]
    rw [hok] at hck
    have hlen := hd.len
    have hraw := show rawU src dst m = 65535 - foldI (totalI [pseudoB src dst 17 (8 + (n : Int)), bytesU m 0]) by unfold rawU partsU; rw [hlen]
    have hsmall := Lib.hid (small_two (pseudoB_byts src dst 17 (8 + (n : Int))) (by rw [pseudoB_length]; omega) (bytesU_byts (m := m) (s := 0) hd.byt) (by rw [bytesU_length]; omega))
    have hOf := Lib.hid (fun A c W h => by have := RefOf_any A 2 c [pseudoB src dst 17 (8 + (n : Int)), bytesU m 0] W h hsmall.out; rw [← hraw] at this; exact this)
    have hxb := Lib.hid (rawU_bd src dst m)
    have hxs := show sumU src dst m = if rawU src dst m = 0 then 65535 else rawU src dst m from rfl
    generalize rawU src dst m = x at *
    replace hraw := 0
    replace hlen := 0
    clear hd hok
    cases hns : m.ns
    all_goals replace hns := Lib.hid hns
    · rw [if_neg (by simp)]
      cases hx0 : (x == 0)
      · have hx1 : sumU src dst m = x := by rw [hxs, if_neg (by simpa using hx0)]
        rw [hx1]
        replace hxs := 0
        replace hx1 := 0
        go_enter Try.func23, Try.ntmps23
        go_wp2_with (first
          | (go_at_call 38; refine (hck _).mono ?_; rintro e w1 ⟨rfl, hB1⟩; have hv1 := hvb.out.below hB1 (by simp); obtain ⟨z0, z1, z2, z3⟩ : _ ∧ _ ∧ _ ∧ _ := ⟨hv1.at_ 0 _ rfl, hv1.at_ 1 _ rfl, hv1.at_ 2 _ rfl, hv1.at_ 3 _ rfl⟩; have hBt1 := Lib.hid (hb0.out.trans (hB1.mono (by simp))); replace hv1 := Lib.hid hv1; replace hB1 := 0)
          | (go_at_call_of 39 (Value.int IntKind.i64 (0 : Int)); refine (hBy.out 0 _ hBt1.out (by omega) (by omega)).mono ?_; rintro e w2 ⟨A2, c2, rfl, ho2, hB2⟩; clear z0 z1 z2 z3; have hv2 := hv1.out.below hB2 hv1.out.lt; obtain ⟨y0, y1, y2, y3⟩ : _ ∧ _ ∧ _ ∧ _ := ⟨hv2.at_ 0 _ rfl, hv2.at_ 1 _ rfl, (hv2.at_ 2 (.bool m.ns) rfl).trans (congrArg (fun b => some (Value.bool b)) hns.out), hv2.at_ 3 _ rfl⟩; have hBt2 := Lib.hid (hBt1.out.trans (hB2.mono hBt1.out.size)); have hr2 := Lib.hid ho2.rb; replace hv2 := Lib.hid hv2; replace ho2 := 0; replace hB2 := 0)
          | (go_at_call 30; refine (RefPseudo_any src dst 17 (8 + (n : Int)) _).mono ?_; rintro e w3 ⟨A3, c3, rfl, ho3, hB3⟩; clear y0 y1 y2 y3; have hv3 := Lib.hid (hv2.out.below hB3 hv2.out.lt); have hBt3 := Lib.hid (hBt2.out.trans (hB3.mono hBt2.out.size)); have hrr := Lib.hid (rbb_two ho3.rb (hr2.out.below hB3)); replace ho3 := 0; replace hB3 := 0)
          | (go_at_call 40; refine (hOf.out _ _ _ hrr.out).mono ?_; rintro e w4 ⟨rfl, hB4⟩; have hv4 := (hv3.out.alloc _).below hB4 (by have := hv3.out.lt; simp; omega); obtain ⟨x0, x1, x2, x3⟩ : _ ∧ _ ∧ _ ∧ _ := ⟨hv4.at_ 0 _ rfl, hv4.at_ 1 _ rfl, hv4.at_ 2 _ rfl, hv4.at_ 3 _ rfl⟩; have hBt4 := Lib.hid ((hBt3.out.alloc hBt3.out.size _).trans (hB4.mono (by have := hBt3.out.size; simp; omega))); replace hv4 := 0; replace hB4 := 0)
          | (go_at_call 39; refine (hBy.out x _ hBt4.out hxb.out.1 hxb.out.2).mono ?_; rintro e w5 ⟨A5, c5, rfl, ho5, hB5⟩)
          | fail)
        go_ret2
        exact ⟨_, _, _, rfl, ho5.rb, hBt4.out.trans (hB5.mono hBt4.out.size)⟩
      · have hx1 : sumU src dst m = 65535 := by rw [hxs, if_pos (by simpa using hx0)]
        rw [hx1]
        replace hxs := 0
        replace hx1 := 0
        obtain rfl : x = 0 := by simpa using hx0
        replace hx0 := 0
        go_enter Try.func23, Try.ntmps23
        go_wp2_with (first
          | (go_at_call 38; refine (hck _).mono ?_; rintro e w1 ⟨rfl, hB1⟩; have hv1 := hvb.out.below hB1 (by simp); obtain ⟨z0, z1, z2, z3⟩ : _ ∧ _ ∧ _ ∧ _ := ⟨hv1.at_ 0 _ rfl, hv1.at_ 1 _ rfl, hv1.at_ 2 _ rfl, hv1.at_ 3 _ rfl⟩; have hBt1 := Lib.hid (hb0.out.trans (hB1.mono (by simp))); replace hv1 := Lib.hid hv1; replace hB1 := 0)
          | (go_at_call_of 39 (Value.int IntKind.i64 (0 : Int)); refine (hBy.out 0 _ hBt1.out (by omega) (by omega)).mono ?_; rintro e w2 ⟨A2, c2, rfl, ho2, hB2⟩; clear z0 z1 z2 z3; have hv2 := hv1.out.below hB2 hv1.out.lt; obtain ⟨y0, y1, y2, y3⟩ : _ ∧ _ ∧ _ ∧ _ := ⟨hv2.at_ 0 _ rfl, hv2.at_ 1 _ rfl, (hv2.at_ 2 (.bool m.ns) rfl).trans (congrArg (fun b => some (Value.bool b)) hns.out), hv2.at_ 3 _ rfl⟩; have hBt2 := Lib.hid (hBt1.out.trans (hB2.mono hBt1.out.size)); have hr2 := Lib.hid ho2.rb; replace hv2 := Lib.hid hv2; replace ho2 := 0; replace hB2 := 0)
          | (go_at_call 30; refine (RefPseudo_any src dst 17 (8 + (n : Int)) _).mono ?_; rintro e w3 ⟨A3, c3, rfl, ho3, hB3⟩; clear y0 y1 y2 y3; have hv3 := Lib.hid (hv2.out.below hB3 hv2.out.lt); have hBt3 := Lib.hid (hBt2.out.trans (hB3.mono hBt2.out.size)); have hrr := Lib.hid (rbb_two ho3.rb (hr2.out.below hB3)); replace ho3 := 0; replace hB3 := 0)
          | (go_at_call 40; refine (hOf.out _ _ _ hrr.out).mono ?_; rintro e w4 ⟨rfl, hB4⟩; have hv4 := (hv3.out.alloc _).below hB4 (by have := hv3.out.lt; simp; omega); obtain ⟨x0, x1, x2, x3⟩ : _ ∧ _ ∧ _ ∧ _ := ⟨hv4.at_ 0 _ rfl, hv4.at_ 1 _ rfl, hv4.at_ 2 _ rfl, hv4.at_ 3 _ rfl⟩; have hBt4 := Lib.hid ((hBt3.out.alloc hBt3.out.size _).trans (hB4.mono (by have := hBt3.out.size; simp; omega))); replace hv4 := 0; replace hB4 := 0)
          | (go_at_call 39; refine (hBy.out 65535 _ hBt4.out (by omega) (by omega)).mono ?_; rintro e w5 ⟨A5, c5, rfl, ho5, hB5⟩)
          | fail)
        go_ret2
        exact ⟨_, _, _, rfl, ho5.rb, hBt4.out.trans (hB5.mono hBt4.out.size)⟩
    · rw [if_pos rfl]
      replace hxs := 0
      go_enter Try.func23, Try.ntmps23
      go_wp2_with (first
        | (go_at_call 38; refine (hck _).mono ?_; rintro e w1 ⟨rfl, hB1⟩; have hv1 := hvb.out.below hB1 (by simp); obtain ⟨z0, z1, z2, z3⟩ : _ ∧ _ ∧ _ ∧ _ := ⟨hv1.at_ 0 _ rfl, hv1.at_ 1 _ rfl, hv1.at_ 2 _ rfl, hv1.at_ 3 _ rfl⟩; have hBt1 := Lib.hid (hb0.out.trans (hB1.mono (by simp))); replace hv1 := Lib.hid hv1; replace hB1 := 0)
        | (go_at_call_of 39 (Value.int IntKind.i64 (0 : Int)); refine (hBy.out 0 _ hBt1.out (by omega) (by omega)).mono ?_; rintro e w2 ⟨A2, c2, rfl, ho2, hB2⟩; clear z0 z1 z2 z3; have hv2 := hv1.out.below hB2 hv1.out.lt; have y2 := (hv2.at_ 2 (.bool m.ns) rfl).trans (congrArg (fun b => some (Value.bool b)) hns.out); have hBt2 := Lib.hid (hBt1.out.trans (hB2.mono hBt1.out.size)); have hr2 := Lib.hid ho2.rb; replace hv2 := 0; replace ho2 := 0; replace hB2 := 0)
        | fail)
      go_ret2
      exact ⟨_, _, _, rfl, hr2.out, hBt2.out⟩
  · unfold builtU?
    rw [if_neg hok]
    have hc := checkU_code m n
    generalize checkU m n = e0 at *
    go_enter Try.func23, Try.ntmps23
    rcases hc with rfl | rfl | rfl
    · exact absurd rfl hok
    all_goals
      clear hok
      go_wp2_with (go_at_call 38; refine (hck _).mono ?_; rintro e w1 ⟨rfl, hB1⟩)
      go_ret2
      exact ⟨none, 0, 0, rfl, RB.nil _, hb0.out.trans (hB1.mono (by simp))⟩
end Go.Proofs.Ytmbmmpbfmakfbaa
/- Datagrams (udp): walks of summed, Build. -/
set_option linter.unusedVariables false
namespace Go.Proofs.Ytmbmmpbfmakfbaa
open Go.RowKit

def rawB (src dst : Int) (bs : List Int) : Int := 65535 - foldI (totalI [pseudoB src dst 17 (bs.length : Nat), bs])
def summedI (src dst : Int) (bs : List Int) : Int := if rawB src dst bs = 0 then 65535 else rawB src dst bs
theorem rawB_bd (src dst : Int) (bs : List Int) : 0 ≤ rawB src dst bs ∧ rawB src dst bs ≤ 65535 := by
  have h1 := foldI_lo (totalI [pseudoB src dst 17 (bs.length : Nat), bs])
  have h2 := foldI_hi (totalI [pseudoB src dst 17 (bs.length : Nat), bs])
  unfold rawB; omega
theorem summedI_sum (src dst : Int) (m : UdpP) : summedI src dst (bytesU m 0) = sumU src dst m := by
  have : rawB src dst (bytesU m 0) = rawU src dst m := by
    unfold rawB rawU partsU
    rw [bytesU_length]
    have e : ((8 + m.data.length : Nat) : Int) = 8 + (m.data.length : Nat) := by omega
    rw [e]
  unfold summedI sumU
  rw [this]

/-- The first numbers of a datagram, as bytes. -/
def zsU (m : UdpP) (n : Nat) : List Int := [m.s, m.d, 8 + (n : Int), 0]
def preU (zs : List Int) (k : Nat) : List Int := ((zs.take k).map fun z => digL z 2).flatten
theorem preU_succ (zs : List Int) (k : Nat) (hk : k < zs.length) : preU zs (k + 1) = preU zs k ++ digL (zs[k]?.getD 0) 2 := by
  unfold preU
  rw [List.take_add_one, List.getElem?_eq_getElem hk]
  simp only [Option.toList_some, List.map_append, List.map_cons, List.map_nil, List.flatten_append, List.flatten_cons, List.flatten_nil, List.append_nil, Option.getD_some]
theorem preU_all (m : UdpP) (n : Nat) (h : m.data.length = n) : preU (zsU m n) 4 ++ m.data = bytesU m 0 := by
  unfold preU zsU bytesU
  rw [h]
  simp

theorem bytesU_set (m : UdpP) (s : Int) : setN (bytesU m 0) 6 (digL s 2) 2 = bytesU m s := by
  have := setN_two2 (digL m.s 2 ++ digL m.d 2 ++ digL (8 + (m.data.length : Nat)) 2) m.data 0 0 (digL s 2) 6 (by simp [digL_length]) (digL_length _ _)
  have e0 : digL 0 2 = [0, 0] := by decide
  unfold bytesU
  rw [e0]
  exact this

end Go.Proofs.Ytmbmmpbfmakfbaa
