/- The law Cut4Cuts: its walk. -/
import Derived.Test.YtipigcpenmcaoaaCut4L
import Derived.Test.YtipigcpenmcaoaaCut4S
import Derived.Test.YtipigcpenmcaoaaReadV4
set_option linter.unusedVariables false
namespace Go.Proofs.Ytipigcpenmcaoaa
open Go Go.RowKit
attribute [local go_sem] Oper.semAt_some

theorem cutR4_len (p : V4P) (mtu : Int) (ho : cutK4 p mtu = 0 → 68 ≤ mtu ∧ p.opts.length ≤ 40) : (cutR4 p mtu).length ≤ p.data.length + 1 := by
  unfold cutR4
  split
  · rename_i h
    obtain ⟨h1, h2⟩ := ho h
    split
    · simp
    · have := fragsF_len mtu p.mf (copiedV p.opts) h1 (copied_len h2) (p.data.length + 1) p p.data h2
      unfold frags4; omega
  · simp
theorem cutK4_ok {p : V4P} {mtu : Int} (h : cutK4 p mtu = 0) : (68 ≤ mtu ∧ mtu ≤ 65535) ∧ checkV4 p p.opts.length p.data.length = 0 := by
  unfold cutK4 at h
  split at h
  · omega
  · split at h
    · exact absurd h (by assumption)
    · exact ⟨by omega, by omega⟩
theorem en_Law13Same (args : Array Value) (w : World) : (callFunc 16 args).run Try.prog w = .ok (.enter 16 args) w := enters Try.func16 (by kernel_rfl) (by kernel_rfl) args w
theorem en_Law13Awake (args : Array Value) (w : World) : (callFunc 13 args).run Try.prog w = .ok (.enter 13 args) w := enters Try.func13 (by kernel_rfl) (by kernel_rfl) args w
set_option maxRecDepth 100000 in
set_option maxHeartbeats 4000000 in
theorem Cut4Cuts_walk (p : V4P) (ao : Option Addr) (no co : Nat) (a : Option Addr) (n c : Nat) (mtu : Int) (B : Option Addr) (m k : Nat) (os : List Int) (w : World) (hro : RB w ao no co p.opts) (hr : RB w a n c p.data) (hfit : p.Fit) (hm0 : -9223372036854775808 ≤ mtu) (hm1 : mtu ≤ 9223372036854775807) (hos : RB w B m k os) :
    Calls Try.prog 3 #[.agg (cells4 p ao no co a n c), .int .i64 mtu, .slice B m k] w fun e w' => e = .returned (.bool true) ∧ Below w.heap.size w w' := by
  clear hm0 hm1 hfit
  have hb0 := Lib.hid ((Below.refl _ w).alloc (Nat.le_refl _) (.cells (cells4 p ao no co a n c) 24))
  have kP0 := Blk.new w (cells4 p ao no co a n c) 24
  have c9 := kP0.cell 9 (.slice ao no co) rfl
  have c10 := kP0.cell 10 (.slice a n c) rfl
  have kP := Lib.hid kP0
  clear kP0
  by_cases h1 : 3000 < n
  · have d1 : decide ((3000 : Int) < n) = true := decide_eq_true (by omega)
    clear hro hr hos
    go_enter Try.func3, Try.ntmps3
    go_wp2_with (first
      | (go_at_call 13; refine (awake13 _).mono ?_; rintro e w1 ⟨rfl, hB1⟩)
      | fail)
    go_ret
    exact ⟨by first | rfl | simp, hb0.out.trans (hB1.mono hb0.out.size)⟩
  have d1 : decide ((3000 : Int) < n) = false := decide_eq_false (by omega)
  by_cases h2 : 200 < no
  · have d2 : decide ((200 : Int) < no) = true := decide_eq_true (by omega)
    clear hro hr hos
    go_enter Try.func3, Try.ntmps3
    go_wp2_with (first
      | (go_at_call 13; refine (awake13 _).mono ?_; rintro e w1 ⟨rfl, hB1⟩)
      | fail)
    go_ret
    exact ⟨by first | rfl | simp, hb0.out.trans (hB1.mono hb0.out.size)⟩
  have d2 : decide ((200 : Int) < no) = false := decide_eq_false (by omega)
  by_cases h3 : 1000 < m
  · have d3 : decide ((1000 : Int) < m) = true := decide_eq_true (by omega)
    clear hro hr hos
    go_enter Try.func3, Try.ntmps3
    go_wp2_with (first
      | (go_at_call 13; refine (awake13 _).mono ?_; rintro e w1 ⟨rfl, hB1⟩)
      | fail)
    go_ret
    exact ⟨by first | rfl | simp, hb0.out.trans (hB1.mono hb0.out.size)⟩
  have d3 : decide ((1000 : Int) < m) = false := decide_eq_false (by omega)
  have hV := Lib.hid (show (Try.prog.info? 24).map (·.size) = some (cells4 p ao no co a n c).size from info_v4)
  have hC := Lib.hid (fun W (hW : Below w.heap.size w W) => Cut4_any p ao no co a n c mtu W (hro.below hW) (hr.below hW) (by omega) (by omega))
  have hRC := Lib.hid (fun W (hW : Below w.heap.size w W) => RefCut4_any p ao no co a n c mtu W (hro.below hW) (hr.below hW) (by omega) (by omega))
  have hD := Lib.hid (fun W (hW : Below w.heap.size w W) => Copied_any B m k os W (hos.below hW) (by omega))
  have hRD := Lib.hid (fun W (hW : Below w.heap.size w W) => RefCopied_any B m k os W (hos.below hW) (by omega))
  have hrl := cutR4_len p mtu (fun h => by
    have h4 := (cutK4_ok h).1.1
    have h5 := checkV4_ok (cutK4_ok h).2
    omega)
  rw [hr.len] at hrl
  generalize hkk : cutK4 p mtu = kk at *
  unfold Cut4Out CopOut at *
  rw [hkk] at hC hRC
  generalize cutR4 p mtu = rr at *
  generalize copiedV os = cv at *
  clear hro hr hos hkk
  go_enter Try.func3, Try.ntmps3
  go_wp2_with (first
    | (refine wpList_load_row rfl 24 (.tmp 3) rfl w.heap.size rfl _ (cells4 p ao no co a n c) _ _ kP1.out.at_ Try.underlying24 rfl hV.out ?_)
    | (refine wpList_load_row rfl 24 (.tmp 3) rfl w.heap.size rfl _ (cells4 p ao no co a n c) _ _ kP.out.at_ Try.underlying24 rfl hV.out ?_)
    | (go_at_call 14; refine (hC.out _ hb0.out).mono ?_; rintro e w1 ⟨A1, n1, c1, qs1, rfl, hL1, hp1, hB1⟩; have hb1 := Lib.hid (hb0.out.trans (hB1.mono hb0.out.size)); have kP1 := Lib.hid (kP.out.to hB1); have hn1 := Lib.hid (lr4_len hL1 hp1); replace hL1 := Lib.hid hL1; replace hp1 := Lib.hid hp1; replace hB1 := 0)
    | (go_at_call 15; refine (hRC.out _ hb1.out).mono ?_; rintro e w2 ⟨A2, n2, c2, qs2, rfl, hL2, hp2, hB2⟩; have hb2 := Lib.hid (hb1.out.trans (hB2.mono hb1.out.size)); replace hL1 := Lib.hid (hL1.out.below hB2); replace hL2 := Lib.hid hL2; replace hp2 := Lib.hid hp2; replace hB2 := 0)
    | (go_at_call 16; refine (Same13_any A1 n1 c1 A2 n2 c2 qs1 qs2 rr _ hL1.out hL2.out hp1.out hp2.out (by have := hn1.out; omega)).mono ?_; rintro e w3 ⟨rfl, hB3⟩; have hb3 := Lib.hid (hb2.out.trans (hB3.mono hb2.out.size)); replace hB3 := 0)
    | (go_at_call 18; refine (hD.out _ hb3.out).mono ?_; rintro e w4 ⟨A4, n4, c4, rfl, ho4, hB4⟩; have hb4 := Lib.hid (hb3.out.trans (hB4.mono hb3.out.size)); replace ho4 := Lib.hid ho4; replace hB4 := 0)
    | (go_at_call 19; refine (hRD.out _ hb4.out).mono ?_; rintro e w5 ⟨A5, n5, c5, rfl, ho5, hB5⟩; have hb5 := Lib.hid (hb4.out.trans (hB5.mono hb4.out.size)); replace ho4 := Lib.hid (ho4.out.rb.below hB5); replace ho5 := Lib.hid ho5.rb; replace hB5 := 0)
    | (go_at_call 17; refine (Equal_same _ _ _ _ _ _ _ _ ho4.out ho5.out).mono ?_; rintro e w' ⟨rfl, rfl⟩)
    | (go_at_call 13; refine (awake13 _).mono ?_; rintro e w6 ⟨rfl, hB6⟩)
    | fail)
  go_ret
  exact ⟨by first | rfl | simp, hb5.out.trans (hB6.mono hb5.out.size)⟩
end Go.Proofs.Ytipigcpenmcaoaa
