/- The law PortsTake: its walk; awake of chapter 11. -/
import Derived.Test.YtehecefapiblpaaPortsF
import Derived.Test.YtehecefapiblpaaV4B
import Derived.Test.YtehecefapiblpaaV4L
import Derived.Test.YtehecefapiblpaaAwake12
set_option linter.unusedVariables false
namespace Go.Proofs.Ytehecefapiblpaa
open Go Go.RowKit
attribute [local go_sem] Oper.semAt_some

/-- The ports of a datagram's packet. -/
theorem dg_ports {src dst f t ttl : Int} {data : List Int} (h1 : 0 ≤ src ∧ src < 4294967296) (h2 : 0 ≤ dst ∧ dst < 4294967296) (h3 : 0 ≤ f ∧ f < 65536) (h4 : 0 ≤ t ∧ t < 65536) (h5 : 0 ≤ ttl ∧ ttl < 256) (hn : data.length ≤ 60000) (hb : Byts data) :
    codeP (dgP src dst f t ttl data) = 0 ∧ portsP (dgP src dst f t ttl data) = (17, f, t) := by
  obtain ⟨k1, k2, k3, k4⟩ := dg_ok (src := src) (dst := dst) h1 h2 h3 h4 h5 hn hb
  obtain ⟨b1, b2⟩ := backU (src := src) (dst := dst) (m := dgU f t data) (n := data.length) rfl k1 hb
  have hc : codeP (dgP src dst f t ttl data) = 0 := by
    unfold codeP
    rw [if_neg (by rw [k4]; decide), if_neg (by rw [show wholeB (dgP src dst f t ttl data) = true from rfl]; decide), if_pos (show (dgP src dst f t ttl data).pr = 17 from rfl)]
    exact b1
  refine ⟨hc, ?_⟩
  unfold portsP
  rw [if_neg (by rw [hc]; decide), if_pos (show (dgP src dst f t ttl data).pr = 17 from rfl)]
  show (17, (readU src dst (builtU src dst (dgU f t data))).s, (readU src dst (builtU src dst (dgU f t data))).d) = _
  rw [b2]; rfl
set_option maxRecDepth 100000 in
set_option maxHeartbeats 2000000 in
theorem awake11 (w : World) : Calls Try.prog 28 #[] w fun e w' => e = .returned (.bool true) ∧ Below w.heap.size w w' := by
  have hD := Lib.hid (Datagram_any 167772161 3221225985 5 6 9 none 0 0 [] w (by omega) (by omega) (by omega) (by omega) (by omega) (by omega) (RB.nil w))
  obtain ⟨k1, k2, k3, k4⟩ := dg_ok (src := 167772161) (dst := 3221225985) (f := 5) (t := 6) (ttl := 9) (data := []) (by omega) (by omega) (by omega) (by omega) (by omega) (by simp) Byts.nil
  obtain ⟨p1, p2⟩ := dg_ports (src := 167772161) (dst := 3221225985) (f := 5) (t := 6) (ttl := 9) (data := []) (by omega) (by omega) (by omega) (by omega) (by omega) (by simp) Byts.nil
  obtain ⟨b1, b2, _, _⟩ := back4 (p := dgP 167772161 3221225985 5 6 9 []) k4 Byts.nil k3
  have hl := bytes4_length (dgP 167772161 3221225985 5 6 9 [])
  have hl2 : (bytes4 (dgP 167772161 3221225985 5 6 9 [])).length = 28 := by rw [hl, show (dgP 167772161 3221225985 5 6 9 []).data.length = 8 from k2]; rfl
  have hpr : (dgP 167772161 3221225985 5 6 9 []).pr = 17 := rfl
  have hdst : (dgP 167772161 3221225985 5 6 9 []).dst = 3221225985 := rfl
  have hol : (dgP 167772161 3221225985 5 6 9 []).opts.length = 0 := rfl
  have hdl : (dgP 167772161 3221225985 5 6 9 []).data.length = 8 := k2
  have hdb : Byts (dgP 167772161 3221225985 5 6 9 []).data := k3
  generalize dgP 167772161 3221225985 5 6 9 [] = p at *
  have hP := fun A n c W (h : RB W A n c (bytes4 p)) => Parse4_any A n c (bytes4 p) W h (by have := h.len; omega)
  rw [b1, b2] at hP
  have hM : codeM p 3325256705 7 = 0 := by unfold codeM; rw [if_neg (by rw [p1]; decide), if_pos ⟨by decide, by decide⟩]
  obtain ⟨m1, m2, m3, m4⟩ := mov_ok (p := p) (a := 3325256705) (b := p.dst) (s := 7) (d := -1) hdb p1 (by decide) (chk4_right k4).2 (.inr (by omega)) (.inl rfl)
  rw [if_neg (by rw [hpr]; decide), p2, hpr] at m4
  have hfp : fromP p 3325256705 7 = movP p 3325256705 p.dst 7 (-1) := by unfold fromP; rw [if_pos hM]
  have hF := fun Ao no co A n c W (h1 : RB W Ao no co p.opts) (h2 : RB W A n c p.data) => PortsFrom_any p 3325256705 7 Ao no co A n c W h1 h2 (by have := h1.len; omega) (by have := h2.len; omega)
  rw [hM, hfp] at hF
  have hq5 : (movP p 3325256705 p.dst 7 (-1)).src = 3325256705 := rfl
  have hqo : (movP p 3325256705 p.dst 7 (-1)).opts.length = 0 := hol
  have hqd : (movP p 3325256705 p.dst 7 (-1)).data.length = 8 := m1.trans hdl
  generalize movP p 3325256705 p.dst 7 (-1) = q at *
  have hO := fun Ao no co A n c W (h1 : RB W Ao no co q.opts) (h2 : RB W A n c q.data) => PortsOf_any q Ao no co A n c W h1 h2 (by have := h1.len; omega) (by have := h2.len; omega)
  unfold PortsOut at hO
  rw [m3, m4] at hO
  have hp7 : pickI 7 5 = 7 := by decide
  have hp6 : pickI (-1) 6 = 6 := by decide
  simp only [hp7, hp6] at hO
  unfold V4Out at hP
  unfold MovOut at hF
  replace hP := Lib.hid hP
  replace hF := Lib.hid hF
  replace hO := Lib.hid hO
  clear k1 k2 k3 k4 p1 p2 b1 b2 hl hl2 hpr hdst hol hdl hdb hM m1 m2 m3 m4 hfp hqo hqd hp7 hp6
  generalize bytes4 p = bs at *
  go_enter Try.func28, Try.ntmps28
  go_upto_region 4 with (first
    | (go_at_call 10; refine hD.out.mono ?_; rintro e w1 ⟨A1, n1, c1, rfl, hr1, hB1⟩; have hr1' := Lib.hid hr1; have hb1 := Lib.hid hB1; replace hB1 := 0; clear hr1)
    | (go_at_call 29; refine (hP.out _ _ _ _ hr1'.out).mono ?_; rintro e w2 ⟨A2, n2, c2, A3, n3, c3, rfl, ho2, hd2, hB2⟩; have hb2 := Lib.hid (hb1.out.trans (hB2.mono hb1.out.size)); have hb3 := Lib.hid (hb2.out.alloc hb2.out.size (.cells (cells4 p A2 n2 c2 A3 n3 c3) 32)); have ho3 := Lib.hid (ho2.rb.alloc (.cells (cells4 p A2 n2 c2 A3 n3 c3) 32)); have hd3 := Lib.hid (hd2.rb.alloc (.cells (cells4 p A2 n2 c2 A3 n3 c3) 32)); have k3 := Lib.hid (Blk.new w2 (cells4 p A2 n2 c2 A3 n3 c3) 32); replace hB2 := 0; clear ho2 hd2)
    | (refine wpList_store_4 rfl (.tmp 1) (.tmp 10) rfl w2.heap.size (cells4 p A2 n2 c2 A3 n3 c3) rfl rfl _ (Blk.new _ zero4c 32) rfl rfl (one4 _ _ _ _ _ _ _) ?_; rw [World.setRow_alloc_new])
    | (refine wpList_load_4 rfl (.tmp 1) rfl w2.heap.size rfl _ k3.out rfl ?_)
    | (go_at_call 30; refine (hF.out _ _ _ _ _ _ _ ho3.out hd3.out).mono ?_; rintro e w4 ⟨A4, n4, c4, A5, n5, c5, rfl, ho4, hd4, hB4⟩; have hb4 := Lib.hid (hb3.out.trans (hB4.mono hb3.out.size)); have hb5 := Lib.hid (hb4.out.alloc hb4.out.size (.cells (cells4 q A4 n4 c4 A5 n5 c5) 32)); have ho5 := Lib.hid (ho4.alloc (.cells (cells4 q A4 n4 c4 A5 n5 c5) 32)); have hd5 := Lib.hid (hd4.alloc (.cells (cells4 q A4 n4 c4 A5 n5 c5) 32)); have k5 := Lib.hid (Blk.new w4 (cells4 q A4 n4 c4 A5 n5 c5) 32); replace hB4 := 0; clear ho4 hd4)
    | (refine wpList_store_4 rfl (.tmp 3) (.tmp 15) rfl w4.heap.size (cells4 q A4 n4 c4 A5 n5 c5) rfl rfl _ (Blk.new _ zero4c 32) rfl rfl (one4 _ _ _ _ _ _ _) ?_; rw [World.setRow_alloc_new])
    | (refine wpList_load_4 rfl (.tmp 3) rfl w4.heap.size rfl _ k5.out rfl ?_)
    | (go_at_call 27; refine (hO.out _ _ _ _ _ _ _ ho5.out hd5.out).mono ?_; rintro e w6 ⟨rfl, hB6⟩; have hb6 := Lib.hid (hb5.out.trans (hB6.mono hb5.out.size)); have k6 := k5.out.to (hB6.alloc hB6.size (.cells (cellsPo (17, 7, 6)) 41)); have e5 := k6.cell 5 (.int .i64 q.src) rfl; have kP6 := Lib.hid (Blk.new w6 (cellsPo (17, 7, 6)) 41); replace hB6 := 0; clear k6)
    | fail)
  rw [hq5] at e5
  have hb7 := Lib.hid (hb6.out.alloc hb6.out.size (.cells (cellsPo (17, 7, 6)) 41))
  go_wp2_with (first
    | (refine wpList_load_PO rfl (.tmp 5) rfl w6.heap.size rfl _ kP6.out rfl ?_)
    | fail)
  go_ret
  exact ⟨by first | rfl | simp, hb7.out⟩
set_option maxRecDepth 100000 in
set_option maxHeartbeats 4000000 in
theorem PortsTake_walk (A : Option Addr) (n c : Nat) (bs : List Int) (addr port : Int) (w : World) (h : RB w A n c bs) (hx0 : -9223372036854775808 ≤ addr) (hx1 : addr ≤ 9223372036854775807) (hy0 : -9223372036854775808 ≤ port) (hy1 : port ≤ 9223372036854775807) :
    Calls Try.prog 8 #[.slice A n c, .int .i64 addr, .int .i64 port] w fun e w' => e = .returned (.bool true) ∧ Below w.heap.size w w' := by
  clear hx0 hx1 hy0 hy1
  have hb := Lib.hid (Below.refl w.heap.size w)
  by_cases c1 : 3000 < n
  · have c1i : (3000 : Int) < n := by omega
    clear h
    go_enter Try.func8, Try.ntmps8
    go_wp2_with (first
      | (go_at_call 28; refine (awake11 _).mono ?_; rintro e W1 ⟨rfl, hB⟩; have hbE := Lib.hid (hb.out.trans (hB.mono hb.out.size)); replace hB := 0)
      | fail)
    go_ret
    exact ⟨by first | rfl | simp, hbE.out⟩
  have c1i : ¬ (3000 : Int) < n := by omega
  have hP := fun W (hW : Below w.heap.size w W) => Parse4_any A n c bs W (h.below hW) (by omega)
  unfold V4Out at hP
  by_cases hk : codeV4 false bs = 0
  rotate_left
  · have hkn : (codeV4 false bs != 0) = true := by simpa using hk
    have hz : readV4 false bs = zero4 := by unfold readV4; rw [if_neg hk]
    rw [hz] at hP
    have hO := fun Ao no co A n c W (h1 : RB W Ao no co zero4.opts) (h2 : RB W A n c zero4.data) => PortsOf_any zero4 Ao no co A n c W h1 h2 (by have := h1.len; simp only [zero4, List.length_nil] at this; omega) (by have := h2.len; simp only [zero4, List.length_nil] at this; omega)
    unfold PortsOut at hO
    generalize codeV4 false bs = kk at *
    generalize zero4 = p at *
    generalize portsP p = xx at *
    generalize codeP p = k2 at *
    replace hP := Lib.hid hP
    replace hO := Lib.hid hO
    clear h hk hz
    go_enter Try.func8, Try.ntmps8
    go_wp2_with (first
      | (go_at_call 29; refine (hP.out _ hb.out).mono ?_; rintro e w1 ⟨Ao, no, co, A1, n1, c1', rfl, ho1, hd1, hB1⟩; have hb1 := Lib.hid (hB1.alloc hB1.size (.cells (cells4 p Ao no co A1 n1 c1') 32)); have k1 := Lib.hid (Blk.new w1 (cells4 p Ao no co A1 n1 c1') 32); have ho1' := Lib.hid (ho1.rb.alloc (.cells (cells4 p Ao no co A1 n1 c1') 32)); have hd1' := Lib.hid (hd1.rb.alloc (.cells (cells4 p Ao no co A1 n1 c1') 32)); clear ho1 hd1; replace hB1 := 0)
      | (refine wpList_store_4 rfl (.tmp 7) (.tmp 26) rfl w1.heap.size (cells4 p Ao no co A1 n1 c1') rfl rfl _ (Blk.new _ zero4c 32) rfl rfl (one4 _ _ _ _ _ _ _) ?_; rw [World.setRow_alloc_new])
      | (refine wpList_load_4 rfl (.tmp 7) rfl w1.heap.size rfl _ k1.out rfl ?_)
      | (go_at_call_of 27 (Value.agg (cells4 p Ao no co A1 n1 c1')); refine (hO.out _ _ _ _ _ _ _ ho1'.out hd1'.out).mono ?_; rintro e w2 ⟨rfl, hB2⟩; have hy2 := hB2.alloc hB2.size (.cells (cellsPo xx) 41); have hb2 := Lib.hid (hb1.out.trans (hy2.mono hb1.out.size)); have k2 := Lib.hid (k1.out.to hy2); have kP2 := Lib.hid (Blk.new w2 (cellsPo xx) 41); have ho2 := Lib.hid (ho1'.out.below hy2); have hd2 := Lib.hid (hd1'.out.below hy2); replace hy2 := 0; replace hB2 := 0)
      | (go_at_call 28; refine (awake11 _).mono ?_; rintro e W1 ⟨rfl, hB⟩; have hbE := Lib.hid (hb2.out.trans (hB.mono hb2.out.size)); replace hB := 0)
      | fail)
    go_ret
    exact ⟨by first | rfl | simp, hbE.out⟩
  have hch := readV4_chk hk
  have hbd : Byts (readV4 false bs).data := by
    have e : readV4 false bs = pack4 bs := by unfold readV4; rw [if_pos hk]
    rw [e]; exact (h.byt.take _).drop _
  rw [hk] at hP
  generalize readV4 false bs = p at *
  have hch' := hch
  obtain ⟨_, _, _, _, _, _, _, l1, _, l2, _⟩ := chk4_all hch'
  have hO := fun Ao no co A n c W (h1 : RB W Ao no co p.opts) (h2 : RB W A n c p.data) => PortsOf_any p Ao no co A n c W h1 h2 (by have := h1.len; omega) (by have := h2.len; omega)
  have hFr := fun Ao no co A n c W (h1 : RB W Ao no co p.opts) (h2 : RB W A n c p.data) => PortsFrom_any p addr port Ao no co A n c W h1 h2 (by have := h1.len; omega) (by have := h2.len; omega)
  have hTo := fun Ao no co A n c W (h1 : RB W Ao no co p.opts) (h2 : RB W A n c p.data) => PortsTo_any p addr port Ao no co A n c W h1 h2 (by have := h1.len; omega) (by have := h2.len; omega)
  unfold PortsOut at hO
  unfold MovOut at hFr hTo
  replace hP := Lib.hid hP
  clear h hk
  by_cases hc : codeP p = 0
  rotate_left
  · have hcn : (codeP p != 0) = true := by simpa using hc
    generalize codeP p = kk at *
    generalize portsP p = xx at *
    replace hO := Lib.hid hO
    clear hFr hTo hc hch hch' hbd l1 l2
    go_enter Try.func8, Try.ntmps8
    go_wp2_with (first
      | (go_at_call 29; refine (hP.out _ hb.out).mono ?_; rintro e w1 ⟨Ao, no, co, A1, n1, c1', rfl, ho1, hd1, hB1⟩; have hb1 := Lib.hid (hB1.alloc hB1.size (.cells (cells4 p Ao no co A1 n1 c1') 32)); have k1 := Lib.hid (Blk.new w1 (cells4 p Ao no co A1 n1 c1') 32); have ho1' := Lib.hid (ho1.rb.alloc (.cells (cells4 p Ao no co A1 n1 c1') 32)); have hd1' := Lib.hid (hd1.rb.alloc (.cells (cells4 p Ao no co A1 n1 c1') 32)); clear ho1 hd1; replace hB1 := 0)
      | (refine wpList_store_4 rfl (.tmp 7) (.tmp 26) rfl w1.heap.size (cells4 p Ao no co A1 n1 c1') rfl rfl _ (Blk.new _ zero4c 32) rfl rfl (one4 _ _ _ _ _ _ _) ?_; rw [World.setRow_alloc_new])
      | (refine wpList_load_4 rfl (.tmp 7) rfl w1.heap.size rfl _ k1.out rfl ?_)
      | (go_at_call_of 27 (Value.agg (cells4 p Ao no co A1 n1 c1')); refine (hO.out _ _ _ _ _ _ _ ho1'.out hd1'.out).mono ?_; rintro e w2 ⟨rfl, hB2⟩; have hy2 := hB2.alloc hB2.size (.cells (cellsPo xx) 41); have hb2 := Lib.hid (hb1.out.trans (hy2.mono hb1.out.size)); have k2 := Lib.hid (k1.out.to hy2); have kP2 := Lib.hid (Blk.new w2 (cellsPo xx) 41); have ho2 := Lib.hid (ho1'.out.below hy2); have hd2 := Lib.hid (hd1'.out.below hy2); replace hy2 := 0; replace hB2 := 0)
      | (go_at_call 28; refine (awake11 _).mono ?_; rintro e W1 ⟨rfl, hB⟩; have hbE := Lib.hid (hb2.out.trans (hB.mono hb2.out.size)); replace hB := 0)
      | fail)
    go_ret
    exact ⟨by first | rfl | simp, hbE.out⟩
  rw [hc] at hO
  by_cases hm : codeM p addr port = 0
  rotate_left
  · have hm1 : codeM p addr port = 1 := by
      unfold codeM at hm ⊢
      rw [if_neg (fun g => g hc)] at hm ⊢
      by_cases h : rightB addr = true ∧ fitsB port 2 = true
      · rw [if_pos h] at hm; exact absurd rfl hm
      · rw [if_neg h]
    rw [hm1] at hFr hTo
    generalize portsP p = xx at *
    generalize fromP p addr port = q at *
    generalize toP p addr port = r at *
    replace hO := Lib.hid hO
    replace hFr := Lib.hid hFr
    replace hTo := Lib.hid hTo
    clear hm hm1 hc hch hch' hbd l1 l2
    go_enter Try.func8, Try.ntmps8
    go_wp2_with (first
      | (go_at_call 29; refine (hP.out _ hb.out).mono ?_; rintro e w1 ⟨Ao, no, co, A1, n1, c1', rfl, ho1, hd1, hB1⟩; have hb1 := Lib.hid (hB1.alloc hB1.size (.cells (cells4 p Ao no co A1 n1 c1') 32)); have k1 := Lib.hid (Blk.new w1 (cells4 p Ao no co A1 n1 c1') 32); have ho1' := Lib.hid (ho1.rb.alloc (.cells (cells4 p Ao no co A1 n1 c1') 32)); have hd1' := Lib.hid (hd1.rb.alloc (.cells (cells4 p Ao no co A1 n1 c1') 32)); clear ho1 hd1; replace hB1 := 0)
      | (refine wpList_store_4 rfl (.tmp 7) (.tmp 26) rfl w1.heap.size (cells4 p Ao no co A1 n1 c1') rfl rfl _ (Blk.new _ zero4c 32) rfl rfl (one4 _ _ _ _ _ _ _) ?_; rw [World.setRow_alloc_new])
      | (refine wpList_load_4 rfl (.tmp 7) rfl w1.heap.size rfl _ k1.out rfl ?_)
      | (go_at_call_of 27 (Value.agg (cells4 p Ao no co A1 n1 c1')); refine (hO.out _ _ _ _ _ _ _ ho1'.out hd1'.out).mono ?_; rintro e w2 ⟨rfl, hB2⟩; have hy2 := hB2.alloc hB2.size (.cells (cellsPo xx) 41); have hb2 := Lib.hid (hb1.out.trans (hy2.mono hb1.out.size)); have k2 := Lib.hid (k1.out.to hy2); have kP2 := Lib.hid (Blk.new w2 (cellsPo xx) 41); have ho2 := Lib.hid (ho1'.out.below hy2); have hd2 := Lib.hid (hd1'.out.below hy2); replace hy2 := 0; replace hB2 := 0)
      | (refine wpList_load_4 rfl (.tmp 7) rfl w1.heap.size rfl _ k2.out rfl ?_)
      | (go_at_call 30; refine (hFr.out _ _ _ _ _ _ _ ho2.out hd2.out).mono ?_; rintro e w3 ⟨A3, n3, c3, A4, n4, c4, rfl, ho3, hd3, hB3⟩; have hy3 := hB3.alloc hB3.size (.cells (cells4 q A3 n3 c3 A4 n4 c4) 32); have hb3 := Lib.hid (hb2.out.trans (hy3.mono hb2.out.size)); have k3 := Lib.hid (k2.out.to hy3); have kP3 := Lib.hid (kP2.out.to hy3); have kQ3 := Lib.hid (Blk.new w3 (cells4 q A3 n3 c3 A4 n4 c4) 32); have hpo3 := Lib.hid (ho2.out.below hy3); have hpd3 := Lib.hid (hd2.out.below hy3); have hqo3 := Lib.hid (ho3.alloc (.cells (cells4 q A3 n3 c3 A4 n4 c4) 32)); have hqd3 := Lib.hid (hd3.alloc (.cells (cells4 q A3 n3 c3 A4 n4 c4) 32)); clear ho3 hd3 hy3; replace hB3 := 0)
      | (refine wpList_store_4 rfl (.tmp 11) (.tmp 45) rfl w3.heap.size (cells4 q A3 n3 c3 A4 n4 c4) rfl rfl _ (Blk.new _ zero4c 32) rfl rfl (one4 _ _ _ _ _ _ _) ?_; rw [World.setRow_alloc_new])
      | (refine wpList_load_4 rfl (.tmp 7) rfl w1.heap.size rfl _ k3.out rfl ?_)
      | (go_at_call 31; refine (hTo.out _ _ _ _ _ _ _ hpo3.out hpd3.out).mono ?_; rintro e w4 ⟨A5, n5, c5, A6, n6, c6, rfl, ho4, hd4, hB4⟩; have hy4 := hB4.alloc hB4.size (.cells (cells4 r A5 n5 c5 A6 n6 c6) 32); have hb4 := Lib.hid (hb3.out.trans (hy4.mono hb3.out.size)); have k4 := Lib.hid (k3.out.to hy4); have kP4 := Lib.hid (kP3.out.to hy4); have kQ4 := Lib.hid (kQ3.out.to hy4); have kR4 := Lib.hid (Blk.new w4 (cells4 r A5 n5 c5 A6 n6 c6) 32); have hpo4 := Lib.hid (hpo3.out.below hy4); have hqo4 := Lib.hid (hqo3.out.below hy4); have hqd4 := Lib.hid (hqd3.out.below hy4); have hro4 := Lib.hid (ho4.alloc (.cells (cells4 r A5 n5 c5 A6 n6 c6) 32)); have hrd4 := Lib.hid (hd4.alloc (.cells (cells4 r A5 n5 c5 A6 n6 c6) 32)); clear ho4 hd4 hy4; replace hB4 := 0)
      | (refine wpList_store_4 rfl (.tmp 13) (.tmp 52) rfl w4.heap.size (cells4 r A5 n5 c5 A6 n6 c6) rfl rfl _ (Blk.new _ zero4c 32) rfl rfl (one4 _ _ _ _ _ _ _) ?_; rw [World.setRow_alloc_new])
      | (go_at_call 28; refine (awake11 _).mono ?_; rintro e W1 ⟨rfl, hB⟩; have hbE := Lib.hid (hb4.out.trans (hB.mono hb4.out.size)); replace hB := 0)
      | fail)
    go_ret
    exact ⟨by first | rfl | simp, hbE.out⟩
  obtain ⟨ha, hf⟩ : rightB addr = true ∧ fitsB port 2 = true := by
    unfold codeM at hm
    rw [if_neg (fun g => g hc)] at hm
    by_cases h : rightB addr = true ∧ fitsB port 2 = true
    · exact h
    · rw [if_neg h] at hm; cases hm
  have hpt := of_decide_eq_true hf
  have hpt0 : 0 ≤ port ∧ port < 65536 := ⟨hpt.2.1, hpt.2.2⟩
  obtain ⟨rs, rd⟩ := chk4_right hch
  obtain ⟨m1, m2, m3, m4⟩ := mov_ok (p := p) (a := addr) (b := p.dst) (s := port) (d := -1) hbd hc ha rd (fits_may hf) (.inl rfl)
  obtain ⟨t1, t2, t3, t4⟩ := mov_ok (p := p) (a := p.src) (b := addr) (s := -1) (d := port) hbd hc rs ha (.inl rfl) (fits_may hf)
  have hfp : fromP p addr port = movP p addr p.dst port (-1) := by unfold fromP; rw [if_pos hm]
  have htp : toP p addr port = movP p p.src addr (-1) port := by unfold toP; rw [if_pos hm]
  rw [hm, hfp] at hFr
  rw [hm, htp] at hTo
  have e1 : pickI port (-1) % 65536 = port := by unfold pickI; rw [if_neg (by omega)]; omega
  have e2 : pickI (-1) port % 65536 = port := by unfold pickI; rw [if_pos rfl]; omega
  have e3 : ∀ x, pickI port x = port := fun x => by unfold pickI; rw [if_neg (by omega)]
  have e4 : ∀ x, pickI (-1) x = x := fun x => by unfold pickI; rw [if_pos rfl]
  rw [e1, e3, e4] at m4
  rw [e2, e3, e4] at t4
  obtain ⟨x1, x3, hq1, hq2⟩ : ∃ x1 x3, portsP (movP p addr p.dst port (-1)) = (x1, port, x3) ∧ (p.pr ≠ 1 → x3 = (portsP p).2.2) := by
    rw [m4]; split
    · exact ⟨_, _, rfl, fun h => absurd (by assumption) h⟩
    · exact ⟨_, _, rfl, fun _ => rfl⟩
  obtain ⟨y1, y2, hr1, hr2⟩ : ∃ y1 y2, portsP (movP p p.src addr (-1) port) = (y1, y2, port) ∧ (p.pr ≠ 1 → y2 = (portsP p).2.1) := by
    rw [t4]; split
    · exact ⟨_, _, rfl, fun h => absurd (by assumption) h⟩
    · exact ⟨_, _, rfl, fun _ => rfl⟩
  have hOq := fun Ao no co A n c W (h1 : RB W Ao no co (movP p addr p.dst port (-1)).opts) (h2 : RB W A n c (movP p addr p.dst port (-1)).data) => PortsOf_any (movP p addr p.dst port (-1)) Ao no co A n c W h1 h2 (by have h3 := h1.len; have h4 : (movP p addr p.dst port (-1)).opts.length = p.opts.length := rfl; omega) (by have h3 := h2.len; have h4 : (movP p addr p.dst port (-1)).data.length = p.data.length := m1; omega)
  have hOr := fun Ao no co A n c W (h1 : RB W Ao no co (movP p p.src addr (-1) port).opts) (h2 : RB W A n c (movP p p.src addr (-1) port).data) => PortsOf_any (movP p p.src addr (-1) port) Ao no co A n c W h1 h2 (by have h3 := h1.len; have h4 : (movP p p.src addr (-1) port).opts.length = p.opts.length := rfl; omega) (by have h3 := h2.len; have h4 : (movP p p.src addr (-1) port).data.length = p.data.length := t1; omega)
  unfold PortsOut at hOq hOr
  rw [m3, hq1] at hOq
  rw [t3, hr1] at hOr
  obtain ⟨xx, hxx⟩ : ∃ xx, portsP p = xx := ⟨_, rfl⟩
  rw [hxx] at hO hq2 hr2
  have j1 : (movP p addr p.dst port (-1)).src = addr := rfl
  have j2 : (movP p addr p.dst port (-1)).dst = p.dst := rfl
  have j3 : (movP p addr p.dst port (-1)).ttl = p.ttl := rfl
  have j4 : (movP p addr p.dst port (-1)).opts = p.opts := rfl
  have j5 := Lib.hid (show (movP p addr p.dst port (-1)).data.length = p.data.length from m1)
  have j6 : (movP p p.src addr (-1) port).src = p.src := rfl
  have j7 : (movP p p.src addr (-1) port).dst = addr := rfl
  generalize movP p addr p.dst port (-1) = q at *
  generalize movP p p.src addr (-1) port = r at *
  replace hO := Lib.hid hO
  replace hFr := Lib.hid hFr
  replace hTo := Lib.hid hTo
  replace hOq := Lib.hid hOq
  replace hOr := Lib.hid hOr
  replace j4 := Lib.hid j4
  clear m1 m2 m3 m4 t1 t2 t3 t4 hfp htp hm hc hch hch' hbd l1 l2 ha hf hpt hpt0 rs rd e1 e2 e3 e4 hq1 hr1 hxx
  have hcond : p.pr = 1 ∨ (p.pr ≠ 1 ∧ x3 = xx.2.2 ∧ y2 = xx.2.1) := by
    by_cases h1 : p.pr = 1
    · exact .inl h1
    · exact .inr ⟨h1, hq2 h1, hr2 h1⟩
  clear hq2 hr2
  go_enter Try.func8, Try.ntmps8
  go_upto_region 13 with (first
    | (go_at_call 29; refine (hP.out _ hb.out).mono ?_; rintro e w1 ⟨Ao, no, co, A1, n1, c1', rfl, ho1, hd1, hB1⟩; have hb1 := Lib.hid (hB1.alloc hB1.size (.cells (cells4 p Ao no co A1 n1 c1') 32)); have k1 := Lib.hid (Blk.new w1 (cells4 p Ao no co A1 n1 c1') 32); have ho1' := Lib.hid (ho1.rb.alloc (.cells (cells4 p Ao no co A1 n1 c1') 32)); have hd1' := Lib.hid (hd1.rb.alloc (.cells (cells4 p Ao no co A1 n1 c1') 32)); clear ho1 hd1; replace hB1 := 0)
    | (refine wpList_store_4 rfl (.tmp 7) (.tmp 26) rfl w1.heap.size (cells4 p Ao no co A1 n1 c1') rfl rfl _ (Blk.new _ zero4c 32) rfl rfl (one4 _ _ _ _ _ _ _) ?_; rw [World.setRow_alloc_new])
    | (refine wpList_load_4 rfl (.tmp 7) rfl w1.heap.size rfl _ k1.out rfl ?_)
    | (go_at_call_of 27 (Value.agg (cells4 p Ao no co A1 n1 c1')); refine (hO.out _ _ _ _ _ _ _ ho1'.out hd1'.out).mono ?_; rintro e w2 ⟨rfl, hB2⟩; have hy2 := hB2.alloc hB2.size (.cells (cellsPo xx) 41); have hb2 := Lib.hid (hb1.out.trans (hy2.mono hb1.out.size)); have k2 := Lib.hid (k1.out.to hy2); have kP2 := Lib.hid (Blk.new w2 (cellsPo xx) 41); have ho2 := Lib.hid (ho1'.out.below hy2); have hd2 := Lib.hid (hd1'.out.below hy2); replace hy2 := 0; replace hB2 := 0)
    | (refine wpList_load_4 rfl (.tmp 7) rfl w1.heap.size rfl _ k2.out rfl ?_)
    | (go_at_call 30; refine (hFr.out _ _ _ _ _ _ _ ho2.out hd2.out).mono ?_; rintro e w3 ⟨A3, n3, c3, A4, n4, c4, rfl, ho3, hd3, hB3⟩; have hy3 := hB3.alloc hB3.size (.cells (cells4 q A3 n3 c3 A4 n4 c4) 32); have hb3 := Lib.hid (hb2.out.trans (hy3.mono hb2.out.size)); have k3 := Lib.hid (k2.out.to hy3); have kP3 := Lib.hid (kP2.out.to hy3); have kQ3 := Lib.hid (Blk.new w3 (cells4 q A3 n3 c3 A4 n4 c4) 32); have hpo3 := Lib.hid (ho2.out.below hy3); have hpd3 := Lib.hid (hd2.out.below hy3); have hqo3 := Lib.hid (ho3.alloc (.cells (cells4 q A3 n3 c3 A4 n4 c4) 32)); have hqd3 := Lib.hid (hd3.alloc (.cells (cells4 q A3 n3 c3 A4 n4 c4) 32)); clear ho3 hd3 hy3; replace hB3 := 0)
    | (refine wpList_store_4 rfl (.tmp 11) (.tmp 45) rfl w3.heap.size (cells4 q A3 n3 c3 A4 n4 c4) rfl rfl _ (Blk.new _ zero4c 32) rfl rfl (one4 _ _ _ _ _ _ _) ?_; rw [World.setRow_alloc_new])
    | (refine wpList_load_4 rfl (.tmp 7) rfl w1.heap.size rfl _ k3.out rfl ?_)
    | (go_at_call 31; refine (hTo.out _ _ _ _ _ _ _ hpo3.out hpd3.out).mono ?_; rintro e w4 ⟨A5, n5, c5, A6, n6, c6, rfl, ho4, hd4, hB4⟩; have hy4 := hB4.alloc hB4.size (.cells (cells4 r A5 n5 c5 A6 n6 c6) 32); have hb4 := Lib.hid (hb3.out.trans (hy4.mono hb3.out.size)); have k4 := Lib.hid (k3.out.to hy4); have kP4 := Lib.hid (kP3.out.to hy4); have kQ4 := Lib.hid (kQ3.out.to hy4); have kR4 := Lib.hid (Blk.new w4 (cells4 r A5 n5 c5 A6 n6 c6) 32); have hpo4 := Lib.hid (hpo3.out.below hy4); have hqo4 := Lib.hid (hqo3.out.below hy4); have hqd4 := Lib.hid (hqd3.out.below hy4); have hro4 := Lib.hid (ho4.alloc (.cells (cells4 r A5 n5 c5 A6 n6 c6) 32)); have hrd4 := Lib.hid (hd4.alloc (.cells (cells4 r A5 n5 c5 A6 n6 c6) 32)); clear ho4 hd4 hy4; replace hB4 := 0)
    | (refine wpList_store_4 rfl (.tmp 13) (.tmp 52) rfl w4.heap.size (cells4 r A5 n5 c5 A6 n6 c6) rfl rfl _ (Blk.new _ zero4c 32) rfl rfl (one4 _ _ _ _ _ _ _) ?_; rw [World.setRow_alloc_new])
    | (refine wpList_load_4 rfl (.tmp 11) rfl w3.heap.size rfl _ kQ4.out rfl ?_)
    | (go_at_call_of 27 (Value.agg (cells4 q A3 n3 c3 A4 n4 c4)); refine (hOq.out _ _ _ _ _ _ _ hqo4.out hqd4.out).mono ?_; rintro e w5 ⟨rfl, hB5⟩; have hy5 := hB5.alloc hB5.size (.cells (cellsPo (x1, port, x3)) 41); have hb5 := Lib.hid (hb4.out.trans (hy5.mono hb4.out.size)); have k5 := Lib.hid (k4.out.to hy5); have kP5 := Lib.hid (kP4.out.to hy5); have kQ5 := Lib.hid (kQ4.out.to hy5); have kR5 := Lib.hid (kR4.out.to hy5); have kX5 := Lib.hid (Blk.new w5 (cellsPo (x1, port, x3)) 41); have hpo5 := Lib.hid (hpo4.out.below hy5); have hqo5 := Lib.hid (hqo4.out.below hy5); have hro5 := Lib.hid (hro4.out.below hy5); have hrd5 := Lib.hid (hrd4.out.below hy5); clear hy5; replace hB5 := 0)
    | (refine wpList_load_4 rfl (.tmp 13) rfl w4.heap.size rfl _ kR5.out rfl ?_)
    | (go_at_call_of 27 (Value.agg (cells4 r A5 n5 c5 A6 n6 c6)); refine (hOr.out _ _ _ _ _ _ _ hro5.out hrd5.out).mono ?_; rintro e w6 ⟨rfl, hB6⟩; have hy6 := hB6.alloc hB6.size (.cells (cellsPo (y1, y2, port)) 41); have hb6 := Lib.hid (hb5.out.trans (hy6.mono hb5.out.size)); have k6 := Lib.hid (k5.out.to hy6); have kP6 := Lib.hid (kP5.out.to hy6); have kQ6 := Lib.hid (kQ5.out.to hy6); have kR6 := Lib.hid (kR5.out.to hy6); have kX6 := Lib.hid (kX5.out.to hy6); have kY6 := Lib.hid (Blk.new w6 (cellsPo (y1, y2, port)) 41); have hpo6 := Lib.hid (hpo5.out.below hy6); have hqo6 := Lib.hid (hqo5.out.below hy6); clear hy6; replace hB6 := 0)
    | fail)
  obtain ⟨w7, hw7⟩ : ∃ w7, w6.alloc (.cells (cellsPo (y1, y2, port)) 41) = w7 := ⟨_, rfl⟩
  rw [hw7] at hb6 k6 kP6 kQ6 kR6 kX6 kY6 hpo6 hqo6 ⊢
  replace hw7 := Lib.hid hw7
  obtain rfl : n4 = n1 := by have h1 := hqd3.out.len; have h2 := hd1'.out.len; have h3 := j5.out; omega
  have hqo7 := Lib.hid (show RB w7 A3 n3 c3 p.opts by rw [← j4.out]; exact hqo6.out)
  have f4 := k6.out.cell 4 (.int .i64 p.pr) rfl
  have f3 := k6.out.cell 3 (.int .i64 p.ttl) rfl
  have f5 := k6.out.cell 5 (.int .i64 p.src) rfl
  have f6 := k6.out.cell 6 (.int .i64 p.dst) rfl
  have f9 := k6.out.cell 9 (.slice Ao no co) rfl
  have f10 := k6.out.cell 10 (.slice A1 n4 c1') rfl
  have g3 := kQ6.out.cell 3 (.int .i64 q.ttl) rfl
  have g5 := kQ6.out.cell 5 (.int .i64 q.src) rfl
  have g6 := kQ6.out.cell 6 (.int .i64 q.dst) rfl
  have g9 := kQ6.out.cell 9 (.slice A3 n3 c3) rfl
  have g10 := kQ6.out.cell 10 (.slice A4 n4 c4) rfl
  have r5 := kR6.out.cell 5 (.int .i64 r.src) rfl
  have r6 := kR6.out.cell 6 (.int .i64 r.dst) rfl
  have o1 := kP6.out.cell 1 (.int .i64 xx.2.1) rfl
  have o2 := kP6.out.cell 2 (.int .i64 xx.2.2) rfl
  have p1 := kX6.out.cell 1 (.int .i64 port) rfl
  have p2 := kX6.out.cell 2 (.int .i64 x3) rfl
  have s1 := kY6.out.cell 1 (.int .i64 y2) rfl
  have s2 := kY6.out.cell 2 (.int .i64 port) rfl
  rw [j3] at g3
  rw [j1] at g5
  rw [j2] at g6
  rw [j6] at r5
  rw [j7] at r6
  clear j1 j2 j3 j6 j7
  have hEq := Lib.hid (fun W (hW : Below w7.heap.size w7 W) => Equal_same _ _ _ _ _ _ _ W (hqo7.out.below hW) (hpo6.out.below hW))
  try simp only [Act.put]
  rcases hcond with h1 | ⟨h1, rfl, rfl⟩
  · have q1 : (p.pr != 1) = false := by simpa using h1
    clear h1
    go_wp2_with (first
      | (go_at_call 16; refine (hEq.out _ (Below.refl _ _)).mono ?_; rintro e W9 ⟨rfl, rfl⟩; have hb9 := Lib.hid hb6.out)
      | (go_at_call 28; refine (awake11 _).mono ?_; rintro e W1 ⟨rfl, hB⟩; have hbE := Lib.hid (hb9.out.trans (hB.mono hb9.out.size)); replace hB := 0)
      | fail)
    go_ret
    exact ⟨by first | rfl | simp, hbE.out⟩
  · have q1 : (p.pr != 1) = true := by simpa using h1
    clear h1
    go_wp2_with (first
      | (go_at_call 16; refine (hEq.out _ (Below.refl _ _)).mono ?_; rintro e W9 ⟨rfl, rfl⟩; have hb9 := Lib.hid hb6.out)
      | (go_at_call 28; refine (awake11 _).mono ?_; rintro e W1 ⟨rfl, hB⟩; have hbE := Lib.hid (hb9.out.trans (hB.mono hb9.out.size)); replace hB := 0)
      | fail)
    go_ret
    exact ⟨by first | rfl | simp, hbE.out⟩
end Go.Proofs.Ytehecefapiblpaa
