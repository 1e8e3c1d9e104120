/- The law PortsTake: its walk; awake of chapter 11. -/
import Derived.Test.YtehecefapiblpaaGreatPortsF
import Derived.Test.YtehecefapiblpaaGreatV4B
import Derived.Test.YtehecefapiblpaaGreatV4L
import Derived.Test.YtehecefapiblpaaGreatAwake12
set_option linter.unusedVariables false
namespace Go.Proofs.YtehecefapiblpaaGreat
open Go Go.RowKit
attribute [local go_sem] Oper.semAt_some

/-- The ports of a datagram's packet. -/
theorem dg_ports {src dst f t ttl : Int} {data : List Int} (h1 : 0 ≤ src ∧ src < 4294967296) (h2 : 0 ≤ dst ∧ dst < 4294967296) (h3 : 0 ≤ f ∧ f < 65536) (h4 : 0 ≤ t ∧ t < 65536) (h5 : 0 ≤ ttl ∧ ttl < 256) (hn : data.length ≤ 60000) (hb : Byts data) :
    codeP (dgP src dst f t ttl data) = 0 ∧ portsP (dgP src dst f t ttl data) = (17, f, t) := by
  obtain ⟨k1, k2, k3, k4⟩ := dg_ok (src := src) (dst := dst) h1 h2 h3 h4 h5 hn hb
  obtain ⟨b1, b2⟩ := backU (src := src) (dst := dst) (m := dgU f t data) (n := data.length) rfl k1 hb
  have hc : codeP (dgP src dst f t ttl data) = 0 := by
    unfold codeP
    rw [if_neg (by rw [k4]; decide), if_neg (by rw [show wholeB (dgP src dst f t ttl data) = true from rfl]; decide), if_pos (show (dgP src dst f t ttl data).pr = 17 from rfl)]
    exact b1
  refine ⟨hc, ?_⟩
  unfold portsP
  rw [if_neg (by rw [hc]; decide), if_pos (show (dgP src dst f t ttl data).pr = 17 from rfl)]
  show (17, (readU src dst (builtU src dst (dgU f t data))).s, (readU src dst (builtU src dst (dgU f t data))).d) = _
  rw [b2]; rfl
set_option maxRecDepth 100000 in
set_option maxHeartbeats 2000000 in
theorem awake11 (w : World) : Calls Tryz.prog 5 #[] w fun e w' => e = .returned (.bool true) ∧ Below w.heap.size w w' := by
  have hD := Lib.hid (Datagram_any 167772161 3221225985 5 6 9 none 0 0 [] w (by omega) (by omega) (by omega) (by omega) (by omega) (by omega) (RB.nil w))
  obtain ⟨k1, k2, k3, k4⟩ := dg_ok (src := 167772161) (dst := 3221225985) (f := 5) (t := 6) (ttl := 9) (data := []) (by omega) (by omega) (by omega) (by omega) (by omega) (by simp) Byts.nil
  obtain ⟨p1, p2⟩ := dg_ports (src := 167772161) (dst := 3221225985) (f := 5) (t := 6) (ttl := 9) (data := []) (by omega) (by omega) (by omega) (by omega) (by omega) (by simp) Byts.nil
  obtain ⟨b1, b2, _, _⟩ := back4 (p := dgP 167772161 3221225985 5 6 9 []) k4 Byts.nil k3
  have hl := bytes4_length (dgP 167772161 3221225985 5 6 9 [])
  have hl2 : (bytes4 (dgP 167772161 3221225985 5 6 9 [])).length = 28 := by rw [hl, show (dgP 167772161 3221225985 5 6 9 []).data.length = 8 from k2]; rfl
  have hpr : (dgP 167772161 3221225985 5 6 9 []).pr = 17 := rfl
  have hdst : (dgP 167772161 3221225985 5 6 9 []).dst = 3221225985 := rfl
  have hol : (dgP 167772161 3221225985 5 6 9 []).opts.length = 0 := rfl
  have hdl : (dgP 167772161 3221225985 5 6 9 []).data.length = 8 := k2
  have hdb : Byts (dgP 167772161 3221225985 5 6 9 []).data := k3
  generalize dgP 167772161 3221225985 5 6 9 [] = p at *
  have hP := fun A n c W (h : RB W A n c (bytes4 p)) => Parse4_any A n c (bytes4 p) W h (by have := h.len; omega)
  rw [b1, b2] at hP
  have hM : codeM p 3325256705 7 = 0 := by unfold codeM; rw [if_neg (by rw [p1]; decide), if_pos ⟨by decide, by decide⟩]
  obtain ⟨m1, m2, m3, m4⟩ := mov_ok (p := p) (a := 3325256705) (b := p.dst) (s := 7) (d := -1) hdb p1 (by decide) (chk4_right k4).2 (.inr (by omega)) (.inl rfl)
  rw [if_neg (by rw [hpr]; decide), p2, hpr] at m4
  have hfp : fromP p 3325256705 7 = movP p 3325256705 p.dst 7 (-1) := by unfold fromP; rw [if_pos hM]
  have hF := fun Ao no co A n c W (h1 : RB W Ao no co p.opts) (h2 : RB W A n c p.data) => PortsFrom_any p 3325256705 7 Ao no co A n c W h1 h2 (by have := h1.len; omega) (by have := h2.len; omega)
  rw [hM, hfp] at hF
  have hq5 : (movP p 3325256705 p.dst 7 (-1)).src = 3325256705 := rfl
  have hqo : (movP p 3325256705 p.dst 7 (-1)).opts.length = 0 := hol
  have hqd : (movP p 3325256705 p.dst 7 (-1)).data.length = 8 := m1.trans hdl
  generalize movP p 3325256705 p.dst 7 (-1) = q at *
  have hO := fun Ao no co A n c W (h1 : RB W Ao no co q.opts) (h2 : RB W A n c q.data) => PortsOf_any q Ao no co A n c W h1 h2 (by have := h1.len; omega) (by have := h2.len; omega)
  unfold PortsOut at hO
  rw [m3, m4] at hO
  have hp7 : pickI 7 5 = 7 := by decide
  have hp6 : pickI (-1) 6 = 6 := by decide
  simp only [hp7, hp6] at hO
  unfold V4Out at hP
  unfold MovOut at hF
  replace hP := Lib.hid hP
  replace hF := Lib.hid hF
  replace hO := Lib.hid hO
  clear k1 k2 k3 k4 p1 p2 b1 b2 hl hl2 hpr hdst hol hdl hdb hM m1 m2 m3 m4 hfp hqo hqd hp7 hp6
  generalize bytes4 p = bs at *
  go_enter Tryz.func5, Tryz.ntmps5
  go_upto_region 4 with (first
    | (go_at_call 17; refine hD.out.mono ?_; rintro e w1 ⟨A1, n1, c1, rfl, hr1, hB1⟩; have hr1' := Lib.hid hr1; have hb1 := Lib.hid hB1; replace hB1 := 0; clear hr1)
    | (go_at_call 6; refine (hP.out _ _ _ _ hr1'.out).mono ?_; rintro e w2 ⟨A2, n2, c2, A3, n3, c3, rfl, ho2, hd2, hB2⟩; have hb2 := Lib.hid (hb1.out.trans (hB2.mono hb1.out.size)); have hb3 := Lib.hid (hb2.out.alloc hb2.out.size (.cells (cells4 p A2 n2 c2 A3 n3 c3) 25)); have ho3 := Lib.hid (ho2.rb.alloc (.cells (cells4 p A2 n2 c2 A3 n3 c3) 25)); have hd3 := Lib.hid (hd2.rb.alloc (.cells (cells4 p A2 n2 c2 A3 n3 c3) 25)); have k3 := Lib.hid (Blk.new w2 (cells4 p A2 n2 c2 A3 n3 c3) 25); replace hB2 := 0; clear ho2 hd2)
    | (refine wpList_store_4 rfl (.tmp 1) (.tmp 10) rfl w2.heap.size (cells4 p A2 n2 c2 A3 n3 c3) rfl rfl _ (Blk.new _ zero4c 25) rfl rfl (one4 _ _ _ _ _ _ _) ?_; rw [World.setRow_alloc_new])
    | (refine wpList_load_4 rfl (.tmp 1) rfl w2.heap.size rfl _ k3.out rfl ?_)
    | (go_at_call 9; refine (hF.out _ _ _ _ _ _ _ ho3.out hd3.out).mono ?_; rintro e w4 ⟨A4, n4, c4, A5, n5, c5, rfl, ho4, hd4, hB4⟩; have hb4 := Lib.hid (hb3.out.trans (hB4.mono hb3.out.size)); have hb5 := Lib.hid (hb4.out.alloc hb4.out.size (.cells (cells4 q A4 n4 c4 A5 n5 c5) 25)); have ho5 := Lib.hid (ho4.alloc (.cells (cells4 q A4 n4 c4 A5 n5 c5) 25)); have hd5 := Lib.hid (hd4.alloc (.cells (cells4 q A4 n4 c4 A5 n5 c5) 25)); have k5 := Lib.hid (Blk.new w4 (cells4 q A4 n4 c4 A5 n5 c5) 25); replace hB4 := 0; clear ho4 hd4)
    | (refine wpList_store_4 rfl (.tmp 3) (.tmp 15) rfl w4.heap.size (cells4 q A4 n4 c4 A5 n5 c5) rfl rfl _ (Blk.new _ zero4c 25) rfl rfl (one4 _ _ _ _ _ _ _) ?_; rw [World.setRow_alloc_new])
    | (refine wpList_load_4 rfl (.tmp 3) rfl w4.heap.size rfl _ k5.out rfl ?_)
    | (go_at_call 7; refine (hO.out _ _ _ _ _ _ _ ho5.out hd5.out).mono ?_; rintro e w6 ⟨rfl, hB6⟩; have hb6 := Lib.hid (hb5.out.trans (hB6.mono hb5.out.size)); have k6 := k5.out.to (hB6.alloc hB6.size (.cells (cellsPo (17, 7, 6)) 30)); have e5 := k6.cell 5 (.int .i64 q.src) rfl; have kP6 := Lib.hid (Blk.new w6 (cellsPo (17, 7, 6)) 30); replace hB6 := 0; clear k6)
    | fail)
  rw [hq5] at e5
  have hb7 := Lib.hid (hb6.out.alloc hb6.out.size (.cells (cellsPo (17, 7, 6)) 30))
  go_wp2_with (first
    | (refine wpList_load_PO rfl (.tmp 5) rfl w6.heap.size rfl _ kP6.out rfl ?_)
    | fail)
  go_ret
  exact ⟨by first | rfl | simp, hb7.out⟩
end Go.Proofs.YtehecefapiblpaaGreat
