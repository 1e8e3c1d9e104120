/- Ports of a packet: Whole, within, Of. -/
import Derived.Test.YtehecefapiblpaaV4C
import Derived.Test.YtehecefapiblpaaRow4
import Derived.Test.YtehecefapiblpaaUdpP
import Derived.Test.YtehecefapiblpaaTcpPO
import Derived.Test.YtehecefapiblpaaIcmpP
import Derived.Test.YtehecefapiblpaaIcmpT
set_option linter.unusedVariables false
namespace Go.Proofs.Ytehecefapiblpaa
open Go Go.RowKit

def wholeB (p : V4P) : Bool := !p.mf && decide (p.off ≤ 0)
set_option maxHeartbeats 1000000 in
theorem Whole4_any (p : V4P) (Ao : Option Addr) (no co : Nat) (A : Option Addr) (n c : Nat) (w : World) :
    Calls Try.prog 98 #[.agg (cells4 p Ao no co A n c)] w fun e w' => e = .returned (.bool (wholeB p)) ∧ Below w.heap.size w w' := by
  have hb := Lib.hid ((Below.refl _ w).alloc (Nat.le_refl _) (.cells (cells4 p Ao no co A n c) 32))
  cases hm : p.mf
  · have he := Lib.hid (show wholeB p = decide (p.off ≤ 0) by unfold wholeB; rw [hm]; simp)
    go_enter Try.func98, Try.ntmps98
    go_wp2
    go_ret
    exact ⟨by rw [he.out]; first | rfl | simp, hb.out⟩
  · have he := Lib.hid (show wholeB p = false by unfold wholeB; rw [hm]; simp)
    go_enter Try.func98, Try.ntmps98
    go_wp2
    go_ret
    exact ⟨by rw [he.out]; first | rfl | simp, hb.out⟩
def codeP (p : V4P) : Int :=
  if chk4 p ≠ 0 then chk4 p else if wholeB p = false then 4 else if p.pr = 17 then codeU p.src p.dst p.data else if p.pr = 6 then codeT p.src p.dst p.data
  else if p.pr = 1 then (if codeI p.data ≠ 0 then codeI p.data else if queryI (readI p.data).t = true then 0 else 8) else 8
/-- What a packet has within. -/
def PayIs (p : V4P) (v : Value) (W : World) : Prop :=
  (p.pr = 17 ∧ ∃ A n c, v = .iface 132 (.agg (cellsU (readU p.src p.dst p.data) A n c)) ∧ RB W A n c (readU p.src p.dst p.data).data) ∨
  (p.pr = 6 ∧ ∃ Ao no co A n c, v = .iface 134 (.agg (cellsT (readT p.src p.dst p.data) Ao no co A n c)) ∧ RB W Ao no co (readT p.src p.dst p.data).opts ∧ RB W A n c (readT p.src p.dst p.data).data) ∨
  (p.pr = 1 ∧ ∃ A n c, v = .iface 137 (.agg (cellsI (readI p.data) A n c)) ∧ RB W A n c (readI p.data).data)
def WithinOut (w : World) (p : V4P) (e : Ending) (w' : World) : Prop := ∃ v, e = .returned (.tuple #[v, .int .i64 (codeP p)]) ∧ (codeP p = 0 → PayIs p v w') ∧ Below w.heap.size w w'
theorem WithinOut.no {w w' : World} {p : V4P} {v : Value} {k : Int} (hk : codeP p = k) (h0 : k ≠ 0) (hb : Below w.heap.size w w') : WithinOut w p (.returned (.tuple #[v, .int .i64 k])) w' :=
  ⟨v, by rw [hk], fun h => absurd (hk.symm.trans h) h0, hb⟩
theorem WithinOut.yes {w w' : World} {p : V4P} {v : Value} {k : Int} (hk : codeP p = k) (hp : k = 0 → PayIs p v w') (hb : Below w.heap.size w w') : WithinOut w p (.returned (.tuple #[v, .int .i64 k])) w' :=
  ⟨v, by rw [hk], fun h => hp (hk.symm.trans h), hb⟩
set_option maxRecDepth 100000 in
set_option maxHeartbeats 4000000 in
theorem Within_any (p : V4P) (ao : Option Addr) (no co : Nat) (a : Option Addr) (n c : Nat) (w : World) (hro : RB w ao no co p.opts) (hr : RB w a n c p.data) (hno : no ≤ 100000) (hn : n ≤ 100000) :
    Calls Try.prog 54 #[.agg (cells4 p ao no co a n c)] w (WithinOut w p) := by
  have hb := Lib.hid ((Below.refl _ w).alloc (Nat.le_refl _) (.cells (cells4 p ao no co a n c) 32))
  have kB := Lib.hid (Blk.new w (cells4 p ao no co a n c) 32)
  have hck : chk4 p = checkV4 p no n := by unfold chk4; rw [hro.len, hr.len]
  have hK := fun W => Check4_any p ao no co a n c W hno hn
  have hWh := fun W => Whole4_any p ao no co a n c W
  by_cases hc : checkV4 p no n = 0
  rotate_left
  · have hcp := Lib.hid (show codeP p = checkV4 p no n by unfold codeP; rw [hck, if_pos hc])
    have hcn : (checkV4 p no n != 0) = true := by simpa using hc
    have hc' := Lib.hid hc
    generalize checkV4 p no n = k at *
    replace hK := Lib.hid hK
    replace hWh := Lib.hid hWh
    clear hc hck hro hr
    go_enter Try.func54, Try.ntmps54
    go_wp2_with (first
      | (refine wpList_load_4 rfl (.tmp 1) rfl w.heap.size rfl _ kB1.out rfl ?_)
      | (refine wpList_load_4 rfl (.tmp 1) rfl w.heap.size rfl _ kB.out rfl ?_)
      | (go_at_call 51; refine (hK.out _).mono ?_; rintro e w1 ⟨rfl, hB1⟩; have kB1 := Lib.hid (kB.out.to hB1); have hb1 := Lib.hid (hb.out.trans (hB1.mono hb.out.size)); replace hB1 := 0)
      | (go_at_call 98; refine (hWh.out _).mono ?_; rintro e w2 ⟨rfl, hB2⟩; have kB2 := kB1.out.to hB2; have hb2 := Lib.hid (hb1.out.trans (hB2.mono hb1.out.size)); have c4 := kB2.cell 4 _ rfl; have c5 := kB2.cell 5 _ rfl; have c6 := kB2.cell 6 _ rfl; have c10 := kB2.cell 10 _ rfl; clear kB2; replace hB2 := 0)
      | fail)
    go_ret2
    exact WithinOut.no hcp.out hc'.out hb1.out
  rw [hc] at hck hK
  replace hK := Lib.hid hK
  by_cases hw : wholeB p = true
  rotate_left
  · have hwf : wholeB p = false := by simpa using hw
    have hcp := Lib.hid (show codeP p = 4 by unfold codeP; rw [hck, if_neg (by decide), if_pos hwf])
    rw [hwf] at hWh
    replace hWh := Lib.hid hWh
    clear hc hck hw hwf hro hr
    go_enter Try.func54, Try.ntmps54
    go_wp2_with (first
      | (refine wpList_load_4 rfl (.tmp 1) rfl w.heap.size rfl _ kB1.out rfl ?_)
      | (refine wpList_load_4 rfl (.tmp 1) rfl w.heap.size rfl _ kB.out rfl ?_)
      | (go_at_call 51; refine (hK.out _).mono ?_; rintro e w1 ⟨rfl, hB1⟩; have kB1 := Lib.hid (kB.out.to hB1); have hb1 := Lib.hid (hb.out.trans (hB1.mono hb.out.size)); replace hB1 := 0)
      | (go_at_call 98; refine (hWh.out _).mono ?_; rintro e w2 ⟨rfl, hB2⟩; have kB2 := kB1.out.to hB2; have hb2 := Lib.hid (hb1.out.trans (hB2.mono hb1.out.size)); have c4 := kB2.cell 4 _ rfl; have c5 := kB2.cell 5 _ rfl; have c6 := kB2.cell 6 _ rfl; have c10 := kB2.cell 10 _ rfl; clear kB2; replace hB2 := 0)
      | fail)
    go_ret2
    exact WithinOut.no hcp.out (by decide) hb2.out
  rw [hw] at hWh
  replace hWh := Lib.hid hWh
  have hcode : codeP p = if p.pr = 17 then codeU p.src p.dst p.data else if p.pr = 6 then codeT p.src p.dst p.data else if p.pr = 1 then (if codeI p.data ≠ 0 then codeI p.data else if queryI (readI p.data).t = true then 0 else 8) else 8 := by
    unfold codeP; rw [hck, if_neg (by decide), if_neg (by rw [hw]; decide)]
  have hR := Lib.hid (fun W (hW : Below w.heap.size w W) => hr.below hW)
  clear hc hck hw hro hr
  by_cases p17 : p.pr = 17
  · have q17 : (p.pr == 17) = true := by simpa using p17
    have hcp := Lib.hid (hcode.trans (if_pos p17))
    have hP := fun W (hW : Below w.heap.size w W) => UdpParse_any p.src p.dst a n c p.data W (hR.out _ hW) hn
    unfold UdpOut at hP
    have hpay := Lib.hid (fun v W A m k (h : v = Value.iface 132 (.agg (cellsU (readU p.src p.dst p.data) A m k))) (h2 : RB W A m k (readU p.src p.dst p.data).data) => show PayIs p v W from .inl ⟨p17, A, m, k, h, h2⟩)
    generalize readU p.src p.dst p.data = u at *
    generalize codeU p.src p.dst p.data = k at *
    replace hP := Lib.hid hP
    replace hcode := 0
    clear p17
    go_enter Try.func54, Try.ntmps54
    go_wp2_with (first
      | (refine wpList_load_4 rfl (.tmp 1) rfl w.heap.size rfl _ kB1.out rfl ?_)
      | (refine wpList_load_4 rfl (.tmp 1) rfl w.heap.size rfl _ kB.out rfl ?_)
      | (go_at_call 51; refine (hK.out _).mono ?_; rintro e w1 ⟨rfl, hB1⟩; have kB1 := Lib.hid (kB.out.to hB1); have hb1 := Lib.hid (hb.out.trans (hB1.mono hb.out.size)); replace hB1 := 0)
      | (go_at_call 98; refine (hWh.out _).mono ?_; rintro e w2 ⟨rfl, hB2⟩; have kB2 := kB1.out.to hB2; have hb2 := Lib.hid (hb1.out.trans (hB2.mono hb1.out.size)); have c4 := kB2.cell 4 _ rfl; have c5 := kB2.cell 5 _ rfl; have c6 := kB2.cell 6 _ rfl; have c10 := kB2.cell 10 _ rfl; clear kB2; replace hB2 := 0)
      | (go_at_call 99; refine (hP.out _ hb2.out).mono ?_; rintro e w3 ⟨A3, n3, c3, rfl, ho3, hB3⟩; have hb3 := hb2.out.trans (hB3.mono hb2.out.size); have hb4 := Lib.hid (hb3.alloc hb3.size (.cells (cellsU u A3 n3 c3) 36)); have ho4 := Lib.hid (ho3.rb.alloc (.cells (cellsU u A3 n3 c3) 36)); clear hb3 ho3; replace hB3 := 0)
      | fail)
    go_ret2
    exact WithinOut.yes hcp.out (fun _ => hpay.out _ _ _ _ _ rfl ho4.out) hb4.out
  have q17 : (p.pr == 17) = false := by simpa using p17
  have hcode2 := hcode.trans (if_neg p17)
  by_cases p6 : p.pr = 6
  · have q6 : (p.pr == 6) = true := by simpa using p6
    have hcp := Lib.hid (hcode2.trans (if_pos p6))
    have hP := fun W (hW : Below w.heap.size w W) => TcpParse_any p.src p.dst a n c p.data W (hR.out _ hW)
    unfold TcpOut at hP
    have hpay := Lib.hid (fun v W Ao no co A m k (h : v = Value.iface 134 (.agg (cellsT (readT p.src p.dst p.data) Ao no co A m k))) (h1 : RB W Ao no co (readT p.src p.dst p.data).opts) (h2 : RB W A m k (readT p.src p.dst p.data).data) => show PayIs p v W from .inr (.inl ⟨p6, Ao, no, co, A, m, k, h, h1, h2⟩))
    generalize readT p.src p.dst p.data = u at *
    generalize codeT p.src p.dst p.data = k at *
    replace hP := Lib.hid hP
    replace hcode := 0
    clear p6 p17 hcode2
    go_enter Try.func54, Try.ntmps54
    go_wp2_with (first
      | (refine wpList_load_4 rfl (.tmp 1) rfl w.heap.size rfl _ kB1.out rfl ?_)
      | (refine wpList_load_4 rfl (.tmp 1) rfl w.heap.size rfl _ kB.out rfl ?_)
      | (go_at_call 51; refine (hK.out _).mono ?_; rintro e w1 ⟨rfl, hB1⟩; have kB1 := Lib.hid (kB.out.to hB1); have hb1 := Lib.hid (hb.out.trans (hB1.mono hb.out.size)); replace hB1 := 0)
      | (go_at_call 98; refine (hWh.out _).mono ?_; rintro e w2 ⟨rfl, hB2⟩; have kB2 := kB1.out.to hB2; have hb2 := Lib.hid (hb1.out.trans (hB2.mono hb1.out.size)); have c4 := kB2.cell 4 _ rfl; have c5 := kB2.cell 5 _ rfl; have c6 := kB2.cell 6 _ rfl; have c10 := kB2.cell 10 _ rfl; clear kB2; replace hB2 := 0)
      | (refine wpList_store_T rfl (.tmp 7) (.tmp 47) rfl w3.heap.size (cellsT u A4 n4 c4' A3 n3 c3) rfl rfl _ (Blk.new _ zeroT 78) rfl rfl (one_T _ _ _ _ _ _ _) ?_; rw [World.setRow_alloc_new])
      | (refine wpList_load_row rfl 78 (.tmp 7) rfl w3.heap.size rfl _ (cellsT u A4 n4 c4' A3 n3 c3) _ _ k4.out.at_ Try.underlying78 rfl info_tcp ?_)
      | (go_at_call 52; refine (hP.out _ hb2.out).mono ?_; rintro e w3 ⟨A4, n4, c4', A3, n3, c3, rfl, ho4, ho3, hB3⟩; have hb3 := hb2.out.trans (hB3.mono hb2.out.size); have hb4 := Lib.hid (hb3.alloc hb3.size (.cells (cellsT u A4 n4 c4' A3 n3 c3) 78)); have ho5 := Lib.hid (ho4.rb.alloc (.cells (cellsT u A4 n4 c4' A3 n3 c3) 78)); have ho6 := Lib.hid (ho3.rb.alloc (.cells (cellsT u A4 n4 c4' A3 n3 c3) 78)); have k4 := Lib.hid (Blk.new w3 (cellsT u A4 n4 c4' A3 n3 c3) 78); clear hb3 ho3 ho4; replace hB3 := 0)
      | fail)
    go_ret2
    exact WithinOut.yes hcp.out (fun _ => hpay.out _ _ _ _ _ _ _ _ rfl ho5.out ho6.out) hb4.out
  have q6 : (p.pr == 6) = false := by simpa using p6
  have hcode3 := hcode2.trans (if_neg p6)
  by_cases p1 : p.pr = 1
  rotate_left
  · have q1 : (p.pr == 1) = false := by simpa using p1
    have hcp := Lib.hid (hcode3.trans (if_neg p1))
    clear p1 p6 p17 hcode hcode2 hcode3
    go_enter Try.func54, Try.ntmps54
    go_wp2_with (first
      | (refine wpList_load_4 rfl (.tmp 1) rfl w.heap.size rfl _ kB1.out rfl ?_)
      | (refine wpList_load_4 rfl (.tmp 1) rfl w.heap.size rfl _ kB.out rfl ?_)
      | (go_at_call 51; refine (hK.out _).mono ?_; rintro e w1 ⟨rfl, hB1⟩; have kB1 := Lib.hid (kB.out.to hB1); have hb1 := Lib.hid (hb.out.trans (hB1.mono hb.out.size)); replace hB1 := 0)
      | (go_at_call 98; refine (hWh.out _).mono ?_; rintro e w2 ⟨rfl, hB2⟩; have kB2 := kB1.out.to hB2; have hb2 := Lib.hid (hb1.out.trans (hB2.mono hb1.out.size)); have c4 := kB2.cell 4 _ rfl; have c5 := kB2.cell 5 _ rfl; have c6 := kB2.cell 6 _ rfl; have c10 := kB2.cell 10 _ rfl; clear kB2; replace hB2 := 0)
      | fail)
    go_ret2
    exact WithinOut.no hcp.out (by decide) hb2.out
  have q1 : (p.pr == 1) = true := by simpa using p1
  have hcode4 := hcode3.trans (if_pos p1)
  have hP := fun W (hW : Below w.heap.size w W) => IcmpParse_any a n c p.data W (hR.out _ hW)
  unfold IcmpOut at hP
  have hpay := Lib.hid (fun v W A m k (h : v = Value.iface 137 (.agg (cellsI (readI p.data) A m k))) (h2 : RB W A m k (readI p.data).data) => show PayIs p v W from .inr (.inr ⟨p1, A, m, k, h, h2⟩))
  have hQ := fun W => Query_any (readI p.data).t W
  generalize readI p.data = u at *
  clear p1 p6 p17 hcode hcode2 hcode3
  by_cases hci : codeI p.data = 0
  · rw [hci] at hP hcode4
    rw [if_neg (show ¬ (0 : Int) ≠ 0 by decide)] at hcode4
    replace hP := Lib.hid hP
    have hcp := Lib.hid hcode4
    clear hcode4 hci
    obtain ⟨qb, hqb⟩ : ∃ qb, queryI u.t = qb := ⟨_, rfl⟩
    rw [hqb] at hQ hcp
    replace hQ := Lib.hid hQ
    clear hqb
    cases qb
    all_goals
      go_enter Try.func54, Try.ntmps54
      go_wp2_with (first
        | (refine wpList_load_4 rfl (.tmp 1) rfl w.heap.size rfl _ kB1.out rfl ?_)
        | (refine wpList_load_4 rfl (.tmp 1) rfl w.heap.size rfl _ kB.out rfl ?_)
        | (go_at_call 51; refine (hK.out _).mono ?_; rintro e w1 ⟨rfl, hB1⟩; have kB1 := Lib.hid (kB.out.to hB1); have hb1 := Lib.hid (hb.out.trans (hB1.mono hb.out.size)); replace hB1 := 0)
        | (go_at_call 98; refine (hWh.out _).mono ?_; rintro e w2 ⟨rfl, hB2⟩; have kB2 := kB1.out.to hB2; have hb2 := Lib.hid (hb1.out.trans (hB2.mono hb1.out.size)); have c4 := kB2.cell 4 _ rfl; have c5 := kB2.cell 5 _ rfl; have c6 := kB2.cell 6 _ rfl; have c10 := kB2.cell 10 _ rfl; clear kB2; replace hB2 := 0)
        | (go_at_call 100; refine (hP.out _ hb2.out).mono ?_; rintro e w3 ⟨A3, n3, c3, rfl, ho3, hB3⟩; have hb3 := hb2.out.trans (hB3.mono hb2.out.size); have hb4 := Lib.hid (hb3.alloc hb3.size (.cells (cellsI u A3 n3 c3) 49)); have ho4 := Lib.hid (ho3.rb.alloc (.cells (cellsI u A3 n3 c3) 49)); have k4 := Lib.hid (Blk.new w3 (cellsI u A3 n3 c3) 49); clear hb3 ho3; replace hB3 := 0)
        | (go_at_call 80; refine (hQ.out _).mono ?_; rintro e w5 ⟨rfl, hB5⟩; have hb5 := Lib.hid (hb4.out.trans (hB5.mono hb4.out.size)); have ho5 := Lib.hid (ho4.out.below hB5); have k5 := k4.out.to hB5; have y0 := k5.cell 0 _ rfl; have y1 := k5.cell 1 _ rfl; have y2 := k5.cell 2 _ rfl; have y3 := k5.cell 3 _ rfl; clear k5; replace hB5 := 0)
        | fail)
      go_ret2
      first
        | exact WithinOut.yes hcp.out (fun _ => hpay.out _ _ _ _ _ rfl ho5.out) hb5.out
        | exact WithinOut.no hcp.out (by decide) hb5.out
  · have hcp := Lib.hid (hcode4.trans (if_pos hci))
    have hcn : (codeI p.data == 0) = false := by simpa using hci
    have hci' := Lib.hid hci
    generalize codeI p.data = k at *
    replace hP := Lib.hid hP
    replace hQ := 0
    clear hcode4 hci
    go_enter Try.func54, Try.ntmps54
    go_wp2_with (first
      | (refine wpList_load_4 rfl (.tmp 1) rfl w.heap.size rfl _ kB1.out rfl ?_)
      | (refine wpList_load_4 rfl (.tmp 1) rfl w.heap.size rfl _ kB.out rfl ?_)
      | (go_at_call 51; refine (hK.out _).mono ?_; rintro e w1 ⟨rfl, hB1⟩; have kB1 := Lib.hid (kB.out.to hB1); have hb1 := Lib.hid (hb.out.trans (hB1.mono hb.out.size)); replace hB1 := 0)
      | (go_at_call 98; refine (hWh.out _).mono ?_; rintro e w2 ⟨rfl, hB2⟩; have kB2 := kB1.out.to hB2; have hb2 := Lib.hid (hb1.out.trans (hB2.mono hb1.out.size)); have c4 := kB2.cell 4 _ rfl; have c5 := kB2.cell 5 _ rfl; have c6 := kB2.cell 6 _ rfl; have c10 := kB2.cell 10 _ rfl; clear kB2; replace hB2 := 0)
      | (go_at_call 100; refine (hP.out _ hb2.out).mono ?_; rintro e w3 ⟨A3, n3, c3, rfl, ho3, hB3⟩; have hb3 := hb2.out.trans (hB3.mono hb2.out.size); have hb4 := Lib.hid (hb3.alloc hb3.size (.cells (cellsI u A3 n3 c3) 49)); clear hb3 ho3; replace hB3 := 0)
      | fail)
    go_ret2
    exact WithinOut.no hcp.out hci'.out hb4.out
end Go.Proofs.Ytehecefapiblpaa
