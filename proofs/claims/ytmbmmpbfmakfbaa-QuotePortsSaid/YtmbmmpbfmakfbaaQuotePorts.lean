/- The statement QuotePortsSaid: for every input the law QuotePorts returns true, and each argument reads behind the call as it read before. No condition. -/
import Derived.Test.YtmbmmpbfmakfbaaQuoE
import Derived.Test.YtmbmmpbfmakfbaaQuoB
import Derived.Test.YtmbmmpbfmakfbaaReadV4
set_option linter.unusedVariables false
namespace Go.Proofs.Ytmbmmpbfmakfbaa
open Go Go.RowKit
attribute [local go_sem] Oper.semAt_some

theorem portsIn (w2 : World) (C X : Array Value) : Below w2.heap.size w2 ((((w2.alloc (.cells zero4c 32)).alloc (.cells (cellsPo (0, 0, 0)) 41)).setRow w2.heap.size C).setRow (w2.heap.size + 1) X) ∧
    Blk ((((w2.alloc (.cells zero4c 32)).alloc (.cells (cellsPo (0, 0, 0)) 41)).setRow w2.heap.size C).setRow (w2.heap.size + 1) X) w2.heap.size C 32 ∧
    Blk ((((w2.alloc (.cells zero4c 32)).alloc (.cells (cellsPo (0, 0, 0)) 41)).setRow w2.heap.size C).setRow (w2.heap.size + 1) X) (w2.heap.size + 1) X 41 := by
  have h1 := (Below.refl w2.heap.size w2).alloc (Nat.le_refl _) (.cells zero4c 32)
  have hz := h1.alloc h1.size (.cells (cellsPo (0, 0, 0)) 41)
  have kz := (Blk.new w2 zero4c 32).alloc (.cells (cellsPo (0, 0, 0)) 41)
  have kx := (blk_at (show (w2.alloc (.cells zero4c 32)).heap.size = w2.heap.size + 1 by simp) : Blk _ _ (cellsPo (0, 0, 0)) 41).farRow (show w2.heap.size + 1 ≠ w2.heap.size by omega) C
  exact ⟨below_row (below_row hz (Nat.le_refl _) C) (Nat.le_succ _) X, (Blk.mk (setRow_heap _ _ _ C _ _ kz.at_)).farRow (show w2.heap.size ≠ w2.heap.size + 1 by omega) X, Blk.mk (setRow_heap _ _ _ X _ _ kx.at_)⟩
theorem en_Q26Awake (args : Array Value) (w : World) : (callFunc 7 args).run Try.prog w = .ok (.enter 7 args) w := enters Try.func7 (by kernel_rfl) (by kernel_rfl) args w
theorem en_Q26Equal (args : Array Value) (w : World) : (callFunc 14 args).run Try.prog w = .ok (.enter 14 args) w := enters Try.func14 (by kernel_rfl) (by kernel_rfl) args w
set_option maxRecDepth 100000 in
set_option maxHeartbeats 4000000 in
theorem QuotePorts_bad (A : Option Addr) (n c : Nat) (bs : List Int) (addr port : Int) (w : World) (h : RB w A n c bs) (c2k : n ≤ 2000) (hm : mayQ bs addr port ≠ 0) :
    Calls Try.prog 4 #[.slice A n c, .int .i64 addr, .int .i64 port] w fun e w' => e = .returned (.bool true) ∧ Below w.heap.size w w' := by
  have hb1 := Lib.hid (Below.refl w.heap.size w)
  have c1i : ¬ (2000 : Int) < n := by omega
  have hO := fun W (hW : Below w.heap.size w W) => QuotePorts_any A n c bs W (h.below hW) (by omega)
  have hF := fun W (hW : Below w.heap.size w W) => QuoteFrom_any addr port A n c bs W (h.below hW) (by omega)
  have hT := fun W (hW : Below w.heap.size w W) => QuoteTo_any addr port A n c bs W (h.below hW) (by omega)
  unfold QpOut at hO
  unfold TwoOut at hF hT
  have hmf := may_from hm
  generalize packQ bs = p at *
  generalize portQ bs = xx at *
  generalize codeQ bs = kk at *
  generalize fromQ bs addr port = q at *
  generalize toQ bs addr port = r at *
  generalize mayQ bs addr port = km at *
  replace hO := Lib.hid hO
  replace hF := Lib.hid hF
  replace hT := Lib.hid hT
  clear h c2k
  have hkn : (km != 0) = true := by simpa using hm
  by_cases hkk : kk = km
  · subst hkk
    clear hm hmf
    go_enter Try.func4, Try.ntmps4
    go_upto_region 4 with (first
      | (go_at_call 13; refine (hO.out _ hb1.out).mono ?_; rintro e w2 ⟨Ao, no, co, A1, n1, c1, rfl, ho, hd, hB⟩; have hb2 := Lib.hid (hb1.out.trans (hB.mono hb1.out.size)); have po2 := Lib.hid ho; have pd2 := Lib.hid hd; clear ho hd; replace hB := 0; have kzw2 := Lib.hid ((Blk.new w2 zero4c 32).alloc (.cells (cellsPo (0, 0, 0)) 41)); have kxw2 := Lib.hid ((blk_at (show (w2.alloc (.cells zero4c 32)).heap.size = w2.heap.size + 1 by simp) : Blk _ _ (cellsPo (0, 0, 0)) 41).farRow (show w2.heap.size + 1 ≠ w2.heap.size by omega) (cells4 p Ao no co A1 n1 c1)))
      | (refine wpList_store_4 rfl (.tmp 7) (.tmp 27) rfl w2.heap.size (cells4 p Ao no co A1 n1 c1) rfl rfl _ kzw2.out rfl rfl (one4 _ _ _ _ _ _ _) ?_)
      | (refine wpList_store_PO rfl (.tmp 8) (.tmp 28) rfl (w2.heap.size + 1) (cellsPo xx) rfl rfl _ kxw2.out rfl rfl (one_po _) ?_)
      | fail)
    obtain ⟨hy, kp, kx⟩ := portsIn w2 (cells4 p Ao no co A1 n1 c1) (cellsPo xx)
    obtain ⟨w3, hw3⟩ : ∃ w3, ((((w2.alloc (.cells zero4c 32)).alloc (.cells (cellsPo (0, 0, 0)) 41)).setRow w2.heap.size (cells4 p Ao no co A1 n1 c1)).setRow (w2.heap.size + 1) (cellsPo xx)) = w3 := ⟨_, rfl⟩
    rw [hw3] at hy kp kx ⊢
    replace hw3 := 0
    have hb3 := Lib.hid (hb2.out.trans (hy.mono hb2.out.size))
    have kp3 := Lib.hid kp
    have kx3 := Lib.hid kx
    clear hy kp kx
    try simp only [Act.put]
    go_wp2_with (first
      | (go_at_call 9; refine (hF.out _ hb3.out).mono ?_; rintro e w4 ⟨C1, e1, f1, rfl, hr, hB⟩; have hb4 := Lib.hid (hb3.out.trans (hB.mono hb3.out.size)); clear hr; replace hB := 0)
      | (go_at_call 10; refine (hT.out _ hb4.out).mono ?_; rintro e w5 ⟨C2, e2, f2, rfl, hr, hB⟩; have hb5 := Lib.hid (hb4.out.trans (hB.mono hb4.out.size)); clear hr; replace hB := 0)
      | (go_at_call 7; refine (awake26 _).mono ?_; rintro e W1 ⟨rfl, hB⟩; have hbE := Lib.hid (hb5.out.trans (hB.mono hb5.out.size)); replace hB := 0)
      | fail)
    go_ret
    exact ⟨by first | rfl | simp, hbE.out⟩
  · have h1 := hmf.resolve_left hkk
    subst h1
    have hkf : (kk == 1) = false := by simpa using hkk
    clear hm hmf hkk
    go_enter Try.func4, Try.ntmps4
    go_upto_region 4 with (first
      | (go_at_call 13; refine (hO.out _ hb1.out).mono ?_; rintro e w2 ⟨Ao, no, co, A1, n1, c1, rfl, ho, hd, hB⟩; have hb2 := Lib.hid (hb1.out.trans (hB.mono hb1.out.size)); have po2 := Lib.hid ho; have pd2 := Lib.hid hd; clear ho hd; replace hB := 0; have kzw2 := Lib.hid ((Blk.new w2 zero4c 32).alloc (.cells (cellsPo (0, 0, 0)) 41)); have kxw2 := Lib.hid ((blk_at (show (w2.alloc (.cells zero4c 32)).heap.size = w2.heap.size + 1 by simp) : Blk _ _ (cellsPo (0, 0, 0)) 41).farRow (show w2.heap.size + 1 ≠ w2.heap.size by omega) (cells4 p Ao no co A1 n1 c1)))
      | (refine wpList_store_4 rfl (.tmp 7) (.tmp 27) rfl w2.heap.size (cells4 p Ao no co A1 n1 c1) rfl rfl _ kzw2.out rfl rfl (one4 _ _ _ _ _ _ _) ?_)
      | (refine wpList_store_PO rfl (.tmp 8) (.tmp 28) rfl (w2.heap.size + 1) (cellsPo xx) rfl rfl _ kxw2.out rfl rfl (one_po _) ?_)
      | fail)
    obtain ⟨hy, kp, kx⟩ := portsIn w2 (cells4 p Ao no co A1 n1 c1) (cellsPo xx)
    obtain ⟨w3, hw3⟩ : ∃ w3, ((((w2.alloc (.cells zero4c 32)).alloc (.cells (cellsPo (0, 0, 0)) 41)).setRow w2.heap.size (cells4 p Ao no co A1 n1 c1)).setRow (w2.heap.size + 1) (cellsPo xx)) = w3 := ⟨_, rfl⟩
    rw [hw3] at hy kp kx ⊢
    replace hw3 := 0
    have hb3 := Lib.hid (hb2.out.trans (hy.mono hb2.out.size))
    have kp3 := Lib.hid kp
    have kx3 := Lib.hid kx
    clear hy kp kx
    try simp only [Act.put]
    go_wp2_with (first
      | (go_at_call 9; refine (hF.out _ hb3.out).mono ?_; rintro e w4 ⟨C1, e1, f1, rfl, hr, hB⟩; have hb4 := Lib.hid (hb3.out.trans (hB.mono hb3.out.size)); clear hr; replace hB := 0)
      | (go_at_call 10; refine (hT.out _ hb4.out).mono ?_; rintro e w5 ⟨C2, e2, f2, rfl, hr, hB⟩; have hb5 := Lib.hid (hb4.out.trans (hB.mono hb4.out.size)); clear hr; replace hB := 0)
      | (go_at_call 7; refine (awake26 _).mono ?_; rintro e W1 ⟨rfl, hB⟩; have hbE := Lib.hid (hb5.out.trans (hB.mono hb5.out.size)); replace hB := 0)
      | fail)
    go_ret
    exact ⟨by first | rfl | simp, hbE.out⟩
set_option maxRecDepth 100000 in
set_option maxHeartbeats 4000000 in
theorem QuotePorts_good (A : Option Addr) (n c : Nat) (bs : List Int) (addr port : Int) (w : World) (h : RB w A n c bs) (c2k : n ≤ 2000) (hm : mayQ bs addr port = 0) :
    Calls Try.prog 4 #[.slice A n c, .int .i64 addr, .int .i64 port] w fun e w' => e = .returned (.bool true) ∧ Below w.heap.size w w' := by
  have hb1 := Lib.hid (Below.refl w.heap.size w)
  have c1i : ¬ (2000 : Int) < n := by omega
  obtain ⟨f1, f2, f3, f4, f5, f6, f7⟩ := from_reads h.byt hm
  obtain ⟨t1, t2, t3, t4, t5, t6⟩ := to_reads h.byt hm
  have hk := (may_ok hm).1
  have hln := h.len
  have hn20 : 20 ≤ n := by have := (quo_ok h.byt hk).2.2.2.2.1; have : 20 ≤ hdQ bs := (by unfold hdQ; omega); omega
  obtain ⟨b, off, rfl, _, _⟩ := h.mem (by omega)
  have hcA := Lib.hid h.nc
  have hO := fun W (hW : Below w.heap.size w W) => QuotePorts_any _ n c bs W (h.below hW) (by omega)
  have hF := fun W (hW : Below w.heap.size w W) => QuoteFrom_any addr port _ n c bs W (h.below hW) (by omega)
  have hT := fun W (hW : Below w.heap.size w W) => QuoteTo_any addr port _ n c bs W (h.below hW) (by omega)
  have hQ := fun C e f W (hr : RB W C e f (fromQ bs addr port)) => QuotePorts_any C e f _ W hr (by have := hr.len; omega)
  have hU := fun C e f W (hr : RB W C e f (toQ bs addr port)) => QuotePorts_any C e f _ W hr (by have := hr.len; omega)
  unfold QpOut at hO hQ hU
  unfold TwoOut at hF hT
  rw [hk] at hO
  rw [hm] at hF hT
  rw [f1] at hQ
  rw [t1] at hU
  have hR := Lib.hid (fun W (hW : Below w.heap.size w W) => h.below hW)
  clear hk hm f1 t1 h
  generalize packQ bs = p at *
  generalize portQ bs = xx at *
  generalize packQ (fromQ bs addr port) = q at *
  generalize portQ (fromQ bs addr port) = yy at *
  generalize packQ (toQ bs addr port) = r at *
  generalize portQ (toQ bs addr port) = zz at *
  generalize fromQ bs addr port = cs at *
  generalize toQ bs addr port = ds at *
  replace hO := Lib.hid hO
  replace hF := Lib.hid hF
  replace hT := Lib.hid hT
  replace hQ := Lib.hid hQ
  replace hU := Lib.hid hU
  replace f2 := Lib.hid (f2.trans hln)
  replace t2 := Lib.hid (t2.trans hln)
  replace f3 := Lib.hid f3
  replace f4 := Lib.hid f4
  replace f5 := Lib.hid f5
  replace f6 := Lib.hid f6
  replace f7 := Lib.hid f7
  replace t3 := Lib.hid t3
  replace t4 := Lib.hid t4
  replace t5 := Lib.hid t5
  replace t6 := Lib.hid t6
  clear c2k hln
  go_enter Try.func4, Try.ntmps4
  go_upto_region 4 with (first
    | (go_at_call 13; refine (hO.out _ hb1.out).mono ?_; rintro e w2 ⟨Ao, no, co, A1, n1, c1, rfl, ho, hd, hB⟩; have hb2 := Lib.hid (hb1.out.trans (hB.mono hb1.out.size)); have po2 := Lib.hid ho; have pd2 := Lib.hid hd; clear ho hd; replace hB := 0; have kzw2 := Lib.hid ((Blk.new w2 zero4c 32).alloc (.cells (cellsPo (0, 0, 0)) 41)); have kxw2 := Lib.hid ((blk_at (show (w2.alloc (.cells zero4c 32)).heap.size = w2.heap.size + 1 by simp) : Blk _ _ (cellsPo (0, 0, 0)) 41).farRow (show w2.heap.size + 1 ≠ w2.heap.size by omega) (cells4 p Ao no co A1 n1 c1)))
    | (refine wpList_store_4 rfl (.tmp 7) (.tmp 27) rfl w2.heap.size (cells4 p Ao no co A1 n1 c1) rfl rfl _ kzw2.out rfl rfl (one4 _ _ _ _ _ _ _) ?_)
    | (refine wpList_store_PO rfl (.tmp 8) (.tmp 28) rfl (w2.heap.size + 1) (cellsPo xx) rfl rfl _ kxw2.out rfl rfl (one_po _) ?_)
    | fail)
  obtain ⟨hy, kp, kx⟩ := portsIn w2 (cells4 p Ao no co A1 n1 c1) (cellsPo xx)
  obtain ⟨w3, hw3⟩ : ∃ w3, ((((w2.alloc (.cells zero4c 32)).alloc (.cells (cellsPo (0, 0, 0)) 41)).setRow w2.heap.size (cells4 p Ao no co A1 n1 c1)).setRow (w2.heap.size + 1) (cellsPo xx)) = w3 := ⟨_, rfl⟩
  rw [hw3] at hy kp kx ⊢
  replace hw3 := 0
  have hb3 := Lib.hid (hb2.out.trans (hy.mono hb2.out.size))
  have kp3 := Lib.hid kp
  have kx3 := Lib.hid kx
  clear hy kp kx
  try simp only [Act.put]
  go_upto_region 8 with (first
    | (go_at_call 9; refine (hF.out _ hb3.out).mono ?_; rintro e w4 ⟨C1, e1, f1, rfl, hr, hB⟩; have hn1 : n = e1 := f2.out.symm.trans hr.len; subst hn1; have hb4 := Lib.hid (hb3.out.trans (hB.mono hb3.out.size)); have hz4 := Lib.hid hB; have cr4 := Lib.hid hr; clear hr; replace hB := 0)
    | (go_at_call 10; refine (hT.out _ hb4.out).mono ?_; rintro e w5 ⟨C2, e2, f2', rfl, hr, hB⟩; have hn2 : n = e2 := t2.out.symm.trans hr.len; subst hn2; have hb5 := Lib.hid (hb4.out.trans (hB.mono hb4.out.size)); have hz5 := Lib.hid (hz4.out.trans (hB.mono hz4.out.size)); have cr5 := Lib.hid (cr4.out.below hB); have dr5 := Lib.hid hr; clear hr; replace hB := 0)
    | fail)
  have pw5 := Lib.hid (kp3.out.to hz5.out)
  have xw5 := Lib.hid (kx3.out.to hz5.out)
  try simp only [Act.put]
  -- Ports of a slice that was made here. hQ: contract cr5: the bytes' fact hb5: Below so far w6: world of the call w7: world after q: packet yy: ports Bo, mo, do_, B1, m1, d1 Bo mo do_ B1 m1 d1 names of slices 14 .. 69 slots 9 region
  go_upto_region 9 with (first
    | (go_at_call 13; refine (hQ.out _ _ _ _ cr5.out).mono ?_; rintro e w6 ⟨Bo, mo, do_, B1, m1, d1, rfl, ho, hd, hB⟩; have hby := hB; clear ho hd hB; have kzw6 := Lib.hid ((Blk.new w6 zero4c 32).alloc (.cells (cellsPo (0, 0, 0)) 41)); have kxw6 := Lib.hid ((blk_at (show (w6.alloc (.cells zero4c 32)).heap.size = w6.heap.size + 1 by simp) : Blk _ _ (cellsPo (0, 0, 0)) 41).farRow (show w6.heap.size + 1 ≠ w6.heap.size by omega) (cells4 q Bo mo do_ B1 m1 d1)))
    | (refine wpList_store_4 rfl (.tmp 14) (.tmp 68) rfl w6.heap.size (cells4 q Bo mo do_ B1 m1 d1) rfl rfl _ kzw6.out rfl rfl (one4 _ _ _ _ _ _ _) ?_)
    | (refine wpList_store_PO rfl (.tmp 15) (.tmp 69) rfl (w6.heap.size + 1) (cellsPo yy) rfl rfl _ kxw6.out rfl rfl (one_po _) ?_)
    | fail)
  obtain ⟨hy, kp, kx⟩ := portsIn w6 (cells4 q Bo mo do_ B1 m1 d1) (cellsPo yy)
  obtain ⟨w7, hww7⟩ : ∃ w7, ((((w6.alloc (.cells zero4c 32)).alloc (.cells (cellsPo (0, 0, 0)) 41)).setRow w6.heap.size (cells4 q Bo mo do_ B1 m1 d1)).setRow (w6.heap.size + 1) (cellsPo yy)) = w7 := ⟨_, rfl⟩
  rw [hww7] at hy kp kx ⊢
  replace hww7 := 0
  have hyw7 := Lib.hid (hby.trans (hy.mono hby.size))
  have kpw7 := Lib.hid kp
  have kxw7 := Lib.hid kx
  clear hy kp kx hby
  try simp only [Act.put]
  have hb7 := Lib.hid (hb5.out.trans (hyw7.out.mono hb5.out.size))
  have pw7 := Lib.hid (pw5.out.to hyw7.out)
  have xw7 := Lib.hid (xw5.out.to hyw7.out)
  have cr7 := Lib.hid (cr5.out.below hyw7.out)
  have dr7 := Lib.hid (dr5.out.below hyw7.out)
  -- Ports of a slice that was made here. hU: contract dr7: the bytes' fact hb7: Below so far w8: world of the call w9: world after r: packet zz: ports Do, qo, so, D1, q1, s1 Do qo so D1 q1 s1 names of slices 17 .. 75 slots 10 region
  go_upto_region 10 with (first
    | (go_at_call 13; refine (hU.out _ _ _ _ dr7.out).mono ?_; rintro e w8 ⟨Do, qo, so, D1, q1, s1, rfl, ho, hd, hB⟩; have hby := hB; clear ho hd hB; have kzw8 := Lib.hid ((Blk.new w8 zero4c 32).alloc (.cells (cellsPo (0, 0, 0)) 41)); have kxw8 := Lib.hid ((blk_at (show (w8.alloc (.cells zero4c 32)).heap.size = w8.heap.size + 1 by simp) : Blk _ _ (cellsPo (0, 0, 0)) 41).farRow (show w8.heap.size + 1 ≠ w8.heap.size by omega) (cells4 r Do qo so D1 q1 s1)))
    | (refine wpList_store_4 rfl (.tmp 17) (.tmp 74) rfl w8.heap.size (cells4 r Do qo so D1 q1 s1) rfl rfl _ kzw8.out rfl rfl (one4 _ _ _ _ _ _ _) ?_)
    | (refine wpList_store_PO rfl (.tmp 18) (.tmp 75) rfl (w8.heap.size + 1) (cellsPo zz) rfl rfl _ kxw8.out rfl rfl (one_po _) ?_)
    | fail)
  obtain ⟨hy, kp, kx⟩ := portsIn w8 (cells4 r Do qo so D1 q1 s1) (cellsPo zz)
  obtain ⟨w9, hww9⟩ : ∃ w9, ((((w8.alloc (.cells zero4c 32)).alloc (.cells (cellsPo (0, 0, 0)) 41)).setRow w8.heap.size (cells4 r Do qo so D1 q1 s1)).setRow (w8.heap.size + 1) (cellsPo zz)) = w9 := ⟨_, rfl⟩
  rw [hww9] at hy kp kx ⊢
  replace hww9 := 0
  have hyw9 := Lib.hid (hby.trans (hy.mono hby.size))
  have kpw9 := Lib.hid kp
  have kxw9 := Lib.hid kx
  clear hy kp kx hby
  try simp only [Act.put]
  have hb9 := Lib.hid (hb7.out.trans (hyw9.out.mono hb7.out.size))
  have pw9 := Lib.hid (pw7.out.to hyw9.out)
  have xw9 := Lib.hid (xw7.out.to hyw9.out)
  have qw9 := Lib.hid (kpw7.out.to hyw9.out)
  have yw9 := Lib.hid (kxw7.out.to hyw9.out)
  have cr9 := Lib.hid (cr7.out.below hyw9.out)
  have dr9 := Lib.hid (dr7.out.below hyw9.out)
  have a5 := pw9.out.cell 5 (.int .i64 p.src) rfl
  have a6 := pw9.out.cell 6 (.int .i64 p.dst) rfl
  have b5 := qw9.out.cell 5 (.int .i64 addr) (by rw [← f3.out]; rfl)
  have b6 := qw9.out.cell 6 (.int .i64 p.dst) (by rw [← f4.out]; rfl)
  have d5 := kpw9.out.cell 5 (.int .i64 p.src) (by rw [← t4.out]; rfl)
  have d6 := kpw9.out.cell 6 (.int .i64 addr) (by rw [← t3.out]; rfl)
  try simp only [Act.put]
  go_upto_region 12 with fail
  clear a5 a6 b5 b6 d5 d6
  have hcC := cr9.out.nc
  obtain ⟨b1, off1, rfl, _, _⟩ := cr9.out.mem (by omega)
  have hcA' := hcA.out
  have l1 : (10 : Int) ≤ (c : Int) := by omega
  have l2 : (10 : Int) ≤ (f1 : Int) := by omega
  have l1n : 10 ≤ c := by omega
  have l2n : 10 ≤ f1 := by omega
  have z1 : ¬ c = 0 := by omega
  have z2 : ¬ f1 = 0 := by omega
  have hE := Lib.hid (fun W (hW : Below w9.heap.size w9 W) => show Calls Try.prog 14 #[.slice (some ⟨b1, off1, none⟩) 10 f1, .slice (some ⟨b, off, none⟩) 10 c] W fun e w' => e = .returned (.bool true) ∧ W = w' from by
    have r1 := (cr9.out.below hW).cut (a := 0) (s := 10) (c' := f1) (by omega) (by omega) cr9.out.cm
    have r0 := hR.out W (hb9.out.trans (hW.mono hb9.out.size))
    have r2 := r0.cut (a := 0) (s := 10) (c' := c) (by omega) (by omega) r0.cm
    have e : cutI cs 0 10 = cutI bs 0 10 := by unfold cutI; rw [List.drop_zero, List.drop_zero, f7.out]
    rw [e] at r1
    exact Equal_same _ _ _ _ _ _ _ _ r1 r2)
  have hK := Lib.hid (fun W W' (hS : Below w9.heap.size w9 W) (hW : Below W.heap.size W W') => hS.trans (hW.mono hS.size))
  have y1 := Lib.hid (fun W (hW : Below w9.heap.size w9 W) => (yw9.out.to hW).cell 1 (.int .i64 port) (by rw [← f5.out]; rfl))
  have y2 := Lib.hid (fun W (hW : Below w9.heap.size w9 W) => (yw9.out.to hW).cell 2 (.int .i64 yy.2.2) rfl)
  have u1 := Lib.hid (fun W (hW : Below w9.heap.size w9 W) => (kxw9.out.to hW).cell 1 (.int .i64 zz.2.1) rfl)
  have u2 := Lib.hid (fun W (hW : Below w9.heap.size w9 W) => (kxw9.out.to hW).cell 2 (.int .i64 port) (by rw [← t5.out]; rfl))
  have v1 := Lib.hid (fun W (hW : Below w9.heap.size w9 W) => (xw9.out.to hW).cell 1 (.int .i64 xx.2.1) rfl)
  have v2 := Lib.hid (fun W (hW : Below w9.heap.size w9 W) => (xw9.out.to hW).cell 2 (.int .i64 xx.2.2) rfl)
  have p4 := Lib.hid (fun W (hW : Below w9.heap.size w9 W) => (pw9.out.to hW).cell 4 (.int .i64 p.pr) rfl)
  clear hcC hcA'
  try simp only [Act.put]
  refine wp_region_loose (fun W => Below w9.heap.size w9 W) (by kernel_rfl) (by kernel_rfl) (by kernel_rfl) (Below.refl _ _).drew ?_
  by_cases hpr : p.pr = 1
  · have e1 : (p.pr == 1) = true := by simpa using hpr
    repeat (first
      | (refine looseL_skip (by rfl) (by rfl) rfl ?_; simp only [putV, List.setIfInBounds_toArray, List.set_cons_zero, List.set_cons_succ])
      | (refine looseL_call2 (v := .bool true) (by rfl) rfl 14 (.tmp 154) (.tmp 156) _ rfl en_Q26Equal (by rfl) ?_ ?_; (intro vx vy W hS hx hy; cases hx; cases hy; exact (toB (hE.out W hS)).mono fun e W' ⟨he, hb⟩ => ⟨he, hK.out W W' hS hb, hb⟩); simp only [putV, List.setIfInBounds_toArray, List.set_cons_zero, List.set_cons_succ])
      | (refine looseL_call0 (v := .bool true) (by rfl) rfl 7 _ rfl en_Q26Awake (by rfl) ?_ ?_; (intro W hS; exact (awake26 W).mono fun e W' ⟨he, hb⟩ => ⟨he, hK.out W W' hS hb, hb⟩); simp only [putV, List.setIfInBounds_toArray, List.set_cons_zero, List.set_cons_succ])
      | (refine looseL_val (v := ?_) (by rfl) (by rfl) (by rfl) rfl (fun W hS => ?_) ?_; rotate_left; (· (have g1 := y1.out W hS; have g2 := y2.out W hS; have g3 := u1.out W hS; have g4 := u2.out W hS; have g5 := v1.out W hS; have g6 := v2.out W hS; have g7 := p4.out W hS; clear hS; go_simp; try with_reducible rfl)); simp only [putV, List.setIfInBounds_toArray, List.set_cons_zero, List.set_cons_succ]))
    refine looseL_nil fun a W hS hsz hds hR => ?_
    have hfin : a.tmps.getD 6 undef = .bool true := hR 6 (by simp)
    obtain ⟨T, D⟩ := a
    have hD : D = [] := hds
    subst hD
    have hfin2 : T[6]?.getD undef = .bool true := by simpa using hfin
    clear hR hsz hds
    go_wp2
    exact bodyPost_ret (v := .bool true) (by simp [results, Try.results4, go_sem, hfin2]) rfl ⟨rfl, hb9.out.trans (hS.mono hb9.out.size)⟩
  · have e1 : (p.pr == 1) = false := by simpa using hpr
    have r6 := f6.out.resolve_left hpr
    have r7 := t6.out.resolve_left hpr
    replace y2 := Lib.hid (fun W (hW : Below w9.heap.size w9 W) => (yw9.out.to hW).cell 2 (.int .i64 xx.2.2) (by rw [← r6]; rfl))
    replace u1 := Lib.hid (fun W (hW : Below w9.heap.size w9 W) => (kxw9.out.to hW).cell 1 (.int .i64 xx.2.1) (by rw [← r7]; rfl))
    clear r6 r7
    repeat (first
      | (refine looseL_skip (by rfl) (by rfl) rfl ?_; simp only [putV, List.setIfInBounds_toArray, List.set_cons_zero, List.set_cons_succ])
      | (refine looseL_call2 (v := .bool true) (by rfl) rfl 14 (.tmp 154) (.tmp 156) _ rfl en_Q26Equal (by rfl) ?_ ?_; (intro vx vy W hS hx hy; cases hx; cases hy; exact (toB (hE.out W hS)).mono fun e W' ⟨he, hb⟩ => ⟨he, hK.out W W' hS hb, hb⟩); simp only [putV, List.setIfInBounds_toArray, List.set_cons_zero, List.set_cons_succ])
      | (refine looseL_call0 (v := .bool true) (by rfl) rfl 7 _ rfl en_Q26Awake (by rfl) ?_ ?_; (intro W hS; exact (awake26 W).mono fun e W' ⟨he, hb⟩ => ⟨he, hK.out W W' hS hb, hb⟩); simp only [putV, List.setIfInBounds_toArray, List.set_cons_zero, List.set_cons_succ])
      | (refine looseL_val (v := ?_) (by rfl) (by rfl) (by rfl) rfl (fun W hS => ?_) ?_; rotate_left; (· (have g1 := y1.out W hS; have g2 := y2.out W hS; have g3 := u1.out W hS; have g4 := u2.out W hS; have g5 := v1.out W hS; have g6 := v2.out W hS; have g7 := p4.out W hS; clear hS; go_simp; try with_reducible rfl)); simp only [putV, List.setIfInBounds_toArray, List.set_cons_zero, List.set_cons_succ]))
    refine looseL_nil fun a W hS hsz hds hR => ?_
    have hfin : a.tmps.getD 6 undef = .bool true := hR 6 (by simp)
    obtain ⟨T, D⟩ := a
    have hD : D = [] := hds
    subst hD
    have hfin2 : T[6]?.getD undef = .bool true := by simpa using hfin
    clear hR hsz hds
    go_wp2
    exact bodyPost_ret (v := .bool true) (by simp [results, Try.results4, go_sem, hfin2]) rfl ⟨rfl, hb9.out.trans (hS.mono hb9.out.size)⟩
set_option maxRecDepth 100000 in
set_option maxHeartbeats 4000000 in
theorem QuotePorts_walk (A : Option Addr) (n c : Nat) (bs : List Int) (addr port : Int) (w : World) (h : RB w A n c bs) (hx0 : -9223372036854775808 ≤ addr) (hx1 : addr ≤ 9223372036854775807) (hy0 : -9223372036854775808 ≤ port) (hy1 : port ≤ 9223372036854775807) :
    Calls Try.prog 4 #[.slice A n c, .int .i64 addr, .int .i64 port] w fun e w' => e = .returned (.bool true) ∧ Below w.heap.size w w' := by
  clear hx0 hx1 hy0 hy1
  by_cases c1 : 2000 < n
  · have c1i : (2000 : Int) < n := by omega
    clear h
    go_enter Try.func4, Try.ntmps4
    go_wp2_with (first
      | (go_at_call 7; refine (awake26 _).mono ?_; rintro e W1 ⟨rfl, hB⟩; have hbE := Lib.hid hB; replace hB := 0)
      | fail)
    go_ret
    exact ⟨by first | rfl | simp, hbE.out⟩
  by_cases hm : mayQ bs addr port = 0
  · exact QuotePorts_good A n c bs addr port w h (by omega) hm
  · exact QuotePorts_bad A n c bs addr port w h (by omega) hm
end Go.Proofs.Ytmbmmpbfmakfbaa
set_option linter.unusedVariables false
namespace Go.Proofs.Ytmbmmpbfmakfbaa
open Go.ChangeShapes Go.WideShapes Go.ChangeAt Go.RowKit Go.Deep

set_option maxRecDepth 100000 in
set_option maxHeartbeats 2000000 in
theorem QuotePorts_lifted (os : Os) (started : os.Started) (H : Type) (enc : TypeId × Value → H) :
    ReturnsInHanded {} Try.checked os 4 .any (Rows.quotePortsSpec.pre6 enc Try.prog Try.f4 Rows.quotePortsRow.domain false) (Rows.quotePortsSpec.post enc Try.prog Try.f4 false true false false) := by
  refine returnsInHanded_of_change (C := Try.checked) own_knob started (by kernel_rfl) Try.func4
    (ChangeSpec.witness6 (enc := enc) (C := Try.checked) false ⟨#[], #[.slice none 0 0, .int .i64 0, .int .i64 0], []⟩ 8 (by kernel_rfl) (by kernel_rfl) (by kernel_rfl) (by kernel_rfl)) ?_
  intro W base args ds gs before hval0 hW hcnd _
  have hval : ∀ (j : Nat) t v, Try.f4.params[j]? = some t → args[j]? = some v → Value.okWide Try.prog W .any base t v := hval0
  have hW' := hW
  obtain ⟨p, q, hA0, hV, rfl, hfz, hnd⟩ := hW
  have hA : DataW.TrodAll enc Try.prog W 0 (fun _ => true) true Try.f4.params.toList args.toList ds p := hA0
  rw [Try.params4] at hA hval
  obtain ⟨v0, vs0, d0, ds0, p0, q0, hargs, rfl, rfl, h0, r0⟩ := trodAll_cons hA
  obtain ⟨v1, vs1, d1, ds1, p1, q1, rfl, rfl, rfl, h1, r1⟩ := trodAll_cons r0
  obtain ⟨v2, vs2, d2, ds2, p2, q2, rfl, rfl, rfl, h2, r2⟩ := trodAll_cons r1
  obtain ⟨rfl, rfl, rfl⟩ := trodAll_nil r2
  obtain rfl : args = #[v0, v1, v2] := by cases args; simp_all
  obtain ⟨rfl, rfl⟩ := trodVars_none hV
  clear hA0 hval0
  have hlt0 : ∀ x ∈ p0, x.block < W.heap.size := fun x hx => hW'.lt x (by simp [hx])
  have h0k := h0
  have hlt1 : ∀ x ∈ p1, x.block < W.heap.size := fun x hx => hW'.lt x (by simp [hx])
  have h1k := h1
  have hlt2 : ∀ x ∈ p2, x.block < W.heap.size := fun x hx => hW'.lt x (by simp [hx])
  have h2k := h2
  obtain ⟨A0, n0, c0, bs0, rfl, hr0⟩ := rb_of (hval 0 24 v0 rfl rfl) h0
  obtain ⟨a1, rfl, rfl, rfl, w1⟩ := open_int Try.underlying3 (hval 1 3 v1 rfl rfl) h1
  have b1 := bounds_i64 w1
  obtain ⟨a2, rfl, rfl, rfl, w2⟩ := open_int Try.underlying3 (hval 2 3 v2 rfl rfl) h2
  have b2 := bounds_i64 w2
  refine (QuotePorts_walk A0 n0 c0 bs0 a1 a2 W hr0 b1.1 b1.2 b2.1 b2.2).mono fun e W' ⟨he, hb⟩ => ?_
  subst he
  refine ⟨_, rfl, _, _, _, [], _, [], hW', trodAll_mk1 (shut_bool Try.underlying4 true), (trodAll_cons_mk (Below.trod laid_out (by kernel_rfl) (of_decide_eq_true (by kernel_rfl)) h0k hb hlt0) (trodAll_cons_mk (Below.trod laid_out (by kernel_rfl) (of_decide_eq_true (by kernel_rfl)) h1k hb hlt1) (trodAll_cons_mk (Below.trod laid_out (by kernel_rfl) (of_decide_eq_true (by kernel_rfl)) h2k hb hlt2) trodAll_mk0))), rfl, hb.frame _, fun h => by cases h⟩

/-- The statement. -/
theorem QuotePorts_holds : Rows.QuotePortsSaid :=
  OpenClaim.holds_of_wide 4 Try.f4 rfl rfl rfl rfl rfl rfl rfl ⟨rfl, rfl, rfl, rfl, rfl⟩ rfl rfl rfl rfl rfl (by kernel_rfl) Try.func4 (by kernel_rfl)
    (of_decide_eq_true (by kernel_rfl)) (by unfold Func.isWrapper; rw [if_neg (of_decide_eq_false (by kernel_rfl))]; exact ⟨rfl, rfl⟩)
    (fun os started H enc _ => QuotePorts_lifted os started H enc)
#print axioms QuotePorts_holds
end Go.Proofs.Ytmbmmpbfmakfbaa
