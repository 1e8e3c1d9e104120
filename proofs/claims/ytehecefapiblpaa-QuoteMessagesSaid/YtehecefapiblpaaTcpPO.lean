/- Segments (tcp): walk of Parse where bytes are one. -/
import Derived.Test.YtehecefapiblpaaWrit
set_option linter.unusedVariables false
namespace Go.Proofs.Ytehecefapiblpaa
open Go.RowKit

section
variable {P : Program}
theorem exec_clo2 {o : Oper} {a : Act} (fn : Nat) (hcf : ∀ args w, (callFunc fn args).run P w = .ok (.enter fn args) w) (t : Tmp) (x y : Operand) (T : Array TypeId) (hop : o.op = .call { callee := .value (.tmp t), args := #[x, y], argTypes := T }) {vx vy : Value} {cs : Array Value} (ht : a.eval (.tmp t) = .func (.func fn) #[] cs) (hx : a.eval x = vx) (hy : a.eval y = vy) {args : Array Value} (ha : #[vx, vy] ++ cs = args) (w : World) :
    (execOp a.eval o).run P w = .ok (.enter fn args) w := by
  subst ha
  simp [execOp, hop, resolve, invoke, ht, hx, hy, Deferred.ofValue, hcf]
/-- The slots, behind a region all of whose slots are known. -/
theorem tmps_eq {T V : Array Value} {En : Env} {W : World} (hV : V.size = T.size) (hEn : (List.range T.size).all (fun t => (look En t).isNone) = true) (hR : ∀ t, Rt V En t (T.getD t undef) W) : T = V := by
  apply Array.ext hV.symm
  intro i h1 h2
  have h3 := Rt_none (List.all_eq_true.1 hEn i (List.mem_range.2 h1)) (hR i)
  simpa [h1, h2] using h3
end
theorem tmps_eq2 {T V : Array Value} {En : Env} {W : World} (d1 d2 : Nat) (hV : V.size = T.size) (hEn : (List.range T.size).all (fun t => Nat.beq t d1 || Nat.beq t d2 || (look En t).isNone) = true) (hR : ∀ t, Rt V En t (T.getD t undef) W) : T = (V.setIfInBounds d1 (T.getD d1 undef)).setIfInBounds d2 (T.getD d2 undef) := by
  apply Array.ext_getElem?
  intro i
  by_cases h1 : i < T.size
  · have h3 := List.all_eq_true.1 hEn i (List.mem_range.2 h1)
    simp only [Bool.or_eq_true, Nat.beq_eq] at h3
    have hi : i < V.size := by omega
    by_cases e2 : i = d2
    · subst e2; simp [h1, hi]
    · rw [Array.getElem?_setIfInBounds_ne (Ne.symm e2)]
      by_cases e1 : i = d1
      · subst e1
        simp [h1, hi]
      · rw [Array.getElem?_setIfInBounds_ne (Ne.symm e1)]
        have h4 : (look En i).isNone = true := by rcases h3 with (h | h) | h; exact absurd h e1; exact absurd h e2; exact h
        have h5 := Rt_none h4 (hR i)
        rw [Array.getElem?_eq_getElem h1, Array.getElem?_eq_getElem hi]
        simp only [Array.getD_eq_getD_getElem?, Array.getElem?_eq_getElem h1, Array.getElem?_eq_getElem hi, Option.getD_some] at h5
        rw [h5]
  · rw [Array.getElem?_eq_none (by omega), Array.getElem?_eq_none (by simp; omega)]
theorem arr10 {cs : Array Value} {a0 a1 a2 a3 a4 a5 a6 a7 a8 a9 : Value} (hs : cs.size = 10) (h0 : cs[0]? = some a0) (h1 : cs[1]? = some a1) (h2 : cs[2]? = some a2) (h3 : cs[3]? = some a3) (h4 : cs[4]? = some a4) (h5 : cs[5]? = some a5) (h6 : cs[6]? = some a6) (h7 : cs[7]? = some a7) (h8 : cs[8]? = some a8) (h9 : cs[9]? = some a9) : cs = #[a0, a1, a2, a3, a4, a5, a6, a7, a8, a9] := by
  apply Array.ext_getElem?
  intro i
  rcases Nat.lt_or_ge i 10 with h | h
  · have : i = 0 ∨ i = 1 ∨ i = 2 ∨ i = 3 ∨ i = 4 ∨ i = 5 ∨ i = 6 ∨ i = 7 ∨ i = 8 ∨ i = 9 := by omega
    rcases this with rfl | rfl | rfl | rfl | rfl | rfl | rfl | rfl | rfl | rfl <;> first | exact h0 | exact h1 | exact h2 | exact h3 | exact h4 | exact h5 | exact h6 | exact h7 | exact h8 | exact h9
  · rw [Array.getElem?_eq_none (by omega), Array.getElem?_eq_none (by simpa using h)]
theorem en_TcpNum (args : Array Value) (w : World) : (callFunc 92 args).run Try.prog w = .ok (.enter 92 args) w := enters Try.func92 (by kernel_rfl) (by kernel_rfl) args w
theorem en_TcpClone (args : Array Value) (w : World) : (callFunc 50 args).run Try.prog w = .ok (.enter 50 args) w := enters Try.func50 (by kernel_rfl) (by kernel_rfl) args w

theorem TcpNum_any (g : Nat) (A : Option Addr) (n c : Nat) (bs : List Int) (a s : Int) (W : World) (hc : W.cell? ⟨g, 0, none⟩ = some (.slice A n c)) (h : RB W A n c bs) (hn : n ≤ 100000) :
    Calls Try.prog 92 #[.int .i64 a, .int .i64 s, .pointer (some ⟨g, 0, none⟩)] W fun e w' => e = .returned (.int .i64 (getV bs a s).1) ∧ W = w' := by
  go_enter Try.func92, Try.ntmps92
  go_wp2_with (go_at_call 70; refine (Get_any A n c bs a s _ h hn).mono ?_; rintro e w' ⟨rfl, rfl⟩)
  go_ret
  exact ⟨rfl, rfl⟩

set_option maxRecDepth 100000 in
set_option maxHeartbeats 8000000 in
theorem TcpParse_ok (src dst : Int) (A : Option Addr) (n c : Nat) (bs : List Int) (w : World) (h : RB w A n c bs) (h20 : 20 ≤ n) (h21 : 20 ≤ headL bs) (h22 : headL bs ≤ (n : Int)) (h23 : n ≤ 65535) (hq : (foldI (totalI [pseudoB src dst 6 (n : Nat), bs]) == 65535) = true) :
    Calls Try.prog 52 #[.int .i64 src, .int .i64 dst, .slice A n c] w (TcpOut w (readT src dst bs) (codeT src dst bs)) := by
  have hb0 := Lib.hid (((Below.refl _ w).alloc (Nat.le_refl _) (.cells #[.slice A n c] 24)).alloc (by simp) (.cells zeroT 78))
  have hlen := h.len
  have hcm : c ≤ 9223372036854775807 := by have := h.cm; unfold maxLen at this; omega
  obtain ⟨b, off, rfl, hbl, hc⟩ := h.mem (by omega)
  have hc12 := hc 12 (by omega)
  have hc13 := hc 13 (by omega)
  have y0 := h.byt.get 12
  have y1 := h.byt.get 13
  have hk := Lib.hid (show codeT src dst bs = 0 by unfold codeT; rw [hlen, if_neg (by omega), if_neg (by omega), if_neg (by omega), if_neg (by omega), hq]; rfl)
  have hhd : headL bs = bs[12]?.getD 0 / 16 * 4 := rfl
  have hsmall := Lib.hid (small_two (pseudoB_byts src dst 6 (n : Int)) (by rw [pseudoB_length]; omega) h.byt (by omega))
  obtain ⟨k, hkx⟩ := Int.eq_ofNat_of_zero_le (show 0 ≤ headL bs by omega)
  have hpar := show parsedT bs = ⟨(getV bs 0 2).1, (getV bs 2 2).1, (getV bs 4 4).1, (getV bs 8 4).1, bs[12]?.getD 0 % 16, bs[13]?.getD 0, (getV bs 14 2).1, (getV bs 18 2).1, (bs.drop 20).take ((headL bs).toNat - 20), bs.drop (headL bs).toNat⟩ from rfl
  rw [hkx, Int.toNat_natCast] at hpar
  rw [hkx] at h21 h22 hhd
  replace hkx := hhd.symm
  replace hhd := 0
  have hk20 : 20 ≤ k := by omega
  have hkn : k ≤ n := by omega
  have hd20 := (h.drop_any 20 h20).first_ (show k - 20 ≤ n - 20 by omega)
  have hdk := h.drop_any k hkn
  obtain ⟨A1, hif1⟩ : ∃ A1, (if c = 20 then some (⟨b, off, none⟩ : Addr) else some ⟨b, off + 20, none⟩) = A1 := ⟨_, rfl⟩
  obtain ⟨A2, hif2⟩ : ∃ A2, (if c = k then some (⟨b, off, none⟩ : Addr) else some ⟨b, off + k, none⟩) = A2 := ⟨_, rfl⟩
  rw [hif1] at hd20
  rw [hif2] at hdk
  have hCl1 := Lib.hid (fun W (hW : Below w.heap.size w W) => Clone_any A1 (k - 20) (c - 20) _ W (hd20.below hW) (by omega))
  have hCl2 := Lib.hid (fun W (hW : Below w.heap.size w W) => Clone_any A2 (n - k) (c - k) _ W (hdk.below hW) (by omega))
  have hNum := Lib.hid (fun a s W (hW : Below w.heap.size w W) hcell => TcpNum_any w.heap.size (some ⟨b, off, none⟩) n c bs a s W hcell (h.below hW) (by omega))
  have hlow := u8_low4 _ y0.1 (by omega)
  generalize bs[12]?.getD 0 = x at *
  generalize bs[13]?.getD 0 = y at *
  have hwx : IntKind.i64.wrap (x % 16) = x % 16 := by rw [IntKind.wrap_i64]; omega
  have hwy : IntKind.i64.wrap y = y := by rw [IntKind.wrap_i64]; omega
  have hnc := h.nc
  have hi12 : 12 < n := by omega
  have hi13 : 13 < n := by omega
  have hi12' : (12 : Int) < n := by omega
  have hi13' : (13 : Int) < n := by omega
  replace hd20 := 0
  replace hdk := 0
  replace hq := Lib.hid hq
  replace h := Lib.hid h
  replace hpar := Lib.hid hpar
  clear hc hlen
  have hmf : ∀ (fn : Fn) (first cap : Array Value) (w : World), (Instr.makeFunc fn first cap).run Try.prog w = .ok (.func fn first cap) w := fun _ _ _ _ => rfl
  go_enter Try.func52, Try.ntmps52
  go_wp2
  have hW0 : ∃ W0, (w.alloc (.cells #[.slice (some ⟨b, off, none⟩) n c] 24)).alloc (.cells zeroT 78) = W0 := ⟨_, rfl⟩
  obtain ⟨W0, hW0⟩ := hW0
  have kb0 : Blk W0 w.heap.size #[.slice (some ⟨b, off, none⟩) n c] 24 := by rw [← hW0]; exact (Blk.new w _ _).alloc _
  have kz0 : Blk W0 (w.heap.size + 1) zeroT 78 := by
    rw [← hW0]
    have := Blk.new (w.alloc (.cells #[.slice (some ⟨b, off, none⟩) n c] 24)) zeroT 78
    rwa [World.size_alloc] at this
  have hBW : Below w.heap.size w W0 := by rw [← hW0]; exact hb0.out
  rw [hW0]
  replace hW0 := Lib.hid hW0
  have hF : ∀ W, Below W0.heap.size W0 W → W.cell? ⟨w.heap.size, 0, none⟩ = some (.slice (some ⟨b, off, none⟩) n c) := fun W hW => (kb0.to hW).cell 0 _ rfl
  replace hF := Lib.hid hF
  replace kb0 := Lib.hid kb0
  replace kz0 := Lib.hid kz0
  replace hBW := Lib.hid hBW
  go_region_held3 (fun W => W.cell? ⟨w.heap.size, 0, none⟩ = some (.slice (some ⟨b, off, none⟩) n c) ∧ Below W0.heap.size W0 W)
    (first | assumption | exact held0 hF.out | exact heldAl hF.out _ (by assumption))
    (first
    | (go_at_call 91; refine (Pseudo_any src dst 6 (n : Int) _).mono ?_; rintro e W2 ⟨A3, c3, rfl, ho3, hb2⟩; have hS2 := heldTo hF.out (held0 hF.out) hb2; have hrr := Lib.hid (rbb_two ho3.rb (h.out.below (hBW.out.trans (hS2.2.mono hBW.out.size)))); replace ho3 := 0; replace hb2 := 0)
    | (go_at_call 56; refine (Right_any _ 2 2 [pseudoB src dst 6 (n : Int), bs] _ hrr.out hsmall.out).mono ?_; rintro e W4 ⟨rfl, hb4⟩; rw [hq.out]; have hS4 := heldTo hF.out (heldAl hF.out _ hS2) hb4; replace hb4 := 0)
    | fail)
  have kb4 := Lib.hid (kb0.out.to hS4.2)
  have kz4 := kz0.out.to hS4.2
  have hB4 := Lib.hid (hBW.out.trans (hS4.2.mono hBW.out.size))
  clear hS4 hS2
  have x4 := kb4.out.cell 0 _ rfl
  go_wp2_with (first
    | (go_at_call_of 92 (Value.int IntKind.i64 (0 : Int)); refine (hNum.out 0 2 _ hB4.out x4).mono ?_; rintro e w' ⟨rfl, rfl⟩)
    | (go_at_call_of 92 (Value.int IntKind.i64 (8 : Int)); refine (hNum.out 8 4 _ hB4.out x4).mono ?_; rintro e w' ⟨rfl, rfl⟩)
    | (go_at_call_of 92 (Value.int IntKind.i64 (4 : Int)); refine (hNum.out 4 4 _ hB4.out x4).mono ?_; rintro e w' ⟨rfl, rfl⟩)
    | (go_at_call 92; refine (hNum.out 2 2 _ hB4.out x4).mono ?_; rintro e w' ⟨rfl, rfl⟩)
    | fail)
  replace x4 := 0
  generalize (getV bs 0 2).1 = v0 at *
  generalize (getV bs 2 2).1 = v1 at *
  generalize (getV bs 4 4).1 = v2 at *
  generalize (getV bs 8 4).1 = v3 at *
  obtain ⟨v6, hv6⟩ : ∃ v, (getV bs 14 2).1 = v := ⟨_, rfl⟩
  obtain ⟨v7, hv7⟩ : ∃ v, (getV bs 18 2).1 = v := ⟨_, rfl⟩
  rw [hv6, hv7] at hpar
  obtain ⟨Z, hZ⟩ : ∃ Z : Array Value, #[.int .i64 v0, .int .i64 v1, .int .i64 v2, .int .i64 v3, .int .i64 0, .int .i64 0, .int .i64 0, .int .i64 0, .slice none 0 0, .slice none 0 0] = Z := ⟨_, rfl⟩
  have kt5 := Blk.new W4 Z 78
  have kb5 := kb4.out.alloc (.cells Z 78)
  have kz5 := kz4.alloc (.cells Z 78)
  have hB5 := hB4.out.alloc hB4.out.size (.cells Z 78)
  have hlz := kz4.lt
  rw [hZ]
  obtain ⟨W5, hW5⟩ : ∃ W5, W4.alloc (.cells Z 78) = W5 := ⟨_, rfl⟩
  rw [hW5] at kt5 kb5 kz5 hB5 ⊢
  generalize W4.heap.size = B at *
  have hBw := Lib.hid (show w.heap.size ≤ B by omega)
  replace hlz := Lib.hid hlz
  replace hW5 := 0
  subst hZ
  have hPj := Lib.hid (show ∀ j, StbK B ((fun (j : Nat) (v : Value) (_ : World) => (j = 4 ∧ v = .int .i64 (x % 16)) ∨ (j = 5 ∧ v = .int .i64 y) ∨ (j = 6 ∧ v = .int .i64 v6) ∨ (j = 7 ∧ v = .int .i64 v7)) j) from fun j u w w' h _ => h)
  have hCk := Lib.hid (show ∀ W W', (fun W => Blk W w.heap.size #[.slice (some ⟨b, off, none⟩) n c] 24 ∧ Blk W (w.heap.size + 1) zeroT 78) W → Keep B W W' → (fun W => Blk W w.heap.size #[.slice (some ⟨b, off, none⟩) n c] 24 ∧ Blk W (w.heap.size + 1) zeroT 78) W' from fun W W' ⟨h1, h2⟩ hk => ⟨h1.kept hk (by have := hlz.out; omega), h2.kept hk (by have := hlz.out; omega)⟩)
  have hS0 : SF w B 78 #[.int .i64 v0, .int .i64 v1, .int .i64 v2, .int .i64 v3, .int .i64 0, .int .i64 0, .int .i64 0, .int .i64 0, .slice none 0 0, .slice none 0 0] (fun (j : Nat) (v : Value) (_ : World) => (j = 4 ∧ v = .int .i64 (x % 16)) ∨ (j = 5 ∧ v = .int .i64 y) ∨ (j = 6 ∧ v = .int .i64 v6) ∨ (j = 7 ∧ v = .int .i64 v7)) (fun W => Blk W w.heap.size #[.slice (some ⟨b, off, none⟩) n c] 24 ∧ Blk W (w.heap.size + 1) zeroT 78) W5.drew :=
    ⟨hB5.drew, ⟨_, kt5.drew, rfl, fun j _ => .inl rfl⟩, kb5.drew, kz5.drew⟩
  have hC0 := Lib.hid (show ∀ W, SF w B 78 #[.int .i64 v0, .int .i64 v1, .int .i64 v2, .int .i64 v3, .int .i64 0, .int .i64 0, .int .i64 0, .int .i64 0, .slice none 0 0, .slice none 0 0] (fun (j : Nat) (v : Value) (_ : World) => (j = 4 ∧ v = .int .i64 (x % 16)) ∨ (j = 5 ∧ v = .int .i64 y) ∨ (j = 6 ∧ v = .int .i64 v6) ∨ (j = 7 ∧ v = .int .i64 v7)) (fun W => Blk W w.heap.size #[.slice (some ⟨b, off, none⟩) n c] 24 ∧ Blk W (w.heap.size + 1) zeroT 78) W →
      (W.cell? ⟨w.heap.size, 0, none⟩ = some (.slice (some ⟨b, off, none⟩) n c) ∧ W.cell? ⟨b, off + 12, none⟩ = some (.int .u8 x) ∧ W.cell? ⟨b, off + 13, none⟩ = some (.int .u8 y)) from fun W hS =>
    ⟨hS.2.2.1.cell 0 _ rfl, (hS.1.cell (p := ⟨b, off + 12, none⟩) hbl).trans hc12, (hS.1.cell (p := ⟨b, off + 13, none⟩) hbl).trans hc13⟩)
  have hN6 := Lib.hid (fun W hW hcl => by have := hNum.out 14 2 W hW hcl; rw [hv6] at this; exact this)
  have hN7 := Lib.hid (fun W hW hcl => by have := hNum.out 18 2 W hW hcl; rw [hv7] at this; exact this)
  clear kb5 kz5 kt5 hB5 kz4 hv6 hv7
  refine wp_region_writ (fun _ => SF w B 78 #[.int .i64 v0, .int .i64 v1, .int .i64 v2, .int .i64 v3, .int .i64 0, .int .i64 0, .int .i64 0, .int .i64 0, .slice none 0 0, .slice none 0 0] (fun (j : Nat) (v : Value) (_ : World) => (j = 4 ∧ v = .int .i64 (x % 16)) ∨ (j = 5 ∧ v = .int .i64 y) ∨ (j = 6 ∧ v = .int .i64 v6) ∨ (j = 7 ∧ v = .int .i64 v7)) (fun W => Blk W w.heap.size #[.slice (some ⟨b, off, none⟩) n c] 24 ∧ Blk W (w.heap.size + 1) zeroT 78)) (EF w B 78 #[.int .i64 v0, .int .i64 v1, .int .i64 v2, .int .i64 v3, .int .i64 0, .int .i64 0, .int .i64 0, .int .i64 0, .slice none 0 0, .slice none 0 0] (fun (j : Nat) (v : Value) (_ : World) => (j = 4 ∧ v = .int .i64 (x % 16)) ∨ (j = 5 ∧ v = .int .i64 y) ∨ (j = 6 ∧ v = .int .i64 v6) ∨ (j = 7 ∧ v = .int .i64 v7)) (fun W => Blk W w.heap.size #[.slice (some ⟨b, off, none⟩) n c] 24 ∧ Blk W (w.heap.size + 1) zeroT 78)) (by kernel_rfl) (by kernel_rfl) (by kernel_rfl) EF.refl hS0 ?_
  repeat (first
    | (refine fld_callv (.int .i64 v6) (by rfl) (by rfl) (by rfl) (by rfl) (by rfl) hPj.out hCk.out 92 #[.int .i64 14, .int .i64 2, .pointer (some ⟨w.heap.size, 0, none⟩)] (fun W => exec_clo2 (vx := .int .i64 14) (vy := .int .i64 2) (cs := #[.pointer (some ⟨w.heap.size, 0, none⟩)]) _ en_TcpNum 66 (.const (.int .i64 14)) (.const (.int .i64 2)) #[3, 3] rfl rfl rfl rfl rfl W) (fun W hS => ?_) ?_; (exact ((hN6.out W hS.1 (hC0.out W hS).1).mono fun e w' ⟨he, hw⟩ => ⟨he, hw ▸ Below.refl _ _⟩)); simp only [putV, List.setIfInBounds_toArray, List.set_cons_zero, List.set_cons_succ])
    | (refine fld_callv (.int .i64 v7) (by rfl) (by rfl) (by rfl) (by rfl) (by rfl) hPj.out hCk.out 92 #[.int .i64 18, .int .i64 2, .pointer (some ⟨w.heap.size, 0, none⟩)] (fun W => exec_clo2 (vx := .int .i64 18) (vy := .int .i64 2) (cs := #[.pointer (some ⟨w.heap.size, 0, none⟩)]) _ en_TcpNum 68 (.const (.int .i64 18)) (.const (.int .i64 2)) #[3, 3] rfl rfl rfl rfl rfl W) (fun W hS => ?_) ?_; (exact ((hN7.out W hS.1 (hC0.out W hS).1).mono fun e w' ⟨he, hw⟩ => ⟨he, hw ▸ Below.refl _ _⟩)); simp only [putV, List.setIfInBounds_toArray, List.set_cons_zero, List.set_cons_succ])
    | (refine fld_store (by rfl) (by rfl) rfl hPj.out hCk.out hBw.out 3 70 (.tmp 61) rfl 4 (show (4 : Nat) < 10 from by decide) rfl (by rfl) (by kernel_rfl) (fun vy W hS hy => (by cases hy; exact ⟨rfl, .inl ⟨rfl, rfl⟩⟩)) ?_)
    | (refine fld_store (by rfl) (by rfl) rfl hPj.out hCk.out hBw.out 3 71 (.tmp 65) rfl 5 (show (5 : Nat) < 10 from by decide) rfl (by rfl) (by kernel_rfl) (fun vy W hS hy => (by cases hy; exact ⟨rfl, .inr (.inl ⟨rfl, rfl⟩)⟩)) ?_)
    | (refine fld_store (by rfl) (by rfl) rfl hPj.out hCk.out hBw.out 3 72 (.tmp 67) rfl 6 (show (6 : Nat) < 10 from by decide) rfl (by rfl) (by kernel_rfl) (fun vy W hS hy => (by cases hy; exact ⟨rfl, .inr (.inr (.inl ⟨rfl, rfl⟩))⟩)) ?_)
    | (refine fld_store (by rfl) (by rfl) rfl hPj.out hCk.out hBw.out 3 73 (.tmp 69) rfl 7 (show (7 : Nat) < 10 from by decide) rfl (by rfl) (by kernel_rfl) (fun vy W hS hy => (by cases hy; exact ⟨rfl, .inr (.inr (.inr ⟨rfl, rfl⟩))⟩)) ?_)
    | (refine fld_val (v := ?_) (by rfl) (by rfl) (by rfl) (by rfl) (by rfl) (fun W hS => ?_) ?_; rotate_left; (· (obtain ⟨g0, g1, g2⟩ := hC0.out W hS; clear hS; go_simp; try with_reducible rfl)); simp only [putV, List.setIfInBounds_toArray, List.set_cons_zero, List.set_cons_succ]))
  refine writL_nil fun a W hS hsz hds hR => ?_
  have F4 : FF w B 78 _ _ _ 4 undef W := hR 99
  have F5 : FF w B 78 _ _ _ 5 undef W := hR 101
  have F6 : FF w B 78 _ _ _ 6 undef W := hR 103
  have F7 : FF w B 78 _ _ _ 7 undef W := hR 105
  have hT := tmps_eq (T := a.tmps) (by rw [hsz]; rfl) (by rw [hsz]; rfl) hR
  clear hR hsz
  obtain ⟨T, D⟩ := a
  have hD : D = [] := hds
  subst hD
  dsimp only at hT
  subst hT
  clear hds hS0
  obtain ⟨hB6, ⟨cs, hcs, hcsz, hall⟩, kb6, kz6⟩ := hS
  have g0 : cs[0]? = some (.int .i64 v0) := by rcases hall 0 (show (0 : Nat) < 10 by decide) with e | ⟨v, e, hp⟩; exact e; simp at hp
  have g1 : cs[1]? = some (.int .i64 v1) := by rcases hall 1 (show (1 : Nat) < 10 by decide) with e | ⟨v, e, hp⟩; exact e; simp at hp
  have g2 : cs[2]? = some (.int .i64 v2) := by rcases hall 2 (show (2 : Nat) < 10 by decide) with e | ⟨v, e, hp⟩; exact e; simp at hp
  have g3 : cs[3]? = some (.int .i64 v3) := by rcases hall 3 (show (3 : Nat) < 10 by decide) with e | ⟨v, e, hp⟩; exact e; simp at hp
  have g4 : cs[4]? = some (.int .i64 (x % 16)) := by obtain ⟨_, v, e, hp⟩ := F4; simp at hp; rw [← hcs.cell_eq, e, hp]
  have g5 : cs[5]? = some (.int .i64 y) := by obtain ⟨_, v, e, hp⟩ := F5; simp at hp; rw [← hcs.cell_eq, e, hp]
  have g6 : cs[6]? = some (.int .i64 v6) := by obtain ⟨_, v, e, hp⟩ := F6; simp at hp; rw [← hcs.cell_eq, e, hp]
  have g7 : cs[7]? = some (.int .i64 v7) := by obtain ⟨_, v, e, hp⟩ := F7; simp at hp; rw [← hcs.cell_eq, e, hp]
  have g8 : cs[8]? = some (.slice none 0 0) := by rcases hall 8 (show (8 : Nat) < 10 by decide) with e | ⟨v, e, hp⟩; exact e; simp at hp
  have g9 : cs[9]? = some (.slice none 0 0) := by rcases hall 9 (show (9 : Nat) < 10 by decide) with e | ⟨v, e, hp⟩; exact e; simp at hp
  have hcse := arr10 hcsz g0 g1 g2 g3 g4 g5 g6 g7 g8 g9
  subst hcse
  clear g0 g1 g2 g3 g4 g5 g6 g7 g8 g9 F4 F5 F6 F7 hall hcsz
  replace hPj := 0
  replace hCk := 0
  replace hC0 := 0
  replace hcs := Lib.hid hcs
  replace kb6 := Lib.hid kb6
  replace kz6 := Lib.hid kz6
  replace hB6 := Lib.hid hB6
  generalize List.take (k - 20) (List.drop 20 bs) = o at *
  generalize List.drop k bs = d at *
  have hPj := Lib.hid (show ∀ j, StbK B ((fun (j : Nat) (v : Value) (W : World) => (j = 8 ∧ ∃ A c, v = .slice A (k - 20) c ∧ OB W (B + 1) A (k - 20) c o) ∨ (j = 9 ∧ ∃ A c, v = .slice A (n - k) c ∧ OB W (B + 1) A (n - k) c d)) j) from fun j u w w' h hk => by
    rcases h with ⟨h1, A, c, h2, h3⟩ | ⟨h1, A, c, h2, h3⟩
    · exact .inl ⟨h1, A, c, h2, h3.kept hk (Nat.lt_succ_self B)⟩
    · exact .inr ⟨h1, A, c, h2, h3.kept hk (Nat.lt_succ_self B)⟩)
  have hCk := Lib.hid (show ∀ W W', (fun W => Blk W w.heap.size #[.slice (some ⟨b, off, none⟩) n c] 24 ∧ Blk W (w.heap.size + 1) zeroT 78) W → Keep B W W' → (fun W => Blk W w.heap.size #[.slice (some ⟨b, off, none⟩) n c] 24 ∧ Blk W (w.heap.size + 1) zeroT 78) W' from fun W W' ⟨h1, h2⟩ hk => ⟨h1.kept hk (by have := hlz.out; omega), h2.kept hk (by have := hlz.out; omega)⟩)
  have hC0 := Lib.hid (show ∀ W, SF w B 78 #[.int .i64 v0, .int .i64 v1, .int .i64 v2, .int .i64 v3, .int .i64 (x % 16), .int .i64 y, .int .i64 v6, .int .i64 v7, .slice none 0 0, .slice none 0 0] (fun (j : Nat) (v : Value) (W : World) => (j = 8 ∧ ∃ A c, v = .slice A (k - 20) c ∧ OB W (B + 1) A (k - 20) c o) ∨ (j = 9 ∧ ∃ A c, v = .slice A (n - k) c ∧ OB W (B + 1) A (n - k) c d)) (fun W => Blk W w.heap.size #[.slice (some ⟨b, off, none⟩) n c] 24 ∧ Blk W (w.heap.size + 1) zeroT 78) W → (W.cell? ⟨w.heap.size, 0, none⟩ = some (.slice (some ⟨b, off, none⟩) n c) ∧ True ∧ True) from fun W hS => ⟨hS.2.2.1.cell 0 _ rfl, trivial, trivial⟩)
  have hL := Lib.hid (show ∀ W, SF w B 78 #[.int .i64 v0, .int .i64 v1, .int .i64 v2, .int .i64 v3, .int .i64 (x % 16), .int .i64 y, .int .i64 v6, .int .i64 v7, .slice none 0 0, .slice none 0 0] (fun (j : Nat) (v : Value) (W : World) => (j = 8 ∧ ∃ A c, v = .slice A (k - 20) c ∧ OB W (B + 1) A (k - 20) c o) ∨ (j = 9 ∧ ∃ A c, v = .slice A (n - k) c ∧ OB W (B + 1) A (n - k) c d)) (fun W => Blk W w.heap.size #[.slice (some ⟨b, off, none⟩) n c] 24 ∧ Blk W (w.heap.size + 1) zeroT 78) W → B + 1 ≤ W.heap.size from fun W hS => by obtain ⟨_, ⟨cs, h, _⟩, _⟩ := hS; exact h.lt)
  have hst1 := Lib.hid (show StbK B (fun u W => ∃ A c, u = .slice A (k - 20) c ∧ OB W (B + 1) A (k - 20) c o) from fun u w w' ⟨A, c, h2, h3⟩ hk => ⟨A, c, h2, h3.kept hk (Nat.lt_succ_self B)⟩)
  have hst2 := Lib.hid (show StbK B (fun u W => ∃ A c, u = .slice A (n - k) c ∧ OB W (B + 1) A (n - k) c d) from fun u w w' ⟨A, c, h2, h3⟩ hk => ⟨A, c, h2, h3.kept hk (Nat.lt_succ_self B)⟩)
  have hS1 : SF w B 78 #[.int .i64 v0, .int .i64 v1, .int .i64 v2, .int .i64 v3, .int .i64 (x % 16), .int .i64 y, .int .i64 v6, .int .i64 v7, .slice none 0 0, .slice none 0 0] (fun (j : Nat) (v : Value) (W : World) => (j = 8 ∧ ∃ A c, v = .slice A (k - 20) c ∧ OB W (B + 1) A (k - 20) c o) ∨ (j = 9 ∧ ∃ A c, v = .slice A (n - k) c ∧ OB W (B + 1) A (n - k) c d)) (fun W => Blk W w.heap.size #[.slice (some ⟨b, off, none⟩) n c] 24 ∧ Blk W (w.heap.size + 1) zeroT 78) W.drew := ⟨hB6.out.drew, ⟨_, hcs.out.drew, rfl, fun j _ => .inl rfl⟩, kb6.out.drew, kz6.out.drew⟩
  have i20 : (20 : Int) ≤ c := by omega
  have ikc : (k : Int) ≤ c := by omega
  have jkc : k ≤ c := by omega
  have j20 : 20 ≤ c := by omega
  go_wp2_with fail
  refine wp_region_writ (fun _ => SF w B 78 #[.int .i64 v0, .int .i64 v1, .int .i64 v2, .int .i64 v3, .int .i64 (x % 16), .int .i64 y, .int .i64 v6, .int .i64 v7, .slice none 0 0, .slice none 0 0] (fun (j : Nat) (v : Value) (W : World) => (j = 8 ∧ ∃ A c, v = .slice A (k - 20) c ∧ OB W (B + 1) A (k - 20) c o) ∨ (j = 9 ∧ ∃ A c, v = .slice A (n - k) c ∧ OB W (B + 1) A (n - k) c d)) (fun W => Blk W w.heap.size #[.slice (some ⟨b, off, none⟩) n c] 24 ∧ Blk W (w.heap.size + 1) zeroT 78)) (EF w B 78 #[.int .i64 v0, .int .i64 v1, .int .i64 v2, .int .i64 v3, .int .i64 (x % 16), .int .i64 y, .int .i64 v6, .int .i64 v7, .slice none 0 0, .slice none 0 0] (fun (j : Nat) (v : Value) (W : World) => (j = 8 ∧ ∃ A c, v = .slice A (k - 20) c ∧ OB W (B + 1) A (k - 20) c o) ∨ (j = 9 ∧ ∃ A c, v = .slice A (n - k) c ∧ OB W (B + 1) A (n - k) c d)) (fun W => Blk W w.heap.size #[.slice (some ⟨b, off, none⟩) n c] 24 ∧ Blk W (w.heap.size + 1) zeroT 78)) (by kernel_rfl) (by kernel_rfl) (by kernel_rfl) EF.refl hS1 ?_
  repeat (first
    | (refine fld_callr (d := 77) (fun u W => ∃ A c, u = .slice A (k - 20) c ∧ OB W (B + 1) A (k - 20) c o) (by rfl) (by rfl) rfl (by rfl) hPj.out hCk.out hst1.out 50 #[.slice A1 (k - 20) (c - 20)] (fun W => exec_call1 _ en_TcpClone (.tmp 76) #[24] rfl rfl W) (fun W hS => ?_) ?_; (exact (hCl1.out W hS.1).mono fun e w' ⟨A, c, he, ho, hb⟩ => ⟨⟨_, he, A, c, rfl, ho.mono (hL.out W hS)⟩, hb⟩))
    | (refine fld_callr (d := 81) (fun u W => ∃ A c, u = .slice A (n - k) c ∧ OB W (B + 1) A (n - k) c d) (by rfl) (by rfl) rfl (by rfl) hPj.out hCk.out hst2.out 50 #[.slice A2 (n - k) (c - k)] (fun W => exec_call1 _ en_TcpClone (.tmp 80) #[24] rfl rfl W) (fun W hS => ?_) ?_; (exact (hCl2.out W hS.1).mono fun e w' ⟨A, c, he, ho, hb⟩ => ⟨⟨_, he, A, c, rfl, ho.mono (hL.out W hS)⟩, hb⟩))
    | (refine fld_store (by rfl) (by rfl) rfl hPj.out hCk.out hBw.out 24 82 (.tmp 77) rfl 8 (show (8 : Nat) < 10 from by decide) rfl (by rfl) (by kernel_rfl) (fun vy W hS hy => (by obtain ⟨_, A, c, rfl, ho⟩ := hy; exact ⟨rfl, .inl ⟨rfl, A, c, rfl, ho⟩⟩)) ?_)
    | (refine fld_store (by rfl) (by rfl) rfl hPj.out hCk.out hBw.out 24 83 (.tmp 81) rfl 9 (show (9 : Nat) < 10 from by decide) rfl (by rfl) (by kernel_rfl) (fun vy W hS hy => (by obtain ⟨_, A, c, rfl, ho⟩ := hy; exact ⟨rfl, .inr ⟨rfl, A, c, rfl, ho⟩⟩)) ?_)
    | (refine fld_val (v := ?_) (by rfl) (by rfl) (by rfl) (by rfl) (by rfl) (fun W hS => ?_) ?_; rotate_left; (· (obtain ⟨g0, g1, g2⟩ := hC0.out W hS; clear hS; go_simp; try with_reducible rfl)); simp only [putV, List.setIfInBounds_toArray, List.set_cons_zero, List.set_cons_succ]))
  refine writL_nil fun a W hS hsz hds hR => ?_
  have F8 : FF w B 78 _ _ _ 8 undef W := hR 94
  have F9 : FF w B 78 _ _ _ 9 undef W := hR 96
  have hT := tmps_eq2 (T := a.tmps) 77 81 (by rw [hsz]; rfl) (by rw [hsz]; rfl) hR
  generalize a.tmps.getD 77 undef = u1 at hT
  generalize a.tmps.getD 81 undef = u2 at hT
  simp only [List.setIfInBounds_toArray, List.set_cons_zero, List.set_cons_succ] at hT
  clear hR hsz
  obtain ⟨T, D⟩ := a
  have hD : D = [] := hds
  subst hD
  dsimp only at hT
  subst hT
  clear hds hS1
  replace hcs := 0
  obtain ⟨hB7, ⟨cs, hcs, hcsz, hall⟩, kb7, kz7⟩ := hS
  obtain ⟨_, z8, e8, hp8⟩ := F8
  obtain ⟨_, z9, e9, hp9⟩ := F9
  simp at hp8 hp9
  obtain ⟨A8, c8, rfl, ho8⟩ := hp8
  obtain ⟨A9, c9, rfl, ho9⟩ := hp9
  have g0 : cs[0]? = some (.int .i64 v0) := by rcases hall 0 (show (0 : Nat) < 10 by decide) with e | ⟨v, e, hp⟩; exact e; simp at hp
  have g1 : cs[1]? = some (.int .i64 v1) := by rcases hall 1 (show (1 : Nat) < 10 by decide) with e | ⟨v, e, hp⟩; exact e; simp at hp
  have g2 : cs[2]? = some (.int .i64 v2) := by rcases hall 2 (show (2 : Nat) < 10 by decide) with e | ⟨v, e, hp⟩; exact e; simp at hp
  have g3 : cs[3]? = some (.int .i64 v3) := by rcases hall 3 (show (3 : Nat) < 10 by decide) with e | ⟨v, e, hp⟩; exact e; simp at hp
  have g4 : cs[4]? = some (.int .i64 (x % 16)) := by rcases hall 4 (show (4 : Nat) < 10 by decide) with e | ⟨v, e, hp⟩; exact e; simp at hp
  have g5 : cs[5]? = some (.int .i64 y) := by rcases hall 5 (show (5 : Nat) < 10 by decide) with e | ⟨v, e, hp⟩; exact e; simp at hp
  have g6 : cs[6]? = some (.int .i64 v6) := by rcases hall 6 (show (6 : Nat) < 10 by decide) with e | ⟨v, e, hp⟩; exact e; simp at hp
  have g7 : cs[7]? = some (.int .i64 v7) := by rcases hall 7 (show (7 : Nat) < 10 by decide) with e | ⟨v, e, hp⟩; exact e; simp at hp
  have g8 : cs[8]? = some (.slice A8 (k - 20) c8) := by rw [← hcs.cell_eq, e8]
  have g9 : cs[9]? = some (.slice A9 (n - k) c9) := by rw [← hcs.cell_eq, e9]
  have hcse := arr10 hcsz g0 g1 g2 g3 g4 g5 g6 g7 g8 g9
  subst hcse
  clear g0 g1 g2 g3 g4 g5 g6 g7 g8 g9 hall hcsz e8 e9
  replace hPj := 0
  replace hCk := 0
  replace hC0 := 0
  replace hL := 0
  replace hst1 := 0
  replace hst2 := 0
  have hBlt := hlz.out
  have hfin : Blk (W.setRow (w.heap.size + 1) (cellsT ⟨v0, v1, v2, v3, x % 16, y, v6, v7, o, d⟩ A8 (k - 20) c8 A9 (n - k) c9)) (w.heap.size + 1) (cellsT ⟨v0, v1, v2, v3, x % 16, y, v6, v7, o, d⟩ A8 (k - 20) c8 A9 (n - k) c9) 78 := kz7.row _
  have hbf := below_setRow hB7 (B := w.heap.size + 1) (by omega) (cellsT ⟨v0, v1, v2, v3, x % 16, y, v6, v7, o, d⟩ A8 (k - 20) c8 A9 (n - k) c9)
  have ho8f := ho8.kept (B := w.heap.size + 1) (Keep.setRow W (cellsT ⟨v0, v1, v2, v3, x % 16, y, v6, v7, o, d⟩ A8 (k - 20) c8 A9 (n - k) c9)) (by omega)
  have ho9f := ho9.kept (B := w.heap.size + 1) (Keep.setRow W (cellsT ⟨v0, v1, v2, v3, x % 16, y, v6, v7, o, d⟩ A8 (k - 20) c8 A9 (n - k) c9)) (by omega)
  replace hcs := Lib.hid hcs
  replace kz7 := Lib.hid kz7
  replace hB7 := Lib.hid hB7
  replace kb7 := Lib.hid kb7
  replace hfin := Lib.hid hfin
  replace hbf := Lib.hid hbf
  replace ho8f := Lib.hid ho8f
  replace ho9f := Lib.hid ho9f
  go_wp2_with (first
    | (refine wpList_load_row rfl 78 (.tmp 10) rfl B rfl _ (cellsT ⟨v0, v1, v2, v3, x % 16, y, v6, v7, o, d⟩ A8 (k - 20) c8 A9 (n - k) c9) _ _ hcs.out.at_ Try.underlying78 rfl info_tcp ?_)
    | (refine wpList_store_T rfl (.tmp 6) (.tmp 84) rfl (w.heap.size + 1) (cellsT ⟨v0, v1, v2, v3, x % 16, y, v6, v7, o, d⟩ A8 (k - 20) c8 A9 (n - k) c9) rfl rfl _ kz7.out rfl rfl (one_T _ _ _ _ _ _ _) ?_)
    | fail)
  obtain ⟨r0, r1, r2, r3, r4, r5, r6, r7, r8, r9⟩ := tcells hfin.out
  exact bodyPost_ret (v := .tuple #[.agg (cellsT ⟨v0, v1, v2, v3, x % 16, y, v6, v7, o, d⟩ A8 (k - 20) c8 A9 (n - k) c9), .int .i64 0]) (by simp [results, Try.results52, go_sem, r0, r1, r2, r3, r4, r5, r6, r7, r8, r9]) rfl (by unfold readT; rw [hk.out, if_pos rfl, hpar.out]; exact ⟨A8, _, c8, A9, _, c9, rfl, ho8f.out.mono (by omega), ho9f.out.mono (by omega), hbf.out⟩)

set_option maxHeartbeats 1000000 in
theorem TcpParse_any (src dst : Int) (A : Option Addr) (n c : Nat) (bs : List Int) (w : World) (h : RB w A n c bs) :
    Calls Try.prog 52 #[.int .i64 src, .int .i64 dst, .slice A n c] w (TcpOut w (readT src dst bs) (codeT src dst bs)) := by
  by_cases hbad : n < 20 ∨ headL bs < 20 ∨ (n : Int) < headL bs ∨ 65535 < n
  · exact TcpParse_bad src dst A n c bs w h hbad
  · cases hq : (foldI (totalI [pseudoB src dst 6 (n : Nat), bs]) == 65535)
    · exact TcpParse_sum src dst A n c bs w h (by omega) (by omega) (by omega) (by omega) hq
    · exact TcpParse_ok src dst A n c bs w h (by omega) (by omega) (by omega) (by omega) hq
end Go.Proofs.Ytehecefapiblpaa
