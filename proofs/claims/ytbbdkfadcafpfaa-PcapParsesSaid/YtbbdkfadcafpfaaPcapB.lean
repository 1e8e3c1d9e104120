/- Captures: walk of Build. -/
import Derived.Test.YtbbdkfadcafpfaaPcapM
import Derived.Test.YtbbdkfadcafpfaaMake
set_option linter.unusedVariables false
namespace Go.Proofs.Ytbbdkfadcafpfaa
open Go Go.RowKit

def goodR (q : QP) : Bool := mayB q q.data.length
/-- A record's numbers, and its bytes. -/
def zsR (q : QP) (m : Nat) : List (Int × Nat) := [(q.x, 4), (q.y, 4), ((m : Int), 4), (q.z, 4)]
def recP (q : QP) : List Int := digL q.x 4 ++ digL q.y 4 ++ digL (q.data.length : Int) 4 ++ digL q.z 4 ++ q.data
theorem recP_len (q : QP) : (recP q).length = 16 + q.data.length := by simp [recP, digL_length]; omega
theorem zsR_pre (q : QP) : preP (zsR q q.data.length) 4 ++ q.data = recP q := by simp [preP, zsR, recP]
theorem zsR_len (q : QP) (m : Nat) : (preP (zsR q m) 4).length = 16 := by simp [preP, zsR, digL_length]
theorem may_ok {q : QP} {m : Nat} (h : mayB q m = true) : (0 ≤ q.x ∧ q.x < 4294967296) ∧ (0 ≤ q.y ∧ q.y < 1000000) ∧ (0 ≤ q.z ∧ q.z < 4294967296) ∧ m ≤ 65535 ∧ (m : Int) ≤ q.z := of_decide_eq_true h
theorem fit4 {z : Int} (h0 : 0 ≤ z) (h1 : z < 4294967296) : fitsP z ((4 : Nat) : Int) := ⟨by omega, h0, h1⟩
theorem zsR_fit {q : QP} {m : Nat} (h : mayB q m = true) : fitP (zsR q m) := by
  obtain ⟨⟨h1, h2⟩, ⟨h3, h4⟩, ⟨h5, h6⟩, h7, h8⟩ := may_ok h
  intro z hz
  simp [zsR] at hz
  rcases hz with rfl | rfl | rfl | rfl
  · exact fit4 h1 h2
  · exact fit4 h3 (by omega)
  · exact fit4 (by omega) (by omega)
  · exact fit4 h5 h6
def flatR (l : List QP) : List Int := headP ++ (l.map recP).flatten
theorem flatR_zero (l : List QP) : flatR (l.take 0) = headP := by simp [flatR]
theorem flatR_succ {l : List QP} {k : Nat} {q : QP} (hq : l[k]? = some q) : flatR (l.take (k + 1)) = flatR (l.take k) ++ recP q := by
  unfold flatR
  rw [List.take_add_one, hq, Option.toList_some, List.map_append, List.flatten_append, ← List.append_assoc]
  simp
def fewR (l : List QP) : Prop := l.length ≤ 40 ∧ ∀ q ∈ l, q.data.length ≤ 2000
theorem flat_len : ∀ (l : List QP), (∀ q ∈ l, q.data.length ≤ 2000) → ((l.map recP).flatten).length ≤ l.length * 2016
  | [], _ => Nat.le_refl _
  | q :: l, h => by
    have h1 := flat_len l (fun p hp => h p (List.mem_cons_of_mem _ hp))
    have h2 := h q (List.mem_cons_self ..)
    rw [List.map_cons, List.flatten_cons, List.length_append, recP_len, List.length_cons]
    omega
theorem flatR_small {l : List QP} (h : fewR l) (k : Nat) : (flatR (l.take k)).length ≤ 80664 := by
  have h3 := flat_len (l.take k) (fun q hq => h.2 q (List.mem_of_mem_take hq))
  have h4 : (l.take k).length ≤ 40 := by rw [List.length_take]; have := h.1; omega
  unfold flatR
  rw [List.length_append, headP_len]
  omega
def allR (l : List QP) : Bool := l.all goodR
def builtR (l : List QP) : List Int := if allR l = true then flatR l else []
def codeR (l : List QP) : Int := if allR l = true then 0 else 1
theorem allR_no {l : List QP} {k : Nat} {q : QP} (hq : l[k]? = some q) (h : goodR q = false) : allR l = false := by
  cases e : allR l
  · rfl
  · have := List.all_eq_true.1 e q (List.mem_of_getElem? hq)
    rw [h] at this; cases this
theorem allR_yes {l : List QP} (h : ∀ j q, j < l.length → l[j]? = some q → goodR q = true) : allR l = true :=
  List.all_eq_true.2 fun q hq => by
    obtain ⟨j, hj⟩ := List.getElem?_of_mem hq
    exact h j q (List.getElem?_eq_some_iff.1 hj).1 hj

set_option maxRecDepth 100000 in
set_option maxHeartbeats 2000000 in
theorem PBuild_any (A : Option Addr) (n c : Nat) (l : List QP) (w : World) (h : LQ w A n c l) (hf : fewR l) :
    Calls Try.prog 39 #[.slice A n c] w (TwoOut w (builtR l) (codeR l)) := by
  have hbt := Lib.hid (Below.refl w.heap.size w)
  have hM := Lib.hid (fun i (hi : i < n) => h.mid hi)
  have hl := Lib.hid h.len
  have hnc := h.nc
  have hsm := Lib.hid (flatR_small hf)
  have hn40 : n ≤ 40 := by have := hf.1; rw [h.len] at this; exact this
  have hdat := Lib.hid hf.2
  have hz := Lib.hid (flatR_zero l)
  have hHd := Lib.hid (fun W => PHead_any W)
  clear h hf
  go_enter Try.func39, Try.ntmps39
  go_wp2_with (first
    | (go_at_call 60; refine (hHd.out _).mono ?_; rintro e w0 ⟨A0, c0, rfl, ho0, hB0⟩; replace hB0 := Lib.hid hB0; replace ho0 := Lib.hid ho0)
    | fail)
  go_loopw [4, 6, 10] (fun vo _ i wr => ∃ (k : Nat) (A2 : Option Addr) (n2 c2 : Nat), k ≤ n ∧ i = .int .i64 k ∧ vo = .slice A2 n2 c2 ∧ OB wr w.heap.size A2 n2 c2 (flatR (l.take k)) ∧ (∀ j q, j < k → l[j]? = some q → goodR q = true) ∧ Below w.heap.size w wr) (fun _ _ i _ => n - (intOf i).toNat)
  case atStart => exact ⟨0, A0, 24, c0, by omega, rfl, rfl, by rw [hz.out]; exact ho0.out, fun j q hj => absurd hj (by omega), hB0.out⟩
  case round =>
    obtain ⟨k, A2, n2, c2, hk, rfl, rfl, ho, hall, hB⟩ := hrel
    replace hall := Lib.hid hall
    by_cases hlt : k < n
    · obtain ⟨b, off, q, A1, m, c1, rfl, hbl, hq, hr, hd⟩ := hM.out k hlt
      have hrr := Lib.hid (rangeAt_below hr hB hbl)
      have hdl := hd.len
      have hm : m ≤ 2000 := by have := hdat.out q (List.mem_of_getElem? hq); omega
      have hn2 : n2 ≤ 80664 := by have := hsm.out k; rw [ho.len] at this; exact this
      have hMay := Lib.hid (fun W => PMay_any q A1 m c1 W (by omega))
      have hg : goodR q = mayB q m := by unfold goodR; rw [hdl]
      have hdW := Lib.hid (fun W (hW : Below w.heap.size w W) => hd.below hW)
      replace hr := 0
      replace hd := 0
      replace ho := Lib.hid ho
      cases hmb : mayB q m
      · rw [hmb] at hMay
        have hno := Lib.hid (allR_no hq (hg.trans hmb))
        clear hdl hq hg hmb
        go_wp2_with (first
          | (refine wpList_load_mid rfl 67 (.tmp 12) rfl b (off + k * 4) rfl [.int .i64 q.x, .int .i64 q.y, .int .i64 q.z, .slice A1 m c1] _ hrr.out Try.underlying67 rfl info_rec ?_)
          | (refine wpList_store_R rfl (.tmp 6) (.tmp 13) rfl wr.heap.size (cellsQ q A1 m c1) rfl rfl _ (Blk.new wr zeroQc 67) rfl rfl (one_Q _ _ _ _) ?_; have hbe : Below wr.heap.size wr ((wr.alloc (.cells zeroQc 67)).setRow wr.heap.size (cellsQ q A1 m c1)) := below_row ((Below.refl _ wr).alloc (Nat.le_refl _) _) (Nat.le_refl _) _; have k1 : Blk ((wr.alloc (.cells zeroQc 67)).setRow wr.heap.size (cellsQ q A1 m c1)) wr.heap.size (cellsQ q A1 m c1) 67 := ⟨setRow_heap _ _ _ _ _ _ (Blk.new wr zeroQc 67).at_⟩; generalize (wr.alloc (.cells zeroQc 67)).setRow wr.heap.size (cellsQ q A1 m c1) = ws at *; (have hbs := Lib.hid (hB.trans (hbe.mono hB.size))); replace hbe := 0; replace k1 := Lib.hid k1)
          | (refine wpList_load_R rfl (.tmp 6) rfl wr.heap.size rfl (cellsQ q A1 m c1) k1.out rfl ?_)
          | (go_at_call 61; refine (hMay.out _).mono ?_; rintro e w2 ⟨rfl, hB2⟩; have hb2 := Lib.hid (hbs.out.trans (hB2.mono hbs.out.size)); replace hB2 := 0)
          | fail)
        go_ret2
        unfold TwoOut builtR codeR
        rw [hno.out]
        exact ⟨none, 0, 0, by first | rfl | simp, RB.nil _, hb2.out⟩
      · rw [hmb] at hMay
        have hall2 := Lib.hid (show ∀ j q, j < k + 1 → l[j]? = some q → goodR q = true from fun j q' hj hq' => by
          rcases Nat.lt_or_ge j k with h | h
          · exact hall.out j q' h hq'
          · obtain rfl : j = k := by omega
            rw [hq] at hq'
            obtain rfl := Option.some.inj hq'
            exact hg.trans hmb)
        have hsu := flatR_succ hq
        have hzp := zsR_pre q
        rw [hdl] at hzp
        rw [← hzp, ← List.append_assoc] at hsu
        have hfz := Lib.hid (zsR_fit hmb)
        have hzl := zsR_len q m
        have hPut := Lib.hid (fun W A2 c2 (hr : RB W A2 n2 c2 (flatR (l.take k))) => by have := PPut_any A2 n2 c2 W.heap.size 4 _ (zsR q m) (W.alloc (.cells (fldsP (zsR q m)) 89)) (hr.alloc _) rfl (by omega) (by omega) (Blk.new W _ _) hfz.out (by omega); rw [hzl] at this; exact this)
        replace hsu := Lib.hid hsu
        have hz0 := show fldsP (zsR q m) = #[.int .i64 q.x, .int .i64 4, .int .i64 q.y, .int .i64 4, .int .i64 m, .int .i64 4, .int .i64 q.z, .int .i64 4] from rfl
        simp only [hz0] at hPut
        clear hz0 hdl hq hg hmb hzp hzl
        go_wp2_with (first
          | (refine wpList_load_mid rfl 67 (.tmp 12) rfl b (off + k * 4) rfl [.int .i64 q.x, .int .i64 q.y, .int .i64 q.z, .slice A1 m c1] _ hrr.out Try.underlying67 rfl info_rec ?_)
          | (refine wpList_store_R rfl (.tmp 6) (.tmp 13) rfl wr.heap.size (cellsQ q A1 m c1) rfl rfl _ (Blk.new wr zeroQc 67) rfl rfl (one_Q _ _ _ _) ?_; have hbe : Below wr.heap.size wr ((wr.alloc (.cells zeroQc 67)).setRow wr.heap.size (cellsQ q A1 m c1)) := below_row ((Below.refl _ wr).alloc (Nat.le_refl _) _) (Nat.le_refl _) _; have k1 : Blk ((wr.alloc (.cells zeroQc 67)).setRow wr.heap.size (cellsQ q A1 m c1)) wr.heap.size (cellsQ q A1 m c1) 67 := ⟨setRow_heap _ _ _ _ _ _ (Blk.new wr zeroQc 67).at_⟩; generalize (wr.alloc (.cells zeroQc 67)).setRow wr.heap.size (cellsQ q A1 m c1) = ws at *; (have hbs := Lib.hid (hB.trans (hbe.mono hB.size)); have hos := Lib.hid (ho.out.below hbe)); replace hbe := 0; replace k1 := Lib.hid k1)
          | (refine wpList_load_R rfl (.tmp 6) rfl wr.heap.size rfl (cellsQ q A1 m c1) k1.out rfl ?_)
          | (go_at_call 61; refine (hMay.out _).mono ?_; rintro e w2 ⟨rfl, hB2⟩; have hb2 := Lib.hid (hbs.out.trans (hB2.mono hbs.out.size)); have ho2 := Lib.hid (hos.out.below hB2); have k2 := Lib.hid (k1.out.to hB2); obtain ⟨r0, r1, r2, r3⟩ := qcells k2.out; replace hB2 := 0)
          | (go_at_call 62; refine (hPut.out w2 _ _ ho2.out.rb).mono ?_; rintro e w3 ⟨A3, c3, rfl, ho3, hB3⟩; have hb2a := hb2.out.alloc hb2.out.size (.cells #[.int .i64 q.x, .int .i64 4, .int .i64 q.y, .int .i64 4, .int .i64 m, .int .i64 4, .int .i64 q.z, .int .i64 4] 89); have hb3 := Lib.hid (hb2a.trans (hB3.mono hb2a.size)); have k3 := (k2.out.alloc (.cells #[.int .i64 q.x, .int .i64 4, .int .i64 q.y, .int .i64 4, .int .i64 m, .int .i64 4, .int .i64 q.z, .int .i64 4] 89)).to hB3; clear r0 r1 r2 r3; obtain ⟨r0, r1, r2, r3⟩ := qcells k3; replace ho3 := Lib.hid (ho3.mono hb2a.size); replace hB3 := 0; clear k3 hb2a)
          | (at_builtin; refine wpList_append_bytes _ rfl (.tmp 33) (.tmp 35) rfl rfl rfl ho3.out (hdW.out _ hb3.out) (by omega) hb3.out.size ?_; intro A4 c4 w4 ho4 hg4 hr4)
          | fail)
        go_roundw
        case rel => exact ⟨k + 1, A4, n2 + 16 + m, c4, by omega, by go_num, rfl, by rw [hsu.out]; exact ho4, hall2.out, hb3.out.grown hg4 hb3.out.size (fun k1 hk1 => (ho3.out.blk hk1).1)⟩
        case measure => simp [intOf]; omega
    · obtain rfl : k = n := by omega
      have hfin : flatR (l.take k) = flatR l := by rw [List.take_of_length_le (by rw [hl.out]; exact Nat.le_refl _)]
      rw [hfin] at ho
      clear hfin
      have hyes := Lib.hid (allR_yes (l := l) fun j q hj hq => hall.out j q (by rw [hl.out] at hj; exact hj) hq)
      replace ho := Lib.hid ho
      go_wp2
      go_ret2
      unfold TwoOut builtR codeR
      rw [hyes.out]
      exact ⟨A2, n2, c2, by first | rfl | simp, ho.out.rb, hB⟩
end Go.Proofs.Ytbbdkfadcafpfaa
