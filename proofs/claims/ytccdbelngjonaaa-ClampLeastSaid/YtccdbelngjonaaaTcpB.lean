/- Segments (tcp): walk of Build. -/
import Derived.Test.YtccdbelngjonaaaTcp
import Derived.Test.YtccdbelngjonaaaConcat
set_option linter.unusedVariables false
namespace Go.Proofs.Ytccdbelngjonaaa
open Go.RowKit

theorem rbb_three {w : World} {A A' A'' : Option Addr} {n c n' c' n'' c'' : Nat} {a b d : List Int} (h : RB w A n c a) (h' : RB w A' n' c' b) (h'' : RB w A'' n'' c'' d) : RBB (w.alloc (.cells #[.slice A n c, .slice A' n' c', .slice A'' n'' c''] 22)) (some ⟨w.heap.size, 0, none⟩) 3 3 [a, b, d] :=
  RBB.lit w 22 [(A, n, c, a), (A', n', c', b), (A'', n'', c'', d)] (fun p hp => by simp at hp; rcases hp with rfl | rfl | rfl; exact h; exact h'; exact h'') (by simp)

/-- A segment's bytes, with a sum. -/
def bytesT (m : TcpP) (s : Int) : List Int :=
  digL m.s 2 ++ digL m.d 2 ++ digL m.q 4 ++ digL m.a 4 ++ digL ((20 + (m.opts.length : Int)) / 4 * 16 + m.r) 1 ++ digL m.f 1 ++ digL m.w 2 ++ digL s 2 ++ digL m.u 2 ++ m.opts ++ m.data
theorem bytesT_length (m : TcpP) (s : Int) : (bytesT m s).length = 20 + m.opts.length + m.data.length := by simp [bytesT, digL_length]; omega
theorem bytesT_byts {m : TcpP} {s : Int} (ho : Byts m.opts) (hd : Byts m.data) : Byts (bytesT m s) := by
  unfold bytesT
  exact ((((((((((digL_byts _ _).append (digL_byts _ _)).append (digL_byts _ _)).append (digL_byts _ _)).append (digL_byts _ _)).append (digL_byts _ _)).append (digL_byts _ _)).append (digL_byts _ _)).append (digL_byts _ _)).append ho).append hd
def sumT (src dst : Int) (m : TcpP) : Int := 65535 - foldI (totalI [pseudoB src dst 6 ((bytesT m 0).length : Nat), bytesT m 0])
theorem sumT_bd (src dst : Int) (m : TcpP) : 0 ≤ sumT src dst m ∧ sumT src dst m ≤ 65535 := by
  have h1 := foldI_lo (totalI [pseudoB src dst 6 ((bytesT m 0).length : Nat), bytesT m 0])
  have h2 := foldI_hi (totalI [pseudoB src dst 6 ((bytesT m 0).length : Nat), bytesT m 0])
  unfold sumT; omega
def builtT (src dst : Int) (m : TcpP) : List Int := bytesT m (sumT src dst m)
def builtT? (src dst : Int) (m : TcpP) (no n : Nat) : List Int := if checkT m no n = 0 then builtT src dst m else []
/-- The first numbers, as bytes. -/
def preT (zs : List (Int × Nat)) (k : Nat) : List Int := ((zs.take k).map fun z => digL z.1 z.2).flatten
theorem preT_succ (zs : List (Int × Nat)) (k : Nat) (hk : k < zs.length) : preT zs (k + 1) = preT zs k ++ digL (zs[k]?.getD (0, 0)).1 (zs[k]?.getD (0, 0)).2 := by
  unfold preT
  rw [List.take_add_one, List.getElem?_eq_getElem hk]
  simp only [Option.toList_some, List.map_append, List.map_cons, List.map_nil, List.flatten_append, List.flatten_cons, List.flatten_nil, List.append_nil, Option.getD_some]
theorem preT_le (m : TcpP) (no k : Nat) : (preT (zsT m no) k).length ≤ 20 := by
  unfold preT
  have : ∀ l : List (Int × Nat), (l.map fun z => digL z.1 z.2).flatten.length = (l.map (·.2)).sum := by
    intro l
    induction l with
    | nil => rfl
    | cons z l ih => simp [digL_length, ih]
  rw [this]
  unfold zsT
  have hk : k = 0 ∨ k = 1 ∨ k = 2 ∨ k = 3 ∨ k = 4 ∨ k = 5 ∨ k = 6 ∨ k = 7 ∨ k = 8 ∨ 9 ≤ k := by omega
  rcases hk with rfl | rfl | rfl | rfl | rfl | rfl | rfl | rfl | rfl | h
  all_goals try simp
  rw [List.take_of_length_le (by simp; omega)]; simp
theorem preT_all (m : TcpP) (no : Nat) (h : m.opts.length = no) : [preT (zsT m no) 9, m.opts, m.data].flatten = bytesT m 0 := by
  unfold preT zsT bytesT
  rw [h]
  simp
theorem bytesT_set (m : TcpP) (s : Int) : setN (bytesT m 0) 16 (digL s 2) 2 = bytesT m s := by
  have := setN_two2 (digL m.s 2 ++ digL m.d 2 ++ digL m.q 4 ++ digL m.a 4 ++ digL ((20 + (m.opts.length : Int)) / 4 * 16 + m.r) 1 ++ digL m.f 1 ++ digL m.w 2) (digL m.u 2 ++ m.opts ++ m.data) 0 0 (digL s 2) 16 (by simp [digL_length]) (digL_length _ _)
  have e0 : digL 0 2 = [0, 0] := by decide
  unfold bytesT
  rw [e0]
  simpa using this

set_option maxRecDepth 100000 in
set_option maxHeartbeats 4000000 in
theorem TcpBuild_yes (src dst : Int) (m : TcpP) (Ao : Option Addr) (no co : Nat) (A : Option Addr) (n c : Nat) (w : World) (hro : RB w Ao no co m.opts) (hrd : RB w A n c m.data) (hok : checkT m no n = 0) :
    Calls Try.prog 47 #[.int .i64 src, .int .i64 dst, .agg (cellsT m Ao no co A n c)] w (TwoOut w (builtT src dst m) 0) := by
  obtain ⟨⟨hn1, hn2, hr0, hr1⟩, hfit, htot⟩ := checkT_ok hok
  have hck := Lib.hid (fun W => TcpCheck_any m Ao no co A n c W (by omega))
  rw [hok] at hck
  have hb0 := Lib.hid ((Below.refl _ w).alloc (Nat.le_refl _) (.cells (cellsT m Ao no co A n c) 73))
  have hk0 := Lib.hid (Blk.new w (cellsT m Ao no co A n c) 73)
  have hF := Lib.hid (fun W => Fields_any m Ao no co A n c W hr0 hr1 hn1)
  have hzl := Lib.hid (zsT_length m no)
  have hle := Lib.hid (fun k => preT_le m no k)
  have hall := Lib.hid (preT_all m no hro.len)
  have hblen := show (bytesT m 0).length = 20 + no + n by rw [bytesT_length, hro.len, hrd.len]
  have hD := Lib.hid (fun W (hW : Below w.heap.size w W) => And.intro (hro.below hW) (hrd.below hW))
  have hsm := show sumT src dst m = 65535 - foldI (totalI [pseudoB src dst 6 (20 + (no : Int) + n), bytesT m 0]) by unfold sumT; rw [hblen]; rfl
  have hsb := Lib.hid (sumT_bd src dst m)
  have hset := Lib.hid (bytesT_set m (sumT src dst m))
  have hsmall := Lib.hid (small_two (pseudoB_byts src dst 6 (20 + (no : Int) + n)) (by rw [pseudoB_length]; omega) (bytesT_byts (s := 0) hro.byt hrd.byt) (by rw [hblen]; omega))
  have hOf := Lib.hid (fun A c W h => by have := Of_any A 2 c [pseudoB src dst 6 (20 + (no : Int) + n), bytesT m 0] W h hsmall.out; rw [← hsm] at this; exact this)
  have hbt := show builtT src dst m = bytesT m (sumT src dst m) from rfl
  rw [hbt]
  replace hfit := Lib.hid (show fitT (zsT m no) from hfit)
  generalize sumT src dst m = sm at *
  obtain ⟨zs, hzs⟩ : ∃ zs, zsT m no = zs := ⟨_, rfl⟩
  rw [hzs] at hF hzl hall hfit
  simp only [hzs] at hle
  replace hblen := Lib.hid hblen
  have htot' := htot
  replace hsm := 0
  replace hbt := 0
  replace hzs := 0
  clear hro hrd hok
  go_enter Try.func47, Try.ntmps47
  go_wp2_with (first
    | (refine wpList_load_row rfl 73 (.tmp 5) rfl w.heap.size rfl _ (cellsT m Ao no co A n c) _ _ hk1.out.at_ Try.underlying73 rfl (by kernel_rfl) ?_)
    | (go_at_call 49; refine (hck.out _).mono ?_; rintro e w1 ⟨rfl, hB1⟩; have hk1 := Lib.hid (hk0.out.to hB1); have hBt1 := Lib.hid (hb0.out.trans (hB1.mono hb0.out.size)); replace hB1 := 0)
    | (go_at_call 81; refine (hF.out _).mono ?_; rintro e w2 ⟨B, rfl, hBs, hbk, hB2⟩; have hk2 := Lib.hid (hk1.out.to hB2); have hBt := Lib.hid (hBt1.out.trans (hB2.mono hBt1.out.size)); replace hB2 := 0; replace hbk := Lib.hid hbk; have hBw := Lib.hid (Nat.le_trans hBt1.out.size hBs))
    | fail)
  go_loopw [9, 11, 20] (fun v x i wr => ∃ (k : Nat) (A3 : Option Addr) (c3 : Nat), k ≤ 9 ∧ i = .int .i64 k ∧ v = .slice A3 (preT zs k).length c3 ∧ OB wr (w.heap.size + 1) A3 (preT zs k).length c3 (preT zs k) ∧ Below w.heap.size w wr ∧ Blk wr w.heap.size (cellsT m Ao no co A n c) 73 ∧ Blk wr B (fldsT zs) 113) (fun _ _ i _ => 9 - (intOf i).toNat)
  case atStart => exact ⟨0, none, 0, by omega, rfl, rfl, OB.nil _ _, hBt.out, hk2.out, hbk.out⟩
  case round =>
    obtain ⟨k, A3, c3, hk, rfl, rfl, ho3, hB3, hK3, hF3⟩ := hrel
    have hl3 := hle.out k
    by_cases hlt : k < 9
    · obtain ⟨g0, g1⟩ := flds_cell (zs := zs) (k := k) (by rw [hzl.out]; exact hlt)
      have c0 := hF3.cell _ _ g0
      have c1 := hF3.cell _ _ g1
      have hys := Lib.hid (fit_at hfit.out (k := k) (by rw [hzl.out]; exact hlt))
      have hsu := Lib.hid (preT_succ zs k (by rw [hzl.out]; exact hlt))
      have hsul : (preT zs (k + 1)).length = (preT zs k).length + (zs[k]?.getD (0, 0)).2 := by rw [hsu.out, List.length_append, digL_length]
      generalize (zs[k]?.getD (0, 0)).1 = z at *
      generalize (zs[k]?.getD (0, 0)).2 = s at *
      have hh := Lib.hid (And.intro hB3 (And.intro hK3 hF3))
      replace hsul := Lib.hid hsul
      have hlw := hK3.lt
      replace hlw := Lib.hid hlw
      generalize hL : (preT zs k).length = L at *
      replace hL := Lib.hid hL
      replace ho3 := Lib.hid ho3
      clear hB3 hK3 hF3 g0 g1
      go_wp2_with (first
        | (go_at_call 66; refine (Put_yes A3 L c3 (preT zs k) z s _ (ho3.out.rb.alloc _) (by omega) hys.out).mono ?_; rintro e w4 ⟨A4, c4, rfl, ho4, hB4⟩)
        | fail)
      go_roundw
      case rel =>
        obtain ⟨q1, q2, q3⟩ := hh.out
        have q1' := q1.alloc q1.size (.cells #[.int .i64 z, .int .i64 (s : Int)] 113)
        exact ⟨k + 1, A4, c4, by omega, by go_num, by rw [hsul.out], by rw [hsul.out, hsu.out]; exact ho4.mono (by have := hlw.out; simp; omega), q1'.trans (hB4.mono q1'.size), (q2.alloc _).to hB4, (q3.alloc _).to hB4⟩
      case measure => simp [intOf]; omega
    · obtain rfl : k = 9 := by omega
      have y8 := hK3.cell 8 _ rfl
      have y9 := hK3.cell 9 _ rfl
      obtain ⟨hro, hrd⟩ := hD.out _ hB3
      have hrr := Lib.hid (rbb_three ho3.rb hro hrd)
      have hB4 := Lib.hid (hB3.alloc hB3.size (.cells #[.slice A3 (preT zs 9).length c3, .slice Ao no co, .slice A n c] 22))
      have hfl : [preT zs 9, m.opts, m.data].flatten.length = 20 + no + n := by rw [hall.out, hblen.out]
      replace hfl := Lib.hid hfl
      generalize (preT zs 9).length = L at *
      clear hro hrd ho3 hF3 hK3
      replace hB3 := Lib.hid hB3
      go_wp2_with (first
        | (go_at_call 67; refine (Concat_any _ 3 3 _ _ hrr.out (by omega) (by rw [hfl.out]; omega)).mono ?_; rintro e w5 ⟨A5, c5, rfl, ho5, hB5⟩; rw [hfl.out, hall.out] at ho5; rw [hfl.out]; have hr5 := Lib.hid ho5.rb; have hBt5 := Lib.hid (hB4.out.trans (hB5.mono hB4.out.size)); replace ho5 := 0; replace hB5 := 0)
        | (go_at_call 84; refine (Pseudo_any src dst 6 (20 + (no : Int) + n) _).mono ?_; rintro e w6 ⟨A6, c6, rfl, ho6, hB6⟩; have hr6 := Lib.hid (hr5.out.below hB6); have hrr6 := Lib.hid (rbb_two ho6.rb hr6.out); have hBt6 := Lib.hid (hBt5.out.trans (hB6.mono hBt5.out.size)); replace ho6 := 0; replace hB6 := 0)
        | (go_at_call 83; refine (hOf.out _ _ _ hrr6.out).mono ?_; rintro e w7 ⟨rfl, hB7⟩; have hBs7 := hBt6.out.alloc hBt6.out.size (.cells #[.slice A6 12 c6, .slice A5 (20 + no + n) c5] 22); have hr7 := Lib.hid ((hr6.out.alloc (.cells #[.slice A6 12 c6, .slice A5 (20 + no + n) c5] 22)).below hB7); have hBt7 := Lib.hid (hBs7.trans (hB7.mono hBs7.size)); replace hB7 := 0; replace hBs7 := 0)
        | (go_at_call 82; refine (Set_ok A5 (20 + no + n) c5 (bytesT m 0) 16 sm 2 _ hr7.out (by omega) (fit2 hsb.out.1 (by have := hsb.out.2; omega)) (by omega)).mono ?_; rintro e w8 ⟨A8, c8, rfl, ho8, hB8⟩)
        | fail)
      go_ret2
      rw [hset.out] at ho8
      exact ⟨A8, _, c8, rfl, ho8.rb, hBt7.out.trans (hB8.mono hBt7.out.size)⟩

set_option maxRecDepth 100000 in
set_option maxHeartbeats 1000000 in
theorem TcpBuild_any (src dst : Int) (m : TcpP) (Ao : Option Addr) (no co : Nat) (A : Option Addr) (n c : Nat) (w : World) (hro : RB w Ao no co m.opts) (hrd : RB w A n c m.data) (hn : n ≤ 1000000000) :
    Calls Try.prog 47 #[.int .i64 src, .int .i64 dst, .agg (cellsT m Ao no co A n c)] w (TwoOut w (builtT? src dst m no n) (checkT m no n)) := by
  by_cases hok : checkT m no n = 0
  · have e : builtT? src dst m no n = builtT src dst m := by unfold builtT?; rw [if_pos hok]
    rw [e, hok]
    exact TcpBuild_yes src dst m Ao no co A n c w hro hrd hok
  · have hck := fun W => TcpCheck_any m Ao no co A n c W hn
    have hb0 := Lib.hid ((Below.refl _ w).alloc (Nat.le_refl _) (.cells (cellsT m Ao no co A n c) 73))
    unfold builtT?
    rw [if_neg hok]
    have hc := checkT_code m no n
    generalize checkT m no n = e0 at *
    clear hro hrd
    go_enter Try.func47, Try.ntmps47
    rcases hc with rfl | rfl | rfl
    · exact absurd rfl hok
    all_goals
      clear hok
      go_wp2_with (go_at_call 49; refine (hck _).mono ?_; rintro e w1 ⟨rfl, hB1⟩)
      go_ret2
      exact ⟨none, 0, 0, rfl, RB.nil _, hb0.out.trans (hB1.mono (by simp))⟩
end Go.Proofs.Ytccdbelngjonaaa
