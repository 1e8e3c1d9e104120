/- slices.Grow of a nil slice of bytes, and slices.Concat of slices of bytes: walks. -/
import Derived.Test.YtehecefapiblpaaAppend
import Derived.Lib.AppendZerosOnto
import Derived.Test.YtehecefapiblpaaTcp
set_option linter.unusedVariables false
namespace Go.Proofs.Ytehecefapiblpaa
open Go.RowKit Go.Lib

theorem OB.hold (w : World) (G : Nat) (xs : Array Value) (hx : xs.size = G) (hG : G ≤ maxLen) :
    OB (w.drew.alloc (.cells xs 5)) w.heap.size (some ⟨w.heap.size, 0, none⟩) 0 G [] :=
  ⟨⟨rfl, .inr ⟨w.heap.size, G, _, rfl, Nat.le_refl _, World.alloc_heap_new w.drew _, Nat.zero_le _, hG, by omega, by simp [u8s]⟩⟩, Byts.nil⟩

set_option maxRecDepth 100000 in
set_option maxHeartbeats 1000000 in
theorem Grow_nil (k : Nat) (w : World) (hk : k ≤ 1000000) :
    Calls Try.prog 116 #[.slice none 0 0, .int .i64 k] w (Fresh w 0 []) := by
  obtain ⟨i0, hi, hz0, hz1, hz2⟩ := info_parts info_u8
  rcases Nat.eq_zero_or_pos k with rfl | h0
  · go_enter Try.func116, Try.ntmps116
    go_wp2
    go_ret
    exact ⟨none, 0, rfl, OB.nil w _, Below.refl _ w⟩
  · have hG1 := grownCap_ge w (0 + k) 0 5
    have hG2 := grownCap_le_maxLen w (0 + k) 0 5 (by unfold maxLen; omega)
    have hrz : ∀ ty, (Builtin.append_ #[24, 3] ty #[.slice none 0 0, .int .i64 (k : Int)]).run Try.prog w =
        .ok (.slice (some ⟨w.heap.size, 0, none⟩) (0 + k) (grownCap w (0 + k) 0 5)) (w.drew.alloc (.cells (([] : List Value).toArray ++ Builtin.zeroCells (Value.int .u8 0).cells k ++ Builtin.zeroCells (Value.int .u8 0).cells (grownCap w (0 + k) 0 5 - (0 + k))) 5)) := by
      intro ty
      exact run_append_grow_zeros w 24 3 ty 5 i0 (.int .u8 0) .i64 .i64 Try.underlying24 Try.underlying3 hi hz0 none 0 0 [] (run_firstCells_none w.drew i0.size 0 0 0) k h0 (by omega) (by omega) (by omega) (by rw [hz2]; omega)
        (by rw [hz2]; exact growslice_fits (by omega) (by omega))
    simp only [Nat.zero_add] at hrz hG1 hG2
    generalize grownCap w k 0 5 = G at *
    have hob := fun xs hx => OB.hold w G xs hx hG2
    replace hob := Lib.hid hob
    have hGm : G ≤ 9223372036854775807 := by unfold maxLen at hG2; omega
    clear hG2
    go_enter Try.func116, Try.ntmps116
    go_wp2_with (at_builtin; refine Lib.wpList_append_run _ rfl _ _ _ _ rfl _ _ rfl rfl _ _ (hrz _) ?_)
    all_goals
      go_ret
      exact ⟨_, _, rfl, hob.out _ (by simp [Builtin.zeroCells]; try omega), ((Below.refl _ w).drew).alloc (by simp) _⟩

/-- The first k of lists, joined. -/
def flatL (l : List (List Int)) (k : Nat) : List Int := (l.take k).flatten
def flatN (l : List (List Int)) (k : Nat) : Nat := (flatL l k).length
theorem flatL_zero (l : List (List Int)) : flatL l 0 = [] := by simp [flatL]
theorem flatN_zero (l : List (List Int)) : flatN l 0 = 0 := by simp [flatN, flatL]
theorem flatL_all (l : List (List Int)) : flatL l l.length = l.flatten := by simp [flatL]
theorem flatL_succ (l : List (List Int)) (k : Nat) (hk : k < l.length) : flatL l (k + 1) = flatL l k ++ (l[k]?.getD []) := by
  unfold flatL
  rw [List.take_add_one, List.flatten_append]
  congr 1
  rw [List.getElem?_eq_getElem hk]; simp
theorem flatN_succ (l : List (List Int)) (k : Nat) (hk : k < l.length) : flatN l (k + 1) = flatN l k + (l[k]?.getD []).length := by
  unfold flatN; rw [flatL_succ l k hk, List.length_append]
theorem flatN_le (l : List (List Int)) (k : Nat) : flatN l k ≤ l.flatten.length := by
  have := congrArg (fun x => x.flatten.length) (List.take_append_drop k l)
  simp only [List.flatten_append, List.length_append] at this
  unfold flatN flatL
  omega

set_option maxHeartbeats 2000000 in
theorem Concat_any (A : Option Addr) (n c : Nat) (l : List (List Int)) (w : World) (h : RBB w A n c l) (hn : n ≤ 100000) (hN : l.flatten.length ≤ 1000000) :
    Calls Try.prog 96 #[.slice A n c] w (Fresh w l.flatten.length l.flatten) := by
  have hl := h.len
  have hfle := Lib.hid (fun k => Nat.le_trans (flatN_le l k) hN)
  have hall := Lib.hid (flatL_all l)
  have halln : flatN l l.length = l.flatten.length := by rw [flatN, flatL_all]
  replace halln := Lib.hid halln
  go_enter Try.func96, Try.ntmps96
  go_wp2
  go_loopw [3, 11] (fun t i wr => ∃ k : Nat, k ≤ n ∧ i = .int .i64 k ∧ t = .int .i64 (flatN l k : Nat) ∧ Below w.heap.size w wr) (fun _ i _ => n - (intOf i).toNat)
  case atStart => exact ⟨0, by omega, rfl, by rw [flatN_zero]; rfl, Below.refl _ w⟩
  case round =>
    obtain ⟨k, hk, rfl, rfl, hB⟩ := hrel
    by_cases hlt : k < n
    · obtain ⟨b, off, rfl, hbl, hc⟩ := h.mem (by omega)
      obtain ⟨A', n', c', hcell0, hrb0⟩ := hc k hlt
      have hcell := (hB.cell (p := ⟨b, off + k, none⟩) hbl).trans hcell0
      have hf := flatN_succ l k (by omega)
      rw [hrb0.len] at hf
      have hle := hfle.out (k + 1)
      rw [hf] at hle
      replace hf := Lib.hid hf
      replace hc := Lib.hid hc
      clear hcell0 hrb0
      go_wp2
      go_roundw
      case rel => exact ⟨k + 1, by omega, by simp, by rw [hf.out]; simp, hB⟩
      case measure => first | (simp [intOf]; done) | (simp [intOf]; omega) | omega
    · obtain rfl : k = n := by omega
      have hle := hfle.out k
      go_wp2_with (go_at_call 116; refine (Grow_nil _ _ hle).mono ?_; rintro e w1 ⟨A1, c1, rfl, ho1, hB1⟩)
      have hB2 := hB.trans (hB1.mono hB.size)
      replace ho1 := ho1.mono hB.size
      clear hB hB1
      go_loopw [6, 27] (fun v i wr => ∃ (m : Nat) (A3 : Option Addr) (c3 : Nat), m ≤ k ∧ i = .int .i64 m ∧ v = .slice A3 (flatN l m) c3 ∧ OB wr w.heap.size A3 (flatN l m) c3 (flatL l m) ∧ Below w.heap.size w wr) (fun _ i _ => k - (intOf i).toNat)
      case atStart => exact ⟨0, A1, c1, by omega, rfl, by rw [flatN_zero], by rw [flatN_zero, flatL_zero]; exact ho1, hB2⟩
      case round =>
        obtain ⟨m, A3, c3, hm, rfl, rfl, ho3, hB⟩ := hrel
        clear ho1 hB2
        by_cases hlt : m < k
        · obtain ⟨b, off, rfl, hbl, hc⟩ := h.mem (by omega)
          obtain ⟨A', n', c', hcell0, hrb0⟩ := hc m hlt
          have hcell := (hB.cell (p := ⟨b, off + m, none⟩) hbl).trans hcell0
          have hrb := hrb0.below hB
          have hf := flatN_succ l m (by omega)
          rw [hrb0.len] at hf
          have hfl := Lib.hid (flatL_succ l m (by omega))
          have hle := hfle.out (m + 1)
          rw [hf] at hle
          replace hf := Lib.hid hf
          replace hc := Lib.hid hc
          replace hrb := Lib.hid hrb
          clear hcell0 hrb0
          go_wp2_with (at_builtin; refine wpList_append_bytes _ rfl (.tmp 31) (.tmp 32) rfl rfl rfl ho3 hrb.out (by omega) hB.size ?_; intro A4 c4 w5 ho5 hg5 hr5)
          go_roundw
          case rel => exact ⟨m + 1, A4, c4, by omega, by simp, by rw [hf.out], by rw [hf.out, hfl.out]; exact ho5, hB.grown hg5 hB.size (fun j hj => (ho3.blk hj).1)⟩
          case measure => first | (simp [intOf]; done) | (simp [intOf]; omega) | omega
        · obtain rfl : m = k := by omega
          have e1 := hall.out
          have e2 := halln.out
          rw [hl] at e1 e2
          replace e1 := Lib.hid e1
          replace e2 := Lib.hid e2
          go_wp2
          go_ret
          rw [e1.out, e2.out] at ho3
          rw [e2.out]
          exact ⟨A3, c3, rfl, ho3, hB⟩
end Go.Proofs.Ytehecefapiblpaa
/- Segments (tcp): walk of Build. -/
set_option linter.unusedVariables false
namespace Go.Proofs.Ytehecefapiblpaa
open Go.RowKit

theorem rbb_three {w : World} {A A' A'' : Option Addr} {n c n' c' n'' c'' : Nat} {a b d : List Int} (h : RB w A n c a) (h' : RB w A' n' c' b) (h'' : RB w A'' n'' c'' d) : RBB (w.alloc (.cells #[.slice A n c, .slice A' n' c', .slice A'' n'' c''] 24)) (some ⟨w.heap.size, 0, none⟩) 3 3 [a, b, d] :=
  RBB.lit w 24 [(A, n, c, a), (A', n', c', b), (A'', n'', c'', d)] (fun p hp => by simp at hp; rcases hp with rfl | rfl | rfl; exact h; exact h'; exact h'') (by simp)

/-- A segment's bytes, with a sum. -/
def bytesT (m : TcpP) (s : Int) : List Int :=
  digL m.s 2 ++ digL m.d 2 ++ digL m.q 4 ++ digL m.a 4 ++ digL ((20 + (m.opts.length : Int)) / 4 * 16 + m.r) 1 ++ digL m.f 1 ++ digL m.w 2 ++ digL s 2 ++ digL m.u 2 ++ m.opts ++ m.data
theorem bytesT_length (m : TcpP) (s : Int) : (bytesT m s).length = 20 + m.opts.length + m.data.length := by simp [bytesT, digL_length]; omega
theorem bytesT_byts {m : TcpP} {s : Int} (ho : Byts m.opts) (hd : Byts m.data) : Byts (bytesT m s) := by
  unfold bytesT
  exact ((((((((((digL_byts _ _).append (digL_byts _ _)).append (digL_byts _ _)).append (digL_byts _ _)).append (digL_byts _ _)).append (digL_byts _ _)).append (digL_byts _ _)).append (digL_byts _ _)).append (digL_byts _ _)).append ho).append hd
def sumT (src dst : Int) (m : TcpP) : Int := 65535 - foldI (totalI [pseudoB src dst 6 ((bytesT m 0).length : Nat), bytesT m 0])
theorem sumT_bd (src dst : Int) (m : TcpP) : 0 ≤ sumT src dst m ∧ sumT src dst m ≤ 65535 := by
  have h1 := foldI_lo (totalI [pseudoB src dst 6 ((bytesT m 0).length : Nat), bytesT m 0])
  have h2 := foldI_hi (totalI [pseudoB src dst 6 ((bytesT m 0).length : Nat), bytesT m 0])
  unfold sumT; omega
def builtT (src dst : Int) (m : TcpP) : List Int := bytesT m (sumT src dst m)
def builtT? (src dst : Int) (m : TcpP) (no n : Nat) : List Int := if checkT m no n = 0 then builtT src dst m else []
/-- The first numbers, as bytes. -/
def preT (zs : List (Int × Nat)) (k : Nat) : List Int := ((zs.take k).map fun z => digL z.1 z.2).flatten
theorem preT_succ (zs : List (Int × Nat)) (k : Nat) (hk : k < zs.length) : preT zs (k + 1) = preT zs k ++ digL (zs[k]?.getD (0, 0)).1 (zs[k]?.getD (0, 0)).2 := by
  unfold preT
  rw [List.take_add_one, List.getElem?_eq_getElem hk]
  simp only [Option.toList_some, List.map_append, List.map_cons, List.map_nil, List.flatten_append, List.flatten_cons, List.flatten_nil, List.append_nil, Option.getD_some]
theorem preT_le (m : TcpP) (no k : Nat) : (preT (zsT m no) k).length ≤ 20 := by
  unfold preT
  have : ∀ l : List (Int × Nat), (l.map fun z => digL z.1 z.2).flatten.length = (l.map (·.2)).sum := by
    intro l
    induction l with
    | nil => rfl
    | cons z l ih => simp [digL_length, ih]
  rw [this]
  unfold zsT
  have hk : k = 0 ∨ k = 1 ∨ k = 2 ∨ k = 3 ∨ k = 4 ∨ k = 5 ∨ k = 6 ∨ k = 7 ∨ k = 8 ∨ 9 ≤ k := by omega
  rcases hk with rfl | rfl | rfl | rfl | rfl | rfl | rfl | rfl | rfl | h
  all_goals try simp
  rw [List.take_of_length_le (by simp; omega)]; simp
theorem preT_all (m : TcpP) (no : Nat) (h : m.opts.length = no) : [preT (zsT m no) 9, m.opts, m.data].flatten = bytesT m 0 := by
  unfold preT zsT bytesT
  rw [h]
  simp
theorem bytesT_set (m : TcpP) (s : Int) : setN (bytesT m 0) 16 (digL s 2) 2 = bytesT m s := by
  have := setN_two2 (digL m.s 2 ++ digL m.d 2 ++ digL m.q 4 ++ digL m.a 4 ++ digL ((20 + (m.opts.length : Int)) / 4 * 16 + m.r) 1 ++ digL m.f 1 ++ digL m.w 2) (digL m.u 2 ++ m.opts ++ m.data) 0 0 (digL s 2) 16 (by simp [digL_length]) (digL_length _ _)
  have e0 : digL 0 2 = [0, 0] := by decide
  unfold bytesT
  rw [e0]
  simpa using this

set_option maxRecDepth 100000 in
set_option maxHeartbeats 4000000 in
theorem TcpBuild_yes (src dst : Int) (m : TcpP) (Ao : Option Addr) (no co : Nat) (A : Option Addr) (n c : Nat) (w : World) (hro : RB w Ao no co m.opts) (hrd : RB w A n c m.data) (hok : checkT m no n = 0) :
    Calls Try.prog 53 #[.int .i64 src, .int .i64 dst, .agg (cellsT m Ao no co A n c)] w (TwoOut w (builtT src dst m) 0) := by
  obtain ⟨⟨hn1, hn2, hr0, hr1⟩, hfit, htot⟩ := checkT_ok hok
  have hck := Lib.hid (fun W => TcpCheck_any m Ao no co A n c W (by omega))
  rw [hok] at hck
  have hb0 := Lib.hid ((Below.refl _ w).alloc (Nat.le_refl _) (.cells (cellsT m Ao no co A n c) 78))
  have hk0 := Lib.hid (Blk.new w (cellsT m Ao no co A n c) 78)
  have hF := Lib.hid (fun W => Fields_any m Ao no co A n c W hr0 hr1 hn1)
  have hzl := Lib.hid (zsT_length m no)
  have hle := Lib.hid (fun k => preT_le m no k)
  have hall := Lib.hid (preT_all m no hro.len)
  have hblen := show (bytesT m 0).length = 20 + no + n by rw [bytesT_length, hro.len, hrd.len]
  have hD := Lib.hid (fun W (hW : Below w.heap.size w W) => And.intro (hro.below hW) (hrd.below hW))
  have hsm := show sumT src dst m = 65535 - foldI (totalI [pseudoB src dst 6 (20 + (no : Int) + n), bytesT m 0]) by unfold sumT; rw [hblen]; rfl
  have hsb := Lib.hid (sumT_bd src dst m)
  have hset := Lib.hid (bytesT_set m (sumT src dst m))
  have hsmall := Lib.hid (small_two (pseudoB_byts src dst 6 (20 + (no : Int) + n)) (by rw [pseudoB_length]; omega) (bytesT_byts (s := 0) hro.byt hrd.byt) (by rw [hblen]; omega))
  have hOf := Lib.hid (fun A c W h => by have := Of_any A 2 c [pseudoB src dst 6 (20 + (no : Int) + n), bytesT m 0] W h hsmall.out; rw [← hsm] at this; exact this)
  have hbt := show builtT src dst m = bytesT m (sumT src dst m) from rfl
  rw [hbt]
  replace hfit := Lib.hid (show fitT (zsT m no) from hfit)
  generalize sumT src dst m = sm at *
  obtain ⟨zs, hzs⟩ : ∃ zs, zsT m no = zs := ⟨_, rfl⟩
  rw [hzs] at hF hzl hall hfit
  simp only [hzs] at hle
  replace hblen := Lib.hid hblen
  have htot' := htot
  replace hsm := 0
  replace hbt := 0
  replace hzs := 0
  clear hro hrd hok
  go_enter Try.func53, Try.ntmps53
  go_wp2_with (first
    | (refine wpList_load_row rfl 78 (.tmp 5) rfl w.heap.size rfl _ (cellsT m Ao no co A n c) _ _ hk1.out.at_ Try.underlying78 rfl (by kernel_rfl) ?_)
    | (go_at_call 93; refine (hck.out _).mono ?_; rintro e w1 ⟨rfl, hB1⟩; have hk1 := Lib.hid (hk0.out.to hB1); have hBt1 := Lib.hid (hb0.out.trans (hB1.mono hb0.out.size)); replace hB1 := 0)
    | (go_at_call 94; refine (hF.out _).mono ?_; rintro e w2 ⟨B, rfl, hBs, hbk, hB2⟩; have hk2 := Lib.hid (hk1.out.to hB2); have hBt := Lib.hid (hBt1.out.trans (hB2.mono hBt1.out.size)); replace hB2 := 0; replace hbk := Lib.hid hbk; have hBw := Lib.hid (Nat.le_trans hBt1.out.size hBs))
    | fail)
  go_loopw [9, 11, 20] (fun v x i wr => ∃ (k : Nat) (A3 : Option Addr) (c3 : Nat), k ≤ 9 ∧ i = .int .i64 k ∧ v = .slice A3 (preT zs k).length c3 ∧ OB wr (w.heap.size + 1) A3 (preT zs k).length c3 (preT zs k) ∧ Below w.heap.size w wr ∧ Blk wr w.heap.size (cellsT m Ao no co A n c) 78 ∧ Blk wr B (fldsT zs) 127) (fun _ _ i _ => 9 - (intOf i).toNat)
  case atStart => exact ⟨0, none, 0, by omega, rfl, rfl, OB.nil _ _, hBt.out, hk2.out, hbk.out⟩
  case round =>
    obtain ⟨k, A3, c3, hk, rfl, rfl, ho3, hB3, hK3, hF3⟩ := hrel
    have hl3 := hle.out k
    by_cases hlt : k < 9
    · obtain ⟨g0, g1⟩ := flds_cell (zs := zs) (k := k) (by rw [hzl.out]; exact hlt)
      have c0 := hF3.cell _ _ g0
      have c1 := hF3.cell _ _ g1
      have hys := Lib.hid (fit_at hfit.out (k := k) (by rw [hzl.out]; exact hlt))
      have hsu := Lib.hid (preT_succ zs k (by rw [hzl.out]; exact hlt))
      have hsul : (preT zs (k + 1)).length = (preT zs k).length + (zs[k]?.getD (0, 0)).2 := by rw [hsu.out, List.length_append, digL_length]
      generalize (zs[k]?.getD (0, 0)).1 = z at *
      generalize (zs[k]?.getD (0, 0)).2 = s at *
      have hh := Lib.hid (And.intro hB3 (And.intro hK3 hF3))
      replace hsul := Lib.hid hsul
      have hlw := hK3.lt
      replace hlw := Lib.hid hlw
      generalize hL : (preT zs k).length = L at *
      replace hL := Lib.hid hL
      replace ho3 := Lib.hid ho3
      clear hB3 hK3 hF3 g0 g1
      go_wp2_with (first
        | (go_at_call 95; refine (Put_yes A3 L c3 (preT zs k) z s _ (ho3.out.rb.alloc _) (by omega) hys.out).mono ?_; rintro e w4 ⟨A4, c4, rfl, ho4, hB4⟩)
        | fail)
      go_roundw
      case rel =>
        obtain ⟨q1, q2, q3⟩ := hh.out
        have q1' := q1.alloc q1.size (.cells #[.int .i64 z, .int .i64 (s : Int)] 127)
        exact ⟨k + 1, A4, c4, by omega, by go_num, by rw [hsul.out], by rw [hsul.out, hsu.out]; exact ho4.mono (by have := hlw.out; simp; omega), q1'.trans (hB4.mono q1'.size), (q2.alloc _).to hB4, (q3.alloc _).to hB4⟩
      case measure => simp [intOf]; omega
    · obtain rfl : k = 9 := by omega
      have y8 := hK3.cell 8 _ rfl
      have y9 := hK3.cell 9 _ rfl
      obtain ⟨hro, hrd⟩ := hD.out _ hB3
      have hrr := Lib.hid (rbb_three ho3.rb hro hrd)
      have hB4 := Lib.hid (hB3.alloc hB3.size (.cells #[.slice A3 (preT zs 9).length c3, .slice Ao no co, .slice A n c] 24))
      have hfl : [preT zs 9, m.opts, m.data].flatten.length = 20 + no + n := by rw [hall.out, hblen.out]
      replace hfl := Lib.hid hfl
      generalize (preT zs 9).length = L at *
      clear hro hrd ho3 hF3 hK3
      replace hB3 := Lib.hid hB3
      go_wp2_with (first
        | (go_at_call 96; refine (Concat_any _ 3 3 _ _ hrr.out (by omega) (by rw [hfl.out]; omega)).mono ?_; rintro e w5 ⟨A5, c5, rfl, ho5, hB5⟩; rw [hfl.out, hall.out] at ho5; rw [hfl.out]; have hr5 := Lib.hid ho5.rb; have hBt5 := Lib.hid (hB4.out.trans (hB5.mono hB4.out.size)); replace ho5 := 0; replace hB5 := 0)
        | (go_at_call 91; refine (Pseudo_any src dst 6 (20 + (no : Int) + n) _).mono ?_; rintro e w6 ⟨A6, c6, rfl, ho6, hB6⟩; have hr6 := Lib.hid (hr5.out.below hB6); have hrr6 := Lib.hid (rbb_two ho6.rb hr6.out); have hBt6 := Lib.hid (hBt5.out.trans (hB6.mono hBt5.out.size)); replace ho6 := 0; replace hB6 := 0)
        | (go_at_call 97; refine (hOf.out _ _ _ hrr6.out).mono ?_; rintro e w7 ⟨rfl, hB7⟩; have hBs7 := hBt6.out.alloc hBt6.out.size (.cells #[.slice A6 12 c6, .slice A5 (20 + no + n) c5] 24); have hr7 := Lib.hid ((hr6.out.alloc (.cells #[.slice A6 12 c6, .slice A5 (20 + no + n) c5] 24)).below hB7); have hBt7 := Lib.hid (hBs7.trans (hB7.mono hBs7.size)); replace hB7 := 0; replace hBs7 := 0)
        | (go_at_call 71; refine (Set_ok A5 (20 + no + n) c5 (bytesT m 0) 16 sm 2 _ hr7.out (by omega) (fit2 hsb.out.1 (by have := hsb.out.2; omega)) (by omega)).mono ?_; rintro e w8 ⟨A8, c8, rfl, ho8, hB8⟩)
        | fail)
      go_ret2
      rw [hset.out] at ho8
      exact ⟨A8, _, c8, rfl, ho8.rb, hBt7.out.trans (hB8.mono hBt7.out.size)⟩

set_option maxRecDepth 100000 in
set_option maxHeartbeats 1000000 in
theorem TcpBuild_any (src dst : Int) (m : TcpP) (Ao : Option Addr) (no co : Nat) (A : Option Addr) (n c : Nat) (w : World) (hro : RB w Ao no co m.opts) (hrd : RB w A n c m.data) (hn : n ≤ 1000000000) :
    Calls Try.prog 53 #[.int .i64 src, .int .i64 dst, .agg (cellsT m Ao no co A n c)] w (TwoOut w (builtT? src dst m no n) (checkT m no n)) := by
  by_cases hok : checkT m no n = 0
  · have e : builtT? src dst m no n = builtT src dst m := by unfold builtT?; rw [if_pos hok]
    rw [e, hok]
    exact TcpBuild_yes src dst m Ao no co A n c w hro hrd hok
  · have hck := fun W => TcpCheck_any m Ao no co A n c W hn
    have hb0 := Lib.hid ((Below.refl _ w).alloc (Nat.le_refl _) (.cells (cellsT m Ao no co A n c) 78))
    unfold builtT?
    rw [if_neg hok]
    have hc := checkT_code m no n
    generalize checkT m no n = e0 at *
    clear hro hrd
    go_enter Try.func53, Try.ntmps53
    rcases hc with rfl | rfl | rfl
    · exact absurd rfl hok
    all_goals
      clear hok
      go_wp2_with (go_at_call 93; refine (hck _).mono ?_; rintro e w1 ⟨rfl, hB1⟩)
      go_ret2
      exact ⟨none, 0, 0, rfl, RB.nil _, hb0.out.trans (hB1.mono (by simp))⟩
end Go.Proofs.Ytehecefapiblpaa
