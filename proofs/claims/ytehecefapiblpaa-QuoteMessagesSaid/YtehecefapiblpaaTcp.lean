/- Segments (tcp, and the reference): walks of fields, Check. -/
import Derived.Test.YtehecefapiblpaaUdp
import Derived.Test.YtehecefapiblpaaAppend
set_option linter.unusedVariables false
namespace Go.Proofs.Ytehecefapiblpaa
open Go.RowKit

/-- A segment: ports, sequence, acknowledgment, reserved, flags, window, urgent, options, data. -/
structure TcpP where
  s : Int
  d : Int
  q : Int
  a : Int
  r : Int
  f : Int
  w : Int
  u : Int
  opts : List Int
  data : List Int
abbrev cellsT (m : TcpP) (Ao : Option Addr) (no co : Nat) (A : Option Addr) (n c : Nat) : Array Value :=
  #[.int .i64 m.s, .int .i64 m.d, .int .i64 m.q, .int .i64 m.a, .int .i64 m.r, .int .i64 m.f, .int .i64 m.w, .int .i64 m.u, .slice Ao no co, .slice A n c]
/-- The numbers of a head, and how many bytes each has. -/
def zsT (m : TcpP) (no : Nat) : List (Int × Nat) := [(m.s, 2), (m.d, 2), (m.q, 4), (m.a, 4), ((20 + (no : Int)) / 4 * 16 + m.r, 1), (m.f, 1), (m.w, 2), (0, 2), (m.u, 2)]
def fldsT (zs : List (Int × Nat)) : Array Value := (zs.flatMap fun z => [.int .i64 z.1, .int .i64 (z.2 : Int)]).toArray

set_option maxRecDepth 100000 in
set_option maxHeartbeats 2000000 in
theorem Fields_any (m : TcpP) (Ao : Option Addr) (no co : Nat) (A : Option Addr) (n c : Nat) (w : World) (hr0 : 0 ≤ m.r) (hr1 : m.r ≤ 15) (hno : no ≤ 40) :
    Calls Try.prog 94 #[.agg (cellsT m Ao no co A n c)] w fun e w' =>
      ∃ B, e = .returned (.slice (some ⟨B, 0, none⟩) 9 9) ∧ w.heap.size ≤ B ∧ Blk w' B (fldsT (zsT m no)) 127 ∧ Below w.heap.size w w' := by
  have hb0 := Lib.hid ((Below.refl _ w).alloc (Nat.le_refl _) (.cells (cellsT m Ao no co A n c) 78))
  have hq : (20 + (no : Int)).tdiv 4 = (20 + (no : Int)) / 4 := Int.tdiv_eq_ediv_of_nonneg (by omega)
  have hor : bits .or .i64 ((20 + (no : Int)) / 4 * 16) m.r = (20 + (no : Int)) / 4 * 16 + m.r := i64_join 4 _ _ (by omega) (by omega) (by omega) (by omega) (by omega) (by omega)
  go_enter Try.func94, Try.ntmps94
  go_wp2
  go_ret
  have k := Blk.new (w.alloc (.cells (cellsT m Ao no co A n c) 78)) (fldsT (zsT m no)) 127
  rw [World.size_alloc] at k
  exact ⟨w.heap.size + 1, rfl, by omega, k, hb0.out.alloc hb0.out.size _⟩

/-- Which of the numbers fit. -/
def fitT (zs : List (Int × Nat)) : Prop := ∀ z ∈ zs, fitsP z.1 (z.2 : Int)
instance (zs : List (Int × Nat)) : Decidable (fitT zs) := by unfold fitT; exact inferInstance
def headT (m : TcpP) (no : Nat) : Prop := no ≤ 40 ∧ no % 4 = 0 ∧ 0 ≤ m.r ∧ m.r ≤ 15
instance (m : TcpP) (no : Nat) : Decidable (headT m no) := by unfold headT; exact inferInstance
def checkT (m : TcpP) (no n : Nat) : Int := if headT m no then (if fitT (zsT m no) then (if 65535 < 20 + no + n then 6 else 0) else 1) else 1
theorem flds_cell {zs : List (Int × Nat)} {k : Nat} (hk : k < zs.length) : (fldsT zs)[k * 2]? = some (.int .i64 (zs[k]?.getD (0, 0)).1) ∧ (fldsT zs)[k * 2 + 1]? = some (.int .i64 ((zs[k]?.getD (0, 0)).2 : Int)) := by
  unfold fldsT
  induction zs generalizing k with
  | nil => simp at hk
  | cons z zs ih =>
    cases k with
    | zero => simp
    | succ k =>
      have := ih (k := k) (by simpa using hk)
      simp only [List.getElem?_toArray, List.flatMap_cons, List.cons_append, List.nil_append, List.getElem?_cons_succ] at this ⊢
      rw [show (k + 1) * 2 = k * 2 + 1 + 1 by omega]
      simpa using this

set_option maxRecDepth 100000 in
set_option maxHeartbeats 2000000 in
theorem TcpCheck_head (m : TcpP) (Ao : Option Addr) (no co : Nat) (A : Option Addr) (n c : Nat) (w : World) (h : ¬ headT m no) :
    Calls Try.prog 93 #[.agg (cellsT m Ao no co A n c)] w fun e w' => e = .returned (.int .i64 1) ∧ Below w.heap.size w w' := by
  have hb0 := Lib.hid ((Below.refl _ w).alloc (Nat.le_refl _) (.cells (cellsT m Ao no co A n c) 78))
  have htm : (no : Int).tmod 4 = (no : Int) % 4 := Int.tmod_eq_emod_of_nonneg (by omega)
  unfold headT at h
  by_cases h1 : no ≤ 40
  · by_cases h2 : no % 4 = 0
    · have h2' : (no : Int) % 4 = 0 := by omega
      by_cases h3 : 0 ≤ m.r
      · have h4 : ¬ m.r ≤ 15 := fun h4 => h ⟨h1, h2, h3, h4⟩
        go_enter Try.func93, Try.ntmps93
        go_wp2
        go_ret
        exact ⟨rfl, hb0.out⟩
      · go_enter Try.func93, Try.ntmps93
        go_wp2
        go_ret
        exact ⟨rfl, hb0.out⟩
    · have h2' : ¬ (no : Int) % 4 = 0 := by omega
      go_enter Try.func93, Try.ntmps93
      go_wp2
      go_ret
      exact ⟨rfl, hb0.out⟩
  · go_enter Try.func93, Try.ntmps93
    go_wp2
    go_ret
    exact ⟨rfl, hb0.out⟩

theorem zsT_length (m : TcpP) (no : Nat) : (zsT m no).length = 9 := rfl
theorem fit_all {zs : List (Int × Nat)} (h : ∀ k, k < zs.length → fitsP (zs[k]?.getD (0, 0)).1 ((zs[k]?.getD (0, 0)).2 : Int)) : fitT zs := fun z hz => by
  obtain ⟨k, hk⟩ := List.getElem?_of_mem hz
  have := h k (List.getElem?_eq_some_iff.1 hk).1
  rw [hk] at this; exact this
theorem fit_at {zs : List (Int × Nat)} (h : fitT zs) {k : Nat} (hk : k < zs.length) : fitsP (zs[k]?.getD (0, 0)).1 ((zs[k]?.getD (0, 0)).2 : Int) := by
  rw [List.getElem?_eq_getElem hk]
  exact h _ (List.getElem_mem hk)

set_option maxRecDepth 100000 in
set_option maxHeartbeats 4000000 in
theorem TcpCheck_rest (m : TcpP) (Ao : Option Addr) (no co : Nat) (A : Option Addr) (n c : Nat) (w : World) (h : headT m no) (hn : n ≤ 1000000000) :
    Calls Try.prog 93 #[.agg (cellsT m Ao no co A n c)] w fun e w' => e = .returned (.int .i64 (checkT m no n)) ∧ Below w.heap.size w w' := by
  have hb0 := Lib.hid ((Below.refl _ w).alloc (Nat.le_refl _) (.cells (cellsT m Ao no co A n c) 78))
  have hk0 := Lib.hid (Blk.new w (cellsT m Ao no co A n c) 78)
  have htm : (no : Int).tmod 4 = (no : Int) % 4 := Int.tmod_eq_emod_of_nonneg (by omega)
  have hct := show checkT m no n = if fitT (zsT m no) then (if 65535 < 20 + no + n then 6 else 0) else 1 by unfold checkT; rw [if_pos h]
  obtain ⟨h1, h2, h3, h4⟩ := h
  have h2' : (no : Int) % 4 = 0 := by omega
  have hF := Lib.hid (fun W => Fields_any m Ao no co A n c W h3 h4 h1)
  have hzl := Lib.hid (zsT_length m no)
  generalize zsT m no = zs at *
  replace hct := Lib.hid hct
  go_enter Try.func93, Try.ntmps93
  go_wp2_with (first
    | (go_at_call 94; refine (hF.out _).mono ?_; rintro e w1 ⟨B, rfl, hBs, hbk, hB1⟩; have hk1 := Lib.hid (hk0.out.to hB1); have hBt := Lib.hid (hb0.out.trans (hB1.mono hb0.out.size)); replace hB1 := 0; replace hbk := Lib.hid hbk)
    | fail)
  go_loopw [4, 29] (fun x i wr => ∃ k : Nat, k ≤ 9 ∧ i = .int .i64 k ∧ (∀ j, j < k → fitsP (zs[j]?.getD (0, 0)).1 ((zs[j]?.getD (0, 0)).2 : Int)) ∧ Below w.heap.size w wr ∧ Blk wr w.heap.size (cellsT m Ao no co A n c) 78 ∧ Blk wr B (fldsT zs) 127) (fun _ i _ => 9 - (intOf i).toNat)
  case atStart => exact ⟨0, by omega, rfl, fun j hj => absurd hj (by omega), hBt.out, hk1.out, hbk.out⟩
  case round =>
    obtain ⟨k, hk, rfl, hfk, hB3, hK3, hF3⟩ := hrel
    by_cases hlt : k < 9
    · obtain ⟨g0, g1⟩ := flds_cell (zs := zs) (k := k) (by rw [hzl.out]; exact hlt)
      have c0 := hF3.cell _ _ g0
      have c1 := hF3.cell _ _ g1
      have hh := Lib.hid (And.intro hB3 (And.intro hK3 hF3))
      have hzk : fitsP (zs[k]?.getD (0, 0)).1 ((zs[k]?.getD (0, 0)).2 : Int) = fitsP (zs[k]?.getD (0, 0)).1 ((zs[k]?.getD (0, 0)).2 : Int) := rfl
      obtain ⟨z, hz⟩ : ∃ z, (zs[k]?.getD (0, 0)).1 = z := ⟨_, rfl⟩
      obtain ⟨s, hs⟩ : ∃ s, (zs[k]?.getD (0, 0)).2 = s := ⟨_, rfl⟩
      rw [hz] at c0
      rw [hs] at c1
      replace hzk := 0
      replace hfk := Lib.hid hfk
      replace hz := Lib.hid hz
      replace hs := Lib.hid hs
      clear hB3 hK3 hF3 g0 g1
      cases hft : fitsB z s
      · have hno := Lib.hid (show ¬ fitT zs from fun hh => by
          have := fit_at hh (k := k) (by rw [hzl.out]; exact hlt)
          rw [hz.out, hs.out] at this
          exact (of_decide_eq_false hft) this)
        go_wp2_with (first
          | (go_at_call 66; refine (Fits_any _ _ _).mono ?_; rintro e w' ⟨rfl, rfl⟩)
          | fail)
        go_ret
        exact ⟨by rw [hct.out, if_neg hno.out]; rfl, hh.out.1.alloc hh.out.1.size _⟩
      · have hys := Lib.hid (of_decide_eq_true hft)
        go_wp2_with (first
          | (go_at_call 66; refine (Fits_any _ _ _).mono ?_; rintro e w' ⟨rfl, rfl⟩)
          | fail)
        go_roundw
        case rel =>
          obtain ⟨q1, q2, q3⟩ := hh.out
          refine ⟨k + 1, by omega, by go_num, fun j hj => ?_, q1.alloc q1.size _, q2.alloc _, q3.alloc _⟩
          rcases Nat.lt_or_ge j k with hjk | hjk
          · exact hfk.out j hjk
          · obtain rfl : j = k := by omega
            rw [hz.out, hs.out]; exact hys.out
        case measure => simp [intOf]; omega
    · obtain rfl : k = 9 := by omega
      have hyes := Lib.hid (fit_all (zs := zs) (by rw [hzl.out]; exact hfk))
      have y8 := hK3.cell 8 _ rfl
      have y9 := hK3.cell 9 _ rfl
      replace hfk := Lib.hid hfk
      replace hF3 := Lib.hid hF3
      replace hK3 := Lib.hid hK3
      by_cases h9 : 65535 < 20 + no + n
      · have h9' : (65535 : Int) < 20 + no + n := by omega
        go_wp2
        go_ret
        exact ⟨by rw [hct.out, if_pos hyes.out, if_pos h9]; rfl, hB3⟩
      · have h9' : ¬ (65535 : Int) < 20 + no + n := by omega
        go_wp2
        go_ret
        exact ⟨by rw [hct.out, if_pos hyes.out, if_neg h9]; rfl, hB3⟩

theorem TcpCheck_any (m : TcpP) (Ao : Option Addr) (no co : Nat) (A : Option Addr) (n c : Nat) (w : World) (hn : n ≤ 1000000000) :
    Calls Try.prog 93 #[.agg (cellsT m Ao no co A n c)] w fun e w' => e = .returned (.int .i64 (checkT m no n)) ∧ Below w.heap.size w w' := by
  by_cases h : headT m no
  · exact TcpCheck_rest m Ao no co A n c w h hn
  · have := TcpCheck_head m Ao no co A n c w h
    unfold checkT
    rw [if_neg h]; exact this

theorem fit_each {m : TcpP} {no : Nat} (h : fitT (zsT m no)) : fitsB m.s 2 = true ∧ fitsB m.d 2 = true ∧ fitsB m.q 4 = true ∧ fitsB m.a 4 = true ∧ fitsB m.f 1 = true ∧ fitsB m.w 2 = true ∧ fitsB m.u 2 = true := by
  unfold fitT zsT at h
  simp only [List.mem_cons, List.not_mem_nil, or_false, forall_eq_or_imp, forall_eq] at h
  obtain ⟨h1, h2, h3, h4, h5, h6, h7, h8, h9⟩ := h
  exact ⟨decide_eq_true h1, decide_eq_true h2, decide_eq_true h3, decide_eq_true h4, decide_eq_true h6, decide_eq_true h7, decide_eq_true h9⟩
theorem fit_back {m : TcpP} {no : Nat} (hh : headT m no) (h1 : fitsB m.s 2 = true) (h2 : fitsB m.d 2 = true) (h3 : fitsB m.q 4 = true) (h4 : fitsB m.a 4 = true) (h6 : fitsB m.f 1 = true) (h7 : fitsB m.w 2 = true) (h9 : fitsB m.u 2 = true) : fitT (zsT m no) := by
  obtain ⟨a1, a2, a3, a4⟩ := hh
  have h5 : fitsP ((20 + (no : Int)) / 4 * 16 + m.r) ((1 : Nat) : Int) := ⟨by omega, by omega, by show _ < (256 : Int) ^ 1; omega⟩
  have h8 : fitsP 0 ((2 : Nat) : Int) := ⟨by omega, by omega, by show _ < (256 : Int) ^ 2; omega⟩
  unfold fitT zsT
  simp only [List.mem_cons, List.not_mem_nil, or_false, forall_eq_or_imp, forall_eq]
  exact ⟨of_decide_eq_true h1, of_decide_eq_true h2, of_decide_eq_true h3, of_decide_eq_true h4, h5, of_decide_eq_true h6, of_decide_eq_true h7, h8, of_decide_eq_true h9⟩
theorem checkT_one {m : TcpP} {no n : Nat} (h : ¬ (headT m no ∧ fitT (zsT m no))) : checkT m no n = 1 := by
  unfold checkT
  by_cases h1 : headT m no
  · rw [if_pos h1, if_neg fun h2 => h ⟨h1, h2⟩]
  · rw [if_neg h1]
theorem checkT_ok {m : TcpP} {no n : Nat} (h : checkT m no n = 0) : headT m no ∧ fitT (zsT m no) ∧ 20 + no + n ≤ 65535 := by
  unfold checkT at h
  by_cases h1 : headT m no
  · rw [if_pos h1] at h
    by_cases h2 : fitT (zsT m no)
    · rw [if_pos h2] at h
      by_cases h3 : 65535 < 20 + no + n
      · rw [if_pos h3] at h; cases h
      · exact ⟨h1, h2, by omega⟩
    · rw [if_neg h2] at h; cases h
  · rw [if_neg h1] at h; cases h
theorem checkT_code (m : TcpP) (no n : Nat) : checkT m no n = 0 ∨ checkT m no n = 1 ∨ checkT m no n = 6 := by
  unfold checkT
  repeat' split
  all_goals simp

end Go.Proofs.Ytehecefapiblpaa
