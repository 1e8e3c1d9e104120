/- Segments (tcp, and the reference): walks of fields, Check. -/
import Derived.Test.YtmbmmpbfmakfbaaUdp
import Derived.Test.YtmbmmpbfmakfbaaAppend
set_option linter.unusedVariables false
namespace Go.Proofs.Ytmbmmpbfmakfbaa
open Go.RowKit

/-- A segment: ports, sequence, acknowledgment, reserved, flags, window, urgent, options, data. -/
structure TcpP where
  s : Int
  d : Int
  q : Int
  a : Int
  r : Int
  f : Int
  w : Int
  u : Int
  opts : List Int
  data : List Int
abbrev cellsT (m : TcpP) (Ao : Option Addr) (no co : Nat) (A : Option Addr) (n c : Nat) : Array Value :=
  #[.int .i64 m.s, .int .i64 m.d, .int .i64 m.q, .int .i64 m.a, .int .i64 m.r, .int .i64 m.f, .int .i64 m.w, .int .i64 m.u, .slice Ao no co, .slice A n c]
/-- The numbers of a head, and how many bytes each has. -/
def zsT (m : TcpP) (no : Nat) : List (Int × Nat) := [(m.s, 2), (m.d, 2), (m.q, 4), (m.a, 4), ((20 + (no : Int)) / 4 * 16 + m.r, 1), (m.f, 1), (m.w, 2), (0, 2), (m.u, 2)]
def fldsT (zs : List (Int × Nat)) : Array Value := (zs.flatMap fun z => [.int .i64 z.1, .int .i64 (z.2 : Int)]).toArray

/-- Which of the numbers fit. -/
def fitT (zs : List (Int × Nat)) : Prop := ∀ z ∈ zs, fitsP z.1 (z.2 : Int)
instance (zs : List (Int × Nat)) : Decidable (fitT zs) := by unfold fitT; exact inferInstance
def headT (m : TcpP) (no : Nat) : Prop := no ≤ 40 ∧ no % 4 = 0 ∧ 0 ≤ m.r ∧ m.r ≤ 15
instance (m : TcpP) (no : Nat) : Decidable (headT m no) := by unfold headT; exact inferInstance
def checkT (m : TcpP) (no n : Nat) : Int := if headT m no then (if fitT (zsT m no) then (if 65535 < 20 + no + n then 6 else 0) else 1) else 1
theorem flds_cell {zs : List (Int × Nat)} {k : Nat} (hk : k < zs.length) : (fldsT zs)[k * 2]? = some (.int .i64 (zs[k]?.getD (0, 0)).1) ∧ (fldsT zs)[k * 2 + 1]? = some (.int .i64 ((zs[k]?.getD (0, 0)).2 : Int)) := by
  unfold fldsT
  induction zs generalizing k with
  | nil => simp at hk
  | cons z zs ih =>
    cases k with
    | zero => simp
    | succ k =>
      have := ih (k := k) (by simpa using hk)
      simp only [List.getElem?_toArray, List.flatMap_cons, List.cons_append, List.nil_append, List.getElem?_cons_succ] at this ⊢
      rw [show (k + 1) * 2 = k * 2 + 1 + 1 by omega]
      simpa using this

theorem zsT_length (m : TcpP) (no : Nat) : (zsT m no).length = 9 := rfl
theorem fit_all {zs : List (Int × Nat)} (h : ∀ k, k < zs.length → fitsP (zs[k]?.getD (0, 0)).1 ((zs[k]?.getD (0, 0)).2 : Int)) : fitT zs := fun z hz => by
  obtain ⟨k, hk⟩ := List.getElem?_of_mem hz
  have := h k (List.getElem?_eq_some_iff.1 hk).1
  rw [hk] at this; exact this
theorem fit_at {zs : List (Int × Nat)} (h : fitT zs) {k : Nat} (hk : k < zs.length) : fitsP (zs[k]?.getD (0, 0)).1 ((zs[k]?.getD (0, 0)).2 : Int) := by
  rw [List.getElem?_eq_getElem hk]
  exact h _ (List.getElem_mem hk)

theorem fit_each {m : TcpP} {no : Nat} (h : fitT (zsT m no)) : fitsB m.s 2 = true ∧ fitsB m.d 2 = true ∧ fitsB m.q 4 = true ∧ fitsB m.a 4 = true ∧ fitsB m.f 1 = true ∧ fitsB m.w 2 = true ∧ fitsB m.u 2 = true := by
  unfold fitT zsT at h
  simp only [List.mem_cons, List.not_mem_nil, or_false, forall_eq_or_imp, forall_eq] at h
  obtain ⟨h1, h2, h3, h4, h5, h6, h7, h8, h9⟩ := h
  exact ⟨decide_eq_true h1, decide_eq_true h2, decide_eq_true h3, decide_eq_true h4, decide_eq_true h6, decide_eq_true h7, decide_eq_true h9⟩
theorem fit_back {m : TcpP} {no : Nat} (hh : headT m no) (h1 : fitsB m.s 2 = true) (h2 : fitsB m.d 2 = true) (h3 : fitsB m.q 4 = true) (h4 : fitsB m.a 4 = true) (h6 : fitsB m.f 1 = true) (h7 : fitsB m.w 2 = true) (h9 : fitsB m.u 2 = true) : fitT (zsT m no) := by
  obtain ⟨a1, a2, a3, a4⟩ := hh
  have h5 : fitsP ((20 + (no : Int)) / 4 * 16 + m.r) ((1 : Nat) : Int) := ⟨by omega, by omega, by show _ < (256 : Int) ^ 1; omega⟩
  have h8 : fitsP 0 ((2 : Nat) : Int) := ⟨by omega, by omega, by show _ < (256 : Int) ^ 2; omega⟩
  unfold fitT zsT
  simp only [List.mem_cons, List.not_mem_nil, or_false, forall_eq_or_imp, forall_eq]
  exact ⟨of_decide_eq_true h1, of_decide_eq_true h2, of_decide_eq_true h3, of_decide_eq_true h4, h5, of_decide_eq_true h6, of_decide_eq_true h7, h8, of_decide_eq_true h9⟩
theorem checkT_one {m : TcpP} {no n : Nat} (h : ¬ (headT m no ∧ fitT (zsT m no))) : checkT m no n = 1 := by
  unfold checkT
  by_cases h1 : headT m no
  · rw [if_pos h1, if_neg fun h2 => h ⟨h1, h2⟩]
  · rw [if_neg h1]
theorem checkT_ok {m : TcpP} {no n : Nat} (h : checkT m no n = 0) : headT m no ∧ fitT (zsT m no) ∧ 20 + no + n ≤ 65535 := by
  unfold checkT at h
  by_cases h1 : headT m no
  · rw [if_pos h1] at h
    by_cases h2 : fitT (zsT m no)
    · rw [if_pos h2] at h
      by_cases h3 : 65535 < 20 + no + n
      · rw [if_pos h3] at h; cases h
      · exact ⟨h1, h2, by omega⟩
    · rw [if_neg h2] at h; cases h
  · rw [if_neg h1] at h; cases h
theorem checkT_code (m : TcpP) (no n : Nat) : checkT m no n = 0 ∨ checkT m no n = 1 ∨ checkT m no n = 6 := by
  unfold checkT
  repeat' split
  all_goals simp

end Go.Proofs.Ytmbmmpbfmakfbaa
